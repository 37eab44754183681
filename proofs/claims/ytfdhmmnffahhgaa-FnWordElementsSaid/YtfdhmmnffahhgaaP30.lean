/- Matrices of grades: products and what is repeated again and again, by the reference and by the program. -/
import Derived.Test.YtfdhmmnffahhgaaP7
set_option linter.unusedVariables false
set_option linter.unusedSimpArgs false
namespace Go.Proofs.Ytfdhmmnffahhgaa
open Go Go.Proofs.Ytfdhmmnffahhgaa.Am
/-- grades in a square -/
def GOk (n : Nat) (A : List Int) : Prop := A.length = n * n ∧ ∀ x ∈ A, 0 ≤ x ∧ x ≤ 3
theorem GOk.at {n i : Nat} {A : List Int} (h : GOk n A) (hi : i < n * n) : 0 ≤ A.getD i 0 ∧ A.getD i 0 ≤ 3 := by
 have hi' : i < A.length := by rw [h.1]; exact hi
 rw [List.getD_eq_getElem?_getD, List.getElem?_eq_getElem hi']
 exact h.2 _ (List.getElem_mem hi')
def mn (x y : Int) : Int := if y < x then y else x
def mx (x y : Int) : Int := if y > x then y else x
theorem mn_rng {x y : Int} (hx : 0 ≤ x ∧ x ≤ 3) (hy : 0 ≤ y ∧ y ≤ 3) : 0 ≤ mn x y ∧ mn x y ≤ 3 := by unfold mn; split <;> omega
theorem mx_rng {x y : Int} (hx : 0 ≤ x ∧ x ≤ 3) (hy : 0 ≤ y ∧ y ≤ 3) : 0 ≤ mx x y ∧ mx x y ≤ 3 := by unfold mx; split <;> omega
/-- a square of what is told of each two numbers -/
def mk (n : Nat) (c : Nat → Nat → Int) : List Int := (List.range (n * n)).map fun m => c (m / n) (m % n)
theorem mk_len (n : Nat) (c : Nat → Nat → Int) : (mk n c).length = n * n := by simp [mk]
theorem mk_get {n i k : Nat} (c : Nat → Nat → Int) (hi : i < n) (hk : k < n) : (mk n c).getD (i * n + k) 0 = c i k := by
 have h := idx_lt hi hk
 have e := col_row (i := i) hk
 unfold mk
 rw [List.getD_eq_getElem?_getD, List.getElem?_map, List.getElem?_range h]
 simp only [Option.map_some, Option.getD_some, e.1, e.2]
theorem mat_ext {n : Nat} {A B : List Int} (hA : A.length = n * n) (hB : B.length = n * n) (h : ∀ i k, i < n → k < n → A.getD (i * n + k) 0 = B.getD (i * n + k) 0) : A = B := by
 apply List.ext_getElem (by rw [hA, hB])
 intro m h1 h2
 rw [hA] at h1
 obtain ⟨r1, r2, r3⟩ := row_col h1
 have := h (m / n) (m % n) r1 r2
 rw [r3, List.getD_eq_getElem?_getD, List.getD_eq_getElem?_getD, List.getElem?_eq_getElem (by omega), List.getElem?_eq_getElem (by omega)] at this
 exact this
theorem mk_is {n : Nat} {C : List Int} {c : Nat → Nat → Int} (hC : C.length = n * n) (h : ∀ i k, i < n → k < n → C.getD (i * n + k) 0 = c i k) : C = mk n c :=
 mat_ext hC (mk_len n c) fun i k hi hk => by rw [h i k hi hk, mk_get c hi hk]
theorem mk_ok {n : Nat} {c : Nat → Nat → Int} (h : ∀ i k, i < n → k < n → 0 ≤ c i k ∧ c i k ≤ 3) : GOk n (mk n c) := by
 refine ⟨mk_len n c, fun x hx => ?_⟩
 unfold mk at hx
 obtain ⟨m, hm, rfl⟩ := List.mem_map.1 hx
 have hm := List.mem_range.1 hm
 obtain ⟨r1, r2, r3⟩ := row_col hm
 exact h _ _ r1 r2
/-! ### products -/
def gcN (n : Nat) (A B : List Int) (i k : Nat) : Nat → Int
 | 0 => 3
 | l + 1 => mn (gcN n A B i k l) (mx (A.getD (i * n + l) 0) (B.getD (l * n + k) 0))
def gmul (n : Nat) (A B : List Int) : List Int := mk n fun i k => gcN n A B i k n
theorem gcN_rng {n : Nat} {A B : List Int} (hA : GOk n A) (hB : GOk n B) {i k : Nat} (hi : i < n) (hk : k < n) : ∀ l, l ≤ n → 0 ≤ gcN n A B i k l ∧ gcN n A B i k l ≤ 3
 | 0, _ => by simp [gcN]
 | l + 1, hl => mn_rng (gcN_rng hA hB hi hk l (by omega)) (mx_rng (hA.at (idx_lt hi (by omega))) (hB.at (idx_lt (by omega) hk)))
theorem gmul_ok {n : Nat} {A B : List Int} (hA : GOk n A) (hB : GOk n B) : GOk n (gmul n A B) := mk_ok fun i k hi hk => gcN_rng hA hB hi hk n (Nat.le_refl n)
theorem l6Mul_in {n : Nat} (h4 : n ≤ 4) {A B : List Int} (hA : GOk n A) (hB : GOk n B) (o : List Int) {m : Nat} (hm : m < n * n) :
  loopF spec_l6Mul_l7 (((n : Int), A, ()), ((n : Int), B, ()), ((0 : Int), [], ()), ((n : Int), o, ()), (m : Int), (3 : Int), ((n * n : Nat) : Int), (m : Int), (n : Int), (0 : Int), ()) =
   some (((n : Int), A, ()), ((n : Int), B, ()), ((0 : Int), [], ()), ((n : Int), o, ()), gcN n A B (m / n) (m % n) n, ((n * n : Nat) : Int), (m : Int), ()) := by
 have hsq := sq_le h4
 obtain ⟨r1, r2, r3⟩ := row_col hm
 obtain ⟨r, g1, g2⟩ := loop_inv (f := spec_l6Mul_l7) n (fun l (c : Int) => (((n : Int), A, ()), ((n : Int), B, ()), ((0 : Int), [], ()), ((n : Int), o, ()), (m : Int), c, ((n * n : Nat) : Int), (m : Int), (n : Int), (l : Int), ()))
  (fun l c => mn c (mx (A.getD (m / n * n + l) 0) (B.getD (l * n + m % n) 0)))
  (fun c => (((n : Int), A, ()), ((n : Int), B, ()), ((0 : Int), [], ()), ((n : Int), o, ()), c, ((n * n : Nat) : Int), (m : Int), ())) (fun l c => c = gcN n A B (m / n) (m % n) l)
  (fun l c hl hc => by subst hc; rfl)
  (fun l c hl hc => by
   have e1 := idx_lt r1 hl
   have e2 := idx_lt hl r2
   simp only [spec_l6Mul_l7, lt_t hl, cond_true, div_is, mod_is, w64n (show m / n ≤ 1000000 by omega), mulw (show m / n * n + l ≤ 1000000 by omega), mulw (show l * n + m % n ≤ 1000000 by omega), Int.toNat_natCast]
   rw [if_neg (by omega), if_pos ⟨by omega, by rw [hA.1]; omega⟩, if_neg (by omega), if_pos ⟨by omega, by rw [hB.1]; omega⟩]
   simp only [List.drop_zero, List.take_length, w64_succ hl (show n ≤ 9223372036854775807 by omega)]
   rfl)
  (fun c hc => by simp only [spec_l6Mul_l7, lt_f, cond_false, List.drop_zero, List.take_length])
  3 rfl
 rw [g2] at g1
 exact g1
theorem l6Mul_is {n : Nat} (h4 : n ≤ 4) {A B : List Int} (hA : GOk n A) (hB : GOk n B) : spec_l6Mul ((n : Int), A) ((n : Int), B) = some ((n : Int), gmul n A B) := by
 have hsq := sq_le h4
 simp only [spec_l6Mul, sqw h4]
 obtain ⟨r, g1, g2⟩ := loop_inv (f := spec_l6Mul_l3) (n * n) (fun m (o : List Int) => (((n : Int), A, ()), ((n : Int), B, ()), ((0 : Int), [], ()), ((n : Int), o, ()), ((n * n : Nat) : Int), (m : Int), ()))
  (fun m o => o ++ [gcN n A B (m / n) (m % n) n]) (fun o => (((0 : Int), [], ()), ((n : Int), o, ()), ())) (fun m o => o = (List.range m).map fun m => gcN n A B (m / n) (m % n) n)
  (fun m o hm ho => by subst ho; rw [List.range_succ, List.map_append]; rfl)
  (fun m o hm ho => by
   have hol : o.length = m := by subst ho; simp
   simp only [spec_l6Mul_l3, lt_t hm, cond_true, List.drop_zero, List.take_length]
   rw [l6Mul_in h4 hA hB o hm]
   simp only [Option.bind_some, List.drop_zero, List.take_length, Nat.zero_add]
   rw [show List.take 1 [gcN n A B (m / n) (m % n) n] = [gcN n A B (m / n) (m % n) n] from rfl, if_pos ⟨trivial, by simp; omega⟩, List.take_of_length_le (by simp), w64_succ hm (by omega)])
  (fun o ho => by simp only [spec_l6Mul_l3, lt_f, cond_false, List.drop_zero, List.take_length])
  [] rfl
 have g1 : loopF spec_l6Mul_l3 (((n : Int), A, ()), ((n : Int), B, ()), ((0 : Int), [], ()), ((n : Int), [], ()), ((n * n : Nat) : Int), (0 : Int), ()) = _ := g1
 rw [g1, g2]
 simp only [Option.bind_some, List.drop_zero, List.take_length]
 rfl
/-! ### what is repeated again and again -/
def ag (g : Int) : Int := if g = 1 then 2 else g
def gsN (n : Nat) (A : List Int) (i k : Nat) : Nat → Int
 | 0 => 3
 | l + 1 => mn (gsN n A i k l) (mx (mx (A.getD (i * n + l) 0) (ag (A.getD (l * n + l) 0))) (A.getD (l * n + k) 0))
def gstab (n : Nat) (A : List Int) : List Int := mk n fun i k => gsN n A i k n
theorem ag_rng {x : Int} (h : 0 ≤ x ∧ x ≤ 3) : 0 ≤ ag x ∧ ag x ≤ 3 := by unfold ag; split <;> omega
theorem gsN_rng {n : Nat} {A : List Int} (hA : GOk n A) {i k : Nat} (hi : i < n) (hk : k < n) : ∀ l, l ≤ n → 0 ≤ gsN n A i k l ∧ gsN n A i k l ≤ 3
 | 0, _ => by simp [gsN]
 | l + 1, hl => mn_rng (gsN_rng hA hi hk l (by omega)) (mx_rng (mx_rng (hA.at (idx_lt hi (by omega))) (ag_rng (hA.at (idx_lt (by omega) (by omega))))) (hA.at (idx_lt (by omega) hk)))
theorem gstab_ok {n : Nat} {A : List Int} (hA : GOk n A) : GOk n (gstab n A) := mk_ok fun i k hi hk => gsN_rng hA hi hk n (Nat.le_refl n)
theorem l6Again_is (g : Int) : spec_l6Again g = some (ag g) := by
 unfold spec_l6Again ag
 by_cases h : g = 1
 ·subst h; rfl
 ·have : (g == 1) = false := by simpa using h
  simp only [this, cond_false, if_neg h]
theorem l6Stable_in {n : Nat} (h4 : n ≤ 4) {A : List Int} (hA : GOk n A) (o : List Int) {m : Nat} (hm : m < n * n) :
  loopF spec_l6Stable_l7 (((n : Int), A, ()), ((0 : Int), [], ()), ((n : Int), o, ()), (m : Int), (3 : Int), ((n * n : Nat) : Int), (m : Int), (n : Int), (0 : Int), ()) =
   some (((n : Int), A, ()), ((0 : Int), [], ()), ((n : Int), o, ()), gsN n A (m / n) (m % n) n, ((n * n : Nat) : Int), (m : Int), ()) := by
 have hsq := sq_le h4
 obtain ⟨r1, r2, r3⟩ := row_col hm
 obtain ⟨r, g1, g2⟩ := loop_inv (f := spec_l6Stable_l7) n (fun l (c : Int) => (((n : Int), A, ()), ((0 : Int), [], ()), ((n : Int), o, ()), (m : Int), c, ((n * n : Nat) : Int), (m : Int), (n : Int), (l : Int), ()))
  (fun l c => mn c (mx (mx (A.getD (m / n * n + l) 0) (ag (A.getD (l * n + l) 0))) (A.getD (l * n + m % n) 0)))
  (fun c => (((n : Int), A, ()), ((0 : Int), [], ()), ((n : Int), o, ()), c, ((n * n : Nat) : Int), (m : Int), ())) (fun l c => c = gsN n A (m / n) (m % n) l)
  (fun l c hl hc => by subst hc; rfl)
  (fun l c hl hc => by
   have e1 := idx_lt r1 hl
   have e2 := idx_lt hl r2
   have e3 := idx_lt hl hl
   simp only [spec_l6Stable_l7, lt_t hl, cond_true, div_is, mod_is, w64n (show m / n ≤ 1000000 by omega), mulw (show m / n * n + l ≤ 1000000 by omega), mulw (show l * n + m % n ≤ 1000000 by omega), mulw (show l * n + l ≤ 1000000 by omega), Int.toNat_natCast, l6Again_is, Option.bind_some]
   rw [if_neg (by omega), if_pos ⟨by omega, by rw [hA.1]; omega⟩, if_pos ⟨by omega, by rw [hA.1]; omega⟩, if_neg (by omega), if_pos ⟨by omega, by rw [hA.1]; omega⟩]
   simp only [List.drop_zero, List.take_length, w64_succ hl (show n ≤ 9223372036854775807 by omega)]
   rfl)
  (fun c hc => by simp only [spec_l6Stable_l7, lt_f, cond_false, List.drop_zero, List.take_length])
  3 rfl
 rw [g2] at g1
 exact g1
theorem l6Stable_is {n : Nat} (h4 : n ≤ 4) {A : List Int} (hA : GOk n A) : spec_l6Stable ((n : Int), A) = some ((n : Int), gstab n A) := by
 have hsq := sq_le h4
 simp only [spec_l6Stable, sqw h4]
 obtain ⟨r, g1, g2⟩ := loop_inv (f := spec_l6Stable_l3) (n * n) (fun m (o : List Int) => (((n : Int), A, ()), ((0 : Int), [], ()), ((n : Int), o, ()), ((n * n : Nat) : Int), (m : Int), ()))
  (fun m o => o ++ [gsN n A (m / n) (m % n) n]) (fun o => (((0 : Int), [], ()), ((n : Int), o, ()), ())) (fun m o => o = (List.range m).map fun m => gsN n A (m / n) (m % n) n)
  (fun m o hm ho => by subst ho; rw [List.range_succ, List.map_append]; rfl)
  (fun m o hm ho => by
   have hol : o.length = m := by subst ho; simp
   simp only [spec_l6Stable_l3, lt_t hm, cond_true, List.drop_zero, List.take_length]
   rw [l6Stable_in h4 hA o hm]
   simp only [Option.bind_some, List.drop_zero, List.take_length, Nat.zero_add]
   rw [show List.take 1 [gsN n A (m / n) (m % n) n] = [gsN n A (m / n) (m % n) n] from rfl, if_pos ⟨trivial, by simp; omega⟩, List.take_of_length_le (by simp), w64_succ hm (by omega)])
  (fun o ho => by simp only [spec_l6Stable_l3, lt_f, cond_false, List.drop_zero, List.take_length])
  [] rfl
 have g1 : loopF spec_l6Stable_l3 (((n : Int), A, ()), ((0 : Int), [], ()), ((n : Int), [], ()), ((n * n : Nat) : Int), (0 : Int), ()) = _ := g1
 rw [g1, g2]
 simp only [Option.bind_some, List.drop_zero, List.take_length]
 rfl
/-! ### the program's way -/
theorem at_is {n : Nat} (h4 : n ≤ 4) {A : List Int} (hA : A.length = n * n) {i k : Nat} (hi : i < n) (hk : k < n) : impl_Matrix_at ((n : Int), A) (i : Int) (k : Int) = some (A.getD (i * n + k) 0) := by
 have hsq := sq_le h4
 have e1 := idx_lt hi hk
 simp only [impl_Matrix_at, mulw (show i * n + k ≤ 1000000 by omega), Int.toNat_natCast]
 rw [if_pos ⟨by omega, by rw [hA]; omega⟩]
theorem filled_is {n : Nat} (h4 : n ≤ 4) {φ : (Int × Int × Unit) → Option Int} {c : Nat → Nat → Int} (hφ : ∀ i k, i < n → k < n → φ ((i : Int), (k : Int), ()) = some (c i k)) : impl_filled (n : Int) φ = some ((n : Int), mk n c) := by
 have hsq := sq_le h4
 have inner : ∀ (i : Nat), i < n → ∀ o : List Int, o.length = i * n → loopF impl_filled_l6 ((n : Int), φ, ((0 : Int), [], ()), ((n : Int), o, ()), (i : Int), (n : Int), (i : Int), (n : Int), (0 : Int), ()) =
   some ((n : Int), φ, ((0 : Int), [], ()), ((n : Int), o ++ (List.range n).map (c i), ()), (n : Int), (i : Int), ()) := by
  intro i hi o hol
  have e0 : (i + 1) * n ≤ n * n := Nat.mul_le_mul_right _ hi
  rw [Nat.add_mul] at e0
  obtain ⟨r, g1, g2⟩ := loop_inv (f := impl_filled_l6) n (fun k (u : List Int) => ((n : Int), φ, ((0 : Int), [], ()), ((n : Int), u, ()), (i : Int), (n : Int), (i : Int), (n : Int), (k : Int), ()))
   (fun k u => u ++ [c i k]) (fun u => ((n : Int), φ, ((0 : Int), [], ()), ((n : Int), u, ()), (n : Int), (i : Int), ())) (fun k u => u = o ++ (List.range k).map (c i))
   (fun k u hk hu => by subst hu; rw [List.range_succ, List.map_append, List.append_assoc]; rfl)
   (fun k u hk hu => by
    have hul : u.length = i * n + k := by subst hu; simp [hol]
    simp only [impl_filled_l6, lt_t hk, cond_true, hφ i k hi hk, Option.bind_some, List.drop_zero, List.take_length, Nat.zero_add]
    rw [show List.take 1 [c i k] = [c i k] from rfl, if_pos ⟨trivial, by simp; omega⟩, List.take_of_length_le (by simp), w64_succ hk (by omega)])
   (fun u hu => by simp only [impl_filled_l6, lt_f, cond_false, List.drop_zero, List.take_length])
   o (by simp)
  rw [g2] at g1
  exact g1
 obtain ⟨r, g1, g2⟩ := loop_inv (f := impl_filled_l3) n (fun i (o : List Int) => ((n : Int), φ, ((0 : Int), [], ()), ((n : Int), o, ()), (n : Int), (i : Int), ()))
  (fun i o => o ++ (List.range n).map (c i)) (fun o => (((0 : Int), [], ()), ((n : Int), o, ()), ())) (fun i o => o.length = i * n ∧ ∀ a b, a < i → b < n → o.getD (a * n + b) 0 = c a b)
  (fun i o hi ho => by
   refine ⟨by rw [List.length_append, ho.1, Nat.add_mul]; simp, fun a b ha hb => ?_⟩
   by_cases e : a = i
   ·subst e
    rw [List.getD_eq_getElem?_getD, List.getElem?_append_right (by rw [ho.1]; omega), ho.1, Nat.add_sub_cancel_left, List.getElem?_map, List.getElem?_range hb]
    rfl
   ·have e1 : (a + 1) * n ≤ i * n := Nat.mul_le_mul_right _ (by omega)
    rw [Nat.add_mul] at e1
    rw [← ho.2 a b (by omega) hb, List.getD_eq_getElem?_getD, List.getElem?_append_left (by rw [ho.1]; omega), List.getD_eq_getElem?_getD])
  (fun i o hi ho => by
   simp only [impl_filled_l3, lt_t hi, cond_true, List.drop_zero, List.take_length]
   rw [inner i hi o ho.1]
   simp only [Option.bind_some, List.drop_zero, List.take_length, w64_succ hi (show n ≤ 9223372036854775807 by omega)])
  (fun o ho => by simp only [impl_filled_l3, lt_f, cond_false, List.drop_zero, List.take_length])
  [] ⟨by simp, fun a b ha => by omega⟩
 have g1 : loopF impl_filled_l3 ((n : Int), φ, ((0 : Int), [], ()), ((n : Int), [], ()), (n : Int), (0 : Int), ()) = _ := g1
 simp only [impl_filled]
 rw [g1]
 simp only [Option.bind_some, List.drop_zero, List.take_length]
 rw [mk_is g2.1 g2.2]
end Go.Proofs.Ytfdhmmnffahhgaa
