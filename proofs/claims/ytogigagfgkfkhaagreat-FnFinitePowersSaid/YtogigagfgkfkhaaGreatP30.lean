import Derived.Test.YtogigagfgkfkhaaGreatP10
set_option linter.unusedVariables false
set_option linter.unusedSimpArgs false
/- Matrices of grades: products and what is repeated again and again, by the reference and by the program. -/
namespace Go.Proofs.YtogigagfgkfkhaaGreat
open Go Go.Proofs.YtogigagfgkfkhaaGreat.Am
/-- grades in a square -/
def GOk (n : Nat) (A : List Int) : Prop := A.length = n * n ∧ ∀ x ∈ A, 0 ≤ x ∧ x ≤ 3
theorem GOk.at {n i : Nat} {A : List Int} (h : GOk n A) (hi : i < n * n) : 0 ≤ A.getD i 0 ∧ A.getD i 0 ≤ 3 := by
 have hi' : i < A.length := by rw [h.1]; exact hi
 rw [List.getD_eq_getElem?_getD, List.getElem?_eq_getElem hi']
 exact h.2 _ (List.getElem_mem hi')
def mn (x y : Int) : Int := if y < x then y else x
def mx (x y : Int) : Int := if y > x then y else x
theorem mn_rng {x y : Int} (hx : 0 ≤ x ∧ x ≤ 3) (hy : 0 ≤ y ∧ y ≤ 3) : 0 ≤ mn x y ∧ mn x y ≤ 3 := by unfold mn; split <;> omega
theorem kc4 {x y : Int} (hx : 0 ≤ x ∧ x ≤ 3) (hy : 0 ≤ y ∧ y ≤ 3) : 0 ≤ mx x y ∧ mx x y ≤ 3 := by unfold mx; split <;> omega
/-- a square of what is told of each two numbers -/
def mk (n : Nat) (c : Nat → Nat → Int) : List Int := (List.range (n * n)).map fun m => c (m / n) (m % n)
theorem mk_len (n : Nat) (c : Nat → Nat → Int) : (mk n c).length = n * n := by simp [mk]
theorem kc5 {n i k : Nat} (c : Nat → Nat → Int) (hi : i < n) (hk : k < n) : (mk n c).getD (i * n + k) 0 = c i k := by
 have h := yt0 hi hk
 have e := col_row (i := i) hk
 unfold mk
 rw [List.getD_eq_getElem?_getD, List.getElem?_map, List.getElem?_range h]
 simp only [Option.map_some, Option.getD_some, e.1, e.2]
theorem mat_ext {n : Nat} {A B : List Int} (hA : A.length = n * n) (hB : B.length = n * n) (h : ∀ i k, i < n → k < n → A.getD (i * n + k) 0 = B.getD (i * n + k) 0) : A = B := by
 apply List.ext_getElem (by rw [hA, hB])
 intro m h1 h2
 rw [hA] at h1
 obtain ⟨r1, r2, r3⟩ := zt3 h1
 have := h (m / n) (m % n) r1 r2
 rw [r3, List.getD_eq_getElem?_getD, List.getD_eq_getElem?_getD, List.getElem?_eq_getElem (by omega), List.getElem?_eq_getElem (by omega)] at this
 exact this
theorem mk_is {n : Nat} {C : List Int} {c : Nat → Nat → Int} (hC : C.length = n * n) (h : ∀ i k, i < n → k < n → C.getD (i * n + k) 0 = c i k) : C = mk n c :=
 mat_ext hC (mk_len n c) fun i k hi hk => by rw [h i k hi hk, kc5 c hi hk]
theorem mk_ok {n : Nat} {c : Nat → Nat → Int} (h : ∀ i k, i < n → k < n → 0 ≤ c i k ∧ c i k ≤ 3) : GOk n (mk n c) := by
 refine ⟨mk_len n c, fun x hx => ?_⟩
 unfold mk at hx
 obtain ⟨m, hm, rfl⟩ := List.mem_map.1 hx
 have hm := List.mem_range.1 hm
 obtain ⟨r1, r2, r3⟩ := zt3 hm
 exact h _ _ r1 r2
/-! ### products -/
def gcN (n : Nat) (A B : List Int) (i k : Nat) : Nat → Int
 | 0 => 3
 | l + 1 => mn (gcN n A B i k l) (mx (A.getD (i * n + l) 0) (B.getD (l * n + k) 0))
def gmul (n : Nat) (A B : List Int) : List Int := mk n fun i k => gcN n A B i k n
theorem kc6 {n : Nat} {A B : List Int} (hA : GOk n A) (hB : GOk n B) {i k : Nat} (hi : i < n) (hk : k < n) : ∀ l, l ≤ n → 0 ≤ gcN n A B i k l ∧ gcN n A B i k l ≤ 3
 | 0, _ => by simp [gcN]
 | l + 1, hl => mn_rng (kc6 hA hB hi hk l (by omega)) (kc4 (hA.at (yt0 hi (by omega))) (hB.at (yt0 (by omega) hk)))
theorem yv7 {n : Nat} {A B : List Int} (hA : GOk n A) (hB : GOk n B) : GOk n (gmul n A B) := mk_ok fun i k hi hk => kc6 hA hB hi hk n (Nat.le_refl n)
theorem kl6 {n : Nat} (h4 : n ≤ 4) {A B : List Int} (hA : GOk n A) (hB : GOk n B) (o : List Int) {m : Nat} (hm : m < n * n) :
  ya2 yq1 (((n : Int), A, ()), ((n : Int), B, ()), ((0 : Int), [], ()), ((n : Int), o, ()), (m : Int), (3 : Int), ((n * n : Nat) : Int), (m : Int), (n : Int), (0 : Int), ()) =
   some (((n : Int), A, ()), ((n : Int), B, ()), ((0 : Int), [], ()), ((n : Int), o, ()), gcN n A B (m / n) (m % n) n, ((n * n : Nat) : Int), (m : Int), ()) := by
 have hsq := y2a h4
 obtain ⟨r1, r2, r3⟩ := zt3 hm
 obtain ⟨r, g1, g2⟩ := yg3 (f := yq1) n (fun l (c : Int) => (((n : Int), A, ()), ((n : Int), B, ()), ((0 : Int), [], ()), ((n : Int), o, ()), (m : Int), c, ((n * n : Nat) : Int), (m : Int), (n : Int), (l : Int), ()))
  (fun l c => mn c (mx (A.getD (m / n * n + l) 0) (B.getD (l * n + m % n) 0)))
  (fun c => (((n : Int), A, ()), ((n : Int), B, ()), ((0 : Int), [], ()), ((n : Int), o, ()), c, ((n * n : Nat) : Int), (m : Int), ())) (fun l c => c = gcN n A B (m / n) (m % n) l)
  (fun l c hl hc => by subst hc; rfl)
  (fun l c hl hc => by
   have e1 := yt0 r1 hl
   have e2 := yt0 hl r2
   simp only [yq1, lt_t hl, cond_true, div_is, mod_is, w64n (show m / n ≤ 1000000 by omega), mulw (show m / n * n + l ≤ 1000000 by omega), mulw (show l * n + m % n ≤ 1000000 by omega), Int.toNat_natCast]
   rw [if_neg (by omega), if_pos ⟨by omega, by rw [hA.1]; omega⟩, if_neg (by omega), if_pos ⟨by omega, by rw [hB.1]; omega⟩]
   simp only [List.drop_zero, List.take_length, ya4 hl (show n ≤ 9223372036854775807 by omega)]
   rfl)
  (fun c hc => by simp only [yq1, lt_f, cond_false, List.drop_zero, List.take_length])
  3 rfl
 rw [g2] at g1
 exact g1
theorem zt4 {n : Nat} (h4 : n ≤ 4) {A B : List Int} (hA : GOk n A) (hB : GOk n B) : y1f ((n : Int), A) ((n : Int), B) = some ((n : Int), gmul n A B) := by
 have hsq := y2a h4
 simp only [y1f, sqw h4]
 obtain ⟨r, g1, g2⟩ := yg3 (f := yq2) (n * n) (fun m (o : List Int) => (((n : Int), A, ()), ((n : Int), B, ()), ((0 : Int), [], ()), ((n : Int), o, ()), ((n * n : Nat) : Int), (m : Int), ()))
  (fun m o => o ++ [gcN n A B (m / n) (m % n) n]) (fun o => (((0 : Int), [], ()), ((n : Int), o, ()), ())) (fun m o => o = (List.range m).map fun m => gcN n A B (m / n) (m % n) n)
  (fun m o hm ho => by subst ho; rw [List.range_succ, List.map_append]; rfl)
  (fun m o hm ho => by
   have hol : o.length = m := by subst ho; simp
   simp only [yq2, lt_t hm, cond_true, List.drop_zero, List.take_length]
   rw [kl6 h4 hA hB o hm]
   simp only [Option.bind_some, List.drop_zero, List.take_length, Nat.zero_add]
   rw [show List.take 1 [gcN n A B (m / n) (m % n) n] = [gcN n A B (m / n) (m % n) n] from rfl, if_pos ⟨trivial, by simp; omega⟩, List.take_of_length_le (by simp), ya4 hm (by omega)])
  (fun o ho => by simp only [yq2, lt_f, cond_false, List.drop_zero, List.take_length])
  [] rfl
 have g1 : ya2 yq2 (((n : Int), A, ()), ((n : Int), B, ()), ((0 : Int), [], ()), ((n : Int), [], ()), ((n * n : Nat) : Int), (0 : Int), ()) = _ := g1
 rw [g1, g2]
 simp only [Option.bind_some, List.drop_zero, List.take_length]
 rfl
/-! ### what is repeated again and again -/
def ag (g : Int) : Int := if g = 1 then 2 else g
def gsN (n : Nat) (A : List Int) (i k : Nat) : Nat → Int
 | 0 => 3
 | l + 1 => mn (gsN n A i k l) (mx (mx (A.getD (i * n + l) 0) (ag (A.getD (l * n + l) 0))) (A.getD (l * n + k) 0))
def y0b (n : Nat) (A : List Int) : List Int := mk n fun i k => gsN n A i k n
theorem ag_rng {x : Int} (h : 0 ≤ x ∧ x ≤ 3) : 0 ≤ ag x ∧ ag x ≤ 3 := by unfold ag; split <;> omega
theorem kc7 {n : Nat} {A : List Int} (hA : GOk n A) {i k : Nat} (hi : i < n) (hk : k < n) : ∀ l, l ≤ n → 0 ≤ gsN n A i k l ∧ gsN n A i k l ≤ 3
 | 0, _ => by simp [gsN]
 | l + 1, hl => mn_rng (kc7 hA hi hk l (by omega)) (kc4 (kc4 (hA.at (yt0 hi (by omega))) (ag_rng (hA.at (yt0 (by omega) (by omega))))) (hA.at (yt0 (by omega) hk)))
theorem y36 {n : Nat} {A : List Int} (hA : GOk n A) : GOk n (y0b n A) := mk_ok fun i k hi hk => kc7 hA hi hk n (Nat.le_refl n)
theorem z5s (g : Int) : y2m g = some (ag g) := by
 unfold y2m ag
 by_cases h : g = 1
 ·subst h; rfl
 ·have : (g == 1) = false := by simpa using h
  simp only [this, cond_false, if_neg h]
theorem z2i {n : Nat} (h4 : n ≤ 4) {A : List Int} (hA : GOk n A) (o : List Int) {m : Nat} (hm : m < n * n) :
  ya2 yl1 (((n : Int), A, ()), ((0 : Int), [], ()), ((n : Int), o, ()), (m : Int), (3 : Int), ((n * n : Nat) : Int), (m : Int), (n : Int), (0 : Int), ()) =
   some (((n : Int), A, ()), ((0 : Int), [], ()), ((n : Int), o, ()), gsN n A (m / n) (m % n) n, ((n * n : Nat) : Int), (m : Int), ()) := by
 have hsq := y2a h4
 obtain ⟨r1, r2, r3⟩ := zt3 hm
 obtain ⟨r, g1, g2⟩ := yg3 (f := yl1) n (fun l (c : Int) => (((n : Int), A, ()), ((0 : Int), [], ()), ((n : Int), o, ()), (m : Int), c, ((n * n : Nat) : Int), (m : Int), (n : Int), (l : Int), ()))
  (fun l c => mn c (mx (mx (A.getD (m / n * n + l) 0) (ag (A.getD (l * n + l) 0))) (A.getD (l * n + m % n) 0)))
  (fun c => (((n : Int), A, ()), ((0 : Int), [], ()), ((n : Int), o, ()), c, ((n * n : Nat) : Int), (m : Int), ())) (fun l c => c = gsN n A (m / n) (m % n) l)
  (fun l c hl hc => by subst hc; rfl)
  (fun l c hl hc => by
   have e1 := yt0 r1 hl
   have e2 := yt0 hl r2
   have e3 := yt0 hl hl
   simp only [yl1, lt_t hl, cond_true, div_is, mod_is, w64n (show m / n ≤ 1000000 by omega), mulw (show m / n * n + l ≤ 1000000 by omega), mulw (show l * n + m % n ≤ 1000000 by omega), mulw (show l * n + l ≤ 1000000 by omega), Int.toNat_natCast, z5s, Option.bind_some]
   rw [if_neg (by omega), if_pos ⟨by omega, by rw [hA.1]; omega⟩, if_pos ⟨by omega, by rw [hA.1]; omega⟩, if_neg (by omega), if_pos ⟨by omega, by rw [hA.1]; omega⟩]
   simp only [List.drop_zero, List.take_length, ya4 hl (show n ≤ 9223372036854775807 by omega)]
   rfl)
  (fun c hc => by simp only [yl1, lt_f, cond_false, List.drop_zero, List.take_length])
  3 rfl
 rw [g2] at g1
 exact g1
theorem z2j {n : Nat} (h4 : n ≤ 4) {A : List Int} (hA : GOk n A) : y09 ((n : Int), A) = some ((n : Int), y0b n A) := by
 have hsq := y2a h4
 simp only [y09, sqw h4]
 obtain ⟨r, g1, g2⟩ := yg3 (f := yl2) (n * n) (fun m (o : List Int) => (((n : Int), A, ()), ((0 : Int), [], ()), ((n : Int), o, ()), ((n * n : Nat) : Int), (m : Int), ()))
  (fun m o => o ++ [gsN n A (m / n) (m % n) n]) (fun o => (((0 : Int), [], ()), ((n : Int), o, ()), ())) (fun m o => o = (List.range m).map fun m => gsN n A (m / n) (m % n) n)
  (fun m o hm ho => by subst ho; rw [List.range_succ, List.map_append]; rfl)
  (fun m o hm ho => by
   have hol : o.length = m := by subst ho; simp
   simp only [yl2, lt_t hm, cond_true, List.drop_zero, List.take_length]
   rw [z2i h4 hA o hm]
   simp only [Option.bind_some, List.drop_zero, List.take_length, Nat.zero_add]
   rw [show List.take 1 [gsN n A (m / n) (m % n) n] = [gsN n A (m / n) (m % n) n] from rfl, if_pos ⟨trivial, by simp; omega⟩, List.take_of_length_le (by simp), ya4 hm (by omega)])
  (fun o ho => by simp only [yl2, lt_f, cond_false, List.drop_zero, List.take_length])
  [] rfl
 have g1 : ya2 yl2 (((n : Int), A, ()), ((0 : Int), [], ()), ((n : Int), [], ()), ((n * n : Nat) : Int), (0 : Int), ()) = _ := g1
 rw [g1, g2]
 simp only [Option.bind_some, List.drop_zero, List.take_length]
 rfl
/-! ### the program's way -/
theorem at_is {n : Nat} (h4 : n ≤ 4) {A : List Int} (hA : A.length = n * n) {i k : Nat} (hi : i < n) (hk : k < n) : yf0 ((n : Int), A) (i : Int) (k : Int) = some (A.getD (i * n + k) 0) := by
 have hsq := y2a h4
 have e1 := yt0 hi hk
 simp only [yf0, mulw (show i * n + k ≤ 1000000 by omega), Int.toNat_natCast]
 rw [if_pos ⟨by omega, by rw [hA]; omega⟩]
theorem y7z {n : Nat} (h4 : n ≤ 4) {φ : (Int × Int × Unit) → Option Int} {c : Nat → Nat → Int} (hφ : ∀ i k, i < n → k < n → φ ((i : Int), (k : Int), ()) = some (c i k)) : yq0 (n : Int) φ = some ((n : Int), mk n c) := by
 have hsq := y2a h4
 have inner : ∀ (i : Nat), i < n → ∀ o : List Int, o.length = i * n → ya2 yo7 ((n : Int), φ, ((0 : Int), [], ()), ((n : Int), o, ()), (i : Int), (n : Int), (i : Int), (n : Int), (0 : Int), ()) =
   some ((n : Int), φ, ((0 : Int), [], ()), ((n : Int), o ++ (List.range n).map (c i), ()), (n : Int), (i : Int), ()) := by
  intro i hi o hol
  have e0 : (i + 1) * n ≤ n * n := Nat.mul_le_mul_right _ hi
  rw [Nat.add_mul] at e0
  obtain ⟨r, g1, g2⟩ := yg3 (f := yo7) n (fun k (u : List Int) => ((n : Int), φ, ((0 : Int), [], ()), ((n : Int), u, ()), (i : Int), (n : Int), (i : Int), (n : Int), (k : Int), ()))
   (fun k u => u ++ [c i k]) (fun u => ((n : Int), φ, ((0 : Int), [], ()), ((n : Int), u, ()), (n : Int), (i : Int), ())) (fun k u => u = o ++ (List.range k).map (c i))
   (fun k u hk hu => by subst hu; rw [List.range_succ, List.map_append, List.append_assoc]; rfl)
   (fun k u hk hu => by
    have hul : u.length = i * n + k := by subst hu; simp [hol]
    simp only [yo7, lt_t hk, cond_true, hφ i k hi hk, Option.bind_some, List.drop_zero, List.take_length, Nat.zero_add]
    rw [show List.take 1 [c i k] = [c i k] from rfl, if_pos ⟨trivial, by simp; omega⟩, List.take_of_length_le (by simp), ya4 hk (by omega)])
   (fun u hu => by simp only [yo7, lt_f, cond_false, List.drop_zero, List.take_length])
   o (by simp)
  rw [g2] at g1
  exact g1
 obtain ⟨r, g1, g2⟩ := yg3 (f := yo8) n (fun i (o : List Int) => ((n : Int), φ, ((0 : Int), [], ()), ((n : Int), o, ()), (n : Int), (i : Int), ()))
  (fun i o => o ++ (List.range n).map (c i)) (fun o => (((0 : Int), [], ()), ((n : Int), o, ()), ())) (fun i o => o.length = i * n ∧ ∀ a b, a < i → b < n → o.getD (a * n + b) 0 = c a b)
  (fun i o hi ho => by
   refine ⟨by rw [List.length_append, ho.1, Nat.add_mul]; simp, fun a b ha hb => ?_⟩
   by_cases e : a = i
   ·subst e
    rw [List.getD_eq_getElem?_getD, List.getElem?_append_right (by rw [ho.1]; omega), ho.1, Nat.add_sub_cancel_left, List.getElem?_map, List.getElem?_range hb]
    rfl
   ·have e1 : (a + 1) * n ≤ i * n := Nat.mul_le_mul_right _ (by omega)
    rw [Nat.add_mul] at e1
    rw [← ho.2 a b (by omega) hb, List.getD_eq_getElem?_getD, List.getElem?_append_left (by rw [ho.1]; omega), List.getD_eq_getElem?_getD])
  (fun i o hi ho => by
   simp only [yo8, lt_t hi, cond_true, List.drop_zero, List.take_length]
   rw [inner i hi o ho.1]
   simp only [Option.bind_some, List.drop_zero, List.take_length, ya4 hi (show n ≤ 9223372036854775807 by omega)])
  (fun o ho => by simp only [yo8, lt_f, cond_false, List.drop_zero, List.take_length])
  [] ⟨by simp, fun a b ha => by omega⟩
 have g1 : ya2 yo8 ((n : Int), φ, ((0 : Int), [], ()), ((n : Int), [], ()), (n : Int), (0 : Int), ()) = _ := g1
 simp only [yq0]
 rw [g1]
 simp only [Option.bind_some, List.drop_zero, List.take_length]
 rw [mk_is g2.1 g2.2]
end Go.Proofs.YtogigagfgkfkhaaGreat

/- Lists that are searched and compared; matrices of grades, the program's way. -/
namespace Go.Proofs.YtogigagfgkfkhaaGreat
open Go Go.Proofs.YtogigagfgkfkhaaGreat.Am
theorem yd4 {α : Type} {l : List α} {i : Nat} (d : α) (hi : i < l.length) : l.getD i d = l[i] := by
 rw [List.getD_eq_getElem?_getD, List.getElem?_eq_getElem hi]; rfl
theorem y88 {α : Type} (xs : List α) (d : α) (p : α → Bool) : ((List.range xs.length).find? fun i => p (xs.getD i d)).isSome = xs.any p := by
 rw [Bool.eq_iff_iff, List.find?_isSome, List.any_eq_true]
 constructor
 ·rintro ⟨i, hi, hp⟩
  have hi := List.mem_range.1 hi
  exact ⟨xs[i], List.getElem_mem hi, by rw [← yd4 d hi]; exact hp⟩
 ·rintro ⟨x, hx, hp⟩
  obtain ⟨i, hi, rfl⟩ := List.getElem_of_mem hx
  exact ⟨i, List.mem_range.2 hi, by rw [yd4 d hi]; exact hp⟩
theorem eq_idx {a b : List Int} (h : a.length = b.length) : ((List.range a.length).find? fun i => a.getD i 0 != b.getD i 0).isSome = !decide (a = b) := by
 rw [Bool.eq_iff_iff, List.find?_isSome]
 simp only [Bool.not_eq_true', decide_eq_false_iff_not]
 constructor
 ·rintro ⟨i, hi, hp⟩ e
  subst e
  simp at hp
 ·intro hne
  apply Classical.byContradiction
  intro hn
  apply hne
  apply List.ext_getElem h
  intro i h1 h2
  apply Classical.byContradiction
  intro hh
  refine hn ⟨i, List.mem_range.2 h1, ?_⟩
  rw [yd4 0 h1, yd4 0 h2]
  simpa using hh
theorem zi8 {xs : List Int} (hl : xs.length ≤ 1000000) {φ : (Int × Unit) → Option Bool} {p : Int → Bool} (hφ : ∀ x ∈ xs, φ (x, ()) = some (p x)) : ym7 xs φ = some (xs.any p) := by
 have g := yo5 (f := yh1) (fun i => (xs, φ, (xs.length : Int), (i : Int), ())) xs.length (fun i => p (xs.getD i 0)) (fun i => Sum.inl ((i : Int), ())) (Sum.inr ())
  (fun i hi => by
   have hm : xs.getD i 0 ∈ xs := by rw [yd4 0 hi]; exact List.getElem_mem hi
   simp only [yh1, lt_t hi, cond_true, Int.toNat_natCast]
   rw [if_pos (in_t hi), hφ _ hm]
   simp only [Option.bind_some, ya4 hi (show xs.length ≤ 9223372036854775807 by omega)]
   cases p (xs.getD i 0) <;> rfl)
  (by simp only [yh1, lt_f, cond_false])
 have g : ya2 yh1 (xs, φ, (xs.length : Int), (0 : Int), ()) = _ := g
 simp only [ym7, y0u]
 rw [g, ← y88 xs 0 p]
 cases (List.range xs.length).find? fun i => p (xs.getD i 0) with
 | none => rfl
 | some i => simp only [Option.bind_some, Option.isSome_some]; rw [decide_eq_true (by omega)]
theorem zi9 {a b : List Int} (h : a.length = b.length) (hl : a.length ≤ 1000000) : ys9 a b = some (decide (a = b)) := by
 have g := yo5 (f := yo9) (fun i => (a, b, (a.length : Int), (i : Int), ())) a.length (fun i => a.getD i 0 != b.getD i 0) (fun i => Sum.inl (false, ())) (Sum.inr (a, b, ()))
  (fun i hi => by
   simp only [yo9, lt_t hi, cond_true, Int.toNat_natCast]
   rw [if_pos (in_t hi), if_pos (in_t (show i < b.length by omega))]
   simp only [ya4 hi (show a.length ≤ 9223372036854775807 by omega)]
   cases a.getD i 0 != b.getD i 0 <;> rfl)
  (by simp only [yo9, lt_f, cond_false])
 have g : ya2 yo9 (a, b, (a.length : Int), (0 : Int), ()) = _ := g
 have e := eq_idx h
 simp only [ys9, ← h]
 rw [if_neg (by omega), g]
 cases hf : (List.range a.length).find? fun i => a.getD i 0 != b.getD i 0 with
 | none =>
  rw [hf] at e
  simp only [Option.bind_some, ← h, BEq.rfl]
  rw [show decide (a = b) = true by simpa using e.symm]
 | some i =>
  rw [hf] at e
  simp only [Option.bind_some]
  rw [show decide (a = b) = false by simpa using e.symm]
theorem kl7 {a b : List Int} (h : a.length = b.length) (hl : a.length ≤ 1000000) : y2k a b = some (decide (a = b)) := by
 have g := yo5 (f := ym8) (fun i => (a, b, (a.length : Int), (i : Int), ())) a.length (fun i => a.getD i 0 != b.getD i 0) (fun i => Sum.inl (false, ())) (Sum.inr ())
  (fun i hi => by
   simp only [ym8, lt_t hi, cond_true, Int.toNat_natCast]
   rw [if_pos (in_t hi), if_pos (in_t (show i < b.length by omega))]
   simp only [ya4 hi (show a.length ≤ 9223372036854775807 by omega)]
   cases a.getD i 0 != b.getD i 0 <;> rfl)
  (by simp only [ym8, lt_f, cond_false])
 have g : ya2 ym8 (a, b, (a.length : Int), (0 : Int), ()) = _ := g
 have e := eq_idx h
 simp only [y2k, ← h, bne_self_eq_false, cond_false]
 rw [g]
 cases hf : (List.range a.length).find? fun i => a.getD i 0 != b.getD i 0 with
 | none =>
  rw [hf] at e
  simp only [Option.bind_some]
  rw [show decide (a = b) = true by simpa using e.symm]
 | some i =>
  rw [hf] at e
  simp only [Option.bind_some]
  rw [show decide (a = b) = false by simpa using e.symm]
theorem y70 {n : Nat} (h4 : n ≤ 4) {A B : List Int} (hA : A.length = n * n) (hB : B.length = n * n) : ys6 ((n : Int), A) ((n : Int), B) = some (decide (A = B)) := by
 have hsq := y2a h4
 simp only [ys6, BEq.rfl, cond_true]
 rw [kl7 (by rw [hA, hB]) (by omega)]
 rfl
theorem y6b {n : Nat} (h1 : 1 ≤ n) (h4 : n ≤ 4) {A : List Int} (hA : A.length = n * n) (hx : ∀ x ∈ A, 0 ≤ x ∧ x ≤ 1000000) : yq6 ((n : Int), A) = some true := by
 have hsq := y2a h4
 simp only [yq6, decide_eq_false (show ¬ (n : Int) < 1 by omega), decide_eq_false (show ¬ (n : Int) > 4 by omega), cond_false, hA, sqw h4, bne_self_eq_false]
 rw [zi8 (p := fun _ => false) (by omega) (fun x h => by
  have := hx x h
  simp only [yx8, y2x]
  rw [decide_eq_true (show x ≥ 0 by omega), decide_eq_true (show x ≤ 1000000 by omega)]
  rfl)]
 simp
theorem y2z {n : Nat} (h1 : 1 ≤ n) (h4 : n ≤ 4) {A : List Int} (hA : GOk n A) : yn6 ((n : Int), A) = some true := by
 have hsq := y2a h4
 simp only [yn6]
 rw [y6b h1 h4 hA.1 (fun x hx => by have := hA.2 x hx; omega)]
 simp only [Option.bind_some, cond_true]
 rw [zi8 (p := fun _ => false) (by rw [hA.1]; omega) (fun x h => by
  have := hA.2 x h
  simp only [yx9]
  rw [decide_eq_false (show ¬ x > 3 by omega)])]
 simp
theorem y46 {n : Nat} (h1 : 1 ≤ n) (h4 : n ≤ 4) {A B : List Int} (hA : GOk n A) (hB : GOk n B) : yj4 ((n : Int), A) ((n : Int), B) = some (((n : Int), gmul n A B), true) := by
 simp only [yj4, y2z h1 h4 hA, y2z h1 h4 hB, Option.bind_some, Bool.not_true, cond_false, bne_self_eq_false]
 rw [y7z h4 (c := fun i k => gcN n A B i k n) (fun i k hi hk => by
  simp only [y0v]
  obtain ⟨r, g1, g2⟩ := yg3 (f := yh2) n (fun l (c : Int) => ((i : Int), (k : Int), ((n : Int), A), ((n : Int), B), c, (n : Int), (l : Int), ()))
   (fun l c => mn c (mx (A.getD (i * n + l) 0) (B.getD (l * n + k) 0))) (fun c => (c, ())) (fun l c => c = gcN n A B i k l)
   (fun l c hl hc => by subst hc; rfl)
   (fun l c hl hc => by
    simp only [yh2, lt_t hl, cond_true, at_is h4 hA.1 hi hl, at_is h4 hB.1 hl hk, Option.bind_some, ya4 hl (show n ≤ 9223372036854775807 by omega)]
    rfl)
   (fun c hc => by simp only [yh2, lt_f, cond_false])
   3 rfl
  have g1 : ya2 yh2 ((i : Int), (k : Int), ((n : Int), A), ((n : Int), B), (3 : Int), (n : Int), (0 : Int), ()) = _ := g1
  rw [g1, g2]
  rfl)]
 simp only [Option.bind_some, List.drop_zero, List.take_length]
 rfl
theorem zj0 {n : Nat} (h1 : 1 ≤ n) (h4 : n ≤ 4) {A : List Int} (hA : GOk n A) : yt6 ((n : Int), A) = some (decide (gmul n A A = A)) := by
 simp only [yt6, y46 h1 h4 hA hA, Option.bind_some, cond_true, List.drop_zero, List.take_length]
 rw [y70 h4 (yv7 hA hA).1 hA.1]
 rfl
theorem y47 {n : Nat} (h4 : n ≤ 4) {A : List Int} (hA : GOk n A) : yt7 ((n : Int), A) = some (decide (gmul n A A = A)) := by
 have hsq := y2a h4
 simp only [yt7, zt4 h4 hA hA, Option.bind_some, List.drop_zero, List.take_length]
 rw [zi9 (by rw [(yv7 hA hA).1, hA.1]) (by rw [(yv7 hA hA).1]; omega)]
 rfl
theorem y92 {n : Nat} (h1 : 1 ≤ n) (h4 : n ≤ 4) {A : List Int} (hA : GOk n A) : yu9 ((n : Int), A) = some (if gmul n A A = A then (((n : Int), y0b n A), true) else (((0 : Int), []), false)) := by
 simp only [yu9, zj0 h1 h4 hA, Option.bind_some]
 by_cases h : gmul n A A = A
 ·rw [decide_eq_true h, if_pos h]
  simp only [Bool.not_true, cond_false]
  rw [y7z h4 (c := fun i k => gsN n A i k n) (fun i k hi hk => by
   simp only [y0w]
   obtain ⟨r, g1, g2⟩ := yg3 (f := yh3) n (fun l (c : Int) => ((i : Int), (k : Int), ((n : Int), A), c, (n : Int), (l : Int), ()))
    (fun l c => mn c (mx (mx (A.getD (i * n + l) 0) (ag (A.getD (l * n + l) 0))) (A.getD (l * n + k) 0))) (fun c => (c, ())) (fun l c => c = gsN n A i k l)
    (fun l c hl hc => by subst hc; rfl)
    (fun l c hl hc => by
     simp only [yh3, lt_t hl, cond_true, at_is h4 hA.1 hi hl, at_is h4 hA.1 hl hl, at_is h4 hA.1 hl hk, Option.bind_some, ya4 hl (show n ≤ 9223372036854775807 by omega)]
     by_cases e : A.getD (l * n + l) 0 = 1
     ·rw [e]
      rfl
     ·have e2 : (A.getD (l * n + l) 0 == 1) = false := by simpa using e
      rw [e2, show ag (A.getD (l * n + l) 0) = A.getD (l * n + l) 0 from if_neg e]
      rfl)
    (fun c hc => by simp only [yh3, lt_f, cond_false])
    3 rfl
   have g1 : ya2 yh3 ((i : Int), (k : Int), ((n : Int), A), (3 : Int), (n : Int), (0 : Int), ()) = _ := g1
   rw [g1, g2]
   rfl)]
  simp only [Option.bind_some, List.drop_zero, List.take_length]
  rfl
 ·rw [decide_eq_false h, if_neg h]
  rfl
end Go.Proofs.YtogigagfgkfkhaaGreat

/- The grades of letters, by the reference and by the program. -/
namespace Go.Proofs.YtogigagfgkfkhaaGreat
open Go Go.Proofs.YtogigagfgkfkhaaGreat.Am
/-- a step's cost is put into its place -/
def y89 (c : ByteArray) (n : Nat) (l : List Stp) (i : Nat) (M : List Int) : List Int :=
 bif (l.getD i stp0).2.1.toList == c.toList then M.set ((l.getD i stp0).1.toNat * n + (l.getD i stp0).2.2.1.toNat) (l.getD i stp0).2.2.2 else M
def yk8 (c : ByteArray) (n : Nat) (l : List Stp) : Nat → List Int
 | 0 => List.replicate (n * n) Nv
 | i + 1 => y89 c n l i (yk8 c n l i)
theorem y2p (c : ByteArray) (n : Nat) (l : List Stp) : ∀ i, (yk8 c n l i).length = n * n
 | 0 => by simp [yk8]
 | i + 1 => by
  simp only [yk8, y89]
  cases (l.getD i stp0).2.1.toList == c.toList
  ·exact y2p c n l i
  ·simp only [cond_true, List.length_set]; exact y2p c n l i
theorem z4b {n : Nat} (h4 : n ≤ 4) {s : Stp} (hs : StepIs (n : Int) s) : s.1.toNat * n + s.2.2.1.toNat < n * n ∧ IntKind.wrap .i64 (IntKind.wrap .i64 (s.1 * (n : Int)) + s.2.2.1) = ((s.1.toNat * n + s.2.2.1.toNat : Nat) : Int) := by
 have hsq := y2a h4
 have e0 := hs.f0
 have e1 := hs.f1
 have e2 := hs.t0
 have e3 := hs.t1
 have hlt : s.1.toNat * n + s.2.2.1.toNat < n * n := yt0 (by omega) (by omega)
 have m1 : s.1 * (n : Int) = ((s.1.toNat * n : Nat) : Int) := by
  rw [Int.natCast_mul]
  congr 1
  omega
 have w1 : IntKind.wrap .i64 (s.1 * (n : Int)) = ((s.1.toNat * n : Nat) : Int) := by rw [m1]; exact w64 (by omega) (by omega)
 refine ⟨hlt, ?_⟩
 rw [w1, w64 (by omega) (by omega)]
 omega
section
variable {S F : List Int} {l : List Stp} {n : Nat} (h4 : n ≤ 4) (hl : l.length ≤ 24) (hst : ∀ s ∈ l, StepIs (n : Int) s) (c : ByteArray)
include h4 hl hst
theorem zt5 : yo2 ((n : Int), S, F, l) c = some ((n : Int), yk8 c n l l.length) := by
 have hsq := y2a h4
 simp only [yo2, sqw h4]
 obtain ⟨r, g1, g2⟩ := yg3 (f := yf8) (n * n) (fun i (o : List Int) => (c, ((n : Int), S, F, l, ()), ((0 : Int), [], ()), ((n : Int), o, ()), ((n * n : Nat) : Int), (i : Int), ())) (fun i o => o ++ [Nv]) (fun o => (c, ((n : Int), S, F, l, ()), ((0 : Int), [], ()), ((n : Int), o, ()), ())) (fun i o => o = List.replicate i Nv)
  (fun i o hi ho => by subst ho; rw [List.replicate_succ'])
  (fun i o hi ho => by
   have hol : o.length = i := by subst ho; simp
   simp only [yf8, lt_t hi, cond_true, Nat.zero_add, List.drop_zero, ya4 hi (show n * n ≤ 9223372036854775807 by omega)]
   rw [if_pos ⟨trivial, by simp; omega⟩]
   simp [List.take_of_length_le])
  (fun o ho => by simp only [yf8, lt_f, cond_false, List.drop_zero, List.take_length])
  [] rfl
 have g1 : ya2 yf8 (c, ((n : Int), S, F, l, ()), ((0 : Int), [], ()), ((n : Int), [], ()), ((n * n : Nat) : Int), (0 : Int), ()) = _ := g1
 rw [g1]
 subst g2
 simp only [Option.bind_some, List.drop_zero, List.take_length]
 obtain ⟨r, g1, g2⟩ := yg3 (f := yf9) l.length (fun i (M : List Int) => (c, ((n : Int), S, F, l, ()), ((0 : Int), [], ()), ((n : Int), M, ()), l, (l.length : Int), (i : Int), ())) (fun i M => y89 c n l i M)
  (fun M => (((0 : Int), [], ()), ((n : Int), M, ()), ())) (fun i M => M = yk8 c n l i)
  (fun i M hi hM => by subst hM; rfl)
  (fun i M hi hM => by
   have hMl : M.length = n * n := by subst hM; exact y2p c n l i
   have hsi := hst _ (show l.getD i stp0 ∈ l by rw [yd4 stp0 hi]; exact List.getElem_mem hi)
   obtain ⟨hlt, hw⟩ := z4b h4 hsi
   simp only [yf9, lt_t hi, cond_true, if_pos (in_t hi), Int.toNat_natCast, List.drop_zero, Nat.zero_add, ya4 hi (show l.length ≤ 9223372036854775807 by omega), hw, y89]
   cases hc : (l.getD i stp0).2.1.toList == c.toList with
   | false => simp only [cond_false, List.take_length]
   | true =>
    simp only [cond_true]
    rw [if_pos ⟨by omega, by rw [hMl]; omega⟩, List.take_length, List.take_of_length_le (by rw [List.length_set]; exact Nat.le_refl _)])
  (fun M hM => by simp only [yf9, lt_f, cond_false, List.drop_zero, List.take_length])
  (List.replicate (n * n) Nv) rfl
 have g1 : ya2 yf9 (c, ((n : Int), S, F, l, ()), ((0 : Int), [], ()), ((n : Int), List.replicate (n * n) Nv, ()), l, (l.length : Int), (0 : Int), ()) = _ := g1
 rw [g1, g2]
 simp only [Option.bind_some, List.drop_zero, List.take_length]
theorem zt6 : Option.bind (yq0 (n : Int) (fun y1 => (yt5 y1.1 y1.2.1))) (fun (r2, r3) => Option.bind (ya2 yf4 (c, ((0 : Int), [], ()), (r2, (List.take (List.length r3) (List.drop 0 r3)), ()), l, (((List.length l) : Nat) : Int), (0 : Int), ())) fun ((r4, r5, _), (r6, r7, _), _) => some ((r6, (List.take (List.length r7) (List.drop 0 r7))), true)) = some (((n : Int), yk8 c n l l.length), true) := by
 have hsq := y2a h4
 have e0 : mk n (fun _ _ => Nv) = List.replicate (n * n) Nv := by
  unfold mk
  rw [List.map_const', List.length_range]
 rw [y7z h4 (c := fun _ _ => Nv) (fun i k _ _ => rfl), e0]
 simp only [Option.bind_some, List.drop_zero, List.take_length]
 obtain ⟨r, g1, g2⟩ := yg3 (f := yf4) l.length (fun i (M : List Int) => (c, ((0 : Int), [], ()), ((n : Int), M, ()), l, (l.length : Int), (i : Int), ())) (fun i M => y89 c n l i M)
  (fun M => (((0 : Int), [], ()), ((n : Int), M, ()), ())) (fun i M => M = yk8 c n l i)
  (fun i M hi hM => by subst hM; rfl)
  (fun i M hi hM => by
   have hMl : M.length = n * n := by subst hM; exact y2p c n l i
   have hsi := hst _ (show l.getD i stp0 ∈ l by rw [yd4 stp0 hi]; exact List.getElem_mem hi)
   obtain ⟨hlt, hw⟩ := z4b h4 hsi
   simp only [yf4, lt_t hi, cond_true, if_pos (in_t hi), Int.toNat_natCast, List.drop_zero, Nat.zero_add, ya4 hi (show l.length ≤ 9223372036854775807 by omega), hw, y89]
   cases hc : (l.getD i stp0).2.1.toList == c.toList with
   | false => simp only [cond_false, List.take_length, List.length_nil, List.take_zero]
   | true =>
    simp only [cond_true]
    rw [if_pos ⟨by omega, by rw [hMl]; omega⟩, List.take_length, List.take_of_length_le (by rw [List.length_set]; exact Nat.le_refl _)])
  (fun M hM => by simp only [yf4, lt_f, cond_false, List.drop_zero, List.take_length])
  (List.replicate (n * n) Nv) rfl
 have g1 : ya2 yf4 (c, ((0 : Int), [], ()), ((n : Int), List.replicate (n * n) Nv, ()), l, (l.length : Int), (0 : Int), ()) = _ := g1
 rw [g1, g2]
 simp only [Option.bind_some, List.drop_zero, List.take_length]
end
theorem zt7 {a : Aut} {n : Nat} (ha : AutIs a n) (hv : yk4 a = true) (hs : yt9 a) {c : ByteArray} (hc : c = la ∨ c = lb) : yx7 a c = some (((n : Int), yk8 c n a.2.2.2 a.2.2.2.length), true) := by
 obtain ⟨x, S, F, l⟩ := a
 have hx : x = (n : Int) := ha.st
 subst hx
 have hin := zt6 ha.n4 ha.len ha.steps c
 unfold yx7
 dsimp only
 rw [yb9 _ (yf5 hs).1 (yf5 hs).2, hv]
 simp only [Option.bind_some, Bool.not_true, cond_false]
 rcases hc with rfl | rfl
 ·have e1 : (!(la.toList == (⟨#[(97 : UInt8)]⟩ : ByteArray).toList)) = false := by simp
  rw [e1, cond_false]
  exact hin
 ·have e1 : (!(lb.toList == (⟨#[(97 : UInt8)]⟩ : ByteArray).toList)) = true := by simp only [yk3]; rfl
  have e2 : (!(lb.toList == (⟨#[(98 : UInt8)]⟩ : ByteArray).toList)) = false := by simp
  rw [e1, e2, cond_true, cond_false]
  exact hin
theorem y0h {a : Aut} {n : Nat} (ha : AutIs a n) (c : ByteArray) : yo2 a c = some ((n : Int), yk8 c n a.2.2.2 a.2.2.2.length) := by
 obtain ⟨x, S, F, l⟩ := a
 have hx : x = (n : Int) := ha.st
 subst hx
 exact zt5 ha.n4 ha.len ha.steps c
theorem yw3 {a : Aut} {n : Nat} (ha : AutIs a n) (c : ByteArray) : Rng (yk8 c n a.2.2.2 a.2.2.2.length) (n * n) := by
 obtain ⟨M, h1, h2⟩ := y6u (c := c) ha.st ha.n1 ha.n4 ha.len ha.ok
 rw [y0h ha c] at h1
 obtain ⟨_, rfl⟩ := Prod.mk.inj (Option.some.inj h1)
 exact h2.1
/-! ### grades -/
def gr (x : Int) : Int := if x = 0 then 0 else if x = 1000000 then 3 else 1
theorem gr_rng (x : Int) : 0 ≤ gr x ∧ gr x ≤ 3 := by
 unfold gr
 split
 ·omega
 ·split <;> omega
theorem gr_ok {n : Nat} {M : List Int} (hM : M.length = n * n) : GOk n (M.map gr) := by
 refine ⟨by rw [List.length_map, hM], fun x hx => ?_⟩
 obtain ⟨y, _, rfl⟩ := List.mem_map.1 hx
 exact gr_rng y
theorem z2k {n : Nat} (h4 : n ≤ 4) {M : List Int} (hM : M.length = n * n) : yy0 ((n : Int), M) = some ((n : Int), M.map gr) := by
 have hsq := y2a h4
 simp only [yy0]
 obtain ⟨r, g1, g2⟩ := yg3 (f := yl0) M.length (fun i (o : List Int) => (((0 : Int), [], ()), ((n : Int), o, ()), M, (M.length : Int), (i : Int), ())) (fun i o => o ++ [gr (M.getD i 0)]) (fun o => (((0 : Int), [], ()), ((n : Int), o, ()), ())) (fun i o => o = (M.take i).map gr)
  (fun i o hi ho => by subst ho; rw [yk5 hi, List.map_append, yd4 0 hi]; rfl)
  (fun i o hi ho => by
   have hol : o.length = i := by subst ho; rw [List.length_map, List.length_take]; omega
   simp only [yl0, lt_t hi, cond_true, if_pos (in_t hi), Int.toNat_natCast, Nat.zero_add, List.drop_zero, List.take_length, ya4 hi (show M.length ≤ 9223372036854775807 by omega)]
   by_cases z : M.getD i 0 = 0
   ·rw [z]
    simp only [BEq.rfl, cond_true]
    rw [if_pos ⟨trivial, by simp; omega⟩, show List.take 1 [(0 : Int)] = [gr 0] from rfl, List.take_of_length_le (by simp)]
   ·have z' : (M.getD i 0 == 0) = false := by simpa using z
    rw [z', cond_false]
    by_cases y : M.getD i 0 = 1000000
    ·rw [y]
     simp only [BEq.rfl, cond_true]
     rw [if_pos ⟨trivial, by simp; omega⟩, show List.take 1 [(3 : Int)] = [gr 1000000] from rfl, List.take_of_length_le (by simp)]
    ·have y' : (M.getD i 0 == 1000000) = false := by simpa using y
     rw [y', cond_false, if_pos ⟨trivial, by simp; omega⟩, show List.take 1 [(1 : Int)] = [gr (M.getD i 0)] by unfold gr; rw [if_neg z, if_neg y]; rfl, List.take_of_length_le (by simp)])
  (fun o ho => by simp only [yl0, lt_f, cond_false, List.drop_zero, List.take_length])
  [] rfl
 have g1 : ya2 yl0 (((0 : Int), [], ()), ((n : Int), [], ()), M, (M.length : Int), (0 : Int), ()) = _ := g1
 rw [g1, g2]
 simp only [Option.bind_some, List.drop_zero, List.take_length]
theorem z2l {n : Nat} (h1 : 1 ≤ n) (h4 : n ≤ 4) {M : List Int} (hM : Rng M (n * n)) : y08 ((n : Int), M) = some (((n : Int), M.map gr), true) := by
 have hsq := y2a h4
 simp only [y08, y6b h1 h4 hM.1 (fun x hx => hM.2 x hx), Option.bind_some, Bool.not_true, cond_false]
 rw [y7z h4 (c := fun i k => gr (M.getD (i * n + k) 0)) (fun i k hi hk => by
  simp only [y1z, at_is h4 hM.1 hi hk, Option.bind_some]
  by_cases z : M.getD (i * n + k) 0 = 0
  ·rw [z]; rfl
  ·have z' : (M.getD (i * n + k) 0 == 0) = false := by simpa using z
   rw [z', cond_false]
   by_cases y : M.getD (i * n + k) 0 = 1000000
   ·rw [y]; rfl
   ·have y' : (M.getD (i * n + k) 0 == 1000000) = false := by simpa using y
    rw [y', cond_false]
    unfold gr
    rw [if_neg z, if_neg y])]
 have e : mk n (fun i k => gr (M.getD (i * n + k) 0)) = M.map gr := by
  refine (mk_is (by rw [List.length_map, hM.1]) fun i k hi hk => ?_).symm
  have := yt0 hi hk
  rw [yd4 0 (by rw [List.length_map, hM.1]; exact this), List.getElem_map, yd4 0 (by rw [hM.1]; exact this)]
 simp only [Option.bind_some, List.drop_zero, List.take_length, e]
/-! ### the value of a letter -/
theorem za1 {c : ByteArray} (hc : c = la ∨ c = lb) : yu8 c = some ([(c, PT.mk [])], (⟨#[]⟩ : ByteArray)) := by
 have e : yu8 = yh0 (ye3 199) := rfl
 rw [e]
 generalize ye3 199 = φ
 have s1 : ya6 φ (c, [], ()) = some (.inl ((⟨#[]⟩ : ByteArray), [(c, PT.mk [])], ())) := by
  rcases hc with rfl | rfl <;> (unfold ya6; simp only [yk3]; rfl)
 have s2 : ya6 φ ((⟨#[]⟩ : ByteArray), [(c, PT.mk [])], ()) = some (.inr (.inr ((⟨#[]⟩ : ByteArray), [(c, PT.mk [])], ()))) := by
  unfold ya6
  simp only [yk3]
  rfl
 unfold yh0
 rw [show List.take 0 (List.drop 0 []) = ([] : List (ByteArray × PT)) from rfl, yb1, s1]
 simp only [Option.bind_some]
 rw [yb1, s2]
 rfl
theorem z0p {c : ByteArray} (hc : c = la ∨ c = lb) : yz9 c = some ([(c, PT.mk [])], true) := by
 have hsz : c.size = 1 := by rcases hc with rfl | rfl <;> rfl
 unfold yz9
 rw [decide_eq_false (show ¬ (c.size : Int) > 120 by omega), cond_false, za1 hc]
 simp
theorem zl6 {a : Aut} {n : Nat} (ha : AutIs a n) (hv : yk4 a = true) (hs : yt9 a) {c : ByteArray} (hc : c = la ∨ c = lb) : y0l a c = some (((n : Int), (yk8 c n a.2.2.2 a.2.2.2.length).map gr), true) := by
 have hm := zt7 ha hv hs hc
 have hr := yw3 ha c
 have hg := z2l ha.n1 ha.n4 hr
 obtain ⟨x, S, F, l⟩ := a
 unfold y0l
 dsimp only
 rw [z0p hc]
 simp only [Option.bind_some, Bool.not_true, cond_false]
 rw [yb9 _ (yf5 hs).1 (yf5 hs).2, hv]
 simp only [Option.bind_some, Bool.not_true, cond_false, List.drop_zero, List.take_length]
 have e : y80 = ys7 (yp4 199) := rfl
 rw [e]
 generalize yp4 199 = φ
 have hne : (!(c.toList == (⟨#[]⟩ : ByteArray).toList)) = true := by
  rcases hc with rfl | rfl <;> (simp only [yk3]; rfl)
 have s1 : yo1 φ ((x, S, F, l, ()), ((0 : Int), [], ()), ((0 : Int), [], ()), [(c, PT.mk [])], (1 : Int), (0 : Int), ()) = some (.inl ((x, S, F, l, ()), ((0 : Int), [], ()), ((n : Int), (yk8 c n l l.length).map gr, ()), [(c, PT.mk [])], (1 : Int), (1 : Int), ())) := by
  unfold yo1
  simp only [show decide ((0 : Int) < 1) = true from rfl, cond_true]
  rw [if_pos ⟨Int.le_refl _, by simp⟩]
  simp only [show List.getD [(c, PT.mk [])] (Int.toNat 0) ((⟨Array.empty⟩ : ByteArray), PT.mk []) = (c, PT.mk []) from rfl, hne, cond_true, hm, Option.bind_some, List.drop_zero, List.take_length, hg, show decide ((0 : Int) > 0) = false from rfl, cond_false]
  rfl
 have s2 : yo1 φ ((x, S, F, l, ()), ((0 : Int), [], ()), ((n : Int), (yk8 c n l l.length).map gr, ()), [(c, PT.mk [])], (1 : Int), (1 : Int), ()) = some (.inr (.inr (((0 : Int), [], ()), ((n : Int), (yk8 c n l l.length).map gr, ()), ()))) := by
  unfold yo1
  simp only [show decide ((1 : Int) < 1) = false from rfl, cond_false, List.drop_zero, List.take_length]
 unfold ys7
 dsimp only
 rw [show (((List.length [(c, PT.mk [])]) : Nat) : Int) = 1 from rfl, yb1, s1]
 simp only [Option.bind_some]
 rw [yb1, s2]
 simp only [Option.bind_some, List.drop_zero, List.take_length]
end Go.Proofs.YtogigagfgkfkhaaGreat

/- Elements that are put behind the others, by the reference and by the program: at each place the same. -/
namespace Go.Proofs.YtogigagfgkfkhaaGreat
open Go Go.Proofs.YtogigagfgkfkhaaGreat.Am
abbrev Elt := (Int × List Int) × ByteArray
abbrev el0 : Elt := (((0 : Int), []), (⟨Array.empty⟩ : ByteArray))
structure LOk (n : Nat) (L : List Elt) : Prop where
 el : ∀ e ∈ L, e.1.1 = (n : Int) ∧ GOk n e.1.2 ∧ e.2.size ≤ 120
 len : L.length ≤ 120
theorem LOk.at {n i : Nat} {L : List Elt} (h : LOk n L) (hi : i < L.length) : (L.getD i el0).1.1 = (n : Int) ∧ GOk n (L.getD i el0).1.2 ∧ (L.getD i el0).2.size ≤ 120 := by
 rw [yd4 el0 hi]
 exact h.el _ (List.getElem_mem hi)
def has (L : List Elt) (A : List Int) : Bool := L.any fun e => decide (e.1.2 = A)
def sput (n : Nat) (A : List Int) (t : ByteArray) (p : List Elt × Bool) : List Elt × Bool :=
 bif has p.1 A then p else bif p.2 then (p.1, true) else bif decide ((p.1.length : Int) ≥ 120) then (p.1, true) else bif (!decide ((t.size : Int) > 120)) then (p.1 ++ [(((n : Int), A), t)], false) else (p.1, true)
def iput (n : Nat) (A : List Int) (t : ByteArray) (p : List Elt × Bool) : List Elt × Bool :=
 bif has p.1 A then p else bif decide ((p.1.length : Int) ≥ 120) then (p.1, false) else bif decide ((t.size : Int) > 120) then (p.1, false) else (p.1 ++ [(((n : Int), A), t)], p.2)
theorem LOk.snoc {n : Nat} {L : List Elt} (h : LOk n L) {A : List Int} (hA : GOk n A) {t : ByteArray} (ht : t.size ≤ 120) (hl : L.length < 120) : LOk n (L ++ [(((n : Int), A), t)]) := by
 refine ⟨fun e he => ?_, by rw [List.length_append]; simp; omega⟩
 rcases List.mem_append.1 he with he | he
 ·exact h.el e he
 ·rw [List.mem_singleton] at he
  subst he
  exact ⟨rfl, hA, ht⟩
theorem y6w {n : Nat} {A : List Int} (hA : GOk n A) (t : ByteArray) {p : List Elt × Bool} (h : LOk n p.1) : LOk n (sput n A t p).1 := by
 obtain ⟨L, F⟩ := p
 unfold sput
 cases has L A
 ·cases F
  ·by_cases h1 : (L.length : Int) ≥ 120
   ·rw [decide_eq_true h1]; exact h
   ·rw [decide_eq_false h1]
    by_cases h2 : (t.size : Int) > 120
    ·rw [decide_eq_true h2]; exact h
    ·rw [decide_eq_false h2]
     exact LOk.snoc (L := L) h hA (by omega) (by omega)
  ·exact h
 ·exact h
theorem y9a {n : Nat} {A : List Int} (hA : GOk n A) (t : ByteArray) {p : List Elt × Bool} (h : LOk n p.1) : LOk n (iput n A t p).1 := by
 obtain ⟨L, F⟩ := p
 unfold iput
 cases has L A
 ·by_cases h1 : (L.length : Int) ≥ 120
  ·rw [decide_eq_true h1]; exact h
  ·rw [decide_eq_false h1]
   by_cases h2 : (t.size : Int) > 120
   ·rw [decide_eq_true h2]; exact h
   ·rw [decide_eq_false h2]
    exact LOk.snoc (L := L) h hA (by omega) (by omega)
 ·exact h
/-- both have the same, or both have failed -/
def Same (p q : List Elt × Bool) : Prop := (p.2 = false ∧ q.2 = true ∧ q.1 = p.1) ∨ (p.2 = true ∧ q.2 = false)
theorem Same.put {n : Nat} {A : List Int} {t : ByteArray} {p q : List Elt × Bool} (h : Same p q) : Same (sput n A t p) (iput n A t q) := by
 obtain ⟨L, F⟩ := p
 obtain ⟨L', f⟩ := q
 rcases h with ⟨h1, h2, h3⟩ | ⟨h1, h2⟩
 ·have h1 : F = false := h1
  have h2 : f = true := h2
  have h3 : L' = L := h3
  subst h1 h2 h3
  unfold sput iput
  cases has L' A
  ·by_cases h1 : (L'.length : Int) ≥ 120
   ·rw [decide_eq_true h1]; exact .inr ⟨rfl, rfl⟩
   ·rw [decide_eq_false h1]
    by_cases h2 : (t.size : Int) > 120
    ·rw [decide_eq_true h2]; exact .inr ⟨rfl, rfl⟩
    ·rw [decide_eq_false h2]; exact .inl ⟨rfl, rfl, rfl⟩
  ·exact .inl ⟨rfl, rfl, rfl⟩
 ·have h1 : F = true := h1
  have h2 : f = false := h2
  subst h1 h2
  refine .inr ⟨?_, ?_⟩
  ·unfold sput
   cases has L A <;> rfl
  ·unfold iput
   cases has L' A
   ·cases decide ((L'.length : Int) ≥ 120)
    ·cases decide ((t.size : Int) > 120) <;> rfl
    ·rfl
   ·rfl
theorem z0q {n : Nat} {A : List Int} {t : ByteArray} {p : List Elt × Bool} (h : p.2 = true) : (sput n A t p).2 = true := by
 obtain ⟨L, F⟩ := p
 have h : F = true := h
 subst h
 unfold sput
 cases has L A <;> rfl
theorem z4c {n : Nat} {A : List Int} {t : ByteArray} {p : List Elt × Bool} : ∃ X, (iput n A t p).1 = p.1 ++ X := by
 obtain ⟨L, f⟩ := p
 unfold iput
 cases has L A
 ·cases decide ((L.length : Int) ≥ 120)
  ·cases decide ((t.size : Int) > 120)
   ·exact ⟨_, rfl⟩
   ·exact ⟨[], (List.append_nil L).symm⟩
  ·exact ⟨[], (List.append_nil L).symm⟩
 ·exact ⟨[], (List.append_nil L).symm⟩
theorem z2m {xs : List Elt} (hl : xs.length ≤ 1000000) {φ : (Elt × Unit) → Option Bool} {p : Elt → Bool} (hφ : ∀ x ∈ xs, φ (x, ()) = some (p x)) : yc1 xs φ = some (xs.any p) := by
 have g := yo5 (f := yc7) (fun i => (xs, φ, (xs.length : Int), (i : Int), ())) xs.length (fun i => p (xs.getD i el0)) (fun i => Sum.inl ((i : Int), ())) (Sum.inr ())
  (fun i hi => by
   have hm : xs.getD i el0 ∈ xs := by rw [yd4 el0 hi]; exact List.getElem_mem hi
   simp only [yc7, lt_t hi, cond_true, Int.toNat_natCast]
   rw [if_pos (in_t hi), hφ _ hm]
   simp only [Option.bind_some, ya4 hi (show xs.length ≤ 9223372036854775807 by omega)]
   cases p (xs.getD i el0) <;> rfl)
  (by simp only [yc7, lt_f, cond_false])
 have g : ya2 yc7 (xs, φ, (xs.length : Int), (0 : Int), ()) = _ := g
 simp only [yc1, yp5]
 rw [g, ← y88 xs el0 p]
 cases (List.range xs.length).find? fun i => p (xs.getD i el0) with
 | none => rfl
 | some i => simp only [Option.bind_some, Option.isSome_some]; rw [decide_eq_true (by omega)]
theorem y2q {n : Nat} (h4 : n ≤ 4) {L : List Elt} (hL : LOk n L) {A : List Int} (hA : GOk n A) : yc1 L (fun y0 => (yi4 y0.1 ((n : Int), A))) = some (has L A) := by
 refine z2m (p := fun e => decide (e.1.2 = A)) (by have := hL.len; omega) fun x hx => ?_
 obtain ⟨h1, h2, _⟩ := hL.el x hx
 obtain ⟨⟨m, B⟩, t⟩ := x
 have h1 : m = (n : Int) := h1
 subst h1
 show yi4 _ _ = _
 simp only [yi4, y70 h4 h2.1 hA.1, Option.bind_some]

theorem sput_39 {n : Nat} (h4 : n ≤ 4) (p : List Elt × Bool) (hL : LOk n p.1) {A : List Int} (hA : GOk n A) (t : ByteArray) (x : Int) (S R : List Int) (l : List Stp) (b : Bool) (w : List Elt) (ws : List ByteArray) (u v : Int) :
  yl4 ((p.1, p.2, ()), ((n : Int), A), t, b, (x, S, R, l, ()), w, ws, u, v, ()) = some (b, (x, S, R, l, ()), ((sput n A t p).1, (sput n A t p).2, ()), w, ws, u, v, ()) := by
 obtain ⟨L, F⟩ := p
 have hL : LOk n L := hL
 have hsq := y2a h4
 have hlen := hL.len
 have g := yo5 (f := ye5) (fun i => ((L, F, ()), t, ((n : Int), A, ()), L, (L.length : Int), (i : Int), b, (x, S, R, l, ()), w, ws, u, v, ())) L.length (fun i => decide ((L.getD i el0).1.2 = A)) (fun _ => Sum.inl (b, (x, S, R, l, ()), (L, F, ()), w, ws, u, v, ())) (Sum.inr ((L, F, ()), t, ((n : Int), A, ()), b, (x, S, R, l, ()), w, ws, u, v, ()))
  (fun i hi => by
   obtain ⟨m1, m2, m3⟩ := hL.at hi
   simp only [ye5, lt_t hi, cond_true, if_pos (in_t hi), Int.toNat_natCast, Nat.zero_add, List.drop_zero, List.take_length, zi9 (show (L.getD i el0).1.2.length = A.length by rw [m2.1, hA.1]) (show (L.getD i el0).1.2.length ≤ 1000000 by rw [m2.1]; omega), Option.bind_some, if_true, ya4 hi (show L.length ≤ 9223372036854775807 by omega)]
   cases decide ((L.getD i el0).1.2 = A) <;> rfl)
  (by simp only [ye5, lt_f, cond_false, Nat.zero_add, List.drop_zero, List.take_length, if_true])
 have g : ya2 ye5 ((L, F, ()), t, ((n : Int), A, ()), L, (L.length : Int), (0 : Int), b, (x, S, R, l, ()), w, ws, u, v, ()) = _ := g
 have e := y88 L el0 (fun e => decide (e.1.2 = A))
 simp only [yl4, Nat.zero_add, List.drop_zero, List.take_length, if_true]
 rw [g]
 cases hf : (List.range L.length).find? fun i => decide ((L.getD i el0).1.2 = A) with
 | some i =>
  rw [hf] at e
  have e : has L A = true := e.symm
  simp only [Option.bind_some, sput, e, cond_true, if_true, List.drop_zero, List.take_length, Nat.zero_add]
 | none =>
  rw [hf] at e
  have e : has L A = false := e.symm
  simp only [Option.bind_some, sput, e, cond_false]
  cases F with
  | true => simp only [cond_true, if_true, List.drop_zero, List.take_length, Nat.zero_add]
  | false =>
   simp only [cond_false]
   by_cases h1 : (L.length : Int) ≥ 120
   ·simp only [decide_eq_true h1, cond_true, if_true, List.drop_zero, List.take_length, Nat.zero_add]
   ·by_cases h2 : (t.size : Int) > 120
    ·simp only [decide_eq_false h1, decide_eq_true h2, Bool.not_true, cond_false, if_true, List.drop_zero, List.take_length, Nat.zero_add]
    ·simp only [decide_eq_false h1, decide_eq_false h2, Bool.not_false, cond_true, cond_false, if_true, List.drop_zero, List.take_length, Nat.zero_add, show List.take 1 [(((n : Int), A), t)] = [(((n : Int), A), t)] from rfl]
     rw [if_pos ⟨trivial, by simp; omega⟩, if_pos (by simp)]

theorem sput_78 {n : Nat} (h4 : n ≤ 4) (p : List Elt × Bool) (hL : LOk n p.1) {A : List Int} (hA : GOk n A) (t : ByteArray) (b : Bool) (w : List Elt) (u : Int) (ex : Int) (ey : List Int) (ez : ByteArray) :
  yi3 ((p.1, p.2, ()), ((n : Int), A, ()), t, b, w, u, (ex, ey, ez, ()), ()) = some (b, ((sput n A t p).1, (sput n A t p).2, ()), w, u, (ex, ey, ez, ()), ()) := by
 obtain ⟨L, F⟩ := p
 have hL : LOk n L := hL
 have hsq := y2a h4
 have hlen := hL.len
 have g := yo5 (f := ye6) (fun i => ((L, F, ()), t, ((n : Int), A, ()), L, (L.length : Int), (i : Int), b, w, u, (ex, ey, ez, ()), ())) L.length (fun i => decide ((L.getD i el0).1.2 = A)) (fun _ => Sum.inl (b, (L, F, ()), w, u, (ex, ey, ez, ()), ())) (Sum.inr ((L, F, ()), t, ((n : Int), A, ()), b, w, u, (ex, ey, ez, ()), ()))
  (fun i hi => by
   obtain ⟨m1, m2, m3⟩ := hL.at hi
   simp only [ye6, lt_t hi, cond_true, if_pos (in_t hi), Int.toNat_natCast, Nat.zero_add, List.drop_zero, List.take_length, zi9 (show (L.getD i el0).1.2.length = A.length by rw [m2.1, hA.1]) (show (L.getD i el0).1.2.length ≤ 1000000 by rw [m2.1]; omega), Option.bind_some, if_true, ya4 hi (show L.length ≤ 9223372036854775807 by omega)]
   cases decide ((L.getD i el0).1.2 = A) <;> rfl)
  (by simp only [ye6, lt_f, cond_false, Nat.zero_add, List.drop_zero, List.take_length, if_true])
 have g : ya2 ye6 ((L, F, ()), t, ((n : Int), A, ()), L, (L.length : Int), (0 : Int), b, w, u, (ex, ey, ez, ()), ()) = _ := g
 have e := y88 L el0 (fun e => decide (e.1.2 = A))
 simp only [yi3, Nat.zero_add, List.drop_zero, List.take_length, if_true]
 rw [g]
 cases hf : (List.range L.length).find? fun i => decide ((L.getD i el0).1.2 = A) with
 | some i =>
  rw [hf] at e
  have e : has L A = true := e.symm
  simp only [Option.bind_some, sput, e, cond_true, if_true, List.drop_zero, List.take_length, Nat.zero_add]
 | none =>
  rw [hf] at e
  have e : has L A = false := e.symm
  simp only [Option.bind_some, sput, e, cond_false]
  cases F with
  | true => simp only [cond_true, if_true, List.drop_zero, List.take_length, Nat.zero_add]
  | false =>
   simp only [cond_false]
   by_cases h1 : (L.length : Int) ≥ 120
   ·simp only [decide_eq_true h1, cond_true, if_true, List.drop_zero, List.take_length, Nat.zero_add]
   ·by_cases h2 : (t.size : Int) > 120
    ·simp only [decide_eq_false h1, decide_eq_true h2, Bool.not_true, cond_false, if_true, List.drop_zero, List.take_length, Nat.zero_add]
    ·simp only [decide_eq_false h1, decide_eq_false h2, Bool.not_false, cond_true, cond_false, if_true, List.drop_zero, List.take_length, Nat.zero_add, show List.take 1 [(((n : Int), A), t)] = [(((n : Int), A), t)] from rfl]
     rw [if_pos ⟨trivial, by simp; omega⟩, if_pos (by simp)]

theorem kl8 {n : Nat} (h4 : n ≤ 4) (p : List Elt × Bool) (hL : LOk n p.1) {A : List Int} (hA : GOk n A) (t : ByteArray) (b : Bool) (w : List Elt) (u : Int) (ex : Int) (ey : List Int) (ez : ByteArray) (fx : Int) (fy : List Int) (fz : ByteArray) (w2 : List Elt) (c d : Int) :
  yk1 ((p.1, p.2, ()), ((n : Int), A, ()), t, b, w, u, (ex, ey, ez, ()), (fx, fy, fz, ()), w2, c, d, ()) = some (b, ((sput n A t p).1, (sput n A t p).2, ()), w, u, (ex, ey, ez, ()), (fx, fy, fz, ()), w2, c, d, ()) := by
 obtain ⟨L, F⟩ := p
 have hL : LOk n L := hL
 have hsq := y2a h4
 have hlen := hL.len
 have g := yo5 (f := ye0) (fun i => ((L, F, ()), t, ((n : Int), A, ()), L, (L.length : Int), (i : Int), b, w, u, (ex, ey, ez, ()), (fx, fy, fz, ()), w2, c, d, ())) L.length (fun i => decide ((L.getD i el0).1.2 = A)) (fun _ => Sum.inl (b, (L, F, ()), w, u, (ex, ey, ez, ()), (fx, fy, fz, ()), w2, c, d, ())) (Sum.inr ((L, F, ()), t, ((n : Int), A, ()), b, w, u, (ex, ey, ez, ()), (fx, fy, fz, ()), w2, c, d, ()))
  (fun i hi => by
   obtain ⟨m1, m2, m3⟩ := hL.at hi
   simp only [ye0, lt_t hi, cond_true, if_pos (in_t hi), Int.toNat_natCast, Nat.zero_add, List.drop_zero, List.take_length, zi9 (show (L.getD i el0).1.2.length = A.length by rw [m2.1, hA.1]) (show (L.getD i el0).1.2.length ≤ 1000000 by rw [m2.1]; omega), Option.bind_some, if_true, ya4 hi (show L.length ≤ 9223372036854775807 by omega)]
   cases decide ((L.getD i el0).1.2 = A) <;> rfl)
  (by simp only [ye0, lt_f, cond_false, Nat.zero_add, List.drop_zero, List.take_length, if_true])
 have g : ya2 ye0 ((L, F, ()), t, ((n : Int), A, ()), L, (L.length : Int), (0 : Int), b, w, u, (ex, ey, ez, ()), (fx, fy, fz, ()), w2, c, d, ()) = _ := g
 have e := y88 L el0 (fun e => decide (e.1.2 = A))
 simp only [yk1, Nat.zero_add, List.drop_zero, List.take_length, if_true]
 rw [g]
 cases hf : (List.range L.length).find? fun i => decide ((L.getD i el0).1.2 = A) with
 | some i =>
  rw [hf] at e
  have e : has L A = true := e.symm
  simp only [Option.bind_some, sput, e, cond_true, if_true, List.drop_zero, List.take_length, Nat.zero_add]
 | none =>
  rw [hf] at e
  have e : has L A = false := e.symm
  simp only [Option.bind_some, sput, e, cond_false]
  cases F with
  | true => simp only [cond_true, if_true, List.drop_zero, List.take_length, Nat.zero_add]
  | false =>
   simp only [cond_false]
   by_cases h1 : (L.length : Int) ≥ 120
   ·simp only [decide_eq_true h1, cond_true, if_true, List.drop_zero, List.take_length, Nat.zero_add]
   ·by_cases h2 : (t.size : Int) > 120
    ·simp only [decide_eq_false h1, decide_eq_true h2, Bool.not_true, cond_false, if_true, List.drop_zero, List.take_length, Nat.zero_add]
    ·simp only [decide_eq_false h1, decide_eq_false h2, Bool.not_false, cond_true, cond_false, if_true, List.drop_zero, List.take_length, Nat.zero_add, show List.take 1 [(((n : Int), A), t)] = [(((n : Int), A), t)] from rfl]
     rw [if_pos ⟨trivial, by simp; omega⟩, if_pos (by simp)]

theorem kl9 {n : Nat} (h4 : n ≤ 4) (p : List Elt × Bool) (hL : LOk n p.1) {A : List Int} (hA : GOk n A) (t : ByteArray) (b : Bool) (w : List Elt) (u : Int) (ex : Int) (ey : List Int) (ez : ByteArray) (w2 : List Elt) (c d : Int) :
  yk2 ((p.1, p.2, ()), ((n : Int), A, ()), t, b, w, u, (ex, ey, ez, ()), w2, c, d, ()) = some (b, ((sput n A t p).1, (sput n A t p).2, ()), w, u, (ex, ey, ez, ()), w2, c, d, ()) := by
 obtain ⟨L, F⟩ := p
 have hL : LOk n L := hL
 have hsq := y2a h4
 have hlen := hL.len
 have g := yo5 (f := ye1) (fun i => ((L, F, ()), t, ((n : Int), A, ()), L, (L.length : Int), (i : Int), b, w, u, (ex, ey, ez, ()), w2, c, d, ())) L.length (fun i => decide ((L.getD i el0).1.2 = A)) (fun _ => Sum.inl (b, (L, F, ()), w, u, (ex, ey, ez, ()), w2, c, d, ())) (Sum.inr ((L, F, ()), t, ((n : Int), A, ()), b, w, u, (ex, ey, ez, ()), w2, c, d, ()))
  (fun i hi => by
   obtain ⟨m1, m2, m3⟩ := hL.at hi
   simp only [ye1, lt_t hi, cond_true, if_pos (in_t hi), Int.toNat_natCast, Nat.zero_add, List.drop_zero, List.take_length, zi9 (show (L.getD i el0).1.2.length = A.length by rw [m2.1, hA.1]) (show (L.getD i el0).1.2.length ≤ 1000000 by rw [m2.1]; omega), Option.bind_some, if_true, ya4 hi (show L.length ≤ 9223372036854775807 by omega)]
   cases decide ((L.getD i el0).1.2 = A) <;> rfl)
  (by simp only [ye1, lt_f, cond_false, Nat.zero_add, List.drop_zero, List.take_length, if_true])
 have g : ya2 ye1 ((L, F, ()), t, ((n : Int), A, ()), L, (L.length : Int), (0 : Int), b, w, u, (ex, ey, ez, ()), w2, c, d, ()) = _ := g
 have e := y88 L el0 (fun e => decide (e.1.2 = A))
 simp only [yk2, Nat.zero_add, List.drop_zero, List.take_length, if_true]
 rw [g]
 cases hf : (List.range L.length).find? fun i => decide ((L.getD i el0).1.2 = A) with
 | some i =>
  rw [hf] at e
  have e : has L A = true := e.symm
  simp only [Option.bind_some, sput, e, cond_true, if_true, List.drop_zero, List.take_length, Nat.zero_add]
 | none =>
  rw [hf] at e
  have e : has L A = false := e.symm
  simp only [Option.bind_some, sput, e, cond_false]
  cases F with
  | true => simp only [cond_true, if_true, List.drop_zero, List.take_length, Nat.zero_add]
  | false =>
   simp only [cond_false]
   by_cases h1 : (L.length : Int) ≥ 120
   ·simp only [decide_eq_true h1, cond_true, if_true, List.drop_zero, List.take_length, Nat.zero_add]
   ·by_cases h2 : (t.size : Int) > 120
    ·simp only [decide_eq_false h1, decide_eq_true h2, Bool.not_true, cond_false, if_true, List.drop_zero, List.take_length, Nat.zero_add]
    ·simp only [decide_eq_false h1, decide_eq_false h2, Bool.not_false, cond_true, cond_false, if_true, List.drop_zero, List.take_length, Nat.zero_add, show List.take 1 [(((n : Int), A), t)] = [(((n : Int), A), t)] from rfl]
     rw [if_pos ⟨trivial, by simp; omega⟩, if_pos (by simp)]

theorem zt8 {n : Nat} (h4 : n ≤ 4) (p : List Elt × Bool) (hL : LOk n p.1) {A : List Int} (hA : GOk n A) (t : ByteArray) (x : Int) (S R : List Int) (l : List Stp) (ws : List ByteArray) (u v : Int) :
  yh4 ((p.1, p.2, ()), ((n : Int), A, ()), t, (x, S, R, l, ()), ws, u, v, ()) = some ((x, S, R, l, ()), ((iput n A t p).1, (iput n A t p).2, ()), ws, u, v, ()) := by
 obtain ⟨L, f⟩ := p
 have hL : LOk n L := hL
 have hlen := hL.len
 simp only [yh4, List.drop_zero, List.take_length, y2q h4 hL hA, Option.bind_some, iput]
 cases has L A with
 | true => rfl
 | false =>
  simp only [cond_false]
  by_cases h1 : (L.length : Int) ≥ 120
  ·simp only [decide_eq_true h1, cond_true]
  ·by_cases h2 : (t.size : Int) > 120
   ·simp only [decide_eq_false h1, decide_eq_true h2, cond_false, cond_true]
   ·simp only [decide_eq_false h1, decide_eq_false h2, cond_false, Nat.zero_add, show List.take 1 [(((n : Int), A), t)] = [(((n : Int), A), t)] from rfl]
    rw [if_pos ⟨trivial, by simp; omega⟩, List.take_of_length_le (by simp)]

theorem y71 {n : Nat} (h4 : n ≤ 4) (p : List Elt × Bool) (hL : LOk n p.1) {A : List Int} (hA : GOk n A) (t : ByteArray) (u : Int) (ex : Int) (ey : List Int) (ez : ByteArray) (z : Int) :
  yc9 ((p.1, p.2, ()), ((n : Int), A, ()), t, u, (ex, ey, ez, ()), z, ()) = some (((iput n A t p).1, (iput n A t p).2, ()), u, (ex, ey, ez, ()), z, ()) := by
 obtain ⟨L, f⟩ := p
 have hL : LOk n L := hL
 have hlen := hL.len
 simp only [yc9, List.drop_zero, List.take_length, y2q h4 hL hA, Option.bind_some, iput]
 cases has L A with
 | true => rfl
 | false =>
  simp only [cond_false]
  by_cases h1 : (L.length : Int) ≥ 120
  ·simp only [decide_eq_true h1, cond_true]
  ·by_cases h2 : (t.size : Int) > 120
   ·simp only [decide_eq_false h1, decide_eq_true h2, cond_false, cond_true]
   ·simp only [decide_eq_false h1, decide_eq_false h2, cond_false, Nat.zero_add, show List.take 1 [(((n : Int), A), t)] = [(((n : Int), A), t)] from rfl]
    rw [if_pos ⟨trivial, by simp; omega⟩, List.take_of_length_le (by simp)]

theorem y72 {n : Nat} (h4 : n ≤ 4) (p : List Elt × Bool) (hL : LOk n p.1) {A : List Int} (hA : GOk n A) (t : ByteArray) (u : Int) (ex : Int) (ey : List Int) (ez : ByteArray) (k : Int) (fx : Int) (fy : List Int) (fz : ByteArray) (mx_ : Int) (my : List Int) (z : Int) :
  yd0 ((p.1, p.2, ()), ((n : Int), A), t, u, (ex, ey, ez, ()), k, (fx, fy, fz, ()), (mx_, my, ()), z, ()) = some (((iput n A t p).1, (iput n A t p).2, ()), u, (ex, ey, ez, ()), k, (fx, fy, fz, ()), (mx_, my, ()), z, ()) := by
 obtain ⟨L, f⟩ := p
 have hL : LOk n L := hL
 have hlen := hL.len
 simp only [yd0, List.drop_zero, List.take_length, y2q h4 hL hA, Option.bind_some, iput]
 cases has L A with
 | true => rfl
 | false =>
  simp only [cond_false]
  by_cases h1 : (L.length : Int) ≥ 120
  ·simp only [decide_eq_true h1, cond_true]
  ·by_cases h2 : (t.size : Int) > 120
   ·simp only [decide_eq_false h1, decide_eq_true h2, cond_false, cond_true]
   ·simp only [decide_eq_false h1, decide_eq_false h2, cond_false, Nat.zero_add, show List.take 1 [(((n : Int), A), t)] = [(((n : Int), A), t)] from rfl]
    rw [if_pos ⟨trivial, by simp; omega⟩, List.take_of_length_le (by simp)]

theorem y73 {n : Nat} (h4 : n ≤ 4) (p : List Elt × Bool) (hL : LOk n p.1) {A : List Int} (hA : GOk n A) (t : ByteArray) (u : Int) (ex : Int) (ey : List Int) (ez : ByteArray) (k : Int) (z : Int) :
  ye9 ((p.1, p.2, ()), ((n : Int), A, ()), t, u, (ex, ey, ez, ()), k, z, ()) = some (((iput n A t p).1, (iput n A t p).2, ()), u, (ex, ey, ez, ()), k, z, ()) := by
 obtain ⟨L, f⟩ := p
 have hL : LOk n L := hL
 have hlen := hL.len
 simp only [ye9, List.drop_zero, List.take_length, y2q h4 hL hA, Option.bind_some, iput]
 cases has L A with
 | true => rfl
 | false =>
  simp only [cond_false]
  by_cases h1 : (L.length : Int) ≥ 120
  ·simp only [decide_eq_true h1, cond_true]
  ·by_cases h2 : (t.size : Int) > 120
   ·simp only [decide_eq_false h1, decide_eq_true h2, cond_false, cond_true]
   ·simp only [decide_eq_false h1, decide_eq_false h2, cond_false, Nat.zero_add, show List.take 1 [(((n : Int), A), t)] = [(((n : Int), A), t)] from rfl]
    rw [if_pos ⟨trivial, by simp; omega⟩, List.take_of_length_le (by simp)]

end Go.Proofs.YtogigagfgkfkhaaGreat

/- All elements of an automaton: the reference and the program find the same. -/
namespace Go.Proofs.YtogigagfgkfkhaaGreat
open Go Go.Proofs.YtogigagfgkfkhaaGreat.Am
def s2 (n : Nat) (e f : Elt) (p : List Elt × Bool) : List Elt × Bool := sput n (gmul n f.1.2 e.1.2) (f.2 ++ e.2) (sput n (gmul n e.1.2 f.1.2) (e.2 ++ f.2) p)
def i2 (n : Nat) (e f : Elt) (p : List Elt × Bool) : List Elt × Bool := iput n (gmul n f.1.2 e.1.2) (f.2 ++ e.2) (iput n (gmul n e.1.2 f.1.2) (e.2 ++ f.2) p)
def zt9 (n : Nat) (e : Elt) (W : List Elt) (p : List Elt × Bool) : List Elt × Bool := W.foldl (fun p f => s2 n e f p) p
def y4i (t : ByteArray) : ByteArray := ((⟨#[(40 : UInt8)]⟩ : ByteArray) ++ t) ++ (⟨#[(41 : UInt8), (35 : UInt8)]⟩ : ByteArray)
theorem s2_ok {n : Nat} {e f : Elt} (he : GOk n e.1.2) (hf : GOk n f.1.2) {p : List Elt × Bool} (h : LOk n p.1) : LOk n (s2 n e f p).1 := y6w (yv7 hf he) _ (y6w (yv7 he hf) _ h)
theorem i2_ok {n : Nat} {e f : Elt} (he : GOk n e.1.2) (hf : GOk n f.1.2) {p : List Elt × Bool} (h : LOk n p.1) : LOk n (i2 n e f p).1 := y9a (yv7 hf he) _ (y9a (yv7 he hf) _ h)
theorem zp1 {n : Nat} {e : Elt} : ∀ {W : List Elt} {p : List Elt × Bool}, p.2 = true → (zt9 n e W p).2 = true
 | [], _, h => h
 | f :: W, p, h => zp1 (W := W) (p := s2 n e f p) (z0q (z0q h))
theorem size_append (a b : ByteArray) : (a ++ b).size = a.size + b.size := ByteArray.size_append
theorem zp2 {n : Nat} (h4 : n ≤ 4) {E : List Int} (hE : GOk n E) {te : ByteArray} (hte : te.size ≤ 120) {W : List Elt} (hW : LOk n W) (w : List Elt) (i : Int) (p : List Elt × Bool) (hp : LOk n p.1) :
  ya2 yb5 (true, (p.1, p.2, ()), w, i, ((n : Int), E, te, ()), W, (W.length : Int), (0 : Int), ()) = some (true, ((zt9 n (((n : Int), E), te) W p).1, (zt9 n (((n : Int), E), te) W p).2, ()), w, i, ()) ∧ LOk n (zt9 n (((n : Int), E), te) W p).1 := by
 have hlen := hW.len
 obtain ⟨r, g1, g2⟩ := yg3 (f := yb5) W.length (fun k (q : List Elt × Bool) => (true, (q.1, q.2, ()), w, i, ((n : Int), E, te, ()), W, (W.length : Int), (k : Int), ())) (fun k q => s2 n (((n : Int), E), te) (W.getD k el0) q)
  (fun q => (true, (q.1, q.2, ()), w, i, ())) (fun k q => q = zt9 n (((n : Int), E), te) (W.take k) p ∧ LOk n q.1)
  (fun k q hk hq => by
   refine ⟨?_, s2_ok hE (hW.at hk).2.1 hq.2⟩
   rw [hq.1]
   unfold zt9
   rw [yk5 hk, List.foldl_append, yd4 el0 hk]
   rfl)
  (fun k q hk hq => by
   have hat := hW.at hk
   rcases hf : W.getD k el0 with ⟨⟨m, B⟩, ft⟩
   rw [hf] at hat
   obtain ⟨m1, m2, m3⟩ := hat
   have m1 : m = (n : Int) := m1
   subst m1
   have m2 : GOk n B := m2
   have m3 : ft.size ≤ 120 := m3
   simp only [yb5, lt_t hk, cond_true, if_pos (in_t hk), Int.toNat_natCast, hf, zt4 h4 hE m2, Option.bind_some, Nat.zero_add, List.drop_zero, List.take_length, if_true]
   rw [if_pos (by omega), kl8 h4 q hq.2 (yv7 hE m2) (te ++ ft)]
   simp only [Option.bind_some, cond_true, zt4 h4 m2 hE, Nat.zero_add, List.drop_zero, List.take_length, if_true]
   rw [if_pos (by omega), kl9 h4 _ (y6w (yv7 hE m2) _ hq.2) (yv7 m2 hE) (ft ++ te)]
   simp only [Option.bind_some, Nat.zero_add, List.drop_zero, List.take_length, if_true, ya4 hk (show W.length ≤ 9223372036854775807 by omega)]
   rfl)
  (fun q hq => by simp only [yb5, lt_f, cond_false, Nat.zero_add, List.drop_zero, List.take_length, if_true])
  p ⟨rfl, hp⟩
 have g1 : ya2 yb5 (true, (p.1, p.2, ()), w, i, ((n : Int), E, te, ()), W, (W.length : Int), (0 : Int), ()) = _ := g1
 rw [List.take_length] at g2
 rw [g1, g2.1]
 exact ⟨rfl, by rw [← g2.1]; exact g2.2⟩
theorem y9b {n : Nat} (h1 : 1 ≤ n) (h4 : n ≤ 4) {E : List Int} (hE : GOk n E) {te : ByteArray} (hte : te.size ≤ 120) {W : List Elt} (hW : LOk n W) {at_ : Nat} (hat : W.length = at_ + 1) (z : Int) :
  ∀ (d k : Nat) (p q : List Elt × Bool), k + d = at_ + 1 → Same p q → LOk n p.1 → LOk n q.1 → (q.2 = true → ∃ X, q.1 = W ++ X) →
   ∃ q', ya2 ya5 ((q.1, q.2, ()), (at_ : Int), ((n : Int), E, te, ()), (k : Int), z, ()) = some ((q'.1, q'.2, ()), z, ()) ∧ Same (zt9 n (((n : Int), E), te) (W.drop k) p) q' ∧ LOk n q'.1
 | 0, k, p, q, hk, hs, hp, hq, hX => by
  refine ⟨q, ?_, ?_, hq⟩
  ·rw [yb1]
   simp only [ya5, decide_eq_false (show ¬ (k : Int) ≤ (at_ : Int) by omega), cond_false, List.drop_zero, List.take_length, Option.bind_some]
  ·rw [List.drop_eq_nil_of_le (by omega)]
   exact hs
 | d + 1, k, p, q, hk, hs, hp, hq, hX => by
  obtain ⟨L', f⟩ := q
  cases f with
  | false =>
   refine ⟨(L', false), ?_, ?_, hq⟩
   ·rw [yb1]
    simp only [ya5, decide_eq_true (show (k : Int) ≤ (at_ : Int) by omega), cond_true, cond_false, List.drop_zero, List.take_length, Option.bind_some]
   ·rcases hs with ⟨_, h, _⟩ | ⟨h, _⟩
    ·cases h
    ·exact .inr ⟨zp1 h, rfl⟩
  | true =>
   obtain ⟨X, hX'⟩ := hX rfl
   have hX' : L' = W ++ X := hX'
   have hkW : k < W.length := by omega
   have hkL : k < L'.length := by rw [hX', List.length_append]; omega
   have hget : L'.getD k el0 = W.getD k el0 := by rw [yd4 el0 hkL, yd4 el0 hkW]; simp only [hX', List.getElem_append_left hkW]
   have hatk := hW.at hkW
   rcases hf : W.getD k el0 with ⟨⟨m, B⟩, ft⟩
   rw [hf] at hatk
   obtain ⟨m1, m2, m3⟩ := hatk
   have m1 : m = (n : Int) := m1
   subst m1
   have m2 : GOk n B := m2
   have m3 : ft.size ≤ 120 := m3
   have hq : LOk n L' := hq
   have hstep : ya5 ((L', true, ()), (at_ : Int), ((n : Int), E, te, ()), (k : Int), z, ()) = some (.inl (((i2 n (((n : Int), E), te) (((n : Int), B), ft) (L', true)).1, (i2 n (((n : Int), E), te) (((n : Int), B), ft) (L', true)).2, ()), (at_ : Int), ((n : Int), E, te, ()), ((k + 1 : Nat) : Int), z, ())) := by
    have e1 := y72 h4 (L', true) hq (yv7 hE m2) (te ++ ft) (at_ : Int) (n : Int) E te (k : Int) (n : Int) B ft (n : Int) (gmul n E B) z
    simp only [ya5, decide_eq_true (show (k : Int) ≤ (at_ : Int) by omega), cond_true, if_pos (in_t hkL), Int.toNat_natCast, Nat.zero_add, hget, hf, y46 h1 h4 hE m2, Option.bind_some, List.drop_zero, List.take_length]
    rw [if_pos (by omega)]
    have e1 : yd0 ((L', true, ()), ((n : Int), gmul n E B), te ++ ft, (at_ : Int), ((n : Int), E, te, ()), (k : Int), ((n : Int), B, ft, ()), ((n : Int), gmul n E B, ()), z, ()) = _ := e1
    rw [e1]
    simp only [Option.bind_some, y46 h1 h4 m2 hE, List.drop_zero, List.take_length]
    rw [if_pos (by omega), y73 h4 _ (y9a (yv7 hE m2) _ hq) (yv7 m2 hE) (ft ++ te)]
    simp only [Option.bind_some, List.drop_zero, List.take_length, ya4 hkL (show L'.length ≤ 9223372036854775807 by have := hq.len; omega)]
    rfl
   have hdrop : W.drop k = (((n : Int), B), ft) :: W.drop (k + 1) := by
    rw [List.drop_eq_getElem_cons hkW, ← yd4 el0 hkW, hf]
   obtain ⟨q', r1, r2, r3⟩ := y9b h1 h4 hE hte hW hat z d (k + 1) (s2 n (((n : Int), E), te) (((n : Int), B), ft) p) (i2 n (((n : Int), E), te) (((n : Int), B), ft) (L', true)) (by omega) ((hs.put).put) (s2_ok hE m2 hp) (i2_ok hE m2 hq) (fun _ => by
    obtain ⟨X1, x1⟩ := z4c (n := n) (A := gmul n E B) (t := te ++ ft) (p := (L', true))
    obtain ⟨X2, x2⟩ := z4c (n := n) (A := gmul n B E) (t := ft ++ te) (p := iput n (gmul n E B) (te ++ ft) (L', true))
    refine ⟨X ++ X1 ++ X2, ?_⟩
    show (iput n (gmul n B E) (ft ++ te) (iput n (gmul n E B) (te ++ ft) (L', true))).1 = _
    rw [x2, x1]
    simp only [hX', List.append_assoc])
   refine ⟨q', ?_, ?_, r3⟩
   ·rw [yb1]
    show (ya5 ((L', true, ()), (at_ : Int), ((n : Int), E, te, ()), (k : Int), z, ())).bind _ = _
    rw [hstep]
    exact r1
   ·rw [hdrop]
    exact r2
/-- what becomes of the elements when the i-th is gone through -/
def body (n i : Nat) (L : List Elt) : List Elt × Bool :=
 let e := L.getD i el0
 let p := if gmul n e.1.2 e.1.2 = e.1.2 then sput n (y0b n e.1.2) (y4i e.2) (L, false) else (L, false)
 zt9 n e (p.1.take (i + 1)) p
theorem zu0 {n : Nat} {L : List Elt} (h : LOk n L) (k : Nat) : LOk n (L.take k) := ⟨fun e he => h.el e (List.mem_of_mem_take he), by have := h.len; rw [List.length_take]; omega⟩
theorem z0r {n : Nat} {A : List Int} {t : ByteArray} {p : List Elt × Bool} : p.1.length ≤ (sput n A t p).1.length := by
 obtain ⟨L, F⟩ := p
 unfold sput
 cases has L A
 ·cases F
  ·cases decide ((L.length : Int) ≥ 120)
   ·cases decide ((t.size : Int) > 120)
    ·simp
    ·exact Nat.le_refl _
   ·exact Nat.le_refl _
  ·exact Nat.le_refl _
 ·exact Nat.le_refl _
theorem z5t {n : Nat} (h4 : n ≤ 4) {L : List Elt} (hL : LOk n L) {i : Nat} (hi : i < L.length) (w : List Elt) :
  yb6 (true, (L, false, ()), w, (i : Int), ()) = some (.inl (true, ((body n i L).1, (body n i L).2, ()), w, ((i + 1 : Nat) : Int), ())) ∧ LOk n (body n i L).1 := by
 have hlen := hL.len
 have hat := hL.at hi
 unfold body
 rcases he : L.getD i el0 with ⟨⟨m, E⟩, te⟩
 rw [he] at hat
 obtain ⟨m1, m2, m3⟩ := hat
 have m1 : m = (n : Int) := m1
 subst m1
 have hE : GOk n E := m2
 have hte : te.size ≤ 120 := m3
 have hw : IntKind.wrap .i64 ((i : Int) + 1) = ((i + 1 : Nat) : Int) := ya4 hi (by omega)
 have hsz : (⟨#[(40 : UInt8)]⟩ : ByteArray).size = 1 := rfl
 have hsz2 : (⟨#[(41 : UInt8), (35 : UInt8)]⟩ : ByteArray).size = 2 := rfl
 dsimp only
 by_cases hid : gmul n E E = E
 ·rw [if_pos hid]
  have hp := y6w (y36 hE) (y4i te) (p := (L, false)) hL
  have hgr := z0r (n := n) (A := y0b n E) (t := y4i te) (p := (L, false))
  obtain ⟨g1, g2⟩ := zp2 h4 hE hte (zu0 hp (i + 1)) w (i : Int) (sput n (y0b n E) (y4i te) (L, false)) hp
  refine ⟨?_, g2⟩
  have e1 := sput_78 h4 (L, false) hL (y36 hE) (y4i te) true w (i : Int) (n : Int) E te
  have e1 : yi3 ((L, false, ()), ((n : Int), y0b n E, ()), ((⟨#[(40 : UInt8)]⟩ : ByteArray) ++ te) ++ (⟨#[(41 : UInt8), (35 : UInt8)]⟩ : ByteArray), true, w, (i : Int), ((n : Int), E, te, ()), ()) = _ := e1
  have hgr : L.length ≤ (sput n (y0b n E) (y4i te) (L, false)).1.length := hgr
  have hp120 := hp.len
  simp only [yb6, decide_eq_true (show (i : Int) < (L.length : Int) by omega), cond_true, Bool.not_false, if_pos (in_t hi), Int.toNat_natCast, Nat.zero_add, he, y47 h4 hE, hid, decide_true, Option.bind_some, z2j h4 hE, List.drop_zero, List.take_length, if_true]
  rw [if_pos (by rw [hsz]; omega), if_pos (by rw [size_append, hsz, hsz2]; omega), e1]
  simp only [Option.bind_some, cond_true, hw, Int.toNat_natCast, Nat.sub_zero, Nat.zero_add, List.drop_zero, List.take_length, List.length_nil, List.nil_append, if_true]
  rw [if_pos ⟨by omega, by omega⟩, if_pos ⟨trivial, by rw [List.length_take]; omega⟩, g1]
  simp only [Option.bind_some, hw, Nat.zero_add, List.drop_zero, if_true]
 ·rw [if_neg hid]
  obtain ⟨g1, g2⟩ := zp2 h4 hE hte (zu0 hL (i + 1)) w (i : Int) (L, false) hL
  refine ⟨?_, g2⟩
  have g1 : ya2 yb5 (true, (L, false, ()), w, (i : Int), ((n : Int), E, te, ()), L.take (i + 1), ((L.take (i + 1)).length : Int), (0 : Int), ()) = _ := g1
  simp only [yb6, decide_eq_true (show (i : Int) < (L.length : Int) by omega), cond_true, Bool.not_false, if_pos (in_t hi), Int.toNat_natCast, Nat.zero_add, he, y47 h4 hE, decide_eq_false hid, cond_false, Option.bind_some, hw, Nat.sub_zero, List.drop_zero, List.take_length, List.length_nil, List.nil_append, if_true]
  rw [if_pos ⟨by omega, by omega⟩, if_pos ⟨trivial, by rw [List.length_take]; omega⟩, g1]
  simp only [Option.bind_some, hw, Nat.zero_add, List.drop_zero, if_true]
theorem z5u {n : Nat} (h1 : 1 ≤ n) (h4 : n ≤ 4) {L : List Elt} (hL : LOk n L) {i : Nat} (hi : i < L.length) :
  ∃ q', yb0 ((L, true, ()), (i : Int), ()) = some (.inl ((q'.1, q'.2, ()), ((i + 1 : Nat) : Int), ())) ∧ Same (body n i L) q' ∧ LOk n q'.1 := by
 have hlen := hL.len
 have hat := hL.at hi
 unfold body
 rcases he : L.getD i el0 with ⟨⟨m, E⟩, te⟩
 rw [he] at hat
 obtain ⟨m1, m2, m3⟩ := hat
 have m1 : m = (n : Int) := m1
 subst m1
 have hE : GOk n E := m2
 have hte : te.size ≤ 120 := m3
 have hw : IntKind.wrap .i64 ((i : Int) + 1) = ((i + 1 : Nat) : Int) := ya4 hi (by omega)
 have hsz : (⟨#[(40 : UInt8)]⟩ : ByteArray).size = 1 := rfl
 have hsz2 : (⟨#[(41 : UInt8), (35 : UInt8)]⟩ : ByteArray).size = 2 := rfl
 have h0 : Same (L, false) (L, true) := .inl ⟨rfl, rfl, rfl⟩
 dsimp only
 by_cases hid : gmul n E E = E
 ·rw [if_pos hid]
  have hp := y6w (y36 hE) (y4i te) (p := (L, false)) hL
  have hq := y9a (y36 hE) (y4i te) (p := (L, true)) hL
  have hs := h0.put (n := n) (A := y0b n E) (t := y4i te)
  have hgr : L.length ≤ (sput n (y0b n E) (y4i te) (L, false)).1.length := z0r (n := n) (A := y0b n E) (t := y4i te) (p := (L, false))
  obtain ⟨q', r1, r2, r3⟩ := y9b h1 h4 hE hte (zu0 hp (i + 1)) (at_ := i) (by rw [List.length_take]; omega) (i : Int) (i + 1) 0 (sput n (y0b n E) (y4i te) (L, false)) (iput n (y0b n E) (y4i te) (L, true)) (by omega) hs hp hq (fun hf => by
   rcases hs with ⟨_, _, e⟩ | ⟨_, e⟩
   ·exact ⟨_, by rw [e]; exact (List.take_append_drop (i + 1) _).symm⟩
   ·rw [e] at hf; cases hf)
  refine ⟨q', ?_, r2, r3⟩
  have r1 : ya2 ya5 (((iput n (y0b n E) (y4i te) (L, true)).1, (iput n (y0b n E) (y4i te) (L, true)).2, ()), (i : Int), ((n : Int), E, te, ()), (0 : Int), (i : Int), ()) = _ := r1
  have e1 := y71 h4 (L, true) hL (y36 hE) (y4i te) (i : Int) (n : Int) E te (i : Int)
  have e1 : yc9 ((L, true, ()), ((n : Int), y0b n E, ()), ((⟨#[(40 : UInt8)]⟩ : ByteArray) ++ te) ++ (⟨#[(41 : UInt8), (35 : UInt8)]⟩ : ByteArray), (i : Int), ((n : Int), E, te, ()), (i : Int), ()) = _ := e1
  simp only [yb0, decide_eq_true (show (i : Int) < (L.length : Int) by omega), cond_true, yh5, if_pos (in_t hi), Int.toNat_natCast, Nat.zero_add, he, y92 h1 h4 hE, if_pos hid, Option.bind_some, List.drop_zero, List.take_length]
  rw [if_pos (by rw [hsz]; omega), if_pos (by rw [size_append, hsz, hsz2]; omega), e1]
  simp only [Option.bind_some, List.drop_zero, List.take_length]
  rw [r1]
  simp only [Option.bind_some, List.drop_zero, List.take_length, hw]
 ·rw [if_neg hid]
  obtain ⟨q', r1, r2, r3⟩ := y9b h1 h4 hE hte (zu0 hL (i + 1)) (at_ := i) (by rw [List.length_take]; omega) (i : Int) (i + 1) 0 (L, false) (L, true) (by omega) h0 hL hL (fun hf => ⟨_, (List.take_append_drop (i + 1) _).symm⟩)
  refine ⟨q', ?_, r2, r3⟩
  have r1 : ya2 ya5 ((L, true, ()), (i : Int), ((n : Int), E, te, ()), (0 : Int), (i : Int), ()) = _ := r1
  simp only [yb0, decide_eq_true (show (i : Int) < (L.length : Int) by omega), cond_true, yh5, if_pos (in_t hi), Int.toNat_natCast, Nat.zero_add, he, y92 h1 h4 hE, if_neg hid, Option.bind_some, cond_false, List.drop_zero, List.take_length]
  rw [r1]
  simp only [Option.bind_some, List.drop_zero, List.take_length, hw]
def XOk (X : List Int → ByteArray → Prop) (L : List Elt) : Prop := ∀ e ∈ L, X e.1.2 e.2
structure Clo (n : Nat) (X : List Int → ByteArray → Prop) : Prop where
 app : ∀ A s C t, X A s → X C t → X (gmul n A C) (s ++ t)
 sh : ∀ A s, X A s → gmul n A A = A → X (y0b n A) (y4i s)
theorem z0s {X : List Int → ByteArray → Prop} {n : Nat} {A : List Int} {t : ByteArray} (ht : X A t) {p : List Elt × Bool} (h : XOk X p.1) : XOk X (sput n A t p).1 := by
 obtain ⟨L, F⟩ := p
 unfold sput
 cases has L A
 ·cases F
  ·cases decide ((L.length : Int) ≥ 120)
   ·cases decide ((t.size : Int) > 120)
    ·intro e he
     rcases List.mem_append.1 he with he | he
     ·exact h e he
     ·rw [List.mem_singleton] at he
      subst he
      exact ht
    ·exact h
   ·exact h
  ·exact h
 ·exact h
theorem z2n {X : List Int → ByteArray → Prop} {n : Nat} (hc : Clo n X) {e : Elt} (he : X e.1.2 e.2) : ∀ {W : List Elt} {p : List Elt × Bool}, XOk X W → XOk X p.1 → XOk X (zt9 n e W p).1
 | [], _, _, h => h
 | f :: W, p, hW, h => by
  have hf := hW f List.mem_cons_self
  exact z2n hc he (W := W) (p := s2 n e f p) (fun g hg => hW g (List.mem_cons_of_mem _ hg)) (z0s (hc.app _ _ _ _ hf he) (z0s (hc.app _ _ _ _ he hf) h))
theorem body_X {X : List Int → ByteArray → Prop} {n i : Nat} (hc : Clo n X) {L : List Elt} (hi : i < L.length) (h : XOk X L) : XOk X (body n i L).1 := by
 have he : X (L.getD i el0).1.2 (L.getD i el0).2 := by rw [yd4 el0 hi]; exact h _ (List.getElem_mem hi)
 unfold body
 dsimp only
 split
 ·rename_i hid
  have hp := z0s (n := n) (A := y0b n (L.getD i el0).1.2) (hc.sh _ _ he hid) (p := (L, false)) h
  exact z2n hc he (fun e h1 => hp e (List.mem_of_mem_take h1)) hp
 ·exact z2n hc he (fun e h1 => h e (List.mem_of_mem_take h1)) h
theorem z2o {n : Nat} (h1 : 1 ≤ n) (h4 : n ≤ 4) (w : List Elt) : ∀ (d i : Nat) (p q : List Elt × Bool), i + d = 121 → Same p q → LOk n p.1 → LOk n q.1 →
  ∃ p' q', ya2 yb6 (true, (p.1, p.2, ()), w, (i : Int), ()) = some ((p'.1, p'.2, ()), ()) ∧ ya2 yb0 ((q.1, q.2, ()), (i : Int), ()) = some ((q'.1, q'.2, ()), ()) ∧ Same p' q' ∧ LOk n p'.1 ∧ ∀ X : List Int → ByteArray → Prop, Clo n X → XOk X p.1 → XOk X p'.1 := by
 intro d
 induction d with
 | zero =>
  intro i p q hi hs hp hq
  obtain ⟨L, F⟩ := p
  obtain ⟨L', f⟩ := q
  have e1 : L.length ≤ 120 := hp.len
  have e2 : L'.length ≤ 120 := hq.len
  refine ⟨(L, F), (L', f), ?_, ?_, hs, hp, fun _ _ h => h⟩
  ·rw [yb1]
   simp only [yb6, decide_eq_false (show ¬ (i : Int) < (L.length : Int) by omega), cond_false, Nat.zero_add, List.drop_zero, List.take_length, if_true, Option.bind_some]
  ·rw [yb1]
   simp only [yb0, decide_eq_false (show ¬ (i : Int) < (L'.length : Int) by omega), cond_false, List.drop_zero, List.take_length, Option.bind_some]
 | succ d ih =>
  intro i p q hi hs hp hq
  obtain ⟨L, F⟩ := p
  obtain ⟨L', f⟩ := q
  rcases hs with ⟨a1, a2, a3⟩ | ⟨a1, a2⟩
  ·have a1 : F = false := a1
   have a2 : f = true := a2
   have a3 : L' = L := a3
   subst a1 a2 a3
   by_cases hlt : i < L'.length
   ·obtain ⟨g1, g2⟩ := z5t h4 hp hlt w
    obtain ⟨q', g3, g4, g5⟩ := z5u h1 h4 hp hlt
    obtain ⟨p2, q2, k1, k2, k3⟩ := ih (i + 1) (body n i L') q' (by omega) g4 g2 g5
    refine ⟨p2, q2, ?_, ?_, k3.1, k3.2.1, fun X hX h => k3.2.2 X hX (body_X hX hlt h)⟩
    ·rw [yb1]
     show (yb6 (true, (L', false, ()), w, (i : Int), ())).bind _ = _
     rw [g1]
     exact k1
    ·rw [yb1]
     show (yb0 ((L', true, ()), (i : Int), ())).bind _ = _
     rw [g3]
     exact k2
   ·refine ⟨(L', false), (L', true), ?_, ?_, .inl ⟨rfl, rfl, rfl⟩, hp, fun _ _ h => h⟩
    ·rw [yb1]
     simp only [yb6, decide_eq_false (show ¬ (i : Int) < (L'.length : Int) by omega), cond_false, Nat.zero_add, List.drop_zero, List.take_length, if_true, Option.bind_some]
    ·rw [yb1]
     simp only [yb0, decide_eq_false (show ¬ (i : Int) < (L'.length : Int) by omega), cond_false, List.drop_zero, List.take_length, Option.bind_some]
  ·have a1 : F = true := a1
   have a2 : f = false := a2
   subst a1 a2
   refine ⟨(L, true), (L', false), ?_, ?_, .inr ⟨rfl, rfl⟩, hp, fun _ _ h => h⟩
   ·rw [yb1]
    simp only [yb6]
    cases decide ((i : Int) < (L.length : Int)) <;> simp only [cond_true, cond_false, Bool.not_true, Nat.zero_add, List.drop_zero, List.take_length, if_true, Option.bind_some]
   ·rw [yb1]
    simp only [yb0]
    cases decide ((i : Int) < (L'.length : Int)) <;> simp only [cond_true, cond_false, List.drop_zero, List.take_length, Option.bind_some]
end Go.Proofs.YtogigagfgkfkhaaGreat

/- The elements of any automaton, and what is asked of them: both sides tell the same. -/
namespace Go.Proofs.YtogigagfgkfkhaaGreat
open Go Go.Proofs.YtogigagfgkfkhaaGreat.Am
def lett (c : ByteArray) (n : Nat) (l : List Stp) : List Int := (yk8 c n l l.length).map gr
theorem zj1 {a : Aut} {n : Nat} (ha : AutIs a n) {p : List Elt × Bool} (hp : LOk n p.1) {w : List Elt} (hw : w.length ≤ 2) {k : Nat} (hk : k < 2) {c : ByteArray} (hc : List.getD [la, lb] k (⟨Array.empty⟩ : ByteArray) = c) :
  yg2 (true, (a.1, a.2.1, a.2.2.1, a.2.2.2, ()), (p.1, p.2, ()), w, [la, lb], (2 : Int), (k : Int), ()) = some (.inl (true, (a.1, a.2.1, a.2.2.1, a.2.2.2, ()), ((sput n (lett c n a.2.2.2) c p).1, (sput n (lett c n a.2.2.2) c p).2, ()), w ++ [(((n : Int), lett c n a.2.2.2), c)], [la, lb], (2 : Int), ((k + 1 : Nat) : Int), ())) := by
 have hr := yw3 ha c
 have hm := y0h ha c
 obtain ⟨x, S, F, l⟩ := a
 have hm : yo2 (x, S, F, l) c = some ((n : Int), yk8 c n l l.length) := hm
 have hg := z2k ha.n4 hr.1
 have hA : GOk n (lett c n l) := gr_ok hr.1
 have e1 := sput_39 ha.n4 p hp hA c x S F l true (w ++ [(((n : Int), lett c n l), c)]) [la, lb] (2 : Int) (k : Int)
 simp only [yg2, decide_eq_true (show (k : Int) < 2 by omega), cond_true, Int.toNat_natCast, Nat.zero_add, hc, hm, Option.bind_some, List.drop_zero, List.take_length]
 rw [if_pos ⟨by omega, by simp; omega⟩, show yy0 ((n : Int), yk8 c n l l.length) = some ((n : Int), lett c n l) from hg]
 simp only [Option.bind_some, List.drop_zero, List.take_length, show List.take 1 [(((n : Int), lett c n l), c)] = [(((n : Int), lett c n l), c)] from rfl, List.take_of_length_le (show (w ++ [(((n : Int), lett c n l), c)]).length ≤ w.length + [(((n : Int), lett c n l), c)].length by simp), if_true]
 rw [if_pos ⟨trivial, by simp; omega⟩, e1]
 simp only [Option.bind_some, Nat.zero_add, List.drop_zero, List.take_length, if_true, ya4 hk (by omega)]
theorem zj2 {a : Aut} {n : Nat} (ha : AutIs a n) (hv : yk4 a = true) (hs : yt9 a) {p : List Elt × Bool} (hp : LOk n p.1) {k : Nat} (hk : k < 2) {c : ByteArray} (hc : List.getD [la, lb] k (⟨Array.empty⟩ : ByteArray) = c) (hc2 : c = la ∨ c = lb) :
  yd6 ((a.1, a.2.1, a.2.2.1, a.2.2.2, ()), (p.1, p.2, ()), [la, lb], (2 : Int), (k : Int), ()) = some (.inl ((a.1, a.2.1, a.2.2.1, a.2.2.2, ()), ((iput n (lett c n a.2.2.2) c p).1, (iput n (lett c n a.2.2.2) c p).2, ()), [la, lb], (2 : Int), ((k + 1 : Nat) : Int), ())) := by
 have hr := yw3 ha c
 have hm := zl6 ha hv hs hc2
 obtain ⟨x, S, F, l⟩ := a
 have hm : y0l (x, S, F, l) c = some (((n : Int), lett c n l), true) := hm
 have hA : GOk n (lett c n l) := gr_ok hr.1
 have e1 := zt8 ha.n4 p hp hA c x S F l [la, lb] (2 : Int) (k : Int)
 simp only [yd6, decide_eq_true (show (k : Int) < 2 by omega), cond_true, Int.toNat_natCast, Nat.zero_add, hc, hm, Option.bind_some, List.drop_zero, List.take_length]
 rw [if_pos ⟨by omega, by simp; omega⟩, e1]
 simp only [Option.bind_some, Nat.zero_add, List.drop_zero, List.take_length, if_true, ya4 hk (by omega)]
theorem LOk.nil (n : Nat) : LOk n [] := ⟨fun e he => (by cases he), (by simp)⟩
theorem kc8 {L : List Elt} {n : Nat} (hL : LOk n L) (h4 : n ≤ 4) : yn1 L = some L := by
 have hlen := hL.len
 have hsq := y2a h4
 obtain ⟨r, g1, g2⟩ := yg3 (f := yd3) L.length (fun i (o : List Elt) => (o, L, (L.length : Int), (i : Int), ())) (fun i o => o ++ [L.getD i el0]) (fun o => (o, ())) (fun i o => o = L.take i)
  (fun i o hi ho => by subst ho; rw [yk5 hi, yd4 el0 hi])
  (fun i o hi ho => by
   have hol : o.length = i := by subst ho; rw [List.length_take]; omega
   have hat := hL.at hi
   rcases he : L.getD i el0 with ⟨⟨m, E⟩, te⟩
   rw [he] at hat
   have hE : E.length = n * n := hat.2.1.1
   have e1 : yr3 ((m, E), te) = some ((m, E), te) := by
    simp only [yr3, y0a, List.length_nil, Nat.zero_add, List.drop_zero, List.nil_append, List.take_length]
    rw [if_pos ⟨trivial, by rw [hE]; omega⟩]
    simp only [Option.bind_some, List.take_length]
   simp only [yd3, lt_t hi, cond_true, if_pos (in_t hi), Int.toNat_natCast, he, e1, Option.bind_some, List.drop_zero, List.take_length, Nat.zero_add, show List.take 1 [((m, E), te)] = [((m, E), te)] from rfl]
   rw [if_pos ⟨trivial, by simp; omega⟩, List.take_of_length_le (by simp), ya4 hi (by omega)])
  (fun o ho => by simp only [yd3, lt_f, cond_false, List.drop_zero, List.take_length])
  [] rfl
 have g1 : ya2 yd3 ([], L, (L.length : Int), (0 : Int), ()) = _ := g1
 rw [List.take_length] at g2
 simp only [yn1, List.drop_zero, List.take_nil]
 rw [g1, g2]
 simp only [Option.bind_some, List.drop_zero, List.take_length]
/-- the elements, told of steps alone -/
noncomputable def z4d (n : Nat) (st : List Stp) : Option (List Elt × Bool) :=
 (ya2 yb6 (true, ((sput n (lett lb n st) lb (sput n (lett la n st) la ([], false))).1, (sput n (lett lb n st) lb (sput n (lett la n st) la ([], false))).2, ()), [] ++ [(((n : Int), lett la n st), la)] ++ [(((n : Int), lett lb n st), lb)], (0 : Int), ())).map fun r => if r.1.2.1 then ([], false) else (r.1.1, true)
theorem y74 {a : Aut} {n : Nat} (ha : AutIs a n) (hv : yk4 a = true) (hs : yt9 a) : ∃ L ok, LOk n L ∧ yi2 a = some (L, ok) ∧ yd1 a = some (L, ok) ∧ (ok = false → L = []) ∧ (∀ X : List Int → ByteArray → Prop, Clo n X → X (lett la n a.2.2.2) la → X (lett lb n a.2.2.2) lb → XOk X L) ∧ z4d n a.2.2.2 = some (L, ok) := by
 have a1 := zj1 ha (LOk.nil n) (p := ([], false)) (w := []) (by simp) (show 0 < 2 by omega) (c := la) rfl
 have okA : GOk n (lett la n a.2.2.2) := gr_ok (yw3 ha la).1
 have okB : GOk n (lett lb n a.2.2.2) := gr_ok (yw3 ha lb).1
 have p1 := y6w okA la (p := ([], false)) (LOk.nil n)
 have q1 := y9a okA la (p := ([], true)) (LOk.nil n)
 have a2 := zj1 ha p1 (w := [] ++ [(((n : Int), lett la n a.2.2.2), la)]) (by simp) (show 1 < 2 by omega) (c := lb) rfl
 have b1 := zj2 ha hv hs (LOk.nil n) (p := ([], true)) (show 0 < 2 by omega) (c := la) rfl (.inl rfl)
 have b2 := zj2 ha hv hs q1 (show 1 < 2 by omega) (c := lb) rfl (.inr rfl)
 have s1 : Same (([], false) : List Elt × Bool) ([], true) := .inl ⟨rfl, rfl, rfl⟩
 have s2 := (s1.put (n := n) (A := lett la n a.2.2.2) (t := la)).put (n := n) (A := lett lb n a.2.2.2) (t := lb)
 obtain ⟨p', q', g1, g2, g3, g4, g5⟩ := z2o ha.n1 ha.n4 ([] ++ [(((n : Int), lett la n a.2.2.2), la)] ++ [(((n : Int), lett lb n a.2.2.2), lb)]) 121 0 _ _ (by omega) s2 (y6w okB lb p1) (y9a okB lb q1)
 have hS : yy1 a true = some (p'.1, !p'.2) := by
  obtain ⟨x, S, F, l⟩ := a
  have a1 : yg2 (true, (x, S, F, l, ()), ([], false, ()), [], [la, lb], (2 : Int), (0 : Int), ()) = _ := a1
  have a2 : yg2 (true, (x, S, F, l, ()), _, _, [la, lb], (2 : Int), ((0 + 1 : Nat) : Int), ()) = _ := a2
  simp only [yy1, List.length_nil, List.drop_zero, List.take_zero, if_true, Nat.add_zero, show List.take 2 [la, lb] = [la, lb] from rfl, show ((2 : Nat) : Int) = 2 from rfl]
  rw [yb1, a1]
  simp only [Option.bind_some]
  rw [yb1, a2]
  simp only [Option.bind_some]
  rw [yb1]
  simp only [yg2, show decide (((1 + 1 : Nat) : Int) < 2) = false from rfl, cond_false, Nat.zero_add, List.drop_zero, List.take_length, if_true, Option.bind_some]
  have g1 : ya2 yb6 (true, _, _, (0 : Int), ()) = _ := g1
  rw [g1]
  simp only [Option.bind_some]
 have hI : yi9 (a, ()) = some ((if p'.2 then [] else p'.1, !p'.2, ()), ()) := by
  have hA := yb9 a (yf5 hs).1 (yf5 hs).2
  obtain ⟨x, S, F, l⟩ := a
  have b1 : yd6 ((x, S, F, l, ()), ([], true, ()), [la, lb], (2 : Int), (0 : Int), ()) = _ := b1
  have b2 : yd6 ((x, S, F, l, ()), _, [la, lb], (2 : Int), ((0 + 1 : Nat) : Int), ()) = _ := b2
  simp only [yi9, hA, hv, Option.bind_some, Bool.not_true, cond_false, List.drop_zero, show List.take 2 [la, lb] = [la, lb] from rfl, show ((2 : Nat) : Int) = 2 from rfl]
  rw [yb1, b1]
  simp only [Option.bind_some]
  rw [yb1, b2]
  simp only [Option.bind_some]
  rw [yb1]
  simp only [yd6, show decide (((1 + 1 : Nat) : Int) < 2) = false from rfl, cond_false, List.drop_zero, List.take_length, Option.bind_some]
  have g2 : ya2 yb0 (_, (0 : Int), ()) = _ := g2
  rw [g2]
  obtain ⟨L, F⟩ := p'
  obtain ⟨L', f⟩ := q'
  rcases g3 with ⟨c1, c2, c3⟩ | ⟨c1, c2⟩
  ·have c1 : F = false := c1
   have c2 : f = true := c2
   have c3 : L' = L := c3
   subst c1 c2 c3
   simp
  ·have c1 : F = true := c1
   have c2 : f = false := c2
   subst c1 c2
   simp
 have hSv := yd8 a (yf5 hs).1 (yf5 hs).2
 have hO : z4d n a.2.2.2 = some (if p'.2 then ([], false) else (p'.1, true)) := by
  unfold z4d
  rw [show ya2 yb6 (true, _, _, (0 : Int), ()) = _ from g1]
  rfl
 obtain ⟨x, S, F, l⟩ := a
 obtain ⟨L, full⟩ := p'
 have g4 : LOk n L := g4
 cases full with
 | true =>
  refine ⟨[], false, LOk.nil n, ?_, ?_, fun _ => rfl, (fun _ _ _ _ e he => by cases he), hO⟩
  ·simp only [yi2, yl5, hSv, hv, hS, Option.bind_some, Bool.not_true, Bool.not_false, cond_false, cond_true, List.drop_zero, List.take_zero, kc8 (LOk.nil n) ha.n4, List.take_length]
  ·simp only [yd1, hI, Option.bind_some, if_true, List.drop_zero, List.take_length]
   rfl
 | false =>
  refine ⟨L, true, g4, ?_, ?_, (fun h => by cases h), (fun X hX xa xb => g5 X hX (z0s xb (z0s xa fun e he => by cases he))), hO⟩
  ·simp only [yi2, yl5, hSv, hv, hS, Option.bind_some, Bool.not_true, Bool.not_false, cond_false, cond_true, List.drop_zero, kc8 g4 ha.n4, List.take_length]
  ·simp only [yd1, hI, Option.bind_some, List.drop_zero, List.take_length]
   simp
theorem y6c {a : Aut} {n : Nat} (ha : AutIs a n) (hv : yk4 a = true) (hs : yt9 a) : ∃ L ok, LOk n L ∧ yi2 a = some (L, ok) ∧ yd1 a = some (L, ok) ∧ (ok = false → L = []) := by
 obtain ⟨L, ok, h1, h2, h3, h4, _, _⟩ := y74 ha hv hs
 exact ⟨L, ok, h1, h2, h3, h4⟩
theorem y93 {a : Aut} (hv : yk4 a = false) (hs : yt9 a) : yi2 a = some ([], false) ∧ yd1 a = some ([], false) := by
 have hA := yb9 a (yf5 hs).1 (yf5 hs).2
 have hSv := yd8 a (yf5 hs).1 (yf5 hs).2
 obtain ⟨x, S, F, l⟩ := a
 constructor
 ·simp only [yi2, yl5, hSv, hv, Option.bind_some, Bool.not_false, cond_true, List.drop_zero, List.take_zero, kc8 (LOk.nil 1) (by omega), List.take_length]
 ·simp only [yd1, yi9, hA, hv, Option.bind_some, Bool.not_false, cond_true, List.drop_zero, List.take_length]
/-! ### the grade from a start to a final -/
def btwF (n : Nat) (A : List Int) (i : Int) (F : List Int) (c : Int) : Int := F.foldl (fun c k => mn c (A.getD (i.toNat * n + k.toNat) 0)) c
def btw (n : Nat) (A : List Int) (S F : List Int) : Int := S.foldl (fun c i => btwF n A i F c) 3
section
variable {n : Nat} (h1 : 1 ≤ n) (h4 : n ≤ 4) {S F : List Int} (l : List Stp) (hS : ∀ q ∈ S, 0 ≤ q ∧ q ≤ (n : Int) - 1) (hF : ∀ q ∈ F, 0 ≤ q ∧ q ≤ (n : Int) - 1) (lS : S.length ≤ 1048576) (lF : F.length ≤ 1048576) {A : List Int} (hA : GOk n A)
include h4 hF lF hA
theorem zj3 (c : Int) {i : Int} (hi : 0 ≤ i ∧ i ≤ (n : Int) - 1) (u v : Int) : ya2 yh6 (((n : Int), S, F, l, ()), ((n : Int), A, ()), c, i, S, u, v, F, (F.length : Int), (0 : Int), ()) = some (((n : Int), S, F, l, ()), ((n : Int), A, ()), btwF n A i F c, S, u, v, ()) := by
 obtain ⟨r, g1, g2⟩ := yg3 (f := yh6) F.length (fun j (c : Int) => (((n : Int), S, F, l, ()), ((n : Int), A, ()), c, i, S, u, v, F, (F.length : Int), (j : Int), ())) (fun j c => mn c (A.getD (i.toNat * n + (F.getD j 0).toNat) 0)) (fun c => (((n : Int), S, F, l, ()), ((n : Int), A, ()), c, S, u, v, ()))
  (fun j c' => c' = btwF n A i (F.take j) c)
  (fun j c' hj hc => by subst hc; unfold btwF; rw [yk5 hj, List.foldl_append, yd4 0 hj]; rfl)
  (fun j c' hj hc => by
   have hk := hF _ (show F.getD j 0 ∈ F by rw [yd4 0 hj]; exact List.getElem_mem hj)
   obtain ⟨w1, w2⟩ := mulwI h4 hi hk
   simp only [yh6, lt_t hj, cond_true, if_pos (in_t hj), Int.toNat_natCast, w1]
   rw [if_pos ⟨by omega, by rw [hA.1]; omega⟩]
   simp only [ya4 hj (show F.length ≤ 9223372036854775807 by omega)]
   rfl)
  (fun c' hc => by simp only [yh6, lt_f, cond_false])
  c rfl
 have g1 : ya2 yh6 (((n : Int), S, F, l, ()), ((n : Int), A, ()), c, i, S, u, v, F, (F.length : Int), (0 : Int), ()) = _ := g1
 rw [g1, g2, List.take_length]
include hS lS in
theorem z0t : y0g ((n : Int), S, F, l) ((n : Int), A) = some (btw n A S F) := by
 obtain ⟨r, g1, g2⟩ := yg3 (f := yj1) S.length (fun j (c : Int) => (((n : Int), S, F, l, ()), ((n : Int), A, ()), c, S, (S.length : Int), (j : Int), ())) (fun j c => btwF n A (S.getD j 0) F c) (fun c => (c, ()))
  (fun j c' => c' = (S.take j).foldl (fun c i => btwF n A i F c) 3)
  (fun j c' hj hc => by subst hc; rw [yk5 hj, List.foldl_append, yd4 0 hj]; rfl)
  (fun j c' hj hc => by
   have hk := hS _ (show S.getD j 0 ∈ S by rw [yd4 0 hj]; exact List.getElem_mem hj)
   simp only [yj1, lt_t hj, cond_true, if_pos (in_t hj), Int.toNat_natCast, zj3 h4 l hF lF hA c' hk, Option.bind_some, ya4 hj (show S.length ≤ 9223372036854775807 by omega)])
  (fun c' hc => by simp only [yj1, lt_f, cond_false])
  3 rfl
 have g1 : ya2 yj1 (((n : Int), S, F, l, ()), ((n : Int), A, ()), (3 : Int), S, (S.length : Int), (0 : Int), ()) = _ := g1
 simp only [y0g]
 rw [g1, g2, List.take_length]
 rfl
theorem zj4 (c : Int) {i : Int} (hi : 0 ≤ i ∧ i ≤ (n : Int) - 1) (u v : Int) : ya2 yf1 (((n : Int), S, F, l, ()), ((n : Int), A, ()), c, i, S, u, v, F, (F.length : Int), (0 : Int), ()) = some (((n : Int), S, F, l, ()), ((n : Int), A, ()), btwF n A i F c, S, u, v, ()) := by
 obtain ⟨r, g1, g2⟩ := yg3 (f := yf1) F.length (fun j (c : Int) => (((n : Int), S, F, l, ()), ((n : Int), A, ()), c, i, S, u, v, F, (F.length : Int), (j : Int), ())) (fun j c => mn c (A.getD (i.toNat * n + (F.getD j 0).toNat) 0)) (fun c => (((n : Int), S, F, l, ()), ((n : Int), A, ()), c, S, u, v, ()))
  (fun j c' => c' = btwF n A i (F.take j) c)
  (fun j c' hj hc => by subst hc; unfold btwF; rw [yk5 hj, List.foldl_append, yd4 0 hj]; rfl)
  (fun j c' hj hc => by
   have hk := hF _ (show F.getD j 0 ∈ F by rw [yd4 0 hj]; exact List.getElem_mem hj)
   obtain ⟨w1, w2⟩ := mulwI h4 hi hk
   simp only [yf1, lt_t hj, cond_true, if_pos (in_t hj), Int.toNat_natCast, yf0, w1]
   rw [if_pos ⟨by omega, by rw [hA.1]; omega⟩]
   simp only [Option.bind_some, ya4 hj (show F.length ≤ 9223372036854775807 by omega)]
   rfl)
  (fun c' hc => by simp only [yf1, lt_f, cond_false])
  c rfl
 have g1 : ya2 yf1 (((n : Int), S, F, l, ()), ((n : Int), A, ()), c, i, S, u, v, F, (F.length : Int), (0 : Int), ()) = _ := g1
 rw [g1, g2, List.take_length]
include h1 hS lS in
theorem z0u (hv : yk4 ((n : Int), S, F, l) = true) : yp6 ((n : Int), S, F, l) ((n : Int), A) = some (btw n A S F) := by
 obtain ⟨r, g1, g2⟩ := yg3 (f := yg1) S.length (fun j (c : Int) => (((n : Int), S, F, l, ()), ((n : Int), A, ()), c, S, (S.length : Int), (j : Int), ())) (fun j c => btwF n A (S.getD j 0) F c) (fun c => (c, ()))
  (fun j c' => c' = (S.take j).foldl (fun c i => btwF n A i F c) 3)
  (fun j c' hj hc => by subst hc; rw [yk5 hj, List.foldl_append, yd4 0 hj]; rfl)
  (fun j c' hj hc => by
   have hk := hS _ (show S.getD j 0 ∈ S by rw [yd4 0 hj]; exact List.getElem_mem hj)
   simp only [yg1, lt_t hj, cond_true, if_pos (in_t hj), Int.toNat_natCast, zj4 h4 l hF lF hA c' hk, Option.bind_some, ya4 hj (show S.length ≤ 9223372036854775807 by omega)])
  (fun c' hc => by simp only [yg1, lt_f, cond_false])
  3 rfl
 have g1 : ya2 yg1 (((n : Int), S, F, l, ()), ((n : Int), A, ()), (3 : Int), S, (S.length : Int), (0 : Int), ()) = _ := g1
 have hA' := yb9 ((n : Int), S, F, l) (show S.length ≤ _ by omega) (show F.length ≤ _ by omega)
 simp only [yp6, hA', hv, y2z h1 h4 hA, Option.bind_some, Bool.not_true, cond_false, bne_self_eq_false]
 rw [g1, g2, List.take_length]
 rfl
end
/-! ### the first element for which something holds -/
def y0y (L : List Elt) (p : Elt → Bool) : ByteArray × Bool := match (List.range L.length).find? fun i => p (L.getD i el0) with | some i => ((L.getD i el0).2, true) | none => ((⟨#[]⟩ : ByteArray), false)
theorem y94 {a : Aut} {L : List Elt} {ok : Bool} (hE : yd1 a = some (L, ok)) (hl : L.length ≤ 120) {φ : (((Int × List Int)) × Unit) → Option Bool} {p : Elt → Bool} (hφ : ∀ e ∈ L, φ (e.1, ()) = some (p e)) : y0f a φ = some (y0y L p) := by
 have g := yo5 (f := yj0) (fun i => (φ, L, (L.length : Int), (i : Int), ())) L.length (fun i => p (L.getD i el0)) (fun i => Sum.inl ((L.getD i el0).2, true, ())) (Sum.inr ())
  (fun i hi => by
   have hm : L.getD i el0 ∈ L := by rw [yd4 el0 hi]; exact List.getElem_mem hi
   have hp := hφ _ hm
   have hp : φ (((L.getD i el0).1.1, (L.getD i el0).1.2), ()) = some (p (L.getD i el0)) := hp
   simp only [yj0, lt_t hi, cond_true, if_pos (in_t hi), Int.toNat_natCast, Nat.zero_add, hp, Option.bind_some, List.drop_zero, List.take_length, ya4 hi (show L.length ≤ 9223372036854775807 by omega)]
   cases p (L.getD i el0) <;> rfl)
  (by simp only [yj0, lt_f, cond_false])
 have g : ya2 yj0 (φ, L, (L.length : Int), (0 : Int), ()) = _ := g
 obtain ⟨x, S, F, l⟩ := a
 simp only [y0f, hE, Option.bind_some, List.drop_zero, List.take_length]
 rw [g]
 unfold y0y
 cases (List.range L.length).find? fun i => p (L.getD i el0) <;> rfl
end Go.Proofs.YtogigagfgkfkhaaGreat

/- Bounded costs and elements that grow between two states: both sides tell the same; the laws. -/
namespace Go.Proofs.YtogigagfgkfkhaaGreat
open Go Go.Proofs.YtogigagfgkfkhaaGreat.Am
def zj5 (n : Nat) (S F : List Int) (e : Elt) : Bool := btw n e.1.2 S F == 2
theorem y2r {a : Aut} {n : Nat} (ha : AutIs a n) (hv : yk4 a = true) (hs : yt9 a) {L : List Elt} {ok : Bool} (hL : LOk n L) (hE : yd1 a = some (L, ok)) : yh9 a = some (y0y L (zj5 n a.2.1 a.2.2.1)) := by
 obtain ⟨x, S, F, l⟩ := a
 have hx : x = (n : Int) := ha.st
 subst hx
 have hb := fun (e : Elt) (he : e ∈ L) => z0u ha.n1 ha.n4 l ha.S ha.F hs.1 hs.2.1 (hL.el e he).2.1 hv
 simp only [yh9]
 rw [y94 hE hL.len (p := zj5 n S F) (fun e he => by
  have h1 := (hL.el e he).1
  have h2 := hb e he
  obtain ⟨⟨m, B⟩, t⟩ := e
  have h1 : m = (n : Int) := h1
  subst h1
  have h2 : yp6 ((n : Int), S, F, l) ((n : Int), B) = some (btw n B S F) := h2
  show yv3 ((n : Int), B) ((n : Int), S, F, l) = _
  simp only [yv3, h2, Option.bind_some]
  rfl)]
 rfl
theorem y75 {a : Aut} (hE : yd1 a = some ([], false)) : yh9 a = some ((⟨#[]⟩ : ByteArray), false) := by
 obtain ⟨x, S, F, l⟩ := a
 simp only [yh9]
 rw [y94 hE (by simp) (p := fun _ => false) (fun e he => by cases he)]
 rfl
theorem z0v {a : Aut} (hs : yt9 a) : ∃ r, yq9 a = some r ∧ yi0 a = some r := by
 cases hv : yk4 a with
 | false =>
  obtain ⟨e1, e2⟩ := y93 hv hs
  have e3 := y75 e2
  obtain ⟨x, S, F, l⟩ := a
  refine ⟨(false, false), ?_, ?_⟩
  ·simp only [yq9, e1, Option.bind_some, Bool.not_false, cond_true]
  ·simp only [yi0, e2, e3, Option.bind_some, cond_false]
 | true =>
  obtain ⟨n, ha⟩ := y7x hv
  obtain ⟨L, ok, hL, e1, e2, e0⟩ := y6c ha hv hs
  have e3 := y2r ha hv hs hL e2
  obtain ⟨x, S, F, l⟩ := a
  have hx : x = (n : Int) := ha.st
  subst hx
  have hlen := hL.len
  have g := yo5 (f := yj2) (fun i => (((n : Int), S, F, l, ()), L, (L.length : Int), (i : Int), ())) L.length (fun i => zj5 n S F (L.getD i el0)) (fun i => Sum.inl (false, true, ())) (Sum.inr ())
   (fun i hi => by
    have hat := hL.at hi
    have hm : L.getD i el0 ∈ L := by rw [yd4 el0 hi]; exact List.getElem_mem hi
    have hb := z0t ha.n4 l ha.S ha.F hs.1 hs.2.1 (hL.el _ hm).2.1
    simp only [yj2, lt_t hi, cond_true, if_pos (in_t hi), Int.toNat_natCast, Nat.zero_add, hat.1, hb, Option.bind_some, List.drop_zero, List.take_length, ya4 hi (show L.length ≤ 9223372036854775807 by omega)]
    unfold zj5
    cases btw n (L.getD i el0).1.2 S F == 2 <;> rfl)
   (by simp only [yj2, lt_f, cond_false])
  have g : ya2 yj2 (((n : Int), S, F, l, ()), L, (L.length : Int), (0 : Int), ()) = _ := g
  cases ok with
  | false =>
   have := e0 rfl
   subst this
   refine ⟨(false, false), ?_, ?_⟩
   ·simp only [yq9, e1, Option.bind_some, Bool.not_false, cond_true]
   ·simp only [yi0, e2, e3, Option.bind_some, cond_false]
  | true =>
   refine ⟨(!(y0y L (zj5 n S F)).2, true), ?_, ?_⟩
   ·simp only [yq9, e1, Option.bind_some, Bool.not_true, cond_false, List.drop_zero, List.take_length]
    rw [g]
    unfold y0y
    cases (List.range L.length).find? fun i => zj5 n S F (L.getD i el0) <;> rfl
   ·simp only [yi0, e2, e3, Option.bind_some, cond_true]
end Go.Proofs.YtogigagfgkfkhaaGreat
