import Derived.Test.YtfdhmmnffahhgaaGreatP6
set_option linter.unusedVariables false
set_option linter.unusedSimpArgs false
/- Products of matrices: the least costs of runs. -/
namespace Go.Proofs.YtfdhmmnffahhgaaGreat
open Go Go.Proofs.YtfdhmmnffahhgaaGreat.Am
theorem k0i {x y : Int} (hx : 0 ≤ x ∧ x ≤ Nv) (hy : 0 ≤ y ∧ y ≤ Nv) : ∃ r, y3z x y = some r ∧ 0 ≤ r ∧ r ≤ Nv ∧ ∀ z, z ≤ r ↔ z ≤ Nv ∧ z ≤ x + y := by
 simp only [Nv] at *
 simp only [y3z, w64 (show -9223372036854775808 ≤ x + y by omega) (by omega)]
 refine ⟨_, rfl, ?_, ?_, fun z => ?_⟩ <;> split <;> omega
theorem z8d (x y z : Int) : (z ≤ if x < y then x else y) ↔ z ≤ y ∧ z ≤ x := by split <;> omega
theorem z8e (i n : Nat) : Int.tdiv (i : Int) (n : Int) = ((i / n : Nat) : Int) := rfl
theorem z8f (i n : Nat) : Int.tmod (i : Int) (n : Int) = ((i % n : Nat) : Int) := rfl
theorem mulw {i n l : Nat} (h : i * n + l ≤ 1000000) : IntKind.wrap .i64 (IntKind.wrap .i64 ((i : Int) * (n : Int)) + (l : Int)) = ((i * n + l : Nat) : Int) := by
 have e : (i : Int) * (n : Int) = ((i * n : Nat) : Int) := by simp
 rw [e, w64 (n := ((i * n : Nat) : Int)) (by omega) (by omega), w64 (by omega) (by omega)]
 omega
theorem w64n {q : Nat} (h : q ≤ 1000000) : IntKind.wrap .i64 (q : Int) = (q : Int) := w64 (by omega) (by omega)
theorem sqw {n : Nat} (h4 : n ≤ 4) : IntKind.wrap .i64 ((n : Int) * (n : Int)) = ((n * n : Nat) : Int) := by
 have := y0w h4
 have e : (n : Int) * (n : Int) = ((n * n : Nat) : Int) := by simp
 rw [e]
 exact w64 (by omega) (by omega)
/-- lists in rows and columns -/
theorem zg1 {n m : Nat} (h : m < n * n) : m / n < n ∧ m % n < n ∧ m / n * n + m % n = m := by
 have hn : 0 < n := by
  rcases Nat.eq_zero_or_pos n with rfl | h0
  ·simp at h
  ·exact h0
 refine ⟨?_, Nat.mod_lt _ hn, ?_⟩
 ·exact (Nat.div_lt_iff_lt_mul hn).2 h
 ·rw [Nat.mul_comm]; exact Nat.div_add_mod m n
theorem zu5 {n i k : Nat} (hk : k < n) : (i * n + k) / n = i ∧ (i * n + k) % n = k := by
 constructor
 ·rw [Nat.mul_comm, Nat.mul_add_div (by omega), Nat.div_eq_of_lt hk]; omega
 ·rw [Nat.mul_comm, Nat.mul_add_mod, Nat.mod_eq_of_lt hk]
theorem z4b {o : List Int} {x : Int} {m : Nat} : (o ++ [x]).getD m 0 = if m = o.length then x else o.getD m 0 := by
 simp only [List.getD_eq_getElem?_getD, List.getElem?_append]
 by_cases h : m < o.length
 ·rw [if_pos h, if_neg (by omega)]
 ·by_cases e : m = o.length
  ·subst e; simp
  ·rw [if_neg h, if_neg e]
   simp only [List.getElem?_eq_none (show o.length ≤ m by omega)]
   rw [List.getElem?_eq_none (by simp; omega)]
/-- a product -/
def MulIs (n : Nat) (A B C : List Int) : Prop := Rng C (n * n) ∧ ∀ i k, i < n → k < n → ∀ z, z ≤ C.getD (i * n + k) 0 ↔ z ≤ Nv ∧ ∀ l, l < n → z ≤ A.getD (i * n + l) 0 + B.getD (l * n + k) 0
theorem k0j {n : Nat} (h4 : n ≤ 4) {A B : List Int} (hA : Rng A (n * n)) (hB : Rng B (n * n)) (o : List Int) {i k : Nat} (hi : i < n) (hk : k < n) (u v : Int) :
  ∃ r : Int, ya4 yp0 (((n : Int), A, ()), ((n : Int), B, ()), ((0 : Int), [], ()), ((n : Int), o, ()), (i : Int), (k : Int), (1000000 : Int), u, v, (n : Int), (0 : Int), ()) = some (((n : Int), A, ()), ((n : Int), B, ()), ((0 : Int), [], ()), ((n : Int), o, ()), r, u, v, ()) ∧
   (0 ≤ r ∧ r ≤ Nv) ∧ ∀ z, z ≤ r ↔ z ≤ Nv ∧ ∀ l, l < n → z ≤ A.getD (i * n + l) 0 + B.getD (l * n + k) 0 := by
 have hsq := y0w h4
 obtain ⟨r, g1, g2⟩ := yu1 (f := yp0) n (fun l (c : Int) => (((n : Int), A, ()), ((n : Int), B, ()), ((0 : Int), [], ()), ((n : Int), o, ()), (i : Int), (k : Int), c, u, v, (n : Int), (l : Int), ()))
  (fun c => (((n : Int), A, ()), ((n : Int), B, ()), ((0 : Int), [], ()), ((n : Int), o, ()), c, u, v, ())) (fun l c => (0 ≤ c ∧ c ≤ Nv) ∧ ∀ z, z ≤ c ↔ z ≤ Nv ∧ ∀ l', l' < l → z ≤ A.getD (i * n + l') 0 + B.getD (l' * n + k) 0)
  (fun l c hl hc => by
   have e1 := yq3 hi hl
   have e2 := yq3 hl hk
   obtain ⟨r, a1, a2, a3, a4⟩ := k0i (hA.at e1) (hB.at e2)
   refine ⟨if r < c then r else c, ?_, ?_, fun z => ?_⟩
   ·simp only [yp0, lt_t hl, cond_true, mulw (show i * n + l ≤ 1000000 by omega), mulw (show l * n + k ≤ 1000000 by omega), Int.toNat_natCast]
    rw [if_pos ⟨by omega, by rw [hA.1]; omega⟩, if_pos ⟨by omega, by rw [hB.1]; omega⟩, a1]
    simp only [Option.bind_some, List.drop_zero, List.take_length, ya7 hl (show n ≤ 9223372036854775807 by omega)]
   ·have := hc.1
    split <;> omega
   ·rw [z8d, hc.2 z, a4 z]
    constructor
    ·rintro ⟨⟨h1, h2⟩, _, h3⟩
     refine ⟨h1, fun l' hl' => ?_⟩
     by_cases e : l' = l
     ·subst e; exact h3
     ·exact h2 l' (by omega)
    ·rintro ⟨h1, h2⟩
     exact ⟨⟨h1, fun l' hl' => h2 l' (by omega)⟩, h1, h2 l (by omega)⟩)
  (fun c hc => by simp only [yp0, lt_f, cond_false, List.drop_zero, List.take_length])
  1000000 ⟨⟨by decide, by decide⟩, fun z => ⟨fun h => ⟨h, fun l' hl' => by omega⟩, fun h => h.1⟩⟩
 exact ⟨r, g1, g2.1, g2.2⟩
theorem z8g {n : Nat} (h1 : 1 ≤ n) (h4 : n ≤ 4) {A B : List Int} (hA : Rng A (n * n)) (hB : Rng B (n * n)) : ∃ C, y1j ((n : Int), A) ((n : Int), B) = some ((n : Int), C) ∧ MulIs n A B C := by
 have hsq := y0w h4
 simp only [y1j, sqw h4]
 obtain ⟨r, g1, g2⟩ := yu1 (f := yp1) (n * n) (fun m (o : List Int) => (((n : Int), A, ()), ((n : Int), B, ()), ((0 : Int), [], ()), ((n : Int), o, ()), ((n * n : Nat) : Int), (m : Int), ()))
  (fun o => (((0 : Int), [], ()), ((n : Int), o, ()), ())) (fun m o => Rng o m ∧ ∀ j, j < m → ∀ z, z ≤ o.getD j 0 ↔ z ≤ Nv ∧ ∀ l, l < n → z ≤ A.getD (j / n * n + l) 0 + B.getD (l * n + j % n) 0)
  (fun m o hm ho => by
   obtain ⟨r1, r2, r3⟩ := zg1 hm
   obtain ⟨r, a1, a2, a3⟩ := k0j h4 hA hB o r1 r2 ((n * n : Nat) : Int) (m : Int)
   have hol := ho.1.1
   refine ⟨o ++ [r], ?_, ⟨by rw [List.length_append, hol]; rfl, fun x hx => ?_⟩, fun j hj z => ?_⟩
   ·simp only [yp1, lt_t hm, cond_true]
    rw [if_neg (by omega), if_neg (by omega), z8e, z8f, w64n (show m / n ≤ 1000000 by omega)]
    simp only [List.drop_zero, List.take_length]
    rw [a1]
    simp only [Option.bind_some, List.drop_zero, List.take_length, Nat.zero_add]
    rw [show List.take 1 [r] = [r] from rfl, if_pos ⟨trivial, by simp; omega⟩, List.take_of_length_le (by simp), ya7 hm (by omega)]
   ·rcases List.mem_append.1 hx with hx | hx
    ·exact ho.1.2 x hx
    ·rw [List.mem_singleton] at hx; subst hx; exact a2
   ·rw [z4b, hol]
    by_cases e : j = m
    ·subst e; rw [if_pos rfl]; exact a3 z
    ·rw [if_neg e]; exact ho.2 j (by omega) z)
  (fun o ho => by simp only [yp1, lt_f, cond_false, List.drop_zero, List.take_length])
  [] ⟨⟨rfl, fun x hx => by cases hx⟩, fun j hj => by omega⟩
 have g1 : ya4 yp1 (((n : Int), A, ()), ((n : Int), B, ()), ((0 : Int), [], ()), ((n : Int), [], ()), ((n * n : Nat) : Int), (0 : Int), ()) = _ := g1
 rw [g1]
 refine ⟨r, by simp only [Option.bind_some, List.drop_zero, List.take_length], g2.1, fun i k hi hk z => ?_⟩
 have := g2.2 (i * n + k) (yq3 hi hk) z
 rw [(zu5 (i := i) hk).1, (zu5 (i := i) hk).2] at this
 exact this
/-- runs of steps -/
def Run (l : List Stp) : List UInt8 → Int → Int → Int → Prop
 | [], i, k, c => i = k ∧ c = 0
 | b :: ws, i, k, c => ∃ s ∈ l, s.2.1.toList = [b] ∧ s.1 = i ∧ ∃ c', Run l ws s.2.2.1 k c' ∧ c = s.2.2.2 + c'
theorem Run.snoc {l : List Stp} {b : UInt8} : ∀ {ws : List UInt8} {i k c : Int}, Run l (ws ++ [b]) i k c ↔ ∃ c' s, s ∈ l ∧ s.2.1.toList = [b] ∧ Run l ws i s.1 c' ∧ s.2.2.1 = k ∧ c = c' + s.2.2.2
 | [], i, k, c => by
  simp only [List.nil_append, Run]
  constructor
  ·rintro ⟨s, h1, h2, rfl, c', ⟨rfl, rfl⟩, rfl⟩
   exact ⟨0, s, h1, h2, ⟨rfl, rfl⟩, rfl, by omega⟩
  ·rintro ⟨c', s, h1, h2, ⟨rfl, rfl⟩, rfl, rfl⟩
   exact ⟨s, h1, h2, rfl, 0, ⟨rfl, rfl⟩, by omega⟩
 | a :: ws, i, k, c => by
  simp only [List.cons_append, Run]
  constructor
  ·rintro ⟨s, h1, h2, rfl, c', h3, rfl⟩
   obtain ⟨c2, t, g1, g2, g3, g4, rfl⟩ := Run.snoc.1 h3
   exact ⟨s.2.2.2 + c2, t, g1, g2, ⟨s, h1, h2, rfl, c2, g3, rfl⟩, g4, by omega⟩
  ·rintro ⟨c', t, g1, g2, ⟨s, h1, h2, rfl, c2, g3, rfl⟩, g4, rfl⟩
   exact ⟨s, h1, h2, rfl, c2 + t.2.2.2, Run.snoc.2 ⟨c2, t, g1, g2, g3, g4, rfl⟩, by omega⟩
theorem Run.nonneg {n : Int} {l : List Stp} (hl : ∀ s ∈ l, StepIs n s) : ∀ {ws : List UInt8} {i k c : Int}, Run l ws i k c → 0 ≤ c
 | [], i, k, c, h => by simp only [Run] at h; omega
 | a :: ws, i, k, c, h => by
  simp only [Run] at h
  obtain ⟨s, h1, _, _, c', h3, rfl⟩ := h
  have := (hl s h1).c0
  have := Run.nonneg hl h3
  omega
/-- a matrix tells the least costs of runs -/
def ProdIs (n : Nat) (l : List Stp) (ws : List UInt8) (P : List Int) : Prop :=
 Rng P (n * n) ∧ ∀ i k, i < n → k < n → ∀ z, z ≤ P.getD (i * n + k) 0 ↔ z ≤ Nv ∧ ∀ c, Run l ws (i : Int) (k : Int) c → z ≤ c
theorem ProdIs.mul {n : Nat} {l : List Stp} (hl : ∀ s ∈ l, StepIs (n : Int) s) {ws : List UInt8} {b : UInt8} {P M C : List Int} (hP : ProdIs n l ws P) (hM : MatIs n l [b] M) (hC : MulIs n P M C) : ProdIs n l (ws ++ [b]) C := by
 refine ⟨hC.1, fun i k hi hk z => ?_⟩
 rw [hC.2 i k hi hk z]
 refine and_congr_right fun hz => ?_
 constructor
 ·intro h c hr
  obtain ⟨c', s, h1, h2, h3, h4, rfl⟩ := Run.snoc.1 hr
  have hs := hl s h1
  have q0 := hs.f0
  have q1 := hs.f1
  have hj : s.1.toNat < n := by omega
  have hm := hM.1.at (yq3 hj hk)
  have e1 := h s.1.toNat hj
  have e2 := (hP.2 i s.1.toNat hi hj (z - M.getD (s.1.toNat * n + k) 0)).1 (by omega)
  have e3 := e2.2 c' (by rw [show ((s.1.toNat : Nat) : Int) = s.1 by omega]; exact h3)
  have hc' := Run.nonneg hl h3
  have e4 := (hM.2 s.1.toNat k hj hk (z - c')).1 (by omega)
  have := e4.2 s h1 h2 (by omega) h4
  omega
 ·intro h j hj
  have hm := hM.1.at (yq3 hj hk)
  have : z - M.getD (j * n + k) 0 ≤ P.getD (i * n + j) 0 := by
   rw [hP.2 i j hi hj]
   refine ⟨by omega, fun c hr => ?_⟩
   have hc := Run.nonneg hl hr
   have : z - c ≤ M.getD (j * n + k) 0 := by
    rw [hM.2 j k hj hk]
    refine ⟨by omega, fun s h1 h2 h3 h4 => ?_⟩
    have := h (c + s.2.2.2) (Run.snoc.2 ⟨c, s, h1, h2, by rw [h3]; exact hr, h4, rfl⟩)
    omega
   omega
  omega
theorem ks0 {n : Nat} (h1 : 1 ≤ n) (h4 : n ≤ 4) (l : List Stp) : ∃ U, y2i (n : Int) = some ((n : Int), U) ∧ ProdIs n l [] U := by
 have hsq := y0w h4
 simp only [y2i, sqw h4]
 obtain ⟨r, g1, g2⟩ := yu1 (f := ym8) (n * n) (fun m (o : List Int) => ((n : Int), ((0 : Int), [], ()), ((n : Int), o, ()), ((n * n : Nat) : Int), (m : Int), ()))
  (fun o => (((0 : Int), [], ()), ((n : Int), o, ()), ())) (fun m o => Rng o m ∧ ∀ j, j < m → o.getD j 0 = if j / n = j % n then 0 else Nv)
  (fun m o hm ho => by
   obtain ⟨r1, r2, r3⟩ := zg1 hm
   have hol := ho.1.1
   refine ⟨o ++ [if m / n = m % n then 0 else Nv], ?_, ⟨by rw [List.length_append, hol]; rfl, fun x hx => ?_⟩, fun j hj => ?_⟩
   ·simp only [ym8, lt_t hm, cond_true]
    rw [if_neg (by omega), if_neg (by omega), z8e, z8f, w64n (show m / n ≤ 1000000 by omega)]
    simp only [List.drop_zero, List.take_length, Nat.zero_add]
    rw [show List.take 1 [(0 : Int)] = [0] from rfl, show List.take 1 [(1000000 : Int)] = [1000000] from rfl]
    by_cases e : m / n = m % n
    ·have : ((((m / n : Nat)) : Int) == ((m % n : Nat) : Int)) = true := by rw [e]; exact BEq.rfl
     rw [this, if_pos e]
     simp only [cond_true]
     rw [if_pos ⟨trivial, by simp; omega⟩, List.take_of_length_le (by simp), ya7 hm (by omega)]
    ·have : ((((m / n : Nat)) : Int) == ((m % n : Nat) : Int)) = false := by simp; omega
     rw [this, if_neg e]
     simp only [cond_false]
     rw [if_pos ⟨trivial, by simp; omega⟩, List.take_of_length_le (by simp), ya7 hm (by omega)]
   ·rcases List.mem_append.1 hx with hx | hx
    ·exact ho.1.2 x hx
    ·rw [List.mem_singleton] at hx; subst hx
     simp only [Nv]
     split <;> omega
   ·rw [z4b, hol]
    by_cases e : j = m
    ·subst e; rw [if_pos rfl]
    ·rw [if_neg e]; exact ho.2 j (by omega))
  (fun o ho => by simp only [ym8, lt_f, cond_false, List.drop_zero, List.take_length])
  [] ⟨⟨rfl, fun x hx => by cases hx⟩, fun j hj => by omega⟩
 have g1 : ya4 ym8 ((n : Int), ((0 : Int), [], ()), ((n : Int), [], ()), ((n * n : Nat) : Int), (0 : Int), ()) = _ := g1
 rw [g1]
 refine ⟨r, by simp only [Option.bind_some, List.drop_zero, List.take_length], g2.1, fun i k hi hk z => ?_⟩
 have := g2.2 (i * n + k) (yq3 hi hk)
 rw [(zu5 (i := i) hk).1, (zu5 (i := i) hk).2] at this
 rw [this]
 simp only [Run]
 by_cases e : i = k
 ·subst e
  rw [if_pos rfl]
  constructor
  ·intro h; exact ⟨by simp only [Nv]; omega, fun c hc => by omega⟩
  ·rintro ⟨_, h⟩; exact h 0 ⟨rfl, rfl⟩
 ·rw [if_neg e]
  exact ⟨fun h => ⟨h, fun c hc => by omega⟩, fun h => h.1⟩
end Go.Proofs.YtfdhmmnffahhgaaGreat

/- The cost of a word: both sides tell the least cost of a run. -/
namespace Go.Proofs.YtfdhmmnffahhgaaGreat
open Go Go.Proofs.YtfdhmmnffahhgaaGreat.Am
abbrev bytes (w : ByteArray) : List UInt8 := w.data.toList
theorem z2h {w : ByteArray} {i : Nat} (hi : i < w.size) : (bytes w)[i]? = some (w.data.getD i 0) := by
 have hi' : i < w.data.size := hi
 rw [Array.getD_eq_getD_getElem?, Array.getElem?_eq_getElem hi', Array.getElem?_toList, Array.getElem?_eq_getElem hi']
 rfl
theorem z01 {w : ByteArray} {i : Nat} (hi : i < w.size) : (bytes w).take (i + 1) = (bytes w).take i ++ [w.data.getD i 0] := by
 rw [List.take_add_one, z2h hi]; rfl
theorem zu6 (w : ByteArray) : (bytes w).length = w.size := Array.length_toList
theorem z9h {w : ByteArray} {i : Nat} (hi : i < w.size) : (bytes w).drop i = w.data.getD i 0 :: (bytes w).drop (i + 1) := by
 have h := z2h hi
 obtain ⟨h1, h2⟩ := List.getElem?_eq_some_iff.1 h
 rw [List.drop_eq_getElem_cons h1, h2]
theorem ks1 {w : ByteArray} (h : y2v w = true) {i : Nat} (hi : i < w.size) : w.data.getD i 0 = 97 ∨ w.data.getD i 0 = 98 := by
 unfold y2v at h
 rw [Bool.and_eq_true] at h
 have := List.all_eq_true.1 h.1 i (List.mem_range.2 hi)
 unfold zf9 at this
 rw [Bool.or_eq_true, beq_iff_eq, beq_iff_eq] at this
 rcases this with h | h
 ·left
  apply UInt8.toNat_inj.1
  show _ = 97
  omega
 ·right
  apply UInt8.toNat_inj.1
  show _ = 98
  omega
theorem zu7 {w : ByteArray} (h : y2v w = true) : w.size ≤ 1000 := by
 unfold y2v at h
 rw [Bool.and_eq_true, decide_eq_true_eq] at h
 exact h.2
/-- a valid automaton, in numbers -/
structure AutIs (a : Aut) (n : Nat) : Prop where
 st : a.1 = (n : Int)
 n1 : 1 ≤ n
 n4 : n ≤ 4
 S : ∀ q ∈ a.2.1, 0 ≤ q ∧ q ≤ (n : Int) - 1
 F : ∀ q ∈ a.2.2.1, 0 ≤ q ∧ q ≤ (n : Int) - 1
 len : a.2.2.2.length ≤ 24
 ok : zf8 a.1 a.2.2.2 = true
 steps : ∀ s ∈ a.2.2.2, StepIs (n : Int) s
theorem zm8 {a : Aut} (h : y0g a = true) : ∃ n, AutIs a n := by
 unfold y0g at h
 simp only [Bool.and_eq_true, decide_eq_true_eq] at h
 obtain ⟨⟨h1, h4⟩, hS, hF, hl, hst⟩ := h
 have e : a.1 = ((a.1.toNat : Nat) : Int) := by omega
 refine ⟨a.1.toNat, e, by omega, by omega, ?_, ?_, hl, hst, ?_⟩
 ·rw [← e]; exact z4a hS
 ·rw [← e]; exact z4a hF
 ·rw [← e]; exact (z00 h4 hst).1
theorem z6r {a : Aut} {n : Nat} (ha : AutIs a n) {w : ByteArray} (hw : y2v w = true) : ∃ P, yy5 a w = some ((n : Int), P) ∧ ProdIs n a.2.2.2 (bytes w) P := by
 have hsz := zu7 hw
 obtain ⟨x, S, F, l⟩ := a
 obtain ⟨U, u1, u2⟩ := ks0 ha.n1 ha.n4 l
 obtain ⟨X, x1, x2⟩ := y2k (c := la) ha.st ha.n1 ha.n4 ha.len ha.ok
 obtain ⟨Y, y1, y2⟩ := y2k (c := lb) ha.st ha.n1 ha.n4 ha.len ha.ok
 have hx : x = (n : Int) := ha.st
 subst hx
 rw [kr7] at x2
 rw [kr8] at y2
 simp only [yy5, u1, x1, y1, Option.bind_some, List.drop_zero, List.take_length]
 obtain ⟨r, g1, g2⟩ := yu1 (f := yj2) w.size (fun i (P : List Int) => (w, ((0 : Int), [], ()), ((n : Int), P, ()), ((n : Int), X, ()), ((n : Int), Y, ()), (w.size : Int), (i : Int), ()))
  (fun P => (((0 : Int), [], ()), ((n : Int), P, ()), ())) (fun i P => ProdIs n l ((bytes w).take i) P)
  (fun i P hi hP => by
   obtain ⟨C, c1, c2⟩ := z8g ha.n1 ha.n4 hP.1 x2.1
   obtain ⟨D, d1, d2⟩ := z8g ha.n1 ha.n4 hP.1 y2.1
   simp only [yj2, lt_t hi, cond_true, if_pos (in_t hi), Int.toNat_natCast, List.drop_zero, List.take_length, ya7 hi (show w.size ≤ 9223372036854775807 by omega), c1, d1, Option.bind_some]
   rcases ks1 hw hi with e | e
   ·refine ⟨C, ?_, ?_⟩
    ·rw [e]; rfl
    ·rw [z01 hi, e]; exact ProdIs.mul ha.steps hP x2 c2
   ·refine ⟨D, ?_, ?_⟩
    ·rw [e]; rfl
    ·rw [z01 hi, e]; exact ProdIs.mul ha.steps hP y2 d2)
  (fun P hP => by simp only [yj2, lt_f, cond_false, List.drop_zero, List.take_length])
  U (by rw [List.take_zero]; exact u2)
 have g1 : ya4 yj2 (w, ((0 : Int), [], ()), ((n : Int), U, ()), ((n : Int), X, ()), ((n : Int), Y, ()), (w.size : Int), (0 : Int), ()) = _ := g1
 rw [g1]
 refine ⟨r, by simp only [Option.bind_some, List.drop_zero, List.take_length], ?_⟩
 rw [List.take_of_length_le (by rw [zu6]; omega)] at g2
 exact g2
/-- the least cost of a run from a start to a final -/
def CostIs (a : Aut) (ws : List UInt8) (r : Int) : Prop := (0 ≤ r ∧ r ≤ Nv) ∧ ∀ z, z ≤ r ↔ z ≤ Nv ∧ ∀ i ∈ a.2.1, ∀ k ∈ a.2.2.1, ∀ c, Run a.2.2.2 ws i k c → z ≤ c
theorem CostIs.same {a : Aut} {ws : List UInt8} {r r' : Int} (h : CostIs a ws r) (h' : CostIs a ws r') : r = r' := zi5 fun z => (h.2 z).trans (h'.2 z).symm
theorem mulwI {n : Nat} (h4 : n ≤ 4) {i k : Int} (hi : 0 ≤ i ∧ i ≤ (n : Int) - 1) (hk : 0 ≤ k ∧ k ≤ (n : Int) - 1) : IntKind.wrap .i64 (IntKind.wrap .i64 (i * (n : Int)) + k) = ((i.toNat * n + k.toNat : Nat) : Int) ∧ i.toNat * n + k.toNat < n * n := by
 have hlt : i.toNat * n + k.toNat < n * n := yq3 (by omega) (by omega)
 have hsq := y0w h4
 refine ⟨?_, hlt⟩
 have e1 : i * (n : Int) = ((i.toNat : Nat) : Int) * (n : Int) := by congr 1; omega
 have e2 : k = ((k.toNat : Nat) : Int) := by omega
 rw [e1]
 conv => lhs; rw [e2]
 exact mulw (by omega)
theorem zm9 {l : List Int} {i : Nat} (hi : i < l.length) : l.getD i 0 = l[i] := by
 rw [List.getD_eq_getElem?_getD, List.getElem?_eq_getElem hi]; rfl
theorem yq4 {α : Type} {l : List α} {i : Nat} (hi : i < l.length) : l.take (i + 1) = l.take i ++ [l[i]] := by
 rw [List.take_add_one, List.getElem?_eq_getElem hi]; rfl
theorem z6s {a : Aut} {n : Nat} (ha : AutIs a n) (hS : a.2.1.length ≤ 1048576) (hF : a.2.2.1.length ≤ 1048576) {l' : List Stp} {ws : List UInt8} {P : List Int} (hP : ProdIs n l' ws P) :
  ∃ r, yx0 a ((n : Int), P) = some r ∧ (0 ≤ r ∧ r ≤ Nv) ∧ ∀ z, z ≤ r ↔ z ≤ Nv ∧ ∀ i ∈ a.2.1, ∀ k ∈ a.2.2.1, ∀ c, Run l' ws i k c → z ≤ c := by
 obtain ⟨x, S, F, l⟩ := a
 have hx : x = (n : Int) := ha.st
 subst hx
 have hS : S.length ≤ 1048576 := hS
 have hF : F.length ≤ 1048576 := hF
 have aS : ∀ q ∈ S, 0 ≤ q ∧ q ≤ (n : Int) - 1 := ha.S
 have aF : ∀ q ∈ F, 0 ≤ q ∧ q ≤ (n : Int) - 1 := ha.F
 simp only [yx0]
 have inner : ∀ (i : Int) (hi : 0 ≤ i ∧ i ≤ (n : Int) - 1) (c0 u v : Int) (hc0 : 0 ≤ c0 ∧ c0 ≤ Nv), ∃ r, ya4 yk9 (((n : Int), S, F, l, ()), ((n : Int), P, ()), c0, i, S, u, v, F, (F.length : Int), (0 : Int), ()) = some (((n : Int), S, F, l, ()), ((n : Int), P, ()), r, S, u, v, ()) ∧
   (0 ≤ r ∧ r ≤ Nv) ∧ ∀ z, z ≤ r ↔ z ≤ c0 ∧ ∀ k ∈ F, z ≤ P.getD (i.toNat * n + k.toNat) 0 := by
  intro i hi c0 u v hc0
  obtain ⟨r, g1, g2⟩ := yu1 (f := yk9) F.length (fun j (c : Int) => (((n : Int), S, F, l, ()), ((n : Int), P, ()), c, i, S, u, v, F, (F.length : Int), (j : Int), ()))
   (fun c => (((n : Int), S, F, l, ()), ((n : Int), P, ()), c, S, u, v, ())) (fun j c => (0 ≤ c ∧ c ≤ Nv) ∧ ∀ z, z ≤ c ↔ z ≤ c0 ∧ ∀ k ∈ F.take j, z ≤ P.getD (i.toNat * n + k.toNat) 0)
   (fun j c hj hc => by
    have hk := aF _ (List.getElem_mem hj)
    obtain ⟨m1, m2⟩ := mulwI ha.n4 hi hk
    have hr := hP.1.at m2
    refine ⟨if P.getD (i.toNat * n + F[j].toNat) 0 < c then P.getD (i.toNat * n + F[j].toNat) 0 else c, ?_, ?_, fun z => ?_⟩
    ·simp only [yk9, lt_t hj, cond_true, if_pos (in_t hj), Int.toNat_natCast, zm9 hj, m1, ya7 hj (show F.length ≤ 9223372036854775807 by omega)]
     rw [if_pos ⟨by omega, by rw [hP.1.1]; omega⟩]
    ·have := hc.1
     split <;> omega
    ·rw [z8d, hc.2 z, yq4 hj]
     simp only [List.mem_append, List.mem_singleton]
     constructor
     ·rintro ⟨⟨h1, h2⟩, h3⟩
      refine ⟨h1, fun k hk => ?_⟩
      rcases hk with hk | rfl
      ·exact h2 k hk
      ·exact h3
     ·rintro ⟨h1, h2⟩
      exact ⟨⟨h1, fun k hk => h2 k (.inl hk)⟩, h2 _ (.inr rfl)⟩)
   (fun c hc => by simp only [yk9, lt_f, cond_false])
   c0 ⟨hc0, fun z => ⟨fun h => ⟨h, fun k hk => by simp at hk⟩, fun h => h.1⟩⟩
  refine ⟨r, g1, g2.1, fun z => ?_⟩
  rw [g2.2 z, List.take_length]
 obtain ⟨r, g1, g2⟩ := yu1 (f := yl0) S.length (fun j (c : Int) => (((n : Int), S, F, l, ()), ((n : Int), P, ()), c, S, (S.length : Int), (j : Int), ()))
  (fun c => (c, ())) (fun j c => (0 ≤ c ∧ c ≤ Nv) ∧ ∀ z, z ≤ c ↔ z ≤ Nv ∧ ∀ i ∈ S.take j, ∀ k ∈ F, z ≤ P.getD (i.toNat * n + k.toNat) 0)
  (fun j c hj hc => by
   obtain ⟨r, a1, a2, a3⟩ := inner S[j] (aS _ (List.getElem_mem hj)) c (S.length : Int) (j : Int) hc.1
   refine ⟨r, ?_, a2, fun z => ?_⟩
   ·simp only [yl0, lt_t hj, cond_true, if_pos (in_t hj), Int.toNat_natCast, zm9 hj, a1, Option.bind_some, ya7 hj (show S.length ≤ 9223372036854775807 by omega)]
   ·rw [a3 z, hc.2 z, yq4 hj]
    simp only [List.mem_append, List.mem_singleton]
    constructor
    ·rintro ⟨⟨h1, h2⟩, h3⟩
     refine ⟨h1, fun i hi => ?_⟩
     rcases hi with hi | rfl
     ·exact h2 i hi
     ·exact h3
    ·rintro ⟨h1, h2⟩
     exact ⟨⟨h1, fun i hi => h2 i (.inl hi)⟩, h2 _ (.inr rfl)⟩)
  (fun c hc => by simp only [yl0, lt_f, cond_false])
  1000000 ⟨⟨by decide, by decide⟩, fun z => ⟨fun h => ⟨h, fun k hk => by simp at hk⟩, fun h => h.1⟩⟩
 have g1 : ya4 yl0 (((n : Int), S, F, l, ()), ((n : Int), P, ()), (1000000 : Int), S, (S.length : Int), (0 : Int), ()) = _ := g1
 rw [g1]
 refine ⟨r, rfl, g2.1, fun z => ?_⟩
 rw [g2.2 z, List.take_length]
 refine and_congr_right fun hz => ?_
 constructor
 ·intro h i hi k hk c hr
  have q1 := aS i hi
  have q2 := aF k hk
  have := (hP.2 i.toNat k.toNat (by omega) (by omega) z).1 (h i hi k hk)
  exact this.2 c (by rw [show ((i.toNat : Nat) : Int) = i by omega, show ((k.toNat : Nat) : Int) = k by omega]; exact hr)
 ·intro h i hi k hk
  have q1 := aS i hi
  have q2 := aF k hk
  rw [hP.2 i.toNat k.toNat (by omega) (by omega) z]
  refine ⟨hz, fun c hr => ?_⟩
  rw [show ((i.toNat : Nat) : Int) = i by omega, show ((k.toNat : Nat) : Int) = k by omega] at hr
  exact h i hi k hk c hr
theorem z9i {a : Aut} {n : Nat} (ha : AutIs a n) (hS : a.2.1.length ≤ 1048576) (hF : a.2.2.1.length ≤ 1048576) {ws : List UInt8} {P : List Int} (hP : ProdIs n a.2.2.2 ws P) : ∃ r, yx0 a ((n : Int), P) = some r ∧ CostIs a ws r := by
 obtain ⟨r, h1, h2, h3⟩ := z6s ha hS hF hP
 exact ⟨r, h1, h2, h3⟩
theorem zz0 {a : Aut} (hs : y2q a) (ha : y0g a = true) {w : ByteArray} (hw : y2v w = true) : ∃ r, yt4 a w = some r ∧ CostIs a (bytes w) r := by
 obtain ⟨n, h⟩ := zm8 ha
 obtain ⟨P, p1, p2⟩ := z6r h hw
 obtain ⟨r, r1, r2⟩ := z9i h hs.1 hs.2.1 p2
 obtain ⟨x, S, F, l⟩ := a
 refine ⟨r, ?_, r2⟩
 simp only [yt4, p1, Option.bind_some, List.drop_zero, List.take_length, r1]
end Go.Proofs.YtfdhmmnffahhgaaGreat

/- The cost of a word, the program's way: from the end. -/
namespace Go.Proofs.YtfdhmmnffahhgaaGreat
open Go Go.Proofs.YtfdhmmnffahhgaaGreat.Am
theorem z02 {w : ByteArray} {i : Nat} (hi : i < w.size) : (w.extract i (i + 1)).toList = [w.data.getD i 0] := by
 have hi' : i < w.data.size := hi
 rw [yl1, ByteArray.data_extract, Array.toList_extract]
 have h := z2h hi
 obtain ⟨h1, h2⟩ := List.getElem?_eq_some_iff.1 h
 have h2 : w.data.toList[i]'h1 = w.data.getD i 0 := h2
 have e : List.drop i w.data.toList = w.data.toList[i]'h1 :: List.drop (i + 1) w.data.toList := List.drop_eq_getElem_cons h1
 rw [← h2]
 simp only [List.extract_eq_take_drop, Nat.add_sub_cancel_left, e, List.take_succ_cons, List.take_zero]
/-- least costs of runs to a final -/
def z4c (n : Nat) (F : List Int) (l : List Stp) (ws : List UInt8) (v : List Int) : Prop :=
 Rng v n ∧ ∀ i, i < n → ∀ z, z ≤ v.getD i 0 ↔ z ≤ Nv ∧ ∀ k ∈ F, ∀ c, Run l ws (i : Int) k c → z ≤ c
theorem z9j {a : Aut} {n : Nat} (ha : AutIs a n) (hF : a.2.2.1.length ≤ 1048576) (w : ByteArray) :
  ∃ v, ya4 ym2 (w, ((n : Int), a.2.1, a.2.2.1, a.2.2.2, ()), List.replicate n Nv, a.2.2.1, (a.2.2.1.length : Int), (0 : Int), ()) = some (w, ((n : Int), a.2.1, a.2.2.1, a.2.2.2, ()), v, ()) ∧ z4c n a.2.2.1 a.2.2.2 [] v := by
 obtain ⟨x, S, F, l⟩ := a
 have hF : F.length ≤ 1048576 := hF
 have aF : ∀ q ∈ F, 0 ≤ q ∧ q ≤ (n : Int) - 1 := ha.F
 obtain ⟨v, g1, g2⟩ := yu1 (f := ym2) F.length (fun i (v : List Int) => (w, ((n : Int), S, F, l, ()), v, F, (F.length : Int), (i : Int), ())) (fun v => (w, ((n : Int), S, F, l, ()), v, ()))
  (fun i v => Rng v n ∧ ∀ j, j < n → ∀ z, z ≤ v.getD j 0 ↔ z ≤ Nv ∧ ∀ k ∈ F.take i, k = (j : Int) → z ≤ 0)
  (fun i v hi hv => by
   have hk := aF _ (List.getElem_mem hi)
   refine ⟨v.set F[i].toNat 0, ?_, hv.1.set _ ⟨by decide, by decide⟩, fun j hj z => ?_⟩
   ·simp only [ym2, lt_t hi, cond_true, if_pos (in_t hi), Int.toNat_natCast, zm9 hi, List.drop_zero, Nat.zero_add, ya7 hi (show F.length ≤ 9223372036854775807 by omega)]
    rw [if_pos ⟨by omega, by rw [hv.1.1]; omega⟩, List.take_of_length_le (by rw [List.length_set]; exact Nat.le_refl _)]
   ·rw [z2g (by rw [hv.1.1]; omega), yq4 hi]
    simp only [List.mem_append, List.mem_singleton]
    by_cases e : F[i].toNat = j
    ·rw [if_pos e]
     constructor
     ·intro h; exact ⟨by simp only [Nv]; omega, fun _ _ _ => h⟩
     ·rintro ⟨_, h⟩; exact h _ (.inr rfl) (by omega)
    ·rw [if_neg e, hv.2 j hj z]
     refine and_congr_right fun _ => ⟨fun h k hk hkj => ?_, fun h k hk hkj => h k (.inl hk) hkj⟩
     rcases hk with hk | rfl
     ·exact h k hk hkj
     ·omega)
  (fun v hv => by simp only [ym2, lt_f, cond_false, List.drop_zero, List.take_length])
  (List.replicate n Nv) ⟨⟨by simp, fun x hx => by rw [List.eq_of_mem_replicate hx]; exact ⟨by decide, by decide⟩⟩, fun j hj z => by
   rw [List.getD_eq_getElem?_getD, List.getElem?_eq_getElem (by simp; exact hj)]
   simp⟩
 refine ⟨v, g1, g2.1, fun i hi z => ?_⟩
 rw [g2.2 i hi z, List.take_length]
 simp only [Run]
 refine and_congr_right fun _ => ⟨fun h k hk c hc => ?_, fun h k hk hki => h k hk 0 ⟨hki.symm, rfl⟩⟩
 have := h k hk hc.1.symm
 omega
theorem z9k {a : Aut} {n : Nat} (ha : AutIs a n) {w : ByteArray} (hw : w.size ≤ 1000) {i : Nat} (hi : i < w.size) {ws : List UInt8} {v : List Int} (hv : z4c n a.2.2.1 a.2.2.2 ws v) (o : List (List Int)) :
  ∃ v', ya4 yi1 (w, ((n : Int), a.2.1, a.2.2.1, a.2.2.2, ()), v, o, (i : Int), List.replicate n Nv, a.2.2.2, (a.2.2.2.length : Int), (0 : Int), ()) = some (w, ((n : Int), a.2.1, a.2.2.1, a.2.2.2, ()), o, (i : Int), v', ()) ∧ z4c n a.2.2.1 a.2.2.2 (w.data.getD i 0 :: ws) v' := by
 obtain ⟨x, S, F, l⟩ := a
 have hl : l.length ≤ 24 := ha.len
 have hst : ∀ s ∈ l, StepIs (n : Int) s := ha.steps
 have hn4 := ha.n4
 obtain ⟨v', g1, g2⟩ := yu1 (f := yi1) l.length (fun j (u : List Int) => (w, ((n : Int), S, F, l, ()), v, o, (i : Int), u, l, (l.length : Int), (j : Int), ())) (fun u => (w, ((n : Int), S, F, l, ()), o, (i : Int), u, ()))
  (fun j u => Rng u n ∧ ∀ q, q < n → ∀ z, z ≤ u.getD q 0 ↔ z ≤ Nv ∧ ∀ s ∈ l.take j, s.2.1.toList = [w.data.getD i 0] → s.1 = (q : Int) → z ≤ s.2.2.2 + v.getD s.2.2.1.toNat 0)
  (fun j u hj hu => by
   have hmem : l.getD j stp0 = l[j] := by rw [List.getD_eq_getElem?_getD, List.getElem?_eq_getElem hj]; rfl
   have hs := hst _ (List.getElem_mem hj)
   have e0 := hs.f0
   have e1 := hs.f1
   have e2 := hs.t0
   have e3 := hs.t1
   have e4 := hs.c0
   have e5 := hs.c1
   have hvt := hv.1.at (show l[j].2.2.1.toNat < n by omega)
   have hut := hu.1.at (show l[j].1.toNat < n by omega)
   simp only [Nv] at hvt hut
   cases hc : l[j].2.1.toList == [w.data.getD i 0] with
   | false =>
    refine ⟨u, ?_, hu.1, fun q hq z => ?_⟩
    ·simp only [yi1, lt_t hj, cond_true, if_pos (in_t hj), Int.toNat_natCast, hmem, ya7 hi (show w.size ≤ 9223372036854775807 by omega), ya7 hj (show l.length ≤ 9223372036854775807 by omega), z02 hi, hc, cond_false, List.drop_zero, List.take_length]
     rw [if_pos ⟨by omega, by omega, by omega⟩]
    ·rw [hu.2 q hq z, yq4 hj]
     simp only [List.mem_append, List.mem_singleton]
     refine and_congr_right fun _ => ⟨fun h s hs h1 h2 => ?_, fun h s hs h1 h2 => h s (.inl hs) h1 h2⟩
     rcases hs with hs | rfl
     ·exact h s hs h1 h2
     ·rw [h1] at hc; simp at hc
   | true =>
    have hcc := eq_of_beq hc
    refine ⟨u.set l[j].1.toNat (if l[j].2.2.2 + v.getD l[j].2.2.1.toNat 0 < u.getD l[j].1.toNat 0 then l[j].2.2.2 + v.getD l[j].2.2.1.toNat 0 else u.getD l[j].1.toNat 0), ?_, hu.1.set _ (by simp only [Nv]; split <;> omega), fun q hq z => ?_⟩
    ·simp only [yi1, lt_t hj, cond_true, if_pos (in_t hj), Int.toNat_natCast, hmem, ya7 hi (show w.size ≤ 9223372036854775807 by omega), ya7 hj (show l.length ≤ 9223372036854775807 by omega), z02 hi, hc, List.drop_zero, List.take_length, Nat.zero_add, w64 (show -9223372036854775808 ≤ l[j].2.2.2 + v.getD l[j].2.2.1.toNat 0 by omega) (by omega)]
     rw [if_pos ⟨by omega, by omega, by omega⟩, if_pos ⟨by omega, by rw [hu.1.1]; omega⟩, if_pos ⟨by omega, by rw [hv.1.1]; omega⟩, if_pos ⟨by omega, by rw [hu.1.1]; omega⟩, List.take_of_length_le (by rw [List.length_set]; exact Nat.le_refl _)]
    ·rw [z2g (by rw [hu.1.1]; omega), yq4 hj]
     simp only [List.mem_append, List.mem_singleton]
     by_cases e : l[j].1.toNat = q
     ·subst e
      rw [if_pos rfl, z8d, hu.2 _ (by omega) z]
      constructor
      ·rintro ⟨⟨h1, h2⟩, h3⟩
       refine ⟨h1, fun s hs k1 k2 => ?_⟩
       rcases hs with hs | rfl
       ·exact h2 s hs k1 k2
       ·exact h3
      ·rintro ⟨h1, h2⟩
       exact ⟨⟨h1, fun s hs => h2 s (.inl hs)⟩, h2 _ (.inr rfl) hcc (by omega)⟩
     ·rw [if_neg e, hu.2 q hq z]
      refine and_congr_right fun _ => ⟨fun h s hs h1 h2 => ?_, fun h s hs h1 h2 => h s (.inl hs) h1 h2⟩
      rcases hs with hs | rfl
      ·exact h s hs h1 h2
      ·omega)
  (fun u hu => by simp only [yi1, lt_f, cond_false, List.drop_zero, List.take_length])
  (List.replicate n Nv) ⟨⟨by simp, fun x hx => by rw [List.eq_of_mem_replicate hx]; exact ⟨by decide, by decide⟩⟩, fun j hj z => by
   rw [List.getD_eq_getElem?_getD, List.getElem?_eq_getElem (by simp; exact hj)]
   simp⟩
 refine ⟨v', g1, g2.1, fun q hq z => ?_⟩
 rw [g2.2 q hq z, List.take_length]
 simp only [Run]
 refine and_congr_right fun hz => ?_
 constructor
 ·rintro h k hk c ⟨s, h1, h2, h3, c', h4, rfl⟩
  have hs := hst s h1
  have q1 := hs.t0
  have q2 := hs.t1
  have q3 := hs.c0
  have := h s h1 h2 h3
  have := (hv.2 s.2.2.1.toNat (by omega) (z - s.2.2.2)).1 (by omega)
  have := this.2 k hk c' (by rw [show ((s.2.2.1.toNat : Nat) : Int) = s.2.2.1 by omega]; exact h4)
  omega
 ·intro h s h1 h2 h3
  have hs := hst s h1
  have q1 := hs.t0
  have q2 := hs.t1
  have q3 := hs.c0
  have : z - s.2.2.2 ≤ v.getD s.2.2.1.toNat 0 := by
   rw [hv.2 s.2.2.1.toNat (by omega)]
   refine ⟨by omega, fun k hk c hr => ?_⟩
   rw [show ((s.2.2.1.toNat : Nat) : Int) = s.2.2.1 by omega] at hr
   have := h k hk _ ⟨s, h1, h2, h3, c, hr, rfl⟩
   omega
  omega
theorem k0k {a : Aut} {n : Nat} (ha : AutIs a n) (hF : a.2.2.1.length ≤ 1048576) {w : ByteArray} (hw : w.size ≤ 1000) :
  ∃ o, y3u a w = some o ∧ o.length = w.size + 1 ∧ ∀ m, m ≤ w.size → z4c n a.2.2.1 a.2.2.2 ((bytes w).drop (w.size - m)) (o.getD m []) := by
 obtain ⟨v0, e1, e2⟩ := z9j ha hF w
 obtain ⟨x, S, F, l⟩ := a
 have hx : x = (n : Int) := ha.st
 subst hx
 have hn1 := ha.n1
 have hn4 := ha.n4
 have hrep := kr5 (1000000 : Int) (n := (n : Int)) (by omega) (by omega)
 have e1 : ya4 ym2 (w, ((n : Int), S, F, l, ()), List.replicate n Nv, F, (F.length : Int), (0 : Int), ()) = some (w, ((n : Int), S, F, l, ()), v0, ()) := e1
 simp only [y3u, List.drop_zero, show List.take 1 [(1000000 : Int)] = [1000000] from rfl, hrep, Option.bind_some, List.take_length, Int.toNat_natCast]
 rw [show ((1000000 : Int)) = Nv from rfl, e1]
 simp only [Option.bind_some, List.take_length]
 obtain ⟨r, g1, g2⟩ := yu1 (f := yo5) w.size (fun j (p : List Int × List (List Int)) => (w, ((n : Int), S, F, l, ()), p.1, p.2, (w.size : Int) - 1 - (j : Int), ())) (fun p => (p.2, ()))
  (fun j p => p.2.length = j + 1 ∧ z4c n F l ((bytes w).drop (w.size - j)) p.1 ∧ ∀ m, m ≤ j → z4c n F l ((bytes w).drop (w.size - m)) (p.2.getD m []))
  (fun j p hj hp => by
   obtain ⟨h1, h2, h3⟩ := hp
   have hi : w.size - 1 - j < w.size := by omega
   have ei : (w.size : Int) - 1 - (j : Int) = ((w.size - 1 - j : Nat) : Int) := by omega
   obtain ⟨v', f1, f2⟩ := z9k ha hw hi h2 p.2
   have f1 : ya4 yi1 (w, ((n : Int), S, F, l, ()), p.1, p.2, ((w.size - 1 - j : Nat) : Int), List.replicate n Nv, l, (l.length : Int), (0 : Int), ()) = some (w, ((n : Int), S, F, l, ()), p.2, ((w.size - 1 - j : Nat) : Int), v', ()) := f1
   have edrop : (bytes w).drop (w.size - (j + 1)) = w.data.getD (w.size - 1 - j) 0 :: (bytes w).drop (w.size - j) := by
    rw [show w.size - (j + 1) = w.size - 1 - j by omega, z9h hi]
    congr 2
    omega
   have f2 : z4c n F l ((bytes w).drop (w.size - (j + 1))) v' := by rw [edrop]; exact f2
   refine ⟨(v', p.2 ++ [v']), ?_, by simp [h1], f2, fun m hm => ?_⟩
   ·simp only [yo5, List.drop_zero, show List.take 1 [(1000000 : Int)] = [1000000] from rfl, hrep, Option.bind_some, List.take_length, Int.toNat_natCast]
    rw [ei, decide_eq_true (by omega)]
    simp only [cond_true]
    rw [show ((1000000 : Int)) = Nv from rfl, f1]
    simp only [Option.bind_some, List.take_length, Nat.zero_add]
    rw [show List.take 1 [v'] = [v'] from rfl, if_pos ⟨trivial, by simp; omega⟩, List.take_of_length_le (by simp), w64 (by omega) (by omega), show (((w.size - 1 - j : Nat) : Int) - 1) = (w.size : Int) - 1 - ((j + 1 : Nat) : Int) by omega]
   ·simp only [List.getD_eq_getElem?_getD, List.getElem?_append]
    by_cases e : m < p.2.length
    ·rw [if_pos e]
     have := h3 m (by omega)
     rw [List.getD_eq_getElem?_getD] at this
     exact this
    ·obtain rfl : m = j + 1 := by omega
     rw [if_neg e, h1]
     simpa using f2)
  (fun p hp => by
   simp only [yo5]
   rw [decide_eq_false (by omega)]
   simp only [cond_false, List.drop_zero, List.take_length])
  (v0, [v0]) ⟨rfl, by rw [Nat.sub_zero, List.drop_of_length_le (by rw [zu6]; omega)]; exact e2, fun m hm => by
   obtain rfl : m = 0 := by omega
   rw [Nat.sub_zero, List.drop_of_length_le (by rw [zu6]; omega)]
   exact e2⟩
 have g1 : ya4 yo5 (w, ((n : Int), S, F, l, ()), v0, [v0], (w.size : Int) - 1 - ((0 : Nat) : Int), ()) = _ := g1
 rw [show (w.size : Int) - 1 - ((0 : Nat) : Int) = (w.size : Int) - 1 by omega] at g1
 rw [w64 (by omega) (by omega), show List.take 1 [v0] = [v0] from rfl, g1]
 refine ⟨r.2, by simp only [Option.bind_some, List.take_length], g2.1, g2.2.2⟩
theorem zz1 {a : Aut} (hs : y2q a) (ha : y0g a = true) {w : ByteArray} (hw : y2v w = true) : ∃ r, yl8 a w = some r ∧ CostIs a (bytes w) r := by
 obtain ⟨n, h⟩ := zm8 ha
 have hsz := zu7 hw
 obtain ⟨o, o1, o2, o3⟩ := k0k h hs.2.1 hsz
 have hval := yg5 a (by have := hs.1; omega) (by have := hs.2.1; omega)
 rw [ha] at hval
 obtain ⟨x, S, F, l⟩ := a
 have hx : x = (n : Int) := h.st
 subst hx
 have hS : S.length ≤ 1048576 := hs.1
 have aS : ∀ q ∈ S, 0 ≤ q ∧ q ≤ (n : Int) - 1 := h.S
 have hv := o3 w.size (Nat.le_refl _)
 rw [Nat.sub_self, List.drop_zero] at hv
 have hv : z4c n F l (bytes w) (o.getD w.size []) := hv
 simp only [yl8, hval, zg0 (show w.size ≤ 9223372036854775807 by omega), hw, o1, Option.bind_some, Bool.not_true, cond_false, List.drop_zero, List.take_length]
 obtain ⟨r, g1, g2⟩ := yu1 (f := ym6) S.length (fun j (c : Int) => (w, o, c, S, (S.length : Int), (j : Int), ())) (fun c => (c, ()))
  (fun j c => (0 ≤ c ∧ c ≤ Nv) ∧ ∀ z, z ≤ c ↔ z ≤ Nv ∧ ∀ i ∈ S.take j, z ≤ (o.getD w.size []).getD i.toNat 0)
  (fun j c hj hc => by
   have hq := aS _ (List.getElem_mem hj)
   have hr := hv.1.at (show S[j].toNat < n by omega)
   refine ⟨if (o.getD w.size []).getD S[j].toNat 0 < c then (o.getD w.size []).getD S[j].toNat 0 else c, ?_, ?_, fun z => ?_⟩
   ·simp only [ym6, lt_t hj, cond_true, if_pos (in_t hj), Int.toNat_natCast, zm9 hj, Nat.zero_add, ya7 hj (show S.length ≤ 9223372036854775807 by omega), List.drop_zero, List.take_length]
    rw [if_pos ⟨by omega, by rw [o2]; omega⟩, if_pos ⟨by omega, by rw [hv.1.1]; omega⟩]
   ·have := hc.1
    split <;> omega
   ·rw [z8d, hc.2 z, yq4 hj]
    simp only [List.mem_append, List.mem_singleton]
    constructor
    ·rintro ⟨⟨h1, h2⟩, h3⟩
     refine ⟨h1, fun k hk => ?_⟩
     rcases hk with hk | rfl
     ·exact h2 k hk
     ·exact h3
    ·rintro ⟨h1, h2⟩
     exact ⟨⟨h1, fun k hk => h2 k (.inl hk)⟩, h2 _ (.inr rfl)⟩)
  (fun c hc => by simp only [ym6, lt_f, cond_false])
  1000000 ⟨⟨by decide, by decide⟩, fun z => ⟨fun h => ⟨h, fun k hk => by simp at hk⟩, fun h => h.1⟩⟩
 have g1 : ya4 ym6 (w, o, (1000000 : Int), S, (S.length : Int), (0 : Int), ()) = _ := g1
 rw [g1]
 refine ⟨r, rfl, g2.1, fun z => ?_⟩
 rw [g2.2 z, List.take_length]
 refine and_congr_right fun hz => ?_
 constructor
 ·intro hh i hi k hk c hr
  have q1 := aS i hi
  have := (hv.2 i.toNat (by omega) z).1 (hh i hi)
  exact this.2 k hk c (by rw [show ((i.toNat : Nat) : Int) = i by omega]; exact hr)
 ·intro hh i hi
  have q1 := aS i hi
  rw [hv.2 i.toNat (by omega) z]
  refine ⟨hz, fun k hk c hr => ?_⟩
  rw [show ((i.toNat : Nat) : Int) = i by omega] at hr
  exact hh i hi k hk c hr
/-- both sides tell the same cost -/
theorem ks2 {a : Aut} (hs : y2q a) (ha : y0g a = true) {w : ByteArray} (hw : y2v w = true) : ∃ r, yt4 a w = some r ∧ yl8 a w = some r ∧ CostIs a (bytes w) r := by
 obtain ⟨r, h1, h2⟩ := zz0 hs ha hw
 obtain ⟨r', h3, h4⟩ := zz1 hs ha hw
 obtain rfl := h2.same h4
 exact ⟨r, h1, h3, h2⟩
end Go.Proofs.YtfdhmmnffahhgaaGreat

/- Comparisons of two automata over the short words: both sides tell the same. -/
namespace Go.Proofs.YtfdhmmnffahhgaaGreat
open Go Go.Proofs.YtfdhmmnffahhgaaGreat.Am
/-- the cost of a word -/
noncomputable def cst (a : Aut) (w : ByteArray) : Int := (yl8 a w).getD (-1)
theorem z8h {a : Aut} (hs : y2q a) (ha : y0g a = true) {w : ByteArray} (hw : y2v w = true) : yt4 a w = some (cst a w) ∧ yl8 a w = some (cst a w) ∧ CostIs a (bytes w) (cst a w) := by
 obtain ⟨r, h1, h2, h3⟩ := ks2 hs ha hw
 have : cst a w = r := by unfold cst; rw [h2]; rfl
 rw [this]
 exact ⟨h1, h2, h3⟩
theorem yr3 {a : Aut} (hs : y2q a) : a.2.1.length ≤ 9223372036854775807 ∧ a.2.2.1.length ≤ 9223372036854775807 := ⟨by have := hs.1; omega, by have := hs.2.1; omega⟩
/-- a loop that looks for an index -/
theorem yr4 {σ ρ : Type} {f : σ → Option (σ ⊕ ρ)} (st : Nat → σ) (n : Nat) (p : Nat → Bool) (out : Nat → ρ) (last : ρ) (hs : ∀ i, i < n → f (st i) = some (if p i = true then .inr (out i) else .inl (st (i + 1)))) (he : f (st n) = some (.inr last)) :
  ya4 f (st 0) = some (match (List.range n).find? p with | some i => out i | none => last) := by
 have key : ∀ k i, i + k = n → ya4 f (st i) = some (match (List.range' i k).find? p with | some i => out i | none => last) := by
  intro k
  induction k with
  | zero =>
   intro i hi
   rw [yb1]
   obtain rfl : i = n := by omega
   rw [he]
   rfl
  | succ k ih =>
   intro i hi
   rw [yb1, hs i (by omega)]
   rw [List.range'_succ, List.find?_cons]
   cases hp : p i with
   | true => simp
   | false =>
    simp only [Bool.false_eq_true, if_false, Option.bind_some]
    exact ih (i + 1) (by omega)
 rw [List.range_eq_range']
 exact key n 0 (by omega)
end Go.Proofs.YtfdhmmnffahhgaaGreat
