import Derived.Test.YtfdhmmnffahhgaaP6
set_option linter.unusedVariables false
set_option linter.unusedSimpArgs false
/- Products of matrices: the least costs of runs. -/
namespace Go.Proofs.Ytfdhmmnffahhgaa
open Go Go.Proofs.Ytfdhmmnffahhgaa.Am
theorem min_is (x y z : Int) : (z ≤ if x < y then x else y) ↔ z ≤ y ∧ z ≤ x := by split <;> omega
theorem div_is (i n : Nat) : Int.tdiv (i : Int) (n : Int) = ((i / n : Nat) : Int) := rfl
theorem mod_is (i n : Nat) : Int.tmod (i : Int) (n : Int) = ((i % n : Nat) : Int) := rfl
theorem mulw {i n l : Nat} (h : i * n + l ≤ 1000000) : IntKind.wrap .i64 (IntKind.wrap .i64 ((i : Int) * (n : Int)) + (l : Int)) = ((i * n + l : Nat) : Int) := by
 have e : (i : Int) * (n : Int) = ((i * n : Nat) : Int) := by simp
 rw [e, w64 (n := ((i * n : Nat) : Int)) (by omega) (by omega), w64 (by omega) (by omega)]
 omega
theorem w64n {q : Nat} (h : q ≤ 1000000) : IntKind.wrap .i64 (q : Int) = (q : Int) := w64 (by omega) (by omega)
theorem sqw {n : Nat} (h4 : n ≤ 4) : IntKind.wrap .i64 ((n : Int) * (n : Int)) = ((n * n : Nat) : Int) := by
 have := sq_le h4
 have e : (n : Int) * (n : Int) = ((n * n : Nat) : Int) := by simp
 rw [e]
 exact w64 (by omega) (by omega)
/-- lists in rows and columns -/
theorem row_col {n m : Nat} (h : m < n * n) : m / n < n ∧ m % n < n ∧ m / n * n + m % n = m := by
 have hn : 0 < n := by
  rcases Nat.eq_zero_or_pos n with rfl | h0
  ·simp at h
  ·exact h0
 refine ⟨?_, Nat.mod_lt _ hn, ?_⟩
 ·exact (Nat.div_lt_iff_lt_mul hn).2 h
 ·rw [Nat.mul_comm]; exact Nat.div_add_mod m n
theorem col_row {n i k : Nat} (hk : k < n) : (i * n + k) / n = i ∧ (i * n + k) % n = k := by
 constructor
 ·rw [Nat.mul_comm, Nat.mul_add_div (by omega), Nat.div_eq_of_lt hk]; omega
 ·rw [Nat.mul_comm, Nat.mul_add_mod, Nat.mod_eq_of_lt hk]
/-- a product -/
def MulIs (n : Nat) (A B C : List Int) : Prop := Rng C (n * n) ∧ ∀ i k, i < n → k < n → ∀ z, z ≤ C.getD (i * n + k) 0 ↔ z ≤ Nv ∧ ∀ l, l < n → z ≤ A.getD (i * n + l) 0 + B.getD (l * n + k) 0
/-- runs of steps -/
def Run (l : List Stp) : List UInt8 → Int → Int → Int → Prop
 | [], i, k, c => i = k ∧ c = 0
 | b :: ws, i, k, c => ∃ s ∈ l, s.2.1.toList = [b] ∧ s.1 = i ∧ ∃ c', Run l ws s.2.2.1 k c' ∧ c = s.2.2.2 + c'
theorem Run.snoc {l : List Stp} {b : UInt8} : ∀ {ws : List UInt8} {i k c : Int}, Run l (ws ++ [b]) i k c ↔ ∃ c' s, s ∈ l ∧ s.2.1.toList = [b] ∧ Run l ws i s.1 c' ∧ s.2.2.1 = k ∧ c = c' + s.2.2.2
 | [], i, k, c => by
  simp only [List.nil_append, Run]
  constructor
  ·rintro ⟨s, h1, h2, rfl, c', ⟨rfl, rfl⟩, rfl⟩
   exact ⟨0, s, h1, h2, ⟨rfl, rfl⟩, rfl, by omega⟩
  ·rintro ⟨c', s, h1, h2, ⟨rfl, rfl⟩, rfl, rfl⟩
   exact ⟨s, h1, h2, rfl, 0, ⟨rfl, rfl⟩, by omega⟩
 | a :: ws, i, k, c => by
  simp only [List.cons_append, Run]
  constructor
  ·rintro ⟨s, h1, h2, rfl, c', h3, rfl⟩
   obtain ⟨c2, t, g1, g2, g3, g4, rfl⟩ := Run.snoc.1 h3
   exact ⟨s.2.2.2 + c2, t, g1, g2, ⟨s, h1, h2, rfl, c2, g3, rfl⟩, g4, by omega⟩
  ·rintro ⟨c', t, g1, g2, ⟨s, h1, h2, rfl, c2, g3, rfl⟩, g4, rfl⟩
   exact ⟨s, h1, h2, rfl, c2 + t.2.2.2, Run.snoc.2 ⟨c2, t, g1, g2, g3, g4, rfl⟩, by omega⟩
theorem Run.nonneg {n : Int} {l : List Stp} (hl : ∀ s ∈ l, StepIs n s) : ∀ {ws : List UInt8} {i k c : Int}, Run l ws i k c → 0 ≤ c
 | [], i, k, c, h => by simp only [Run] at h; omega
 | a :: ws, i, k, c, h => by
  simp only [Run] at h
  obtain ⟨s, h1, _, _, c', h3, rfl⟩ := h
  have := (hl s h1).c0
  have := Run.nonneg hl h3
  omega
/-- a matrix tells the least costs of runs -/
def ProdIs (n : Nat) (l : List Stp) (ws : List UInt8) (P : List Int) : Prop :=
 Rng P (n * n) ∧ ∀ i k, i < n → k < n → ∀ z, z ≤ P.getD (i * n + k) 0 ↔ z ≤ Nv ∧ ∀ c, Run l ws (i : Int) (k : Int) c → z ≤ c
theorem ProdIs.mul {n : Nat} {l : List Stp} (hl : ∀ s ∈ l, StepIs (n : Int) s) {ws : List UInt8} {b : UInt8} {P M C : List Int} (hP : ProdIs n l ws P) (hM : MatIs n l [b] M) (hC : MulIs n P M C) : ProdIs n l (ws ++ [b]) C := by
 refine ⟨hC.1, fun i k hi hk z => ?_⟩
 rw [hC.2 i k hi hk z]
 refine and_congr_right fun hz => ?_
 constructor
 ·intro h c hr
  obtain ⟨c', s, h1, h2, h3, h4, rfl⟩ := Run.snoc.1 hr
  have hs := hl s h1
  have q0 := hs.f0
  have q1 := hs.f1
  have hj : s.1.toNat < n := by omega
  have hm := hM.1.at (idx_lt hj hk)
  have e1 := h s.1.toNat hj
  have e2 := (hP.2 i s.1.toNat hi hj (z - M.getD (s.1.toNat * n + k) 0)).1 (by omega)
  have e3 := e2.2 c' (by rw [show ((s.1.toNat : Nat) : Int) = s.1 by omega]; exact h3)
  have hc' := Run.nonneg hl h3
  have e4 := (hM.2 s.1.toNat k hj hk (z - c')).1 (by omega)
  have := e4.2 s h1 h2 (by omega) h4
  omega
 ·intro h j hj
  have hm := hM.1.at (idx_lt hj hk)
  have : z - M.getD (j * n + k) 0 ≤ P.getD (i * n + j) 0 := by
   rw [hP.2 i j hi hj]
   refine ⟨by omega, fun c hr => ?_⟩
   have hc := Run.nonneg hl hr
   have : z - c ≤ M.getD (j * n + k) 0 := by
    rw [hM.2 j k hj hk]
    refine ⟨by omega, fun s h1 h2 h3 h4 => ?_⟩
    have := h (c + s.2.2.2) (Run.snoc.2 ⟨c, s, h1, h2, by rw [h3]; exact hr, h4, rfl⟩)
    omega
   omega
  omega
end Go.Proofs.Ytfdhmmnffahhgaa

/- The cost of a word: both sides tell the least cost of a run. -/
namespace Go.Proofs.Ytfdhmmnffahhgaa
open Go Go.Proofs.Ytfdhmmnffahhgaa.Am
abbrev bytes (w : ByteArray) : List UInt8 := w.data.toList
theorem bytes_at {w : ByteArray} {i : Nat} (hi : i < w.size) : (bytes w)[i]? = some (w.data.getD i 0) := by
 have hi' : i < w.data.size := hi
 rw [Array.getD_eq_getD_getElem?, Array.getElem?_eq_getElem hi', Array.getElem?_toList, Array.getElem?_eq_getElem hi']
 rfl
theorem bytes_take {w : ByteArray} {i : Nat} (hi : i < w.size) : (bytes w).take (i + 1) = (bytes w).take i ++ [w.data.getD i 0] := by
 rw [List.take_add_one, bytes_at hi]; rfl
theorem bytes_len (w : ByteArray) : (bytes w).length = w.size := Array.length_toList
theorem letter_is {w : ByteArray} (h : wordOk w = true) {i : Nat} (hi : i < w.size) : w.data.getD i 0 = 97 ∨ w.data.getD i 0 = 98 := by
 unfold wordOk at h
 rw [Bool.and_eq_true] at h
 have := List.all_eq_true.1 h.1 i (List.mem_range.2 hi)
 unfold letterP at this
 rw [Bool.or_eq_true, beq_iff_eq, beq_iff_eq] at this
 rcases this with h | h
 ·left
  apply UInt8.toNat_inj.1
  show _ = 97
  omega
 ·right
  apply UInt8.toNat_inj.1
  show _ = 98
  omega
theorem wordOk_size {w : ByteArray} (h : wordOk w = true) : w.size ≤ 1000 := by
 unfold wordOk at h
 rw [Bool.and_eq_true, decide_eq_true_eq] at h
 exact h.2
/-- a valid automaton, in numbers -/
structure AutIs (a : Aut) (n : Nat) : Prop where
 st : a.1 = (n : Int)
 n1 : 1 ≤ n
 n4 : n ≤ 4
 S : ∀ q ∈ a.2.1, 0 ≤ q ∧ q ≤ (n : Int) - 1
 F : ∀ q ∈ a.2.2.1, 0 ≤ q ∧ q ≤ (n : Int) - 1
 len : a.2.2.2.length ≤ 24
 ok : stepsOk a.1 a.2.2.2 = true
 steps : ∀ s ∈ a.2.2.2, StepIs (n : Int) s
theorem autOk_is {a : Aut} (h : autOk a = true) : ∃ n, AutIs a n := by
 unfold autOk at h
 simp only [Bool.and_eq_true, decide_eq_true_eq] at h
 obtain ⟨⟨h1, h4⟩, hS, hF, hl, hst⟩ := h
 have e : a.1 = ((a.1.toNat : Nat) : Int) := by omega
 refine ⟨a.1.toNat, e, by omega, by omega, ?_, ?_, hl, hst, ?_⟩
 ·rw [← e]; exact marks_mem hS
 ·rw [← e]; exact marks_mem hF
 ·rw [← e]; exact (stepsOk_is h4 hst).1
/-- the least cost of a run from a start to a final -/
def CostIs (a : Aut) (ws : List UInt8) (r : Int) : Prop := (0 ≤ r ∧ r ≤ Nv) ∧ ∀ z, z ≤ r ↔ z ≤ Nv ∧ ∀ i ∈ a.2.1, ∀ k ∈ a.2.2.1, ∀ c, Run a.2.2.2 ws i k c → z ≤ c
theorem CostIs.same {a : Aut} {ws : List UInt8} {r r' : Int} (h : CostIs a ws r) (h' : CostIs a ws r') : r = r' := eq_of_le_iff fun z => (h.2 z).trans (h'.2 z).symm
theorem take_snoc {α : Type} {l : List α} {i : Nat} (hi : i < l.length) : l.take (i + 1) = l.take i ++ [l[i]] := by
 rw [List.take_add_one, List.getElem?_eq_getElem hi]; rfl
end Go.Proofs.Ytfdhmmnffahhgaa

/- The cost of a word, the program's way: from the end. -/
namespace Go.Proofs.Ytfdhmmnffahhgaa
open Go Go.Proofs.Ytfdhmmnffahhgaa.Am
theorem extract_is {w : ByteArray} {i : Nat} (hi : i < w.size) : (w.extract i (i + 1)).toList = [w.data.getD i 0] := by
 have hi' : i < w.data.size := hi
 rw [toList_bytes, ByteArray.data_extract, Array.toList_extract]
 have h := bytes_at hi
 obtain ⟨h1, h2⟩ := List.getElem?_eq_some_iff.1 h
 have h2 : w.data.toList[i]'h1 = w.data.getD i 0 := h2
 have e : List.drop i w.data.toList = w.data.toList[i]'h1 :: List.drop (i + 1) w.data.toList := List.drop_eq_getElem_cons h1
 rw [← h2]
 simp only [List.extract_eq_take_drop, Nat.add_sub_cancel_left, e, List.take_succ_cons, List.take_zero]
end Go.Proofs.Ytfdhmmnffahhgaa

/- Comparisons of two automata over the short words: both sides tell the same. -/
namespace Go.Proofs.Ytfdhmmnffahhgaa
open Go Go.Proofs.Ytfdhmmnffahhgaa.Am
theorem small_len {a : Aut} (hs : Small a) : a.2.1.length ≤ 9223372036854775807 ∧ a.2.2.1.length ≤ 9223372036854775807 := ⟨by have := hs.1; omega, by have := hs.2.1; omega⟩
def shortN (n : Int) : Bool := decide (0 ≤ n ∧ n ≤ 7)
/-- the words and whether they are asked rightly -/
noncomputable def words (n : Int) : List ByteArray := if shortN n = true then (gen n.toNat).1 else []
/-- a loop that looks for an index -/
theorem loop_find {σ ρ : Type} {f : σ → Option (σ ⊕ ρ)} (st : Nat → σ) (n : Nat) (p : Nat → Bool) (out : Nat → ρ) (last : ρ) (hs : ∀ i, i < n → f (st i) = some (if p i = true then .inr (out i) else .inl (st (i + 1)))) (he : f (st n) = some (.inr last)) :
  loopF f (st 0) = some (match (List.range n).find? p with | some i => out i | none => last) := by
 have key : ∀ k i, i + k = n → loopF f (st i) = some (match (List.range' i k).find? p with | some i => out i | none => last) := by
  intro k
  induction k with
  | zero =>
   intro i hi
   rw [loopF_eq]
   obtain rfl : i = n := by omega
   rw [he]
   rfl
  | succ k ih =>
   intro i hi
   rw [loopF_eq, hs i (by omega)]
   rw [List.range'_succ, List.find?_cons]
   cases hp : p i with
   | true => simp
   | false =>
    simp only [Bool.false_eq_true, if_false, Option.bind_some]
    exact ih (i + 1) (by omega)
 rw [List.range_eq_range']
 exact key n 0 (by omega)
end Go.Proofs.Ytfdhmmnffahhgaa
