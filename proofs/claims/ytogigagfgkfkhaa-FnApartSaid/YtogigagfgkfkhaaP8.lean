/- The cost of a word: both sides tell the least cost of a run. -/
import Derived.Test.YtogigagfgkfkhaaP7
set_option linter.unusedVariables false
set_option linter.unusedSimpArgs false
namespace Go.Proofs.Ytogigagfgkfkhaa
open Go Go.Proofs.Ytogigagfgkfkhaa.Am
abbrev bytes (w : ByteArray) : List UInt8 := w.data.toList
theorem bytes_at {w : ByteArray} {i : Nat} (hi : i < w.size) : (bytes w)[i]? = some (w.data.getD i 0) := by
 have hi' : i < w.data.size := hi
 rw [Array.getD_eq_getD_getElem?, Array.getElem?_eq_getElem hi', Array.getElem?_toList, Array.getElem?_eq_getElem hi']
 rfl
theorem bytes_take {w : ByteArray} {i : Nat} (hi : i < w.size) : (bytes w).take (i + 1) = (bytes w).take i ++ [w.data.getD i 0] := by
 rw [List.take_add_one, bytes_at hi]; rfl
theorem bytes_len (w : ByteArray) : (bytes w).length = w.size := Array.length_toList
theorem bytes_drop {w : ByteArray} {i : Nat} (hi : i < w.size) : (bytes w).drop i = w.data.getD i 0 :: (bytes w).drop (i + 1) := by
 have h := bytes_at hi
 obtain ⟨h1, h2⟩ := List.getElem?_eq_some_iff.1 h
 rw [List.drop_eq_getElem_cons h1, h2]
theorem letter_is {w : ByteArray} (h : wordOk w = true) {i : Nat} (hi : i < w.size) : w.data.getD i 0 = 97 ∨ w.data.getD i 0 = 98 := by
 unfold wordOk at h
 rw [Bool.and_eq_true] at h
 have := List.all_eq_true.1 h.1 i (List.mem_range.2 hi)
 unfold letterP at this
 rw [Bool.or_eq_true, beq_iff_eq, beq_iff_eq] at this
 rcases this with h | h
 ·left
  apply UInt8.toNat_inj.1
  show _ = 97
  omega
 ·right
  apply UInt8.toNat_inj.1
  show _ = 98
  omega
theorem wordOk_size {w : ByteArray} (h : wordOk w = true) : w.size ≤ 1000 := by
 unfold wordOk at h
 rw [Bool.and_eq_true, decide_eq_true_eq] at h
 exact h.2
/-- a valid automaton, in numbers -/
structure AutIs (a : Aut) (n : Nat) : Prop where
 st : a.1 = (n : Int)
 n1 : 1 ≤ n
 n4 : n ≤ 4
 S : ∀ q ∈ a.2.1, 0 ≤ q ∧ q ≤ (n : Int) - 1
 F : ∀ q ∈ a.2.2.1, 0 ≤ q ∧ q ≤ (n : Int) - 1
 len : a.2.2.2.length ≤ 24
 ok : stepsOk a.1 a.2.2.2 = true
 steps : ∀ s ∈ a.2.2.2, StepIs (n : Int) s
theorem autOk_is {a : Aut} (h : autOk a = true) : ∃ n, AutIs a n := by
 unfold autOk at h
 simp only [Bool.and_eq_true, decide_eq_true_eq] at h
 obtain ⟨⟨h1, h4⟩, hS, hF, hl, hst⟩ := h
 have e : a.1 = ((a.1.toNat : Nat) : Int) := by omega
 refine ⟨a.1.toNat, e, by omega, by omega, ?_, ?_, hl, hst, ?_⟩
 ·rw [← e]; exact marks_mem hS
 ·rw [← e]; exact marks_mem hF
 ·rw [← e]; exact (stepsOk_is h4 hst).1
theorem l4Matrix_is {a : Aut} {n : Nat} (ha : AutIs a n) {w : ByteArray} (hw : wordOk w = true) : ∃ P, spec_l4Matrix a w = some ((n : Int), P) ∧ ProdIs n a.2.2.2 (bytes w) P := by
 have hsz := wordOk_size hw
 obtain ⟨x, S, F, l⟩ := a
 obtain ⟨U, u1, u2⟩ := l2Unit_is ha.n1 ha.n4 l
 obtain ⟨X, x1, x2⟩ := l3Matrix_is (c := la) ha.st ha.n1 ha.n4 ha.len ha.ok
 obtain ⟨Y, y1, y2⟩ := l3Matrix_is (c := lb) ha.st ha.n1 ha.n4 ha.len ha.ok
 have hx : x = (n : Int) := ha.st
 subst hx
 rw [la_list] at x2
 rw [lb_list] at y2
 simp only [spec_l4Matrix, u1, x1, y1, Option.bind_some, List.drop_zero, List.take_length]
 obtain ⟨r, g1, g2⟩ := loop_rel (f := spec_l4Matrix_l4) w.size (fun i (P : List Int) => (w, ((0 : Int), [], ()), ((n : Int), P, ()), ((n : Int), X, ()), ((n : Int), Y, ()), (w.size : Int), (i : Int), ()))
  (fun P => (((0 : Int), [], ()), ((n : Int), P, ()), ())) (fun i P => ProdIs n l ((bytes w).take i) P)
  (fun i P hi hP => by
   obtain ⟨C, c1, c2⟩ := l2Mul_is ha.n1 ha.n4 hP.1 x2.1
   obtain ⟨D, d1, d2⟩ := l2Mul_is ha.n1 ha.n4 hP.1 y2.1
   simp only [spec_l4Matrix_l4, lt_t hi, cond_true, if_pos (in_t hi), Int.toNat_natCast, List.drop_zero, List.take_length, w64_succ hi (show w.size ≤ 9223372036854775807 by omega), c1, d1, Option.bind_some]
   rcases letter_is hw hi with e | e
   ·refine ⟨C, ?_, ?_⟩
    ·rw [e]; rfl
    ·rw [bytes_take hi, e]; exact ProdIs.mul ha.steps hP x2 c2
   ·refine ⟨D, ?_, ?_⟩
    ·rw [e]; rfl
    ·rw [bytes_take hi, e]; exact ProdIs.mul ha.steps hP y2 d2)
  (fun P hP => by simp only [spec_l4Matrix_l4, lt_f, cond_false, List.drop_zero, List.take_length])
  U (by rw [List.take_zero]; exact u2)
 have g1 : loopF spec_l4Matrix_l4 (w, ((0 : Int), [], ()), ((n : Int), U, ()), ((n : Int), X, ()), ((n : Int), Y, ()), (w.size : Int), (0 : Int), ()) = _ := g1
 rw [g1]
 refine ⟨r, by simp only [Option.bind_some, List.drop_zero, List.take_length], ?_⟩
 rw [List.take_of_length_le (by rw [bytes_len]; omega)] at g2
 exact g2
/-- the least cost of a run from a start to a final -/
def CostIs (a : Aut) (ws : List UInt8) (r : Int) : Prop := (0 ≤ r ∧ r ≤ Nv) ∧ ∀ z, z ≤ r ↔ z ≤ Nv ∧ ∀ i ∈ a.2.1, ∀ k ∈ a.2.2.1, ∀ c, Run a.2.2.2 ws i k c → z ≤ c
theorem CostIs.same {a : Aut} {ws : List UInt8} {r r' : Int} (h : CostIs a ws r) (h' : CostIs a ws r') : r = r' := eq_of_le_iff fun z => (h.2 z).trans (h'.2 z).symm
theorem mulwI {n : Nat} (h4 : n ≤ 4) {i k : Int} (hi : 0 ≤ i ∧ i ≤ (n : Int) - 1) (hk : 0 ≤ k ∧ k ≤ (n : Int) - 1) : IntKind.wrap .i64 (IntKind.wrap .i64 (i * (n : Int)) + k) = ((i.toNat * n + k.toNat : Nat) : Int) ∧ i.toNat * n + k.toNat < n * n := by
 have hlt : i.toNat * n + k.toNat < n * n := idx_lt (by omega) (by omega)
 have hsq := sq_le h4
 refine ⟨?_, hlt⟩
 have e1 : i * (n : Int) = ((i.toNat : Nat) : Int) * (n : Int) := by congr 1; omega
 have e2 : k = ((k.toNat : Nat) : Int) := by omega
 rw [e1]
 conv => lhs; rw [e2]
 exact mulw (by omega)
theorem getD_mem {l : List Int} {i : Nat} (hi : i < l.length) : l.getD i 0 = l[i] := by
 rw [List.getD_eq_getElem?_getD, List.getElem?_eq_getElem hi]; rfl
theorem take_snoc {α : Type} {l : List α} {i : Nat} (hi : i < l.length) : l.take (i + 1) = l.take i ++ [l[i]] := by
 rw [List.take_add_one, List.getElem?_eq_getElem hi]; rfl
theorem l4Least_gen {a : Aut} {n : Nat} (ha : AutIs a n) (hS : a.2.1.length ≤ 1048576) (hF : a.2.2.1.length ≤ 1048576) {l' : List Stp} {ws : List UInt8} {P : List Int} (hP : ProdIs n l' ws P) :
  ∃ r, spec_l4Least a ((n : Int), P) = some r ∧ (0 ≤ r ∧ r ≤ Nv) ∧ ∀ z, z ≤ r ↔ z ≤ Nv ∧ ∀ i ∈ a.2.1, ∀ k ∈ a.2.2.1, ∀ c, Run l' ws i k c → z ≤ c := by
 obtain ⟨x, S, F, l⟩ := a
 have hx : x = (n : Int) := ha.st
 subst hx
 have hS : S.length ≤ 1048576 := hS
 have hF : F.length ≤ 1048576 := hF
 have aS : ∀ q ∈ S, 0 ≤ q ∧ q ≤ (n : Int) - 1 := ha.S
 have aF : ∀ q ∈ F, 0 ≤ q ∧ q ≤ (n : Int) - 1 := ha.F
 simp only [spec_l4Least]
 have inner : ∀ (i : Int) (hi : 0 ≤ i ∧ i ≤ (n : Int) - 1) (c0 u v : Int) (hc0 : 0 ≤ c0 ∧ c0 ≤ Nv), ∃ r, loopF spec_l4Least_l6 (((n : Int), S, F, l, ()), ((n : Int), P, ()), c0, i, S, u, v, F, (F.length : Int), (0 : Int), ()) = some (((n : Int), S, F, l, ()), ((n : Int), P, ()), r, S, u, v, ()) ∧
   (0 ≤ r ∧ r ≤ Nv) ∧ ∀ z, z ≤ r ↔ z ≤ c0 ∧ ∀ k ∈ F, z ≤ P.getD (i.toNat * n + k.toNat) 0 := by
  intro i hi c0 u v hc0
  obtain ⟨r, g1, g2⟩ := loop_rel (f := spec_l4Least_l6) F.length (fun j (c : Int) => (((n : Int), S, F, l, ()), ((n : Int), P, ()), c, i, S, u, v, F, (F.length : Int), (j : Int), ()))
   (fun c => (((n : Int), S, F, l, ()), ((n : Int), P, ()), c, S, u, v, ())) (fun j c => (0 ≤ c ∧ c ≤ Nv) ∧ ∀ z, z ≤ c ↔ z ≤ c0 ∧ ∀ k ∈ F.take j, z ≤ P.getD (i.toNat * n + k.toNat) 0)
   (fun j c hj hc => by
    have hk := aF _ (List.getElem_mem hj)
    obtain ⟨m1, m2⟩ := mulwI ha.n4 hi hk
    have hr := hP.1.at m2
    refine ⟨if P.getD (i.toNat * n + F[j].toNat) 0 < c then P.getD (i.toNat * n + F[j].toNat) 0 else c, ?_, ?_, fun z => ?_⟩
    ·simp only [spec_l4Least_l6, lt_t hj, cond_true, if_pos (in_t hj), Int.toNat_natCast, getD_mem hj, m1, w64_succ hj (show F.length ≤ 9223372036854775807 by omega)]
     rw [if_pos ⟨by omega, by rw [hP.1.1]; omega⟩]
    ·have := hc.1
     split <;> omega
    ·rw [min_is, hc.2 z, take_snoc hj]
     simp only [List.mem_append, List.mem_singleton]
     constructor
     ·rintro ⟨⟨h1, h2⟩, h3⟩
      refine ⟨h1, fun k hk => ?_⟩
      rcases hk with hk | rfl
      ·exact h2 k hk
      ·exact h3
     ·rintro ⟨h1, h2⟩
      exact ⟨⟨h1, fun k hk => h2 k (.inl hk)⟩, h2 _ (.inr rfl)⟩)
   (fun c hc => by simp only [spec_l4Least_l6, lt_f, cond_false])
   c0 ⟨hc0, fun z => ⟨fun h => ⟨h, fun k hk => by simp at hk⟩, fun h => h.1⟩⟩
  refine ⟨r, g1, g2.1, fun z => ?_⟩
  rw [g2.2 z, List.take_length]
 obtain ⟨r, g1, g2⟩ := loop_rel (f := spec_l4Least_l3) S.length (fun j (c : Int) => (((n : Int), S, F, l, ()), ((n : Int), P, ()), c, S, (S.length : Int), (j : Int), ()))
  (fun c => (c, ())) (fun j c => (0 ≤ c ∧ c ≤ Nv) ∧ ∀ z, z ≤ c ↔ z ≤ Nv ∧ ∀ i ∈ S.take j, ∀ k ∈ F, z ≤ P.getD (i.toNat * n + k.toNat) 0)
  (fun j c hj hc => by
   obtain ⟨r, a1, a2, a3⟩ := inner S[j] (aS _ (List.getElem_mem hj)) c (S.length : Int) (j : Int) hc.1
   refine ⟨r, ?_, a2, fun z => ?_⟩
   ·simp only [spec_l4Least_l3, lt_t hj, cond_true, if_pos (in_t hj), Int.toNat_natCast, getD_mem hj, a1, Option.bind_some, w64_succ hj (show S.length ≤ 9223372036854775807 by omega)]
   ·rw [a3 z, hc.2 z, take_snoc hj]
    simp only [List.mem_append, List.mem_singleton]
    constructor
    ·rintro ⟨⟨h1, h2⟩, h3⟩
     refine ⟨h1, fun i hi => ?_⟩
     rcases hi with hi | rfl
     ·exact h2 i hi
     ·exact h3
    ·rintro ⟨h1, h2⟩
     exact ⟨⟨h1, fun i hi => h2 i (.inl hi)⟩, h2 _ (.inr rfl)⟩)
  (fun c hc => by simp only [spec_l4Least_l3, lt_f, cond_false])
  1000000 ⟨⟨by decide, by decide⟩, fun z => ⟨fun h => ⟨h, fun k hk => by simp at hk⟩, fun h => h.1⟩⟩
 have g1 : loopF spec_l4Least_l3 (((n : Int), S, F, l, ()), ((n : Int), P, ()), (1000000 : Int), S, (S.length : Int), (0 : Int), ()) = _ := g1
 rw [g1]
 refine ⟨r, rfl, g2.1, fun z => ?_⟩
 rw [g2.2 z, List.take_length]
 refine and_congr_right fun hz => ?_
 constructor
 ·intro h i hi k hk c hr
  have q1 := aS i hi
  have q2 := aF k hk
  have := (hP.2 i.toNat k.toNat (by omega) (by omega) z).1 (h i hi k hk)
  exact this.2 c (by rw [show ((i.toNat : Nat) : Int) = i by omega, show ((k.toNat : Nat) : Int) = k by omega]; exact hr)
 ·intro h i hi k hk
  have q1 := aS i hi
  have q2 := aF k hk
  rw [hP.2 i.toNat k.toNat (by omega) (by omega) z]
  refine ⟨hz, fun c hr => ?_⟩
  rw [show ((i.toNat : Nat) : Int) = i by omega, show ((k.toNat : Nat) : Int) = k by omega] at hr
  exact h i hi k hk c hr
theorem l4Least_is {a : Aut} {n : Nat} (ha : AutIs a n) (hS : a.2.1.length ≤ 1048576) (hF : a.2.2.1.length ≤ 1048576) {ws : List UInt8} {P : List Int} (hP : ProdIs n a.2.2.2 ws P) : ∃ r, spec_l4Least a ((n : Int), P) = some r ∧ CostIs a ws r := by
 obtain ⟨r, h1, h2, h3⟩ := l4Least_gen ha hS hF hP
 exact ⟨r, h1, h2, h3⟩
theorem spec_l4Cost_is {a : Aut} (hs : Small a) (ha : autOk a = true) {w : ByteArray} (hw : wordOk w = true) : ∃ r, spec_l4Cost a w = some r ∧ CostIs a (bytes w) r := by
 obtain ⟨n, h⟩ := autOk_is ha
 obtain ⟨P, p1, p2⟩ := l4Matrix_is h hw
 obtain ⟨r, r1, r2⟩ := l4Least_is h hs.1 hs.2.1 p2
 obtain ⟨x, S, F, l⟩ := a
 refine ⟨r, ?_, r2⟩
 simp only [spec_l4Cost, p1, Option.bind_some, List.drop_zero, List.take_length, r1]
end Go.Proofs.Ytogigagfgkfkhaa
