/- The grades of a word's matrix are one matrix alone: that which the elements have. -/
import Derived.Test.YtbndfclpclifbaaGreatDoorP83
import Derived.Test.YtbndfclpclifbaaGreatDoorP47
import Derived.Test.YtbndfclpclifbaaGreatDoorP44
import Derived.Test.YtbndfclpclifbaaGreatDoorP0
set_option linter.unusedVariables false
set_option linter.unusedSimpArgs false
namespace Go.Proofs.YtbndfclpclifbaaGreatDoor
open Go Go.Proofs.YtbndfclpclifbaaGreatDoor.Am
/-- grades of a word are never two -/
def N2 (A : List Int) : Prop := ∀ x ∈ A, x ≠ 2
theorem N2.at {A : List Int} (h : N2 A) (j : Nat) : A.getD j 0 ≠ 2 := by
 by_cases hj : j < A.length
 ·rw [getD_get 0 hj]
  exact h _ (List.getElem_mem hj)
 ·rw [List.getD_eq_getElem?_getD, List.getElem?_eq_none (by omega), Option.getD_none]
  decide
theorem wext {w : ByteArray} (hw : wordOk w = true) {i : Nat} (hi : i < w.size) : w.extract i (i + 1) = la ∨ w.extract i (i + 1) = lb := by
 have h := extract_is hi
 rw [toList_bytes] at h
 rcases letter_is hw hi with e | e <;> rw [e] at h
 ·left
  exact ByteArray.ext (Array.ext' (h.trans (by simp)))
 ·right
  exact ByteArray.ext (Array.ext' (h.trans (by simp)))
/-- the matrix of a word, by the program -/
theorem wordMatrix_is {a : Aut} {n : Nat} (ha : AutIs a n) (hv : autOk a = true) (hs : Small a) {w : ByteArray} (hw : wordOk w = true) : ∃ P, impl_WordMatrix a w = some (((n : Int), P), true) ∧ ProdIs n a.2.2.2 (bytes w) P := by
 have hsz := wordOk_size hw
 obtain ⟨U, u1, u2⟩ := unitMatrix_is ha.n1 ha.n4 a.2.2.2
 have hA := impl_AutomatonValid_is a (small_len hs).1 (small_len hs).2
 have hW := impl_WordValid_is (w := w) (by omega)
 obtain ⟨r, g1, g2⟩ := loop_rel (f := impl_WordMatrix_l5) w.size (fun i (P : List Int) => (w, (a.1, a.2.1, a.2.2.1, a.2.2.2, ()), ((0 : Int), [], ()), ((n : Int), P, ()), (w.size : Int), (i : Int), ()))
  (fun P => (((0 : Int), [], ()), ((n : Int), P, ()), ())) (fun i P => ProdIs n a.2.2.2 ((bytes w).take i) P)
  (fun i P hi hP => by
   have hl := letter_is hw hi
   have hc : w.extract i (i + 1) = la ∨ w.extract i (i + 1) = lb := wext hw hi
   have hm := stepMatrix_is ha hv hs hc
   have hr := putSteps_rng ha (w.extract i (i + 1))
   obtain ⟨M, m1, m2⟩ := l3Matrix_is (c := w.extract i (i + 1)) ha.st ha.n1 ha.n4 ha.len ha.ok
   have m3 := l3Matrix_puts' ha (w.extract i (i + 1))
   rw [m1] at m3
   have m3 : M = putSteps (w.extract i (i + 1)) n a.2.2.2 a.2.2.2.length := (Prod.mk.inj (Option.some.inj m3)).2
   subst m3
   obtain ⟨C, c1, c2⟩ := mulMatrix_is ha.n1 ha.n4 hP.1 hr
   have hb : (w.extract i (i + 1)).toList = [w.data.getD i 0] := by
    rw [toList_bytes]
    rw [← toList_bytes]; exact extract_is hi
   rw [hb] at m2
   refine ⟨C, ?_, ?_⟩
   ·obtain ⟨x, S, F, l⟩ := a
    have hm : impl_StepMatrix (x, S, F, l) (w.extract i (i + 1)) = some (((n : Int), putSteps (w.extract i (i + 1)) n l l.length), true) := hm
    have c1 : impl_MulMatrix ((n : Int), P) ((n : Int), putSteps (w.extract i (i + 1)) n l l.length) = some (((n : Int), C), true) := c1
    have hi1 : (i : Int) ≤ ((i + 1 : Nat) : Int) := by omega
    have hi2 : ((i + 1 : Nat) : Int) ≤ (w.size : Int) := by omega
    simp only [impl_WordMatrix_l5, lt_t hi, cond_true, w64_succ hi (show w.size ≤ 9223372036854775807 by omega), Int.toNat_natCast, List.drop_zero, List.take_length]
    rw [if_pos ⟨by omega, hi1, hi2⟩, hm]
    simp only [Option.bind_some, List.drop_zero, List.take_length, c1]
   ·rw [bytes_take hi]
    exact ProdIs.mul ha.steps hP m2 c2)
  (fun P hP => by simp only [impl_WordMatrix_l5, lt_f, cond_false, List.drop_zero, List.take_length])
  U (by rw [List.take_zero]; exact u2)
 have g1 : loopF impl_WordMatrix_l5 (w, (a.1, a.2.1, a.2.2.1, a.2.2.2, ()), ((0 : Int), [], ()), ((n : Int), U, ()), (w.size : Int), (0 : Int), ()) = _ := g1
 rw [List.take_of_length_le (by rw [bytes_len]; omega)] at g2
 refine ⟨r, ?_, g2⟩
 obtain ⟨x, S, F, l⟩ := a
 have hx : x = (n : Int) := ha.st
 subst hx
 have g1 : loopF impl_WordMatrix_l5 (w, ((n : Int), S, F, l, ()), ((0 : Int), [], ()), ((n : Int), U, ()), (w.size : Int), (0 : Int), ()) = _ := g1
 simp only [impl_WordMatrix, hA, hv, hW, hw, u1, Option.bind_some, Bool.not_true, cond_false, List.drop_zero, List.take_length]
 rw [g1]
 simp only [Option.bind_some, List.drop_zero, List.take_length]
end Go.Proofs.YtbndfclpclifbaaGreatDoor
