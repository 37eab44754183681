/- The laws' own helpers: sizes, copies, comparisons. -/
import Derived.Test.YtgmgnijklampiaaDoorP2
set_option linter.unusedVariables false
set_option linter.unusedSimpArgs false
namespace Go.Proofs.YtgmgnijklampiaaDoor
open Go Go.Proofs.YtgmgnijklampiaaDoor.Am
theorem copy_list {α : Type} (z : α) : ∀ (xs : List α) (i : Nat), i < xs.length → (xs.take i ++ List.replicate (xs.length - i) z).set i (xs.getD i z) = xs.take (i + 1) ++ List.replicate (xs.length - (i + 1)) z := by
 intro xs i hi
 apply List.ext_getElem
 ·simp; omega
 ·intro j h1 h2
  rw [List.getElem_set]
  by_cases h : i = j
  ·subst h
   rw [if_pos rfl, List.getElem_append_left (by simp; omega), List.getElem_take, List.getD_eq_getElem?_getD, List.getElem?_eq_getElem hi]
   rfl
  ·rw [if_neg h]
   by_cases hj : j < i
   ·rw [List.getElem_append_left (by simp; omega), List.getElem_append_left (by simp; omega), List.getElem_take, List.getElem_take]
   ·rw [List.getElem_append_right (by simp; omega), List.getElem_append_right (by simp; omega), List.getElem_replicate, List.getElem_replicate]
theorem toIntS_is {a : List Int} (h : a.length ≤ 1048576) : laws_toIntS a = some a := by
 simp only [laws_toIntS, List.drop_zero, List.take_length, Int.toNat_natCast]
 rw [if_pos ⟨by omega, trivial, by omega⟩]
 have e : List.take a.length (List.replicate a.length (0 : Int)) = List.replicate a.length 0 := by simp
 rw [e]
 obtain ⟨r, h1, h2⟩ := loop_inv (f := laws_toIntS_l3) a.length (fun i (o : List Int) => (a, o, (i : Int), ())) (fun i o => o.set i (a.getD i 0)) (fun o => (o, ())) (fun i o => o = a.take i ++ List.replicate (a.length - i) 0)
  (fun i o hi ho => by subst ho; exact copy_list 0 a i hi)
  (fun i o hi ho => by
   have hol : o.length = a.length := by subst ho; simp; omega
   simp only [laws_toIntS_l3, lt_t hi, cond_true, if_pos (in_t hi), if_pos (show (0 : Int) ≤ (i : Int) ∧ (i : Int) < (o.length : Int) by omega), Int.toNat_natCast, List.drop_zero, Nat.zero_add, w64_succ hi (show a.length ≤ 9223372036854775807 by omega)]
   rw [List.take_of_length_le (by simp)])
  (fun o ho => by
   simp only [laws_toIntS_l3, lt_f, cond_false, List.drop_zero, List.take_length])
  (List.replicate a.length 0) (by simp)
 rw [show ((a, List.replicate a.length (0 : Int), (0 : Int), ()) : List Int × List Int × Int × Unit) = (a, List.replicate a.length (0 : Int), ((0 : Nat) : Int), ()) from rfl, h1]
 subst h2
 simp
theorem eqIntS_is {a : List Int} (h : a.length ≤ 1048576) : laws_eqIntS a a = some true := by
 simp only [laws_eqIntS, bne_self_eq_false, cond_false]
 have := loop_all (f := laws_eqIntS_l4) (fun i => (a, a, (i : Int), ())) a.length (fun _ => true) (.inl (false, ())) (.inr ()) (fun i hi => by
  simp only [laws_eqIntS_l4, lt_t hi, cond_true, if_pos (in_t hi), Int.toNat_natCast, bne_self_eq_false, cond_false, w64_succ hi (show a.length ≤ 9223372036854775807 by omega), if_true]) (by simp only [laws_eqIntS_l4, lt_f]; rfl)
 rw [show ((0 : Int)) = ((0 : Nat) : Int) from rfl, this]
 simp
end Go.Proofs.YtgmgnijklampiaaDoor
