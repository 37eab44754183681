/- The short words. -/
import Derived.Test.YtfdhmmnffahhgaaGreatP4
set_option linter.unusedVariables false
set_option linter.unusedSimpArgs false
namespace Go.Proofs.YtfdhmmnffahhgaaGreat
open Go Go.Proofs.YtfdhmmnffahhgaaGreat.Am
def ext (l : List ByteArray) : List ByteArray := l.flatMap fun w => [w ++ la, w ++ lb]
def AB (w : ByteArray) : Prop := ∀ b ∈ w.data.toList, b = 97 ∨ b = 98
theorem AB.app {w : ByteArray} (h : AB w) : AB (w ++ la) ∧ AB (w ++ lb) := by
 constructor <;> intro b hb <;> rw [ByteArray.data_append, Array.toList_append] at hb <;> rcases List.mem_append.1 hb with hb | hb
 ·exact h b hb
 ·exact .inl (by simpa using hb)
 ·exact h b hb
 ·exact .inr (by simpa using hb)
/-- a word of the two letters -/
def zf9 (w : ByteArray) (i : Nat) : Bool := ((((w.data.getD i 0).toNat : Nat) : Int) == 97) || ((((w.data.getD i 0).toNat : Nat) : Int) == 98)
def y2v (w : ByteArray) : Bool := (List.range w.size).all (zf9 w) && decide (w.size ≤ 1000)
theorem zg0 {w : ByteArray} (hw : w.size ≤ 9223372036854775807) : yv1 w = some (y2v w) := by
 simp only [yv1]
 have := y9y (f := yj8) (fun i => (w, (w.size : Int), (i : Int), ())) w.size (zf9 w) (.inl (false, ())) (.inr (w, ())) (fun i hi => by
  simp only [yj8, lt_t hi, cond_true, if_pos (in_t hi), Int.toNat_natCast, ya7 hi hw, zf9, bne]
  rcases Bool.eq_false_or_eq_true ((((w.data.getD i 0).toNat : Nat) : Int) == 97) with a | a <;> rcases Bool.eq_false_or_eq_true ((((w.data.getD i 0).toNat : Nat) : Int) == 98) with b | b <;> simp only [a, b] <;> rfl) (by simp only [yj8, lt_f]; rfl)
 rw [show ((0 : Int)) = ((0 : Nat) : Int) from rfl, this]
 unfold y2v
 cases (List.range w.size).all (zf9 w) with
 | true =>
  simp only [if_true, Option.bind_some, Bool.true_and]
  congr 1
  rw [Bool.eq_iff_iff, decide_eq_true_eq, decide_eq_true_eq]
  omega
 | false => rfl
theorem AB.ok {w : ByteArray} (h : AB w) (hs : w.size ≤ 1000) : y2v w = true := by
 unfold y2v
 rw [Bool.and_eq_true]
 refine ⟨List.all_eq_true.2 fun i hi => ?_, decide_eq_true hs⟩
 have hi := List.mem_range.1 hi
 have hb := h (w.data.getD i 0) (by
  have hi' : i < w.data.size := hi
  rw [Array.getD_eq_getD_getElem?, Array.getElem?_eq_getElem hi']
  exact Array.getElem_mem_toList hi')
 unfold zf9
 rcases hb with hb | hb <;> rw [hb] <;> rfl
end Go.Proofs.YtfdhmmnffahhgaaGreat
