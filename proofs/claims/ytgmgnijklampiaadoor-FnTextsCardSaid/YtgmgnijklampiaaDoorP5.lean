/- The short words. -/
import Derived.Test.YtgmgnijklampiaaDoorP4
set_option linter.unusedVariables false
set_option linter.unusedSimpArgs false
namespace Go.Proofs.YtgmgnijklampiaaDoor
open Go Go.Proofs.YtgmgnijklampiaaDoor.Am
def ext (l : List ByteArray) : List ByteArray := l.flatMap fun w => [w ++ la, w ++ lb]
def AB (w : ByteArray) : Prop := ∀ b ∈ w.data.toList, b = 97 ∨ b = 98
theorem AB.app {w : ByteArray} (h : AB w) : AB (w ++ la) ∧ AB (w ++ lb) := by
 constructor <;> intro b hb <;> rw [ByteArray.data_append, Array.toList_append] at hb <;> rcases List.mem_append.1 hb with hb | hb
 ·exact h b hb
 ·exact .inl (by simpa using hb)
 ·exact h b hb
 ·exact .inr (by simpa using hb)
/-- a word of the two letters -/
def letterP (w : ByteArray) (i : Nat) : Bool := ((((w.data.getD i 0).toNat : Nat) : Int) == 97) || ((((w.data.getD i 0).toNat : Nat) : Int) == 98)
def wordOk (w : ByteArray) : Bool := (List.range w.size).all (letterP w) && decide (w.size ≤ 1000)
theorem AB.ok {w : ByteArray} (h : AB w) (hs : w.size ≤ 1000) : wordOk w = true := by
 unfold wordOk
 rw [Bool.and_eq_true]
 refine ⟨List.all_eq_true.2 fun i hi => ?_, decide_eq_true hs⟩
 have hi := List.mem_range.1 hi
 have hb := h (w.data.getD i 0) (by
  have hi' : i < w.data.size := hi
  rw [Array.getD_eq_getD_getElem?, Array.getElem?_eq_getElem hi']
  exact Array.getElem_mem_toList hi')
 unfold letterP
 rcases hb with hb | hb <;> rw [hb] <;> rfl
end Go.Proofs.YtgmgnijklampiaaDoor
