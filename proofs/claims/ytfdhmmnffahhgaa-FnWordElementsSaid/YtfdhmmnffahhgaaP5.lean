/- The short words. -/
import Derived.Test.YtfdhmmnffahhgaaP4
set_option linter.unusedVariables false
set_option linter.unusedSimpArgs false
namespace Go.Proofs.Ytfdhmmnffahhgaa
open Go Go.Proofs.Ytfdhmmnffahhgaa.Am
abbrev emp : ByteArray := ⟨#[]⟩
def ext (l : List ByteArray) : List ByteArray := l.flatMap fun w => [w ++ la, w ++ lb]
/-- the words that are there, and where those of the last length begin -/
def gen : Nat → List ByteArray × Nat
 | 0 => ([emp], 0)
 | j + 1 => ((gen j).1 ++ ext ((gen j).1.drop (gen j).2), (gen j).1.length)
def AB (w : ByteArray) : Prop := ∀ b ∈ w.data.toList, b = 97 ∨ b = 98
theorem AB.app {w : ByteArray} (h : AB w) : AB (w ++ la) ∧ AB (w ++ lb) := by
 constructor <;> intro b hb <;> rw [ByteArray.data_append, Array.toList_append] at hb <;> rcases List.mem_append.1 hb with hb | hb
 ·exact h b hb
 ·exact .inl (by simpa using hb)
 ·exact h b hb
 ·exact .inr (by simpa using hb)
/-- a word of the two letters -/
def letterP (w : ByteArray) (i : Nat) : Bool := ((((w.data.getD i 0).toNat : Nat) : Int) == 97) || ((((w.data.getD i 0).toNat : Nat) : Int) == 98)
def wordOk (w : ByteArray) : Bool := (List.range w.size).all (letterP w) && decide (w.size ≤ 1000)
theorem impl_WordValid_is {w : ByteArray} (hw : w.size ≤ 9223372036854775807) : impl_WordValid w = some (wordOk w) := by
 simp only [impl_WordValid]
 have := loop_all (f := impl_WordValid_l2) (fun i => (w, (w.size : Int), (i : Int), ())) w.size (letterP w) (.inl (false, ())) (.inr (w, ())) (fun i hi => by
  simp only [impl_WordValid_l2, lt_t hi, cond_true, if_pos (in_t hi), Int.toNat_natCast, w64_succ hi hw, letterP, bne]
  rcases Bool.eq_false_or_eq_true ((((w.data.getD i 0).toNat : Nat) : Int) == 97) with a | a <;> rcases Bool.eq_false_or_eq_true ((((w.data.getD i 0).toNat : Nat) : Int) == 98) with b | b <;> simp only [a, b] <;> rfl) (by simp only [impl_WordValid_l2, lt_f]; rfl)
 rw [show ((0 : Int)) = ((0 : Nat) : Int) from rfl, this]
 unfold wordOk
 cases (List.range w.size).all (letterP w) with
 | true =>
  simp only [if_true, Option.bind_some, Bool.true_and]
  congr 1
  rw [Bool.eq_iff_iff, decide_eq_true_eq, decide_eq_true_eq]
  omega
 | false => rfl
theorem AB.ok {w : ByteArray} (h : AB w) (hs : w.size ≤ 1000) : wordOk w = true := by
 unfold wordOk
 rw [Bool.and_eq_true]
 refine ⟨List.all_eq_true.2 fun i hi => ?_, decide_eq_true hs⟩
 have hi := List.mem_range.1 hi
 have hb := h (w.data.getD i 0) (by
  have hi' : i < w.data.size := hi
  rw [Array.getD_eq_getD_getElem?, Array.getElem?_eq_getElem hi']
  exact Array.getElem_mem_toList hi')
 unfold letterP
 rcases hb with hb | hb <;> rw [hb] <;> rfl
end Go.Proofs.Ytfdhmmnffahhgaa
