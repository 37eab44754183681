/- The short words. -/
import Derived.Test.YtbmlleocidldpaaGreatP4
set_option linter.unusedVariables false
set_option linter.unusedSimpArgs false
namespace Go.Proofs.YtbmlleocidldpaaGreat
open Go Go.Proofs.YtbmlleocidldpaaGreat.Am
abbrev be0 : ByteArray := ⟨Array.empty⟩
abbrev emp : ByteArray := ⟨#[]⟩
def ext (l : List ByteArray) : List ByteArray := l.flatMap fun w => [w ++ la, w ++ lb]
theorem ext_length (l : List ByteArray) : (ext l).length = 2 * l.length := by
  induction l with
  | nil => rfl
  | cons x l ih => simp only [ext, List.flatMap_cons, List.length_append, List.length_cons] at ih ⊢; rw [ih]; simp; omega
theorem ext_take {xs : List ByteArray} {i : Nat} (hi : i < xs.length) : ext (xs.take (i + 1)) = ext (xs.take i) ++ [xs.getD i be0 ++ la, xs.getD i be0 ++ lb] := by
  rw [List.take_add_one, List.getElem?_eq_getElem hi]
  simp only [ext, List.flatMap_append, Option.toList_some, List.flatMap_singleton]
  rw [List.getD_eq_getElem?_getD, List.getElem?_eq_getElem hi]
  rfl
theorem la_size : la.size = 1 := rfl
theorem lb_size : lb.size = 1 := rfl
/-- the words that are there, and where those of the last length begin -/
def gen : Nat → List ByteArray × Nat
  | 0 => ([emp], 0)
  | j + 1 => ((gen j).1 ++ ext ((gen j).1.drop (gen j).2), (gen j).1.length)
def AB (w : ByteArray) : Prop := ∀ b ∈ w.data.toList, b = 97 ∨ b = 98
theorem AB.app {w : ByteArray} (h : AB w) : AB (w ++ la) ∧ AB (w ++ lb) := by
  constructor <;> intro b hb <;> rw [ByteArray.data_append, Array.toList_append] at hb <;> rcases List.mem_append.1 hb with hb | hb
  · exact h b hb
  · exact .inl (by simpa using hb)
  · exact h b hb
  · exact .inr (by simpa using hb)
theorem gen_facts : ∀ j, (gen j).1.length + 1 = 2 ^ (j + 1) ∧ (gen j).2 + 1 = 2 ^ j ∧ (∀ w ∈ (gen j).1.drop (gen j).2, w.size = j) ∧ ∀ w ∈ (gen j).1, AB w ∧ w.size ≤ j
  | 0 => ⟨rfl, rfl, fun w hw => by simp [gen] at hw; subst hw; rfl, fun w hw => by simp [gen] at hw; subst hw; exact ⟨fun b hb => by simp at hb, Nat.le_refl _⟩⟩
  | j + 1 => by
    obtain ⟨h1, h2, h3, h4⟩ := gen_facts j
    have hm : ∀ w ∈ ext ((gen j).1.drop (gen j).2), AB w ∧ w.size = j + 1 := by
      intro w hw
      obtain ⟨u, hu, hw⟩ := List.mem_flatMap.1 hw
      have hs := h3 u hu
      have hab := (h4 u (List.mem_of_mem_drop hu)).1.app
      simp only [List.mem_cons, List.not_mem_nil, or_false] at hw
      rcases hw with rfl | rfl
      · exact ⟨hab.1, by rw [ByteArray.size_append, hs]; rfl⟩
      · exact ⟨hab.2, by rw [ByteArray.size_append, hs]; rfl⟩
    refine ⟨?_, h1, ?_, ?_⟩
    · simp only [gen, List.length_append, ext_length, List.length_drop]
      rw [Nat.pow_succ, Nat.pow_succ] at *
      omega
    · intro w hw
      simp only [gen, List.drop_left] at hw
      exact (hm w hw).2
    · intro w hw
      simp only [gen] at hw
      rcases List.mem_append.1 hw with hw | hw
      · exact ⟨(h4 w hw).1, by have := (h4 w hw).2; omega⟩
      · exact ⟨(hm w hw).1, by rw [(hm w hw).2]; exact Nat.le_refl _⟩
theorem gen_small {j : Nat} (hj : j ≤ 7) : (gen j).1.length ≤ 255 := by
  have h := (gen_facts j).1
  have : 2 ^ (j + 1) ≤ 2 ^ 8 := Nat.pow_le_pow_right (by omega) (by omega)
  omega
theorem gen_le (j : Nat) : (gen j).2 ≤ (gen j).1.length := by
  obtain ⟨h1, h2, _⟩ := gen_facts j
  rw [Nat.pow_succ] at h1
  omega
/-- a word of the two letters -/
def letterP (w : ByteArray) (i : Nat) : Bool := ((((w.data.getD i 0).toNat : Nat) : Int) == 97) || ((((w.data.getD i 0).toNat : Nat) : Int) == 98)
def wordOk (w : ByteArray) : Bool := (List.range w.size).all (letterP w) && decide (w.size ≤ 1000)
theorem AB.ok {w : ByteArray} (h : AB w) (hs : w.size ≤ 1000) : wordOk w = true := by
  unfold wordOk
  rw [Bool.and_eq_true]
  refine ⟨List.all_eq_true.2 fun i hi => ?_, decide_eq_true hs⟩
  have hi := List.mem_range.1 hi
  have hb := h (w.data.getD i 0) (by
    have hi' : i < w.data.size := hi
    rw [Array.getD_eq_getD_getElem?, Array.getElem?_eq_getElem hi']
    exact Array.getElem_mem_toList hi')
  unfold letterP
  rcases hb with hb | hb <;> rw [hb] <;> rfl
end Go.Proofs.YtbmlleocidldpaaGreat
