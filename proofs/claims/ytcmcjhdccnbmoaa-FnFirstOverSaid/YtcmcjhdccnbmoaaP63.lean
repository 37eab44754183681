/- The automaton of factors: both sides make the same. -/
import Derived.Test.YtcmcjhdccnbmoaaP62
set_option linter.unusedVariables false
set_option linter.unusedSimpArgs false
namespace Go.Proofs.Ytcmcjhdccnbmoaa
open Go Go.Proofs.Ytcmcjhdccnbmoaa.Am
/-! ### what stands in order -/
/-! ### the loops -/
theorem any_loop {α : Type} (d : α) (l : List α) (p : α → Bool) : (match (List.range l.length).find? fun i => p (l.getD i d) with | some _ => true | none => false) = l.any p := by
 cases hf : (List.range l.length).find? fun i => p (l.getD i d) with
 | none =>
  have := List.find?_eq_none.1 hf
  symm
  rw [List.any_eq_false]
  intro x hx
  obtain ⟨i, hi, rfl⟩ := List.getElem_of_mem hx
  have := this i (List.mem_range.2 hi)
  rwa [getD_g d hi] at this
 | some i =>
  have hi := List.mem_range.1 (List.mem_of_find?_eq_some hf)
  have hp := List.find?_some (p := fun i => p (l.getD i d)) hf
  symm
  rw [List.any_eq_true]
  exact ⟨l.getD i d, by rw [getD_g d hi]; exact List.getElem_mem hi, hp⟩
theorem l4In_is {l : List Int} (hl : l.length ≤ 1000000000) (q : Int) : spec_l4In l q = some (l.any fun e => q == e) := by
 have g := loop_find (f := spec_l4In_l2) (fun i => (q, l, (l.length : Int), (i : Int), ())) l.length (fun i => q == l.getD i 0) (fun i => Sum.inl (true, ())) (Sum.inr ())
  (fun i hi => by
   simp only [spec_l4In_l2, lt_t hi, cond_true, if_pos (in_t hi), Int.toNat_natCast, w64_succ hi (show l.length ≤ 9223372036854775807 by omega)]
   rw [BEq.comm (a := l.getD i 0)]
   cases q == l.getD i 0 <;> rfl)
  (by simp only [spec_l4In_l2, lt_f, cond_false])
 have g : loopF spec_l4In_l2 (q, l, (l.length : Int), (0 : Int), ()) = _ := g
 have ha := any_loop 0 l fun e => q == e
 simp only [spec_l4In, g, Option.bind_some]
 rw [← ha]
 cases (List.range l.length).find? fun i => q == l.getD i 0 <;> rfl
def zs (s : Stp) : Stp := (s.1, s.2.1, s.2.2.1, 0)
/-! ### what is put -/
end Go.Proofs.Ytcmcjhdccnbmoaa
