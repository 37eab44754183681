/- Finite powers: both sides tell the same. -/
import Derived.Test.YtbmlleocidldpaaGreatP36
import Derived.Test.YtbmlleocidldpaaGreatP64
set_option linter.unusedVariables false
set_option linter.unusedSimpArgs false
namespace Go.Proofs.YtbmlleocidldpaaGreat
open Go Go.Proofs.YtbmlleocidldpaaGreat.Am
theorem finite_same {a : Aut} (hs : Small a) : ∃ r, spec_HasFinitePowers a = some r ∧ impl_HasFinitePowers a = some r := by
  obtain ⟨R, ok, e1, e2, sR, _⟩ := power_same hs
  obtain ⟨⟨b, k⟩, f1, f2⟩ := bounded_same sR
  obtain ⟨x, S, F, l⟩ := a
  obtain ⟨y, S', F', l'⟩ := R
  cases ok with
  | false =>
    refine ⟨(false, false), ?_, ?_⟩
    · simp only [spec_HasFinitePowers, e1, Option.bind_some, Bool.not_false, cond_true]
    · simp only [impl_HasFinitePowers, e2, Option.bind_some, Bool.not_false, cond_true]
  | true =>
    refine ⟨(b, k), ?_, ?_⟩
    · simp only [spec_HasFinitePowers, e1, Option.bind_some, Bool.not_true, cond_false, f1]
    · simp only [impl_HasFinitePowers, e2, Option.bind_some, Bool.not_true, cond_false, List.drop_zero, List.take_length, f2]
theorem p_FnExactHasFinitePowers (x0 : Aut) (f0 : Fits kAut x0) : laws_FnExactHasFinitePowers x0 = some true := by
  obtain ⟨r, g1, g2, g3⟩ := szAutomaton_is f0 (n := 1048576) (by omega) (by omega)
  by_cases hr : r < 0
  · obtain ⟨n, S, F, l⟩ := x0
    simp only [laws_FnExactHasFinitePowers, g1, Option.bind_some, decide_eq_true hr, cond_true]
  · have s0 := g3 (by omega)
    obtain ⟨⟨b, k⟩, e1, e2⟩ := finite_same s0
    have t0 := toAutomaton_is s0
    have q0 := eqAutomaton_is s0
    obtain ⟨n, S, F, l⟩ := x0
    simp only [laws_FnExactHasFinitePowers, g1, Option.bind_some, decide_eq_false hr, cond_false, t0, List.drop_zero, List.take_length, e1, e2, BEq.rfl, Bool.not_true, q0]
end Go.Proofs.YtbmlleocidldpaaGreat
