/- Finite powers: both sides tell the same. -/
import Derived.Test.YtogigagfgkfkhaaGreatP30
import Derived.Test.YtogigagfgkfkhaaGreatP61
set_option linter.unusedVariables false
set_option linter.unusedSimpArgs false
namespace Go.Proofs.YtogigagfgkfkhaaGreat
open Go Go.Proofs.YtogigagfgkfkhaaGreat.Am
theorem z2x {a : Aut} (hs : yt9 a) : ∃ r, yl6 a = some r ∧ yf2 a = some r := by
 obtain ⟨R, ok, e1, e2, sR, _⟩ := z54 hs
 obtain ⟨⟨b, k⟩, f1, f2⟩ := z0v sR
 obtain ⟨x, S, F, l⟩ := a
 obtain ⟨y, S', F', l'⟩ := R
 cases ok with
 | false =>
  refine ⟨(false, false), ?_, ?_⟩
  ·simp only [yl6, e1, Option.bind_some, Bool.not_false, cond_true]
  ·simp only [yf2, e2, Option.bind_some, Bool.not_false, cond_true]
 | true =>
  refine ⟨(b, k), ?_, ?_⟩
  ·simp only [yl6, e1, Option.bind_some, Bool.not_true, cond_false, f1]
  ·simp only [yf2, e2, Option.bind_some, Bool.not_true, cond_false, List.drop_zero, List.take_length, f2]
end Go.Proofs.YtogigagfgkfkhaaGreat
