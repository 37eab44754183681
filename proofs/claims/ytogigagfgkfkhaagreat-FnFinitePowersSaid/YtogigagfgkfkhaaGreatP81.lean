/- The law of growing costs. -/
import Derived.Test.YtogigagfgkfkhaaGreatP75
import Derived.Test.YtogigagfgkfkhaaGreatP50
import Derived.Test.YtogigagfgkfkhaaGreatP57
set_option linter.unusedVariables false
set_option linter.unusedSimpArgs false
namespace Go.Proofs.YtogigagfgkfkhaaGreat
open Go Go.Proofs.YtogigagfgkfkhaaGreat.Am
theorem z2u {a : Aut} {n : Nat} (ha : AutIs a n) (hv : yk4 a = true) (hs : yt9 a) {L : List Elt} {ok : Bool} (hL : LOk n L) (e2 : yd1 a = some (L, ok)) : yi0 a = some (ok && !(y0y L (zj5 n a.2.1 a.2.2.1)).2, ok) := by
 have e3 := y2r ha hv hs hL e2
 obtain ⟨x, S, F, l⟩ := a
 rcases hf : y0y L (zj5 n S F) with ⟨t, b⟩
 have e3 : yh9 (x, S, F, l) = some (y0y L (zj5 n S F)) := e3
 rw [hf] at e3
 simp only [yi0, e2, e3, Option.bind_some, hf]
 cases ok <;> simp
end Go.Proofs.YtogigagfgkfkhaaGreat
