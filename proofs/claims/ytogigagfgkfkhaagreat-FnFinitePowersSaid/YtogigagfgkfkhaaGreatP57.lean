import Derived.Test.YtogigagfgkfkhaaGreatP56
import Derived.Test.YtogigagfgkfkhaaGreatP50
set_option linter.unusedVariables false
set_option linter.unusedSimpArgs false
/- The parts of any text, the value of any text. -/
namespace Go.Proofs.YtogigagfgkfkhaaGreat
open Go Go.Proofs.YtogigagfgkfkhaaGreat.Am
section
variable (φ : Rec) (ac : Pts) (s : List UInt8)
end
end Go.Proofs.YtogigagfgkfkhaaGreat

/- The value of any text is none, or it lies among closed matrices. -/
namespace Go.Proofs.YtogigagfgkfkhaaGreat
open Go Go.Proofs.YtogigagfgkfkhaaGreat.Am
section
variable {a : Aut} {n : Nat} (ha : AutIs a n) (hv : yk4 a = true) (hs : yt9 a) {C : List Int → Prop} (hC : Closed n a.2.2.2 C) (hg : ∀ A, C A → GOk n A)
include ha hv hs hC hg
end
end Go.Proofs.YtogigagfgkfkhaaGreat

/- Draws of texts that are mostly expressions; draws of matrices of grades. -/
namespace Go.Proofs.YtogigagfgkfkhaaGreat
open Go Go.Proofs.YtogigagfgkfkhaaGreat.Am
end Go.Proofs.YtogigagfgkfkhaaGreat

/- The law of an element's expression. -/
namespace Go.Proofs.YtogigagfgkfkhaaGreat
open Go Go.Proofs.YtogigagfgkfkhaaGreat.Am
end Go.Proofs.YtogigagfgkfkhaaGreat
