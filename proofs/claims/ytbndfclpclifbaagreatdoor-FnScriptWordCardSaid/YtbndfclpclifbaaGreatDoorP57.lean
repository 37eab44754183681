import Derived.Test.YtbndfclpclifbaaGreatDoorP56
import Derived.Test.YtbndfclpclifbaaGreatDoorP50
set_option linter.unusedVariables false
set_option linter.unusedSimpArgs false
/- The parts of any text, the value of any text. -/
namespace Go.Proofs.YtbndfclpclifbaaGreatDoor
open Go Go.Proofs.YtbndfclpclifbaaGreatDoor.Am
section
variable (φ : Rec) (ac : Pts) (s : List UInt8)
end
end Go.Proofs.YtbndfclpclifbaaGreatDoor

/- The value of any text is none, or it lies among closed matrices. -/
namespace Go.Proofs.YtbndfclpclifbaaGreatDoor
open Go Go.Proofs.YtbndfclpclifbaaGreatDoor.Am
section
variable {a : Aut} {n : Nat} (ha : AutIs a n) (hv : autOk a = true) (hs : Small a) {C : List Int → Prop} (hC : Closed n a.2.2.2 C) (hg : ∀ A, C A → GOk n A)
include ha hv hs hC hg
end
end Go.Proofs.YtbndfclpclifbaaGreatDoor

/- Draws of texts that are mostly expressions; draws of matrices of grades. -/
namespace Go.Proofs.YtbndfclpclifbaaGreatDoor
open Go Go.Proofs.YtbndfclpclifbaaGreatDoor.Am
end Go.Proofs.YtbndfclpclifbaaGreatDoor

/- The law of an element's expression. -/
namespace Go.Proofs.YtbndfclpclifbaaGreatDoor
open Go Go.Proofs.YtbndfclpclifbaaGreatDoor.Am
end Go.Proofs.YtbndfclpclifbaaGreatDoor
