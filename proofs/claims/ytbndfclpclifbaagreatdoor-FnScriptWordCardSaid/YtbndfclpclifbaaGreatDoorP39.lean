/- Bounds of expressions: both sides tell the same; the law SomeOf. -/
import Derived.Test.YtbndfclpclifbaaGreatDoorP38
set_option linter.unusedVariables false
set_option linter.unusedSimpArgs false
namespace Go.Proofs.YtbndfclpclifbaaGreatDoor
open Go Go.Proofs.YtbndfclpclifbaaGreatDoor.Am
/-! ### where an expression ends -/
abbrev RecE := ByteArray → Int → Option Int
section
variable (φ : RecE) {S : List UInt8} (hS : S.length ≤ 1000) (b : Int) {p : Nat}
include hS
end
/-! ### bounds -/
def ad (a b : Int) : Int := if 1000000 < a + b then 1000000 else a + b
end Go.Proofs.YtbndfclpclifbaaGreatDoor
