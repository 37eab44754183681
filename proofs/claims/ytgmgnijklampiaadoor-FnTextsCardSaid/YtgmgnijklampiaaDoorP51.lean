/- The value of an element's text is its matrix. -/
import Derived.Test.YtgmgnijklampiaaDoorP50
set_option linter.unusedVariables false
set_option linter.unusedSimpArgs false
namespace Go.Proofs.YtgmgnijklampiaaDoor
open Go Go.Proofs.YtgmgnijklampiaaDoor.Am
/-- forests with their values -/
inductive Vo (n : Nat) (st : List Stp) : List UInt8 → Pts → List Int → Prop
 | lt {c : UInt8} : (c = 97 ∨ c = 98) → Vo n st [c] [(B [c], PT.mk [])] (lett (B [c]) n st)
 | rp {t : List UInt8} {l : Pts} {A : List Int} : Vo n st t l A → gmul n A A = A → Vo n st (40 :: (t ++ [41, 35])) [(B [], PT.mk l)] (gstab n A)
 | cat {t t' : List UInt8} {l l' : Pts} {A A' : List Int} : Vo n st t l A → Vo n st t' l' A' → Vo n st (t ++ t') (l ++ l') (gmul n A A')
section
variable {a : Aut} {n : Nat} (ha : AutIs a n) (hv : autOk a = true) (hs : Small a)
include ha
include hv hs
end
end Go.Proofs.YtgmgnijklampiaaDoor
