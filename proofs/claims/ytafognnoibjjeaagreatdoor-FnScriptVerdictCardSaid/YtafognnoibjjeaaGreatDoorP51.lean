/- The value of an element's text is its matrix. -/
import Derived.Test.YtafognnoibjjeaaGreatDoorP50
set_option linter.unusedVariables false
set_option linter.unusedSimpArgs false
namespace Go.Proofs.YtafognnoibjjeaaGreatDoor
open Go Go.Proofs.YtafognnoibjjeaaGreatDoor.Am
/-- forests with their values -/
inductive Vo (n:Nat) (st:List Stp):List UInt8→Pts→List Int→Prop
 |lt {c:UInt8}:(c=97∨c=98)→Vo n st [c] [(B [c],PT.mk [])] (lett (B [c]) n st)
 |rp {t:List UInt8} {l:Pts} {A:List Int}:Vo n st t l A→gmul n A A=A→Vo n st (40::(t++[41,35])) [(B [],PT.mk l)] (y0r n A)
 |cat {t t':List UInt8} {l l':Pts} {A A':List Int}:Vo n st t l A→Vo n st t' l' A'→Vo n st (t++t') (l++l') (gmul n A A')
section
variable {a : Aut} {n : Nat} (ha : AutIs a n) (hv : yo7 a = true) (hs : yy1 a)
include ha
theorem Vo.ok{t:List UInt8}{l:Pts}{A:List Int}(h:Vo n a.2.2.2 t l A):Fo t l∧l≠[]∧GOk n A:=by
 induction h with
 |lt hc=>exact⟨.lt hc .nil,by simp,z3t (yr1 ha _).1⟩
 |rp h1 h2 ih=>exact⟨.rp ih.1 ih.2.1 .nil,by simp,y5h ih.2.2⟩
 |cat h1 h2 ih1 ih2=>exact⟨ih1.1.app ih2.1,by simp[ih1.2.1],yy8 ih1.2.2 ih2.2.2⟩
include hv hs
end
end Go.Proofs.YtafognnoibjjeaaGreatDoor
