import Derived.Test.YthkflageghfbgaaGreatDoorP39
import Derived.Test.YthkflageghfbgaaGreatDoorP30
import Derived.Test.YthkflageghfbgaaGreatDoorP40
set_option linter.unusedVariables false
set_option linter.unusedSimpArgs false
/- Products of grades are put together in any way; the value of a text that is put behind another. -/
namespace Go.Proofs.YthkflageghfbgaaGreatDoor
open Go Go.Proofs.YthkflageghfbgaaGreatDoor.Am
end Go.Proofs.YthkflageghfbgaaGreatDoor

/- The value of an element's text is its matrix. -/
namespace Go.Proofs.YthkflageghfbgaaGreatDoor
open Go Go.Proofs.YthkflageghfbgaaGreatDoor.Am
/-- forests with their values -/
inductive Vo (n:Nat) (st:List Stp):List UInt8→Pts→List Int→Prop
 |lt {c:UInt8}:(c=97∨c=98)→Vo n st [c] [(B [c],PT.mk [])] (lett (B [c]) n st)
 |rp {t:List UInt8} {l:Pts} {A:List Int}:Vo n st t l A→gmul n A A=A→Vo n st (40::(t++[41,35])) [(B [],PT.mk l)] (gstab n A)
 |cat {t t':List UInt8} {l l':Pts} {A A':List Int}:Vo n st t l A→Vo n st t' l' A'→Vo n st (t++t') (l++l') (gmul n A A')
theorem tk_id'{α:Type}(p:List α):List.take p.length (List.drop 0 p)=p:=by simp
abbrev RecV:=Aut→Pts→Option ((Int×List Int)×Bool)
section
variable {a : Aut} {n : Nat} (ha : AutIs a n) (hv : autOk a = true) (hs : Small a)
include ha
theorem Vo.ok{t:List UInt8}{l:Pts}{A:List Int}(h:Vo n a.2.2.2 t l A):Fo t l∧l≠[]∧GOk n A:=by
 induction h with
 |lt hc=>exact⟨.lt hc .nil,by simp,gr_ok (putSteps_rng ha _).1⟩
 |rp h1 h2 ih=>exact⟨.rp ih.1 ih.2.1 .nil,by simp,gstab_ok ih.2.2⟩
 |cat h1 h2 ih1 ih2=>exact⟨ih1.1.app ih2.1,by simp[ih1.2.1],gmul_ok ih1.2.2 ih2.2.2⟩
include hv hs
end
end Go.Proofs.YthkflageghfbgaaGreatDoor

/- The value of each element's text is the element. -/
namespace Go.Proofs.YthkflageghfbgaaGreatDoor
open Go Go.Proofs.YthkflageghfbgaaGreatDoor.Am
end Go.Proofs.YthkflageghfbgaaGreatDoor

/- What grows between two states grows there. -/
namespace Go.Proofs.YthkflageghfbgaaGreatDoor
open Go Go.Proofs.YthkflageghfbgaaGreatDoor.Am
end Go.Proofs.YthkflageghfbgaaGreatDoor

/- Draws of automata with few states; the law of what grows between states. -/
namespace Go.Proofs.YthkflageghfbgaaGreatDoor
open Go Go.Proofs.YthkflageghfbgaaGreatDoor.Am
end Go.Proofs.YthkflageghfbgaaGreatDoor
