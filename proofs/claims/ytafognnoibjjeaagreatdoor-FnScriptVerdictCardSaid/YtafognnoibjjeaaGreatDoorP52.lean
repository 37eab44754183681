/- The value of each element's text is the element. -/
import Derived.Test.YtafognnoibjjeaaGreatDoorP51
set_option linter.unusedVariables false
set_option linter.unusedSimpArgs false
namespace Go.Proofs.YtafognnoibjjeaaGreatDoor
open Go Go.Proofs.YtafognnoibjjeaaGreatDoor.Am
def VX(n:Nat)(st:List Stp)(A:List Int)(s:ByteArray):Prop:=∃t l,s=B t∧Vo n st t l A
theorem vx_clo(n:Nat)(st:List Stp):Clo n (VX n st):=by
 refine⟨?_, ?_⟩
 ·rintro A s C t ⟨t1,l1,rfl,h1⟩ ⟨t2,l2,rfl,h2⟩;exact⟨t1++t2,l1++l2,B_app t1 t2,.cat h1 h2⟩
 ·rintro A s ⟨t,l,rfl,h1⟩ hid;refine⟨40::(t++[41,35]),_, ?_,.rp h1 hid⟩;unfold y5j;rw[show(⟨#[(40:UInt8)]⟩:ByteArray)=B [40] from rfl,show(⟨#[(41:UInt8),(35:UInt8)]⟩:ByteArray)=B [41,35] from rfl,B_app,B_app];simp
theorem zr1{a:Aut}{n:Nat}(ha:AutIs a n)(hv:yo7 a=true)(hs:yy1 a):∃L ok,LOk n L∧yd5 a=some (L,ok)∧ya6 a=some (L,ok)∧(ok=false→L=[])∧zy7 n a.2.2.2=some (L,ok)∧XOk (VX n a.2.2.2) L:=by
 obtain⟨L,ok,h1,h2,h3,h4,h5,h6⟩:=y5k ha hv hs;exact⟨L,ok,h1,h2,h3,h4,h6,h5 _ (vx_clo n a.2.2.2) ⟨[97],_,rfl,.lt (.inl rfl)⟩ ⟨[98],_,rfl,.lt (.inr rfl)⟩⟩
end Go.Proofs.YtafognnoibjjeaaGreatDoor
