/- What a growing expression is, and its expansions. -/
import Derived.Test.YtafognnoibjjeaaGreatDoorP77
import Derived.Test.YtafognnoibjjeaaGreatDoorP37
set_option linter.unusedVariables false
set_option linter.unusedSimpArgs false
namespace Go.Proofs.YtafognnoibjjeaaGreatDoor
open Go Go.Proofs.YtafognnoibjjeaaGreatDoor.Am
theorem B_inj{a b:List UInt8}(h:B a=B b):a=b:=by
 have:=congrArg ByteArray.toList h
 rwa [y7h,y7h] at this
theorem xo_det{m:Nat}{t w:List UInt8}{l:Pts}(h:Xo m t l w):∀{t' w':List UInt8},Xo m t' l w'→w=w':=by
 induction h with
 |nil=>intro t' w' h';cases h';rfl
 |@lt c t w l hc _ ih=>
  intro t' w' h';generalize hL:(B [c],PT.mk [])::l=L at h';cases h' with
  |nil=>cases hL
  |@lt c' t1 w1 l1 _ h2=>
   injection hL with e1 e2;have e3:=B_inj (Prod.mk.inj e1).1;injection e3 with e4 _;subst e2 e4;rw[ih h2]
  |@rp t1 t2 w1 w2 l1 l2 h1 hn h2=>
   injection hL with e1 e2;have e3:=B_inj (Prod.mk.inj e1).1;cases e3
 |@rp t1 t2 w1 w2 l1 l2 _ hn _ ih1 ih2=>
  intro t' w' h';generalize hL:(B [],PT.mk l1)::l2=L at h';cases h' with
  |nil=>cases hL
  |@lt c' t1 w1 l1 _ h2=>
   injection hL with e1 e2;have e3:=B_inj (Prod.mk.inj e1).1;cases e3
  |@rp t1' t2' w1' w2' l1' l2' h1 hn' h2=>
   injection hL with e1 e2;have e3:=(Prod.mk.inj e1).2;injection e3 with e4;subst e2 e4;rw[ih1 h1,ih2 h2]
/-- a growing expression -/
structure Grows (a:Aut) (e:ByteArray) (n:Nat) (t:List UInt8) (l:Pts) (A:List Int):Prop where
 v:yo7 a=true
 ha:AutIs a n
 e:e=B t
 vo:Vo n a.2.2.2 t l A
 len:t.length≤120
 btw:btw n A a.2.1 a.2.2.1=2
 ok:GOk n A
section
variable {a : Aut} {e : ByteArray} {n : Nat} {t : List UInt8} {l : Pts} {A : List Int} (h : Grows a e n t l A)
include h
theorem Grows.ne:l≠[]:=(h.vo.ok h.ha).2.1
theorem Grows.cost{m:Nat}(hm:n+1≤m)(hm2:m≤1000000){w:List UInt8}(hw:Xo m t l w)(hl:w.length≤1000){c:Int}(hc:CostIs a w c):((m/(n+1):Nat):Int)≤c:=by
 obtain⟨w',h1,h2⟩:=vo_gx h.ha hm h.vo;obtain rfl:=xo_det hw h1;refine(kw7 h.ha h.btw hl hc).2 _ h2.p1 ?_;have:m/(n+1)≤m:=Nat.div_le_self _ _;show _≤(1000000:Int);omega
end
end Go.Proofs.YtafognnoibjjeaaGreatDoor
