/- Draws of automata with few states; the law of what grows between states. -/
import Derived.Test.YtafognnoibjjeaaGreatDoorP40
import Derived.Test.YtafognnoibjjeaaGreatDoorP53
set_option linter.unusedVariables false
set_option linter.unusedSimpArgs false
namespace Go.Proofs.YtafognnoibjjeaaGreatDoor
open Go Go.Proofs.YtafognnoibjjeaaGreatDoor.Am
theorem kv2{N:Int}{d:Dr}(h:DrOk N d)(hN:N≤400):∃a d',y5b d=some (a,d',())∧Tinier a∧DrOk (N+5600) d':=by
 obtain⟨b,k⟩:=d;obtain⟨r0,p0,_,_,_⟩:=y05 h (by omega) (n:=3) (by omega);have s1:=h.next;unfold y5b;dsimp only
 rw[p0];simp only[Option.bind_some];cases(r0==0) with
 |true=>
  obtain⟨⟨x,S,F,l⟩,⟨b1,k1⟩,p1,t1,s2⟩:=zr4 s1 (by omega) (q:=3) (by omega) (by omega);obtain⟨⟨x',S',F',l'⟩,⟨b2,k2⟩,p2,t2,s3⟩:=z1g s2 (by omega) t1;refine⟨(x',S',F',l'),(b2,k2), ?_,t2,s3.mono (by omega)⟩;rw[cond_true,p1];simp only[Option.bind_some,y19,p2]
 |false=>
  obtain⟨⟨x,S,F,l⟩,⟨b1,k1⟩,p1,t1,s2⟩:=zr4 s1 (by omega) (q:=2) (by omega) (by omega);obtain⟨⟨x',S',F',l'⟩,⟨b2,k2⟩,p2,t2,s3⟩:=z1g s2 (by omega) t1;refine⟨(x',S',F',l'),(b2,k2), ?_,t2,s3.mono (by omega)⟩;rw[cond_false,p1];simp only[Option.bind_some,y19,p2]
end Go.Proofs.YtafognnoibjjeaaGreatDoor
