/- The law of verdicts. -/
import Derived.Test.YtafognnoibjjeaaGreatDoorP30
import Derived.Test.YtafognnoibjjeaaGreatDoorP68
import Derived.Test.YtafognnoibjjeaaGreatDoorP71
set_option linter.unusedVariables false
set_option linter.unusedSimpArgs false
namespace Go.Proofs.YtafognnoibjjeaaGreatDoor
open Go Go.Proofs.YtafognnoibjjeaaGreatDoor.Am
theorem zu5{c:List Int}(hc:∀x∈c,0≤x∧x≤255):∃a,yt6 c=some a∧yy1 a:=by
 obtain⟨⟨b,k⟩,p0,s0⟩:=z92 hc;obtain⟨r0,q0,_,_,_⟩:=y05 s0 (by omega) (n:=8) (by omega);have s1:=s0.next;unfold yt6;rw[p0];simp only[Option.bind_some];have q0:yb5 (b,k) (8:Int)=_:=q0;rw[q0];simp only[Option.bind_some];cases(r0==0) with
 |true=>
  obtain⟨⟨x,S,F,l⟩,⟨b1,k1⟩,p1,t1,s2⟩:=k1z s1 (by omega);refine⟨(x,S,F,l), ?_,t1.small⟩;rw[cond_true,p1];rfl
 |false=>
  obtain⟨⟨x,S,F,l⟩,⟨b1,k1⟩,p1,t1,s2⟩:=kv2 s1 (by omega);refine⟨(x,S,F,l), ?_,t1.small⟩;rw[cond_false,p1];rfl
end Go.Proofs.YtafognnoibjjeaaGreatDoor
