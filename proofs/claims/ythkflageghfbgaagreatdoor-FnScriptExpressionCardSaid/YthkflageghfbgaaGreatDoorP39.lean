/- Bounds of expressions: both sides tell the same; the law SomeOf. -/
import Derived.Test.YthkflageghfbgaaGreatDoorP38
set_option linter.unusedVariables false
set_option linter.unusedSimpArgs false
namespace Go.Proofs.YthkflageghfbgaaGreatDoor
open Go Go.Proofs.YthkflageghfbgaaGreatDoor.Am
/-! ### where an expression ends -/
abbrev RecE:=ByteArray→Int→Option Int
section
variable (φ : RecE) {S : List UInt8} (hS : S.length ≤ 1000) (b : Int) {p : Nat}
include hS
theorem en_lt(hp:p<S.length)(hc:S.getD p 0=97∨S.getD p 0=98):spec_l7End_l2 φ (B S,(p:Int),b,())=some (.inl (B S,((p+1:Nat):Int),b,())):=by
 have h0:(0:Int)≤(p:Int)∧(p:Int)<(((B S).size:Nat):Int):=by rw[B_size];omega
 have h1:(p:Int)<(((B S).size:Nat):Int):=h0.2;simp only[spec_l7End_l2,decide_eq_true h1,cond_true,if_pos h0,Int.toNat_natCast,B_at]
 rcases hc with hc|hc
 ·simp only[hc,show((((97:UInt8).toNat:Nat):Int) != 41)=true from rfl,show((((97:UInt8).toNat:Nat):Int)==97)=true from rfl,cond_true,w64_succ hp (by omega)]
 ·simp only[hc,show((((98:UInt8).toNat:Nat):Int) != 41)=true from rfl,show((((98:UInt8).toNat:Nat):Int)==97)=false from rfl,show((((98:UInt8).toNat:Nat):Int)==98)=true from rfl,cond_true,cond_false,w64_succ hp (by omega)]
theorem en_open(hp:p<S.length)(hc:S.getD p 0=40){q:Nat}(hq:q+1<S.length)(hφ:φ (B S) ((p+1:Nat):Int)=some (q:Int))(h41:S.getD q 0=41)(h35:S.getD (q+1) 0=35):spec_l7End_l2 φ (B S,(p:Int),b,())=some (.inl (B S,((q+2:Nat):Int),b,())):=by
 have h0:(0:Int)≤(p:Int)∧(p:Int)<(((B S).size:Nat):Int):=by rw[B_size];omega
 have h1:(p:Int)<(((B S).size:Nat):Int):=h0.2;have h2:(0:Int)≤(q:Int)∧(q:Int)<(((B S).size:Nat):Int):=by rw[B_size];omega
 have h3:(0:Int)≤((q+1:Nat):Int)∧((q+1:Nat):Int)<(((B S).size:Nat):Int):=by rw[B_size];omega
 have w1:IntKind.wrap .i64 ((q:Int)+1)=((q+1:Nat):Int):=w64_succ (n:=S.length) (by omega) (by omega);have w2:IntKind.wrap .i64 ((q:Int)+2)=((q+2:Nat):Int):=by rw[w64 (by omega) (by omega)];rfl
 simp only[spec_l7End_l2,decide_eq_true h1,cond_true,if_pos h0,Int.toNat_natCast,B_at,hc,show((((40:UInt8).toNat:Nat):Int) != 41)=true from rfl,show((((40:UInt8).toNat:Nat):Int)==97)=false from rfl,show((((40:UInt8).toNat:Nat):Int)==98)=false from rfl,show((((40:UInt8).toNat:Nat):Int)==40)=true from rfl,cond_false,w64_succ hp (show S.length≤9223372036854775807 by omega),hφ,Option.bind_some,decide_eq_false (show ¬(q:Int)<0 by omega),w1,w2,decide_eq_false (show ¬((q+1:Nat):Int)≥(((B S).size:Nat):Int) by omega),if_pos h2,if_pos h3,h41,h35,show((((41:UInt8).toNat:Nat):Int) != 41)=false from rfl,show((((35:UInt8).toNat:Nat):Int) != 35)=false from rfl]
end
theorem en_stop(φ:RecE){S:List UInt8}(hS:S.length≤1000)(b:Int){p:Nat}(hc:p=S.length∨(p<S.length∧S.getD p 0=41)):spec_l7End_l2 φ (B S,(p:Int),b,())=some (.inr (.inr ((p:Int),b,()))):=by
 rcases hc with rfl|⟨hp,hc⟩
 ·simp only[spec_l7End_l2,decide_eq_false (show ¬((S.length:Nat):Int)<(((B S).size:Nat):Int) by rw[B_size];omega),cond_false]
 ·have h0:(0:Int)≤(p:Int)∧(p:Int)<(((B S).size:Nat):Int):=by rw[B_size];omega
  have h1:(p:Int)<(((B S).size:Nat):Int):=h0.2;simp only[spec_l7End_l2,decide_eq_true h1,cond_true,if_pos h0,Int.toNat_natCast,B_at,hc,show((((41:UInt8).toNat:Nat):Int) != 41)=false from rfl,cond_false]
theorem getD_mid(pre:List UInt8)(c:UInt8)(l:List UInt8):(pre++c::l).getD pre.length 0=c:=by
 rw[List.getD_eq_getElem?_getD,List.getElem?_append_right (Nat.le_refl _)];simp
theorem en_loop{φ:RecE}{N:Nat}(hφ:∀{t1:List UInt8} {l1:Pts} (pre r:List UInt8),Fo t1 l1→l1≠[]→t1.length<N→(pre++(t1++41::r)).length≤1000→φ (B (pre++(t1++41::r))) (pre.length:Int)=some ((pre.length+t1.length:Nat):Int))(b:Int):
  ∀{t:List UInt8} {l:Pts},Fo t l→t.length≤N→∀(pre r:List UInt8) (S:List UInt8),S=pre++(t++r)→S.length≤1000→loopF (spec_l7End_l2 φ) (B S,(pre.length:Int),b,())=loopF (spec_l7End_l2 φ) (B S,((pre.length+t.length:Nat):Int),b,()):=by
 intro t l h
 induction h with
 |nil=>intro _ pre r S _ _;simp
 |@lt c t l hc _ ih=>
  intro hN pre r S hS h1;simp only[List.length_cons] at hN;have ih:=ih (by omega) (pre++[c]) r S (by rw[hS];simp) h1;have hlen:S.length=pre.length+(t.length+1+r.length):=by rw[hS];simp;omega
  have hat:S.getD pre.length 0=c:=by rw[hS];exact getD_mid pre c (t++r)
  rw[loopF_eq,en_lt φ h1 b (by omega) (by rw[hat];exact hc)];simp only[Option.bind_some];rw[List.length_append,List.length_singleton] at ih;rw[ih,List.length_cons,show pre.length+(t.length+1)=pre.length+1+t.length by omega]
 |@rp t1 t2 l1 l2 g1 hn _ _ ih=>
  intro hN pre r S hS h1;simp only[List.length_cons,List.length_append] at hN;have ih:=ih (by omega) (pre++40::(t1++[41,35])) r S (by rw[hS];simp) h1;have hlen:S.length=pre.length+(t1.length+(t2.length+3)+r.length):=by rw[hS];simp;omega
  have hat:S.getD pre.length 0=40:=by rw[hS];exact getD_mid pre 40 _
  have hS1:S=(pre++[40])++(t1++41::(35::(t2++r))):=by rw[hS];simp
  have hS2:S=(pre++40::t1)++41::(35::(t2++r)):=by rw[hS];simp
  have hS3:S=(pre++40::(t1++[41]))++35::(t2++r):=by rw[hS];simp
  have e:=hφ (pre++[40]) (35::(t2++r)) g1 hn (by omega) (by rw[←hS1];exact h1);rw[←hS1,List.length_append,List.length_singleton] at e;have e41:S.getD (pre.length+1+t1.length) 0=41:=by
   have:=getD_mid (pre++40::t1) 41 (35::(t2++r));rw[←hS2,List.length_append,List.length_cons] at this;rw[←this];congr 1;omega
  have e35:S.getD (pre.length+1+t1.length+1) 0=35:=by
   have:=getD_mid (pre++40::(t1++[41])) 35 (t2++r);rw[←hS3] at this;rw[←this];congr 1;simp;omega
  rw[loopF_eq,en_open φ h1 b (by omega) hat (by omega) e e41 e35];simp only[Option.bind_some];have hl:(pre++40::(t1++[41,35])).length=pre.length+1+t1.length+2:=by simp;omega
  rw[hl] at ih;rw[ih];congr 4;simp only[List.length_cons,List.length_append];omega
theorem l7End_is:∀(N:Nat) {t:List UInt8} {l:Pts},Fo t l→l≠[]→t.length<N→∀pre r:List UInt8,Stops r→(pre++(t++r)).length≤1000→spec_l7End_fuel N (B (pre++(t++r))) (pre.length:Int)=some ((pre.length+t.length:Nat):Int)
 |0,t,l,h,_,hN,_,_,_,_=>absurd hN (by omega)
 |N+1,t,l,h,hl,hN,pre,r,hr,hs=>by
  show spec_l7End_step (spec_l7End_fuel N) (B (pre++(t++r))) (pre.length:Int)=_;have hne:=List.length_pos_iff.2 (h.ne hl);have e:=en_loop (φ:=spec_l7End_fuel N) (N:=N) (fun{t1 l1} pre r h1 h2 h3 h4=>l7End_is N h1 h2 h3 pre (41::r) (.inr ⟨r,rfl⟩) h4) (pre.length:Int) h (by omega) pre r _ rfl hs;have hlen:(pre++(t++r)).length=pre.length+t.length+r.length:=by simp;omega
  unfold spec_l7End_step;rw[e,loopF_eq,en_stop _ hs _ (by
   rcases hr with rfl|⟨r',rfl⟩
   ·left;simp
   ·right;refine⟨by rw[hlen];simp, ?_⟩;have:=getD_mid (pre++t) 41 r';rw[List.length_append] at this;rw[←List.append_assoc];exact this)]
  simp only[Option.bind_some];rw[show(((pre.length+t.length:Nat):Int)==(pre.length:Int))=false by
   rw[beq_eq_false_iff_ne];omega]
  rfl
theorem l7Next_lt{c:UInt8}(hc:c=97∨c=98)(t:List UInt8):spec_l7Next (B (c::t))=some (B [c],false,B t):=by
 have h1:(0:Int)≤1∧(1:Int)≤(((B (c::t)).size:Nat):Int):=by rw[B_size,List.length_cons];omega
 have h0:(0:Int)≤0∧(0:Int)<(((B (c::t)).size:Nat):Int):=by rw[B_size,List.length_cons];omega
 have e1:(B (c::t)).extract 1 (B (c::t)).size=B t:=by rw[B_extract];simp[B_size]
 have e2:(B (c::t)).extract 0 1=B [c]:=by rw[B_extract];simp
 have e3:(((c.toNat:Nat):Int) != 40)=true:=by rcases hc with rfl|rfl<;>rfl
 simp only[spec_l7Next,if_pos h0,if_pos h1,B_at,show Int.toNat 0=0 from rfl,show Int.toNat 1=1 from rfl,List.getD_cons_zero,e1,e2,e3,cond_true]
theorem l7Next_rp{t1 t2:List UInt8}{l1:Pts}(h:Fo t1 l1)(hl:l1≠[])(hs:t1.length+t2.length≤190):spec_l7Next (B (40::(t1++41::35::t2)))=some (B t1,true,B t2):=by
 have e:=l7End_is 200 h hl (by omega) [40] (41::35::t2) (.inr ⟨_,rfl⟩) (by simp;omega);have e:spec_l7End (B (40::(t1++41::35::t2))) (1:Int)=some ((1+t1.length:Nat):Int):=e;have hlen:(40::(t1++41::35::t2)).length=t1.length+t2.length+3:=by simp;omega
 generalize hT:40::(t1++41::35::t2)=T at*
 have h0:(0:Int)≤0∧(0:Int)<(((B T).size:Nat):Int):=by rw[B_size];omega
 have h1:(0:Int)≤1∧((1:Int)≤((1+t1.length:Nat):Int)∧((1+t1.length:Nat):Int)≤(((B T).size:Nat):Int)):=by rw[B_size];omega
 have w2:IntKind.wrap .i64 (((1+t1.length:Nat):Int)+2)=((1+t1.length+2:Nat):Int):=by rw[w64 (by omega) (by omega)];rfl
 have h2:(0:Int)≤((1+t1.length+2:Nat):Int)∧((1+t1.length+2:Nat):Int)≤(((B T).size:Nat):Int):=by rw[B_size];omega
 have hat:T.getD 0 0=40:=by rw[←hT];rfl
 have e1:(B T).extract 1 (1+t1.length)=B t1:=by
  rw[B_extract,←hT];congr 1;simp
 have e2:(B T).extract (1+t1.length+2) (B T).size=B t2:=by
  rw[B_extract,B_size,←hT];congr 1;rw[show 40::(t1++41::35::t2)=(40::(t1++[41,35]))++t2 by simp,List.drop_append_of_le_length (by simp;omega),List.drop_of_length_le (by simp;omega)];rw[List.nil_append];exact List.take_of_length_le (by simp;omega)
 simp only[spec_l7Next,if_pos h0,B_at,show Int.toNat 0=0 from rfl,show Int.toNat 1=1 from rfl,hat,show((((40:UInt8).toNat:Nat):Int) != 40)=false from rfl,cond_false,e,Option.bind_some,if_pos h1,w2,if_pos h2,Int.toNat_natCast,e1,e2]
/-! ### bounds -/
def ad(a b:Int):Int:=if 1000000<a+b then 1000000 else a+b
theorem drop_cons{α:Type}{L l:List α}{k:Nat}{x:α}(d:α)(h:L.drop k=x::l):k<L.length∧L.getD k d=x∧L.drop (k+1)=l:=by
 have hk:k<L.length:=by
  apply Classical.byContradiction;intro hk;rw[List.drop_eq_nil_of_le (by omega)] at h;cases h
 rw[List.drop_eq_getElem_cons hk] at h;obtain⟨h1,h2⟩:=List.cons.inj h;exact⟨hk,by rw[getD_get d hk];exact h1,h2⟩
end Go.Proofs.YthkflageghfbgaaGreatDoor
