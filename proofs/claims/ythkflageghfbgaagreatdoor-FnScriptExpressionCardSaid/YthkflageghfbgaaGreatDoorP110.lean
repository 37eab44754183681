/- Where any text's expression ends: both sides take the same texts for expressions. -/
import Derived.Test.YthkflageghfbgaaGreatDoorP57
import Derived.Test.YthkflageghfbgaaGreatDoorP39
set_option linter.unusedVariables false
set_option linter.unusedSimpArgs false
namespace Go.Proofs.YthkflageghfbgaaGreatDoor
open Go Go.Proofs.YthkflageghfbgaaGreatDoor.Am
theorem en_other(φ:RecE){S:List UInt8}(b:Int){p:Nat}(hp:p<S.length)(h1:S.getD p 0≠97)(h2:S.getD p 0≠98)(h3:S.getD p 0≠40)(h4:S.getD p 0≠41):spec_l7End_l2 φ (B S,(p:Int),b,())=some (.inr (.inl ((-1:Int),()))):=by
 have h0:(0:Int)≤(p:Int)∧(p:Int)<(((B S).size:Nat):Int):=by rw[B_size];omega
 have hb:∀k:UInt8,S.getD p 0≠k→(((((S.getD p 0).toNat:Nat):Int))==((k.toNat:Nat):Int))=false:=by
  intro k hk;rw[beq_eq_false_iff_ne];intro e;have e:(S.getD p 0).toNat=k.toNat:=by omega
  exact hk (UInt8.toNat_inj.1 e)
 have b1:=hb 97 h1;have b2:=hb 98 h2;have b3:=hb 40 h3;have b4:=hb 41 h4;have b1:(((((S.getD p 0).toNat:Nat):Int))==(97:Int))=false:=b1;have b2:(((((S.getD p 0).toNat:Nat):Int))==(98:Int))=false:=b2;have b3:(((((S.getD p 0).toNat:Nat):Int))==(40:Int))=false:=b3;have b4:(((((S.getD p 0).toNat:Nat):Int))==(41:Int))=false:=b4;simp only[spec_l7End_l2,decide_eq_true h0.2,cond_true,if_pos h0,Int.toNat_natCast,B_at,bne,b1,b2,b3,b4,Bool.not_false,cond_false]
section
variable (φ : RecE) {S : List UInt8} (hS : S.length ≤ 1000) (b : Int) {p : Nat}
include hS
theorem en_bad(hp:p<S.length)(hc:S.getD p 0=40)(hφ:φ (B S) ((p+1:Nat):Int)=some (-1:Int)):spec_l7End_l2 φ (B S,(p:Int),b,())=some (.inr (.inl ((-1:Int),()))):=by
 have h0:(0:Int)≤(p:Int)∧(p:Int)<(((B S).size:Nat):Int):=by rw[B_size];omega
 simp only[spec_l7End_l2,decide_eq_true h0.2,cond_true,if_pos h0,Int.toNat_natCast,B_at,hc,show((((40:UInt8).toNat:Nat):Int) != 41)=true from rfl,show((((40:UInt8).toNat:Nat):Int)==97)=false from rfl,show((((40:UInt8).toNat:Nat):Int)==98)=false from rfl,show((((40:UInt8).toNat:Nat):Int)==40)=true from rfl,cond_false,w64_succ hp (show S.length≤9223372036854775807 by omega),hφ,Option.bind_some,decide_eq_true (show(-1:Int)<0 by omega)]
theorem en_cut(hp:p<S.length)(hc:S.getD p 0=40){q:Nat}(hq:q≤S.length)(hφ:φ (B S) ((p+1:Nat):Int)=some (q:Int))(hno:¬(q+1<S.length∧S.getD q 0=41∧S.getD (q+1) 0=35)):spec_l7End_l2 φ (B S,(p:Int),b,())=some (.inr (.inl ((-1:Int),()))):=by
 have h0:(0:Int)≤(p:Int)∧(p:Int)<(((B S).size:Nat):Int):=by rw[B_size];omega
 have w1:IntKind.wrap .i64 ((q:Int)+1)=((q+1:Nat):Int):=w64_succ (n:=S.length+1) (by omega) (by omega);have hb:∀(i:Nat) (k:UInt8),S.getD i 0≠k→(((((S.getD i 0).toNat:Nat):Int))==((k.toNat:Nat):Int))=false:=by
  intro i k hk;rw[beq_eq_false_iff_ne];intro e;have e:(S.getD i 0).toNat=k.toNat:=by omega
  exact hk (UInt8.toNat_inj.1 e)
 simp only[spec_l7End_l2,decide_eq_true h0.2,cond_true,if_pos h0,Int.toNat_natCast,B_at,hc,show((((40:UInt8).toNat:Nat):Int) != 41)=true from rfl,show((((40:UInt8).toNat:Nat):Int)==97)=false from rfl,show((((40:UInt8).toNat:Nat):Int)==98)=false from rfl,show((((40:UInt8).toNat:Nat):Int)==40)=true from rfl,cond_false,w64_succ hp (show S.length≤9223372036854775807 by omega),hφ,Option.bind_some,decide_eq_false (show ¬(q:Int)<0 by omega),w1]
 by_cases h1:q+1<S.length
 ·have h2:(0:Int)≤(q:Int)∧(q:Int)<(((B S).size:Nat):Int):=by rw[B_size];omega
  have h3:(0:Int)≤((q+1:Nat):Int)∧((q+1:Nat):Int)<(((B S).size:Nat):Int):=by rw[B_size];omega
  rw[decide_eq_false (show ¬((q+1:Nat):Int)≥(((B S).size:Nat):Int) by omega),cond_false,if_pos h2]
  by_cases h4:S.getD q 0=41
  ·rw[h4,show((((41:UInt8).toNat:Nat):Int) != 41)=false from rfl,cond_false,if_pos h3];have h5:S.getD (q+1) 0≠35:=fun h5=>hno ⟨h1,h4,h5⟩;have b5:=hb (q+1) 35 h5;have b5:(((((S.getD (q+1) 0).toNat:Nat):Int))==(35:Int))=false:=b5;simp only[Int.toNat_natCast,bne,b5,Bool.not_false,cond_true]
  ·have b4:=hb q 41 h4;have b4:(((((S.getD q 0).toNat:Nat):Int))==(41:Int))=false:=b4;simp only[bne,b4,Bool.not_false,cond_true]
 ·rw[decide_eq_true (show((q+1:Nat):Int)≥(((B S).size:Nat):Int) by rw[B_size];omega),cond_true]
end
theorem en_any{φ:RecE}{S:List UInt8}{N:Nat}(hS:S.length≤1000)(b:Int)
  (hφ:∀p,p≤S.length→S.length-p<N→φ (B S) (p:Int)=some (-1:Int)∨∃t l r,S.drop p=t++r∧Fo t l∧l≠[]∧φ (B S) (p:Int)=some ((p+t.length:Nat):Int)):∀(k p:Nat),p≤S.length→S.length-p≤k→S.length-p≤N→
  loopF (spec_l7End_l2 φ) (B S,(p:Int),b,())=some (.inl ((-1:Int),()))∨∃t l r,S.drop p=t++r∧Fo t l∧loopF (spec_l7End_l2 φ) (B S,(p:Int),b,())=some (.inr (((p+t.length:Nat):Int),b,())):=by
 intro k
 induction k with
 |zero=>
  intro p hp hk hN;have e:=en_stop φ hS b (p:=p) (.inl (by omega));exact .inr ⟨[],[],S.drop p,rfl,.nil,by rw[loopF_eq,e];rfl⟩
 |succ k ih=>
  intro p hp hk hN
  by_cases hlt:p<S.length
  case neg=>
   have e:=en_stop φ hS b (p:=p) (.inl (by omega));exact .inr ⟨[],[],S.drop p,rfl,.nil,by rw[loopF_eq,e];rfl⟩
  have hd:S.drop p=S.getD p 0::S.drop (p+1):=by
   rw[List.drop_eq_getElem_cons hlt,List.getD_eq_getElem?_getD,List.getElem?_eq_getElem hlt];rfl
  by_cases h41:S.getD p 0=41
  ·have e:=en_stop φ hS b (p:=p) (.inr ⟨hlt,h41⟩);exact .inr ⟨[],[],S.drop p,rfl,.nil,by rw[loopF_eq,e];rfl⟩
  by_cases hab:S.getD p 0=97∨S.getD p 0=98
  ·have e:=en_lt φ hS b hlt hab
   rcases ih (p+1) (by omega) (by omega) (by omega) with g|⟨t,l,r,g1,g2,g3⟩
   ·exact .inl (by rw[loopF_eq,e];exact g)
   ·refine .inr ⟨S.getD p 0::t,_,r,by rw[hd,g1];rfl,.lt hab g2, ?_⟩;rw[loopF_eq,e];have:p+(S.getD p 0::t).length=p+1+t.length:=by rw[List.length_cons];omega
    rw[this];exact g3
  by_cases h40:S.getD p 0=40
  ·rcases hφ (p+1) (by omega) (by omega) with g|⟨t1,l1,r1,g1,g2,g3,g4⟩
   ·exact .inl (by rw[loopF_eq,en_bad φ hS b hlt h40 g];rfl)
   ·have hle:p+1+t1.length+r1.length=S.length:=by
     have:=congrArg List.length g1;rw[List.length_drop,List.length_append] at this;omega
    by_cases hy:(p+1+t1.length)+1<S.length∧S.getD (p+1+t1.length) 0=41∧S.getD (p+1+t1.length+1) 0=35
    ·obtain⟨y1,y2,y3⟩:=hy;have e:=en_open φ hS b hlt h40 y1 g4 y2 y3;have hd2:S.drop (p+1+t1.length)=41::35::S.drop (p+1+t1.length+2):=by
      have d1:S.drop (p+1+t1.length)=S.getD (p+1+t1.length) 0::S.drop (p+1+t1.length+1):=by
       rw[List.drop_eq_getElem_cons (show p+1+t1.length<S.length by omega),List.getD_eq_getElem?_getD,List.getElem?_eq_getElem (show p+1+t1.length<S.length by omega)];rfl
      have d2:S.drop (p+1+t1.length+1)=S.getD (p+1+t1.length+1) 0::S.drop (p+1+t1.length+2):=by
       rw[List.drop_eq_getElem_cons y1,List.getD_eq_getElem?_getD,List.getElem?_eq_getElem y1];rfl
      rw[d1,d2,y2,y3]
     have hr1:r1=S.drop (p+1+t1.length):=by
      rw[←List.drop_drop,g1];simp
     rcases ih (p+1+t1.length+2) (by omega) (by omega) (by omega) with g|⟨t,l,r,k1,k2,k3⟩
     ·exact .inl (by rw[loopF_eq,e];exact g)
     ·refine .inr ⟨40::(t1++41::35::t),_,r, ?_,.rp g2 g3 k2, ?_⟩
      ·rw[hd,h40,g1,hr1,hd2,k1];simp
      ·rw[loopF_eq,e];have:p+(40::(t1++41::35::t)).length=p+1+t1.length+2+t.length:=by simp;omega
       rw[this];exact k3
    ·exact .inl (by rw[loopF_eq,en_cut φ hS b hlt h40 (by omega) g4 hy];rfl)
  ·exact .inl (by rw[loopF_eq,en_other φ b hlt (fun h=>hab (.inl h)) (fun h=>hab (.inr h)) h40 h41];rfl)
theorem l7End_any:∀(N:Nat) {S:List UInt8},S.length≤1000→∀p,p≤S.length→S.length-p<N→spec_l7End_fuel N (B S) (p:Int)=some (-1:Int)∨∃t l r,S.drop p=t++r∧Fo t l∧l≠[]∧spec_l7End_fuel N (B S) (p:Int)=some ((p+t.length:Nat):Int)
 |0,S,_,p,_,h=>absurd h (by omega)
 |N+1,S,hS,p,hp,h=>by
  have key:=en_any (φ:=spec_l7End_fuel N) (N:=N) hS (p:Int) (fun p' h1 h2=>l7End_any N hS p' h1 h2) S.length p hp (by omega) (by omega);show spec_l7End_step (spec_l7End_fuel N) (B S) (p:Int)=_∨∃t l r,S.drop p=t++r∧Fo t l∧l≠[]∧spec_l7End_step (spec_l7End_fuel N) (B S) (p:Int)=_;unfold spec_l7End_step
  rcases key with g|⟨t,l,r,g1,g2,g3⟩
  ·exact .inl (by rw[g];rfl)
  ·by_cases hl:l=[]
   ·subst hl;obtain rfl:t=[]:=by cases g2;rfl
    left;rw[g3];simp
   ·refine .inr ⟨t,l,r,g1,g2,hl, ?_⟩;have hne:=g2.ne hl;have h0:0<t.length:=List.length_pos_iff.2 hne;rw[g3];have:(((p+t.length:Nat):Int)==(p:Int))=false:=by
     rw[beq_eq_false_iff_ne];omega
    simp only[Option.bind_some,this,cond_false]
/-- both sides take the same texts for expressions -/
theorem valid_both(s:ByteArray)(hs:s.size≤1000):(∃t l,s=B t∧Fo t l∧l≠[]∧t.length≤120∧impl_parts s=some (l,true)∧spec_ExpressionValid s=some true)∨((∃l,impl_parts s=some (l,false))∧spec_ExpressionValid s=some false):=by
 rcases parts_any s with⟨l,h⟩|⟨t,l,rfl,h1,h2,h3,h4⟩
 ·refine .inr ⟨⟨l,h⟩, ?_⟩;obtain⟨e,rfl⟩:∃e,s=B e:=⟨_,(B_of s).symm⟩;have hs:e.length≤1000:=hs;unfold spec_ExpressionValid;rw[B_size]
  by_cases h120:e.length≤120
  ·rw[decide_eq_true (show((e.length:Nat):Int)≤120 by omega),cond_true];have key:=l7End_any 200 hs 0 (by omega) (by omega)
   rcases key with g|⟨t,l',r,g1,g2,g3,g4⟩
   ·have g:spec_l7End (B e) (0:Int)=some (-1:Int):=g;rw[g];simp only[Option.bind_some];rw[show((-1:Int)==((e.length:Nat):Int))=false by rw[beq_eq_false_iff_ne];omega,cond_false]
   ·have g4:spec_l7End (B e) (0:Int)=some ((0+t.length:Nat):Int):=g4;rw[g4];simp only[Option.bind_some];rw[List.drop_zero] at g1
    by_cases hr:r=[]
    ·subst hr;rw[List.append_nil] at g1;subst g1;rw[parts_is g2 g3 h120] at h;simp at h
    ·have:0<r.length:=List.length_pos_iff.2 hr;have hl:=congrArg List.length g1;rw[List.length_append] at hl;rw[show(((0+t.length:Nat):Int)==((e.length:Nat):Int))=false by rw[beq_eq_false_iff_ne];omega,cond_false]
  ·rw[decide_eq_false (show ¬((e.length:Nat):Int)≤120 by omega),cond_false]
 ·refine .inl ⟨t,l,rfl,h1,h2,h3,h4, ?_⟩;have e:=l7End_is 200 h1 h2 (by omega) [] [] (.inl rfl) (by simp;omega);have e:spec_l7End (B ([]++(t++[]))) ((([]:List UInt8).length:Nat):Int)=some ((([]:List UInt8).length+t.length:Nat):Int):=e;rw[List.append_nil,List.nil_append,List.length_nil] at e;have e:spec_l7End (B t) (0:Int)=_:=e;have h0:0<t.length:=List.length_pos_iff.2 (h1.ne h2);unfold spec_ExpressionValid;rw[B_size,decide_eq_true (show((t.length:Nat):Int)≤120 by omega),cond_true,e];simp only[Option.bind_some];rw[show(((0+t.length:Nat):Int)==((t.length:Nat):Int))=true by rw[beq_iff_eq];omega,cond_true,decide_eq_true (show((t.length:Nat):Int)>0 by omega)]
end Go.Proofs.YthkflageghfbgaaGreatDoor
