/- The parts of any text, the value of any text. -/
import Derived.Test.YthkflageghfbgaaGreatDoorP56
set_option linter.unusedVariables false
set_option linter.unusedSimpArgs false
namespace Go.Proofs.YthkflageghfbgaaGreatDoor
open Go Go.Proofs.YthkflageghfbgaaGreatDoor.Am
theorem c_beq{c:UInt8}{k:Nat}(hk:k<256)(h:c≠UInt8.ofNat k):((((c.toNat:Nat):Int))==((k:Nat):Int))=false:=by
 rw[beq_eq_false_iff_ne];intro e;apply h;have e:c.toNat=k:=by omega
 rw[←e];simp
section
variable (φ : Rec) (ac : Pts) (s : List UInt8)
theorem rp_other{c:UInt8}(h1:c≠97)(h2:c≠98)(h3:c≠40):impl_readParts_l2 φ (B (c::s),ac,())=some (.inr (.inl (ac,B (c::s),()))):=by
 have h0:(0:Int)≤0∧(0:Int)<(((B (c::s)).size:Nat):Int):=by rw[B_size,List.length_cons];omega
 have e1:(((c.toNat:Nat):Int)==97)=false:=c_beq (k:=97) (by omega) h1;have e2:(((c.toNat:Nat):Int)==98)=false:=c_beq (k:=98) (by omega) h2;have e3:(((c.toNat:Nat):Int)==40)=false:=c_beq (k:=40) (by omega) h3;simp only[impl_readParts_l2,B_ne,Bool.not_false,cond_true,if_pos h0,B_at,show Int.toNat 0=0 from rfl,List.getD_cons_zero,e1,e2,e3,cond_false,List.drop_zero,List.take_length]
theorem hasPrefix_no(r:List UInt8):(∃s2,r=41::35::s2)∨strings_HasPrefix (B r) (⟨#[(41:UInt8),(35:UInt8)]⟩:ByteArray)=some false:=by
 have e:(⟨#[(41:UInt8),(35:UInt8)]⟩:ByteArray)=B [41,35]:=rfl;rw[e]
 match r with
 |[]=>right;rfl
 |[x]=>right;rfl
 |x::y::r=>
  by_cases hx:x=41∧y=35
  ·left;obtain⟨rfl,rfl⟩:=hx;exact⟨r,rfl⟩
  ·right;have h1:(((B (x::y::r)).size:Nat):Int)≥(((B [41,35]).size:Nat):Int):=by simp only[B_size,List.length_cons,List.length_nil];omega
   simp only[strings_HasPrefix,internal_stringslite_HasPrefix,decide_eq_true h1,cond_true];rw[if_pos ⟨by omega,by omega⟩,B_extract];simp only[Option.bind_some,B_toList];have:(List.take (Int.toNat (((B [41,35]).size:Nat):Int)-0) (List.drop 0 (x::y::r))==[41,35])=false:=by
    show([x,y]==[41,35])=false;rw[beq_eq_false_iff_ne];intro e;injection e with e1 e2;injection e2 with e2 _;exact hx ⟨e1,e2⟩
   rw[this]
theorem rp_stuck{l1:Pts}{r:List UInt8}(hφ:φ (B s)=some (l1,B r))(h:l1=[]∨¬∃s2,r=41::35::s2):impl_readParts_l2 φ (B (40::s),ac,())=some (.inr (.inl (ac,B (40::s),()))):=by
 have h1:(0:Int)≤1∧(1:Int)≤(((B (40::s)).size:Nat):Int):=by rw[B_size,List.length_cons];omega
 have h0:(0:Int)≤0∧(0:Int)<(((B (40::s)).size:Nat):Int):=by rw[B_size,List.length_cons];omega
 have e1:(B (40::s)).extract 1 (B (40::s)).size=B s:=by rw[B_extract];simp[B_size]
 simp only[impl_readParts_l2,B_ne,Bool.not_false,cond_true,if_pos h0,if_pos h1,B_at,show Int.toNat 0=0 from rfl,show Int.toNat 1=1 from rfl,List.getD_cons_zero,show((((40:UInt8).toNat:Nat):Int)==97)=false from rfl,show((((40:UInt8).toNat:Nat):Int)==98)=false from rfl,show((((40:UInt8).toNat:Nat):Int)==40)=true from rfl,cond_false,e1,hφ,Option.bind_some]
 by_cases hl:l1=[]
 ·subst hl;simp only[show decide (((([]:Pts).length:Nat):Int)>0)=false from rfl,cond_false,List.drop_zero,List.take_length]
 ·have hl':0<l1.length:=List.length_pos_iff.2 hl
  rcases hasPrefix_no r with h2|h2
  ·rcases h with h|h
   ·exact absurd h hl
   ·exact absurd h2 h
  ·simp only[decide_eq_true (show((l1.length:Nat):Int)>0 by omega),cond_true,h2,Option.bind_some,cond_false,List.drop_zero,List.take_length]
end
/-- what the loop of parts ends with: the parts of a beginning, and the rest -/
theorem rp_any{φ:Rec}{N:Nat}(hφ:∀s:List UInt8,s.length<N→∃t l r,s=t++r∧Fo t l∧φ (B s)=some (l,B r)):
  ∀(m:Nat) (e:List UInt8) (ac:Pts),e.length≤m→m≤N→ac.length+m≤1000→∃t l r,e=t++r∧Fo t l∧
   (loopF (impl_readParts_l2 φ) (B e,ac,())=some (.inl (ac++l,B r,()))∨loopF (impl_readParts_l2 φ) (B e,ac,())=some (.inr (B r,ac++l,()))):=by
 intro m
 induction m with
 |zero=>
  intro e ac he _ _;obtain rfl:e=[]:=List.length_eq_zero_iff.1 (by omega);refine⟨[],[],[],rfl,.nil,.inr ?_⟩;rw[loopF_eq,rp_nil,List.append_nil];rfl
 |succ m ih=>
  intro e ac he hm ha;cases e with
  |nil=>
   refine⟨[],[],[],rfl,.nil,.inr ?_⟩;rw[loopF_eq,rp_nil,List.append_nil];rfl
  |cons c s=>
   simp only[List.length_cons] at he;have stop:∀{r},impl_readParts_l2 φ (B (c::s),ac,())=some (.inr (.inl (ac,r,())))→r=B (c::s)→∃t l r,c::s=t++r∧Fo t l∧
     (loopF (impl_readParts_l2 φ) (B (c::s),ac,())=some (.inl (ac++l,B r,()))∨loopF (impl_readParts_l2 φ) (B (c::s),ac,())=some (.inr (B r,ac++l,()))):=by
    rintro r h rfl;refine⟨[],[],c::s,rfl,.nil,.inl ?_⟩;rw[loopF_eq,h,List.append_nil];rfl
   have letter:(c=97∨c=98)→impl_readParts_l2 φ (B (c::s),ac,())=some (.inl (B s,ac++[(B [c],PT.mk [])],()))→∃t l r,c::s=t++r∧Fo t l∧
     (loopF (impl_readParts_l2 φ) (B (c::s),ac,())=some (.inl (ac++l,B r,()))∨loopF (impl_readParts_l2 φ) (B (c::s),ac,())=some (.inr (B r,ac++l,()))):=by
    intro hc h;obtain⟨t,l,r,rfl,h1,h2⟩:=ih s (ac++[(B [c],PT.mk [])]) (by omega) (by omega) (by simp;omega);refine⟨c::t,(B [c],PT.mk [])::l,r,rfl,.lt hc h1, ?_⟩;rw[show ac++(B [c],PT.mk [])::l=ac++[(B [c],PT.mk [])]++l by simp,loopF_eq,h];exact h2
   by_cases h1:c=97
   ·subst h1;exact letter (.inl rfl) (rp_a φ ac s (by omega))
   ·by_cases h2:c=98
    ·subst h2;exact letter (.inr rfl) (rp_b φ ac s (by omega))
    ·by_cases h3:c=40
     ·subst h3;obtain⟨t1,l1,r1,rfl,g1,g2⟩:=hφ s (by omega)
      by_cases hl:l1=[]
      ·exact stop (rp_stuck φ ac _ g2 (.inl hl)) rfl
      ·by_cases hr:∃s2,r1=41::35::s2
       ·obtain⟨s2,rfl⟩:=hr;have ho:=rp_open φ ac _ (by omega) hl g2;simp only[List.length_append,List.length_cons] at he;obtain⟨t,l,r,rfl,k1,k2⟩:=ih s2 (ac++[(B [],PT.mk l1)]) (by omega) (by omega) (by simp;omega);refine⟨40::(t1++41::35::t),(B [],PT.mk l1)::l,r,by simp,.rp g1 hl k1, ?_⟩;rw[show ac++(B [],PT.mk l1)::l=ac++[(B [],PT.mk l1)]++l by simp,loopF_eq,ho];exact k2
       ·exact stop (rp_stuck φ ac _ g2 (.inr hr)) rfl
     ·exact stop (rp_other φ ac s h1 h2 h3) rfl
theorem readParts_any:∀(N:Nat) (s:List UInt8),s.length<N→N≤999→∃t l r,s=t++r∧Fo t l∧impl_readParts_fuel N (B s)=some (l,B r)
 |0,s,h,_=>absurd h (by omega)
 |N+1,s,h,hN=>by
  obtain⟨t,l,r,h1,h2,h3⟩:=rp_any (φ:=impl_readParts_fuel N) (N:=N) (fun s hs=>readParts_any N s hs (by omega)) N s [] (by omega) (by omega) (by simp;omega);refine⟨t,l,r,h1,h2, ?_⟩;show impl_readParts_step (impl_readParts_fuel N) (B s)=_;unfold impl_readParts_step;rw[show List.take 0 (List.drop 0 [])=([]:Pts) from rfl]
  rcases h3 with h3|h3<;>(rw[h3,List.nil_append];simp)
/-- the parts of any text: there are none, or they are an expression's -/
theorem parts_any(s:ByteArray):(∃l,impl_parts s=some (l,false))∨∃t l,s=B t∧Fo t l∧l≠[]∧t.length≤120∧impl_parts s=some (l,true):=by
 obtain⟨e,rfl⟩:∃e,s=B e:=⟨_,(B_of s).symm⟩
 by_cases h:e.length≤120
 ·obtain⟨t,l,r,h1,h2,h3⟩:=readParts_any 200 e (by omega) (by omega);have h3:impl_readParts (B e)=some (l,B r):=h3
  by_cases hl:l=[]
  ·left;subst hl;refine⟨[], ?_⟩;unfold impl_parts;rw[B_size,decide_eq_false (show ¬((e.length:Nat):Int)>120 by omega),cond_false,h3];rfl
  ·have hl':0<l.length:=List.length_pos_iff.2 hl;cases r with
   |nil=>
    rw[List.append_nil] at h1;subst h1;exact .inr ⟨e,l,rfl,h2,hl,h,parts_is h2 hl h⟩
   |cons c r=>
    left;refine⟨l, ?_⟩;unfold impl_parts;rw[B_size,decide_eq_false (show ¬((e.length:Nat):Int)>120 by omega),cond_false,h3];simp only[Option.bind_some,decide_eq_true (show((l.length:Nat):Int)>0 by omega),cond_true,B_ne,List.drop_zero,List.take_length]
 ·left;refine⟨[], ?_⟩;unfold impl_parts;rw[B_size,decide_eq_true (show((e.length:Nat):Int)>120 by omega),cond_true]
end Go.Proofs.YthkflageghfbgaaGreatDoor
