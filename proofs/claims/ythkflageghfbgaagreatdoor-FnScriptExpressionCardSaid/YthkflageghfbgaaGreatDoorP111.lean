import Derived.Test.YthkflageghfbgaaGreatDoorP110
import Derived.Test.YthkflageghfbgaaGreatDoorP58
import Derived.Test.YthkflageghfbgaaGreatDoorP78
import Derived.Test.YthkflageghfbgaaGreatDoorP101
import Derived.Test.YthkflageghfbgaaGreatDoorP102
import Derived.Test.YthkflageghfbgaaGreatDoorP43
set_option linter.unusedVariables false
set_option linter.unusedSimpArgs false
/- Values of any text by the reference, growth by both sides, numbers of one digit. -/
namespace Go.Proofs.YthkflageghfbgaaGreatDoor
open Go Go.Proofs.YthkflageghfbgaaGreatDoor.Am
/-! ### the reference's value of a text is told -/
abbrev RecW:=Int×List Int×List Int×List Stp→ByteArray→Option ((Int×List Int)×Bool)
theorem sval_loop{n:Nat}{S F:List Int}{st:List Stp}(ha:AutIs ((n:Int),S,F,st) n){φ:RecW}{N:Nat}
  (hφ:∀{t1:List UInt8} {l1:Pts},Fo t1 l1→l1≠[]→t1.length<N→t1.length≤190→∃m A b,φ ((n:Int),S,F,st) (B t1)=some ((m,A),b)∧(b=true→m=(n:Int)∧GOk n A)) {t:List UInt8} {l:Pts} (h:Fo t l):
  t.length≤N→t.length≤190→∀O:List Int,GOk n O→
   (loopF (spec_l7Value_l2 φ) (B t,((n:Int),S,F,st,()),((0:Int),[],()),((n:Int),O,()),())=some (.inl (((0:Int),[],()),false,())))∨
   (∃A,GOk n A∧loopF (spec_l7Value_l2 φ) (B t,((n:Int),S,F,st,()),((0:Int),[],()),((n:Int),O,()),())=some (.inr (((0:Int),[],()),((n:Int),A,()),()))):=by
 have h4:=ha.n4
 induction h with
 |nil=>
  intro _ _ O hO;refine .inr ⟨O,hO, ?_⟩;rw[loopF_eq];simp only[spec_l7Value_l2,B_eq,Bool.not_true,cond_false,Option.bind_some,List.drop_zero,List.take_length,List.take_nil]
 |@lt c t l hc _ ih=>
  intro hN h190 O hO;simp only[List.length_cons] at hN h190;have hm:=l3Matrix_puts' ha (B [c]);have hr:=putSteps_rng ha (B [c]);have hgr:=l6Grades_is h4 hr.1;have hA:GOk n ((putSteps (B [c]) n st st.length).map gr):=gr_ok hr.1;have hmul:=l6Mul_is h4 hO hA;have hm:spec_l3Matrix ((n:Int),S,F,st) (B [c])=some ((n:Int),putSteps (B [c]) n st st.length):=hm;have e:loopF (spec_l7Value_l2 φ) (B (c::t),((n:Int),S,F,st,()),((0:Int),[],()),((n:Int),O,()),())=loopF (spec_l7Value_l2 φ) (B t,((n:Int),S,F,st,()),((0:Int),[],()),((n:Int),gmul n O ((putSteps (B [c]) n st st.length).map gr),()),()):=by
   rw[loopF_eq];simp only[spec_l7Value_l2,B_ne,Bool.not_false,cond_true,cond_false,l7Next_lt hc,Option.bind_some,hm,List.drop_zero,List.take_length,List.take_nil,hgr,hmul]
  rw[e];exact ih (by omega) (by omega) _ (gmul_ok hO hA)
 |@rp t1 t2 l1 l2 f1 hn _ _ ih=>
  intro hN h190 O hO;simp only[List.length_cons,List.length_append] at hN h190;obtain⟨m1,A,b,hin,hb⟩:=hφ f1 hn (by omega) (by omega);have hnx:=l7Next_rp (t2:=t2) f1 hn (by omega);cases b with
  |false=>
   left;rw[loopF_eq];simp only[spec_l7Value_l2,B_ne,Bool.not_false,cond_true,hnx,Option.bind_some,hin]
  |true=>
   obtain⟨rfl,hA⟩:=hb rfl;have hid:=l6Idempotent_is h4 hA
   by_cases hi:gmul n A A=A
   ·rw[decide_eq_true hi] at hid;have hS:=gstab_ok hA;have hmul:=l6Mul_is h4 hO hS;have e:loopF (spec_l7Value_l2 φ) (B (40::(t1++41::35::t2)),((n:Int),S,F,st,()),((0:Int),[],()),((n:Int),O,()),())=loopF (spec_l7Value_l2 φ) (B t2,((n:Int),S,F,st,()),((0:Int),[],()),((n:Int),gmul n O (gstab n A),()),()):=by
     rw[loopF_eq];simp only[spec_l7Value_l2,B_ne,Bool.not_false,Bool.not_true,cond_true,cond_false,hnx,Option.bind_some,hin,List.drop_zero,List.take_length,List.take_nil,hid,l6Stable_is h4 hA,hmul]
    rw[e];exact ih (by omega) (by omega) _ (gmul_ok hO hS)
   ·rw[decide_eq_false hi] at hid;left;rw[loopF_eq];simp only[spec_l7Value_l2,B_ne,Bool.not_false,Bool.not_true,cond_true,cond_false,hnx,Option.bind_some,hin,List.drop_zero,List.take_length,hid]
theorem sval_fuel{n:Nat}{S F:List Int}{st:List Stp}(ha:AutIs ((n:Int),S,F,st) n):∀(N:Nat) {t:List UInt8} {l:Pts},Fo t l→l≠[]→t.length<N→t.length≤190→∃m A b,spec_l7Value_fuel N ((n:Int),S,F,st) (B t)=some ((m,A),b)∧(b=true→m=(n:Int)∧GOk n A)
 |0,t,l,_,_,hN,_=>absurd hN (by omega)
 |N+1,t,l,h,hn,hN,hN'=>by
  have h1:=ha.n1;have h4:=ha.n4;obtain⟨U,u1,u2⟩:=l2Unit_is h1 h4 st;have hr:Rng U (n*n):=u2.1;have hgr:=l6Grades_is h4 hr.1;have hU:GOk n (U.map gr):=gr_ok hr.1;have e:=sval_loop ha (φ:=spec_l7Value_fuel N) (N:=N) (fun{t1 l1} f1 f2 f3 f4=>sval_fuel ha N f1 f2 f3 f4) h (by omega) hN' (U.map gr) hU;show ∃m A b,spec_l7Value_step (spec_l7Value_fuel N) ((n:Int),S,F,st) (B t)=_∧_;unfold spec_l7Value_step;dsimp only
  rcases e with e|⟨A,hA,e⟩
  ·refine⟨0,[],false, ?_,fun h=>by cases h⟩;simp only[u1,Option.bind_some,List.drop_zero,List.take_length,hgr,e,List.take_nil]
  ·refine⟨(n:Int),A,true, ?_,fun _=>⟨rfl,hA⟩⟩;simp only[u1,Option.bind_some,List.drop_zero,List.take_length,hgr,e,List.take_nil]
theorem spec_ValueOf_any{a:Aut}(hs:Small a){s:ByteArray}(h:s.size≤1000):∃m A b,spec_ValueOf a s=some ((m,A),b):=by
 have hV:=spec_AutomatonValid_is a (small_len hs).1 (small_len hs).2;cases hv:autOk a with
 |false=>
  obtain⟨x,S,F,st⟩:=a;exact⟨0,[],false,by simp only[spec_ValueOf,hV,hv,Option.bind_some,Bool.not_false,cond_true]⟩
 |true=>
  obtain⟨n,ha⟩:=autOk_is hv;obtain⟨x,S,F,st⟩:=a;obtain rfl:x=(n:Int):=ha.st
  rcases valid_both s h with⟨t,l,rfl,h1,h2,h3,_,e⟩|⟨_,e⟩
  ·obtain⟨m,A,b,e2,_⟩:=sval_fuel ha 200 h1 h2 (by omega) (by omega);have e2:spec_l7Value ((n:Int),S,F,st) (B t)=some ((m,A),b):=e2;exact⟨m,A,b,by simp only[spec_ValueOf,hV,hv,e,Option.bind_some,Bool.not_true,cond_false,e2,List.drop_zero,List.take_length]⟩
  ·exact⟨0,[],false,by simp only[spec_ValueOf,hV,hv,e,Option.bind_some,Bool.not_true,Bool.not_false,cond_true,cond_false]⟩
/-! ### numbers of one digit -/
theorem decimal_dg{n:Int}(h0:0≤n)(h9:n≤9):impl_decimal (BL [dg n])=some (n,true):=by
 have hp:strings_TrimPrefix (BL [dg n]) (⟨#[(45:UInt8)]⟩:ByteArray)=some (BL [dg n]):=by
  have e45:(⟨#[(45:UInt8)]⟩:ByteArray)=BL [45]:=rfl;have hx:(ByteArray.toList (ByteArray.extract (BL [dg n]) 0 1)==ByteArray.toList (BL [45]))=false:=by
   rw[BL_extract,BL_toList,BL_toList,beq_eq_false_iff_ne];show[dg n]≠[45];intro e;exact dg_ne h0 h9 (.inl (by decide)) (List.cons.inj e).1
  simp only[strings_TrimPrefix,internal_stringslite_TrimPrefix,internal_stringslite_HasPrefix,e45,BL_size,List.length_cons,List.length_nil];simp only[show decide ((((0+1:Nat)):Int)≥(((0+1:Nat)):Int))=true from rfl,cond_true,if_pos (show(0:Int)≤(((0+1:Nat)):Int)∧(((0+1:Nat)):Int)≤(((0+1:Nat)):Int) from⟨by decide,by decide⟩)];rw[show Int.toNat (((0+1:Nat)):Int)=1 from rfl,hx];rfl
 simp only[impl_decimal,atoi_dg h0 h9,Option.bind_some,cond_true,hp,BL_size,List.length_cons,List.length_nil,Itoa_dg h0 h9,beq_self_eq_true];rfl
/-! ### growth -/
theorem exp_both{t:List UInt8}{l:Pts}(h:Fo t l)(hl:l≠[])(h120:t.length≤120){m:Nat}(hm:1≤m)(hm2:m≤100):
  ∃w:List UInt8,(∀b∈w,b=97∨b=98)∧w≠[]∧impl_ExpandExpression (B t) (m:Int)=some (xpR w)∧spec_ExpandExpression (B t) (m:Int)=some (xpR w):=by
 obtain⟨w,hw⟩:=fo_xo m h;exact⟨w,hw.ab,hw.ne hm hl,expand_impl hm hw hl h120,expand_spec hm (by omega) hw hl h120⟩
end Go.Proofs.YthkflageghfbgaaGreatDoor

/- Growth by both sides, and what is drawn for it. -/
namespace Go.Proofs.YthkflageghfbgaaGreatDoor
open Go Go.Proofs.YthkflageghfbgaaGreatDoor.Am
theorem grow_loops{n:Nat}{S F:List Int}{st:List Stp}(hV:AutV n S F st){t:List UInt8}{l:Pts}(h:Fo t l)(hl:l≠[])(h120:t.length≤120)(M:Nat)(hM:M≤20):∀(k i:Nat) (o:List Int),i+k=M+1→1≤i→Csts o→o.length+1=i→
  (loopF impl_GrowthOf_l5 (B t,(M:Int),((n:Int),S,F,st,()),o,(i:Int),())=some (.inl ([],false,()))∧loopF spec_GrowthOf_l5 (B t,(M:Int),((n:Int),S,F,st,()),o,(i:Int),())=some (.inl ([],false,())))∨
  ∃o',loopF impl_GrowthOf_l5 (B t,(M:Int),((n:Int),S,F,st,()),o,(i:Int),())=some (.inr (o',()))∧loopF spec_GrowthOf_l5 (B t,(M:Int),((n:Int),S,F,st,()),o,(i:Int),())=some (.inr (B t,o',()))∧Csts o'∧o'.length≤20
 |0,i,o,hk,hi,ho,hol=>by
  right;refine⟨o, ?_, ?_,ho,by omega⟩
  ·rw[loopF_eq];simp only[impl_GrowthOf_l5,decide_eq_false (show ¬(i:Int)≤(M:Int) by omega),cond_false,List.drop_zero,List.take_length,Option.bind_some]
  ·rw[loopF_eq];simp only[spec_GrowthOf_l5,decide_eq_false (show ¬(i:Int)≤(M:Int) by omega),cond_false,List.drop_zero,List.take_length,Option.bind_some]
 |k+1,i,o,hk,hi,ho,hol=>by
  obtain⟨w,w1,w2,w3,w4⟩:=exp_both h hl h120 hi (show i≤100 by omega)
  by_cases hw:w.length≤1000
  ·have hx:xpR w=(B w,true):=by unfold xpR;rw[if_pos hw]
   rw[hx] at w3 w4;have hwok:wordOk (B w)=true:=AB.ok w1 hw;obtain⟨c,c1,c2,c3⟩:=cost_same hV.small hV.ok hwok;have hc:0≤c∧c≤1000000:=c3.1;have ih:=grow_loops hV h hl h120 M hM k (i+1) (o++[c]) (by omega) (by omega) (fun x hx=>by
    rcases List.mem_append.1 hx with hx|hx
    ·exact ho x hx
    ·obtain rfl:=List.mem_singleton.1 hx;exact hc) (by simp;omega)
   have e1:loopF impl_GrowthOf_l5 (B t,(M:Int),((n:Int),S,F,st,()),o,(i:Int),())=loopF impl_GrowthOf_l5 (B t,(M:Int),((n:Int),S,F,st,()),o++[c],((i+1:Nat):Int),()):=by
    rw[loopF_eq];simp only[impl_GrowthOf_l5,decide_eq_true (show(i:Int)≤(M:Int) by omega),cond_true,cond_false,w3,Option.bind_some,Bool.not_true,c2,List.drop_zero,Nat.zero_add,show ∀z:Int,List.take 1 [z]=[z] from fun _=>rfl,w64_succ (show i<M+1 by omega) (show M+1≤9223372036854775807 by omega)];rw[if_pos ⟨trivial,by simp;omega⟩,List.take_of_length_le (by simp)];rfl
   have e2:loopF spec_GrowthOf_l5 (B t,(M:Int),((n:Int),S,F,st,()),o,(i:Int),())=loopF spec_GrowthOf_l5 (B t,(M:Int),((n:Int),S,F,st,()),o++[c],((i+1:Nat):Int),()):=by
    rw[loopF_eq];simp only[spec_GrowthOf_l5,decide_eq_true (show(i:Int)≤(M:Int) by omega),cond_true,cond_false,w4,Option.bind_some,Bool.not_true,c1,List.drop_zero,Nat.zero_add,show ∀z:Int,List.take 1 [z]=[z] from fun _=>rfl,w64_succ (show i<M+1 by omega) (show M+1≤9223372036854775807 by omega)];rw[if_pos ⟨trivial,by simp;omega⟩,List.take_of_length_le (by simp)];rfl
   rw[e1,e2];exact ih
  ·have hx:xpR w=((⟨#[]⟩:ByteArray),false):=by unfold xpR;rw[if_neg hw]
   rw[hx] at w3 w4;left;constructor
   ·rw[loopF_eq];simp only[impl_GrowthOf_l5,decide_eq_true (show(i:Int)≤(M:Int) by omega),cond_true,w3,Option.bind_some,Bool.not_false]
   ·rw[loopF_eq];simp only[spec_GrowthOf_l5,decide_eq_true (show(i:Int)≤(M:Int) by omega),cond_true,w4,Option.bind_some,Bool.not_false,List.drop_zero,List.take_zero]
theorem growth_same{a:Aut}(hs:Small a){e:ByteArray}(he:e.size≤1000)(m:Int):∃list ok,impl_GrowthOf a e m=some (list,ok)∧spec_GrowthOf a e m=some (list,ok)∧list.length≤20∧
  (ok=true→autOk a=true∧(0≤m∧m≤20)∧(∃t l,e=B t∧Fo t l∧l≠[]∧t.length≤120)∧Csts list):=by
 have hA:=impl_AutomatonValid_is a (small_len hs).1 (small_len hs).2;have hB:=spec_AutomatonValid_is a (small_len hs).1 (small_len hs).2;cases hv:autOk a with
 |false=>
  obtain⟨x,S,F,st⟩:=a;exact⟨[],false,by simp only[impl_GrowthOf,hA,hv,Option.bind_some,Bool.not_false,cond_true],by simp only[spec_GrowthOf,hB,hv,Option.bind_some,Bool.not_false,cond_true,List.drop_zero,List.take_zero],by simp,fun h=>by cases h⟩
 |true=>
  obtain⟨n,S,F,st,rfl,hV⟩:=autV_of hv
  rcases valid_both e he with⟨t,l,rfl,h1,h2,h3,hp,hsv⟩|⟨⟨l,hp⟩,hsv⟩
  ·have hev:impl_ExpressionValid (B t)=some true:=by simp only[impl_ExpressionValid,hp,Option.bind_some]
   by_cases hm0:m<0
   ·refine⟨[],false, ?_, ?_,by simp,fun h=>by cases h⟩
    ·simp only[impl_GrowthOf,hA,hv,hev,Option.bind_some,Bool.not_true,cond_false,decide_eq_true hm0,cond_true]
    ·simp only[spec_GrowthOf,hB,hv,spec_l1In_is,Option.bind_some,Bool.not_true,Bool.not_false,cond_false,cond_true,decide_eq_false (show ¬(0≤m∧m≤20) by omega),List.drop_zero,List.take_zero]
   by_cases hm1:m>20
   ·refine⟨[],false, ?_, ?_,by simp,fun h=>by cases h⟩
    ·simp only[impl_GrowthOf,hA,hv,hev,Option.bind_some,Bool.not_true,cond_false,decide_eq_false hm0,decide_eq_true hm1,cond_true]
    ·simp only[spec_GrowthOf,hB,hv,spec_l1In_is,Option.bind_some,Bool.not_true,Bool.not_false,cond_false,cond_true,decide_eq_false (show ¬(0≤m∧m≤20) by omega),List.drop_zero,List.take_zero]
   have key:=grow_loops hV h1 h2 h3 m.toNat (by omega) m.toNat 1 [] (by omega) (by omega) (fun x hx=>by cases hx) rfl;rw[show((m.toNat:Nat):Int)=m by omega] at key
   rcases key with⟨k1,k2⟩|⟨o',k1,k2,k3,k4⟩
   ·have k1:loopF impl_GrowthOf_l5 (B t,m,((n:Int),S,F,st,()),[],(1:Int),())=_:=k1;have k2:loopF spec_GrowthOf_l5 (B t,m,((n:Int),S,F,st,()),[],(1:Int),())=_:=k2;refine⟨[],false, ?_, ?_,by simp,fun h=>by cases h⟩
    ·simp only[impl_GrowthOf,hA,hv,hev,Option.bind_some,Bool.not_true,cond_false,decide_eq_false hm0,decide_eq_false hm1,List.drop_zero,List.take_zero,k1,List.take_nil]
    ·simp only[spec_GrowthOf,hB,hv,spec_l1In_is,Option.bind_some,Bool.not_true,cond_false,decide_eq_true (show 0≤m∧m≤20 by omega),List.drop_zero,List.take_zero,k2,List.take_nil]
   ·have k1:loopF impl_GrowthOf_l5 (B t,m,((n:Int),S,F,st,()),[],(1:Int),())=_:=k1;have k2:loopF spec_GrowthOf_l5 (B t,m,((n:Int),S,F,st,()),[],(1:Int),())=_:=k2;refine⟨o',true, ?_, ?_,k4,fun _=>⟨rfl,by omega,⟨t,l,rfl,h1,h2,h3⟩,k3⟩⟩
    ·simp only[impl_GrowthOf,hA,hv,hev,Option.bind_some,Bool.not_true,cond_false,decide_eq_false hm0,decide_eq_false hm1,List.drop_zero,List.take_zero,k1,List.take_length]
    ·simp only[spec_GrowthOf,hB,hv,spec_l1In_is,Option.bind_some,Bool.not_true,cond_false,decide_eq_true (show 0≤m∧m≤20 by omega),List.drop_zero,List.take_zero,k2,List.take_length,hsv]
  ·have hev:impl_ExpressionValid e=some false:=by simp only[impl_ExpressionValid,hp,Option.bind_some]
   refine⟨[],false, ?_, ?_,by simp,fun h=>by cases h⟩
   ·simp only[impl_GrowthOf,hA,hv,hev,Option.bind_some,Bool.not_true,Bool.not_false,cond_false,cond_true]
   ·by_cases hm:0≤m∧m≤20
    ·by_cases hm1:(1:Int)≤m
     ·have hx:spec_ExpandExpression e 1=some ((⟨#[]⟩:ByteArray),false):=by simp only[spec_ExpandExpression,hsv,Option.bind_some,Bool.not_false,cond_true]
      have k2:loopF spec_GrowthOf_l5 (e,m,((n:Int),S,F,st,()),[],(1:Int),())=some (.inl ([],false,())):=by
       rw[loopF_eq];simp only[spec_GrowthOf_l5,decide_eq_true hm1,cond_true,hx,Option.bind_some,Bool.not_false,List.drop_zero,List.take_zero]
      simp only[spec_GrowthOf,hB,hv,spec_l1In_is,Option.bind_some,Bool.not_true,cond_false,decide_eq_true hm,List.drop_zero,List.take_zero,k2,List.take_nil]
     ·have k2:loopF spec_GrowthOf_l5 (e,m,((n:Int),S,F,st,()),[],(1:Int),())=some (.inr (e,[],())):=by
       rw[loopF_eq];simp only[spec_GrowthOf_l5,decide_eq_false hm1,cond_false,Option.bind_some,List.drop_zero,List.take_nil]
      simp only[spec_GrowthOf,hB,hv,spec_l1In_is,Option.bind_some,Bool.not_true,cond_false,decide_eq_true hm,List.drop_zero,List.take_zero,k2,List.take_nil,hsv]
    ·simp only[spec_GrowthOf,hB,hv,spec_l1In_is,Option.bind_some,Bool.not_true,Bool.not_false,cond_false,cond_true,decide_eq_false hm,List.drop_zero,List.take_zero]
/-! ### what is drawn -/
theorem l7Some_is{N:Int}{d:Dr}(h:DrOk N d)(hN:N≤20000):∃a e d',spec_l7Some d=some ((a,e),d',())∧Small a∧e.size≤65∧DrOk (N+20000) d':=by
 obtain⟨b,k⟩:=d;obtain⟨⟨x,S,F,st⟩,⟨b1,k1⟩,p1,t1,s1⟩:=l3Any_is h (by omega);obtain⟨e,⟨b2,k2⟩,p2,e1,s2⟩:=l7Text_is s1 (by omega);have hs:Small (x,S,F,st):=t1.small;have key:∀(r i:Nat) (d:Dr) (e:ByteArray),i+r=3→DrOk (N+6000+i*100) d→e.size≤65→∃q,loopF spec_l7Some_l4 ((d.1,d.2,()),((0:Int),[],[],[],()),(x,S,F,st,()),e,(i:Int),())=some q∧
   ((∃(e':ByteArray) (d':Dr),q=.inl ((d'.1,d'.2,()),(x,S,F,st,()),e',())∧e'.size≤65∧DrOk (N+7000) d')∨(∃(e':ByteArray) (d':Dr),q=.inr ((d'.1,d'.2,()),((0:Int),[],[],[],()),(x,S,F,st,()),e',())∧e'.size≤65∧DrOk (N+7000) d')):=by
  intro r
  induction r with
  |zero=>
   intro i d e hi hd he;obtain rfl:i=3:=by omega
   refine⟨_, ?_,.inr ⟨e,d,rfl,he,hd.mono (by omega)⟩⟩;rw[loopF_eq];simp only[spec_l7Some_l4,show decide (((3:Nat):Int)<3)=false from rfl,cond_false,Option.bind_some,List.drop_zero,List.take_nil]
  |succ r ih=>
   intro i d e hi hd he;obtain⟨db,dk⟩:=d;obtain⟨m,A,b,hval⟩:=spec_ValueOf_any hs (s:=e) (by omega);have hlt:decide ((i:Int)<3)=true:=decide_eq_true (by omega);cases b with
   |true=>
    refine⟨_, ?_,.inl ⟨e,(db,dk),rfl,he,hd.mono (by omega)⟩⟩;rw[loopF_eq];simp only[spec_l7Some_l4,hlt,cond_true,hval,Option.bind_some]
   |false=>
    obtain⟨r3,q3,_,_,_⟩:=pick_is hd (by omega) (n:=4) (by omega);have s3:=hd.next;cases h3:(r3==0) with
    |true=>
     refine⟨_, ?_,.inl ⟨e,(db,dk+1),rfl,he,s3.mono (by omega)⟩⟩;rw[loopF_eq];simp only[spec_l7Some_l4,hlt,cond_true,cond_false,hval,Option.bind_some,q3,h3]
    |false=>
     obtain⟨r6,q6,g1,g2,_⟩:=pick_is s3 (by omega) (n:=3) (by omega);have g2:=g2 (by omega);have s6:=s3.next;obtain⟨e',⟨db',dk'⟩,q7,g3,g4,s7⟩:=l7Draw_fuel 197 (D:=r6) (by omega) s6 (by omega);have q7:spec_l7Draw (db,dk+1+1) r6=some (e',(db',dk'),()):=q7;obtain⟨q,k1,k2⟩:=ih (i+1) (db',dk') e' (by omega) (s7.mono (by omega)) (by omega);refine⟨q, ?_,k2⟩;rw[loopF_eq];have q6:spec_l13Rd_pick (db,dk+1) 3=some (r6,(db,dk+1+1),()):=q6;have k1:loopF spec_l7Some_l4 ((db',dk',()),((0:Int),[],[],[],()),(x,S,F,st,()),e',((i+1:Nat):Int),())=some q:=k1;simp only[spec_l7Some_l4,hlt,cond_true,cond_false,hval,Option.bind_some,q3,h3,q6,q7,List.drop_zero,List.take_nil,List.length_nil,List.take_zero,w64_succ (show i<3 by omega) (by omega),k1]
 obtain⟨q,k1,kk⟩:=key 3 0 (b2,k2) e rfl (s2.mono (by omega)) e1;have k1:loopF spec_l7Some_l4 ((b2,k2,()),((0:Int),[],[],[],()),(x,S,F,st,()),e,(0:Int),())=some q:=k1
 rcases kk with⟨e',⟨d1,d2⟩,rfl,h1,h2⟩|⟨e',⟨d1,d2⟩,rfl,h1,h2⟩
 ·exact⟨(x,S,F,st),e',(d1,d2),by simp only[spec_l7Some,p1,p2,Option.bind_some,k1],hs,h1,h2.mono (by omega)⟩
 ·exact⟨(x,S,F,st),e',(d1,d2),by simp only[spec_l7Some,p1,p2,Option.bind_some,k1],hs,h1,h2.mono (by omega)⟩
theorem drawGrowth_is{c:List Int}(hc:∀x∈c,0≤x∧x≤255):∃a e m,spec_DrawGrowthOf c=some (a,e,m)∧Small a∧e.size≤65∧m∈[(3:Int),4,2,1,0,5,-1,21]:=by
 obtain⟨⟨b,k⟩,p0,s0⟩:=l13Open_is hc;obtain⟨⟨x,S,F,st⟩,e,⟨b1,k1⟩,p1,h1,h2,s1⟩:=l7Some_is s0 (by omega);obtain⟨m,hm,p2⟩:=num_is s1 (by omega) (l:=List.take 8 (List.drop 0 [(3:Int),4,2,1,0,5,-1,21])) (by decide) (by decide);exact⟨(x,S,F,st),e,m,by simp only[spec_DrawGrowthOf,p0,Option.bind_some,p1,p2],h1,h2,hm⟩
end Go.Proofs.YthkflageghfbgaaGreatDoor

/- The law of scripts about expressions. -/
namespace Go.Proofs.YthkflageghfbgaaGreatDoor
open Go Go.Proofs.YthkflageghfbgaaGreatDoor.Am
theorem fo_ch{t:List UInt8}{l:Pts}(h:Fo t l):∀b∈t,35≤b.toNat:=by
 induction h with
 |nil=>intro b hb;cases hb
 |lt hc _ ih=>
  intro b hb
  rcases List.mem_cons.1 hb with rfl|hb
  ·rcases hc with rfl|rfl<;>decide
  ·exact ih b hb
 |rp _ _ _ ih1 ih2=>
  intro b hb
  rcases List.mem_cons.1 hb with rfl|hb
  ·decide
  ·rcases List.mem_append.1 hb with hb|hb
   ·exact ih1 b hb
   ·rcases List.mem_cons.1 hb with rfl|hb
    ·decide
    ·rcases List.mem_cons.1 hb with rfl|hb
     ·decide
     ·exact ih2 b hb
theorem fmtGr{n:Nat}(h1:1≤n)(h4:n≤4){A:List Int}(hA:GOk n A):impl_FormatGrades ((n:Int),A)=some (BL (fmtTo n A (n*n))):=by
 simp only[impl_FormatGrades,gradesValid_is h1 h4 hA,impl_fmt h1 h4 hA,Option.bind_some,Bool.not_true,cond_false]
theorem fmtGr_ne{n:Nat}(h1:1≤n)(A:List Int):fmtTo n A (n*n)≠[]:=by
 obtain⟨m,hm⟩:∃m,n*n=m+1:=⟨n*n-1,by have:=Nat.mul_le_mul h1 h1;omega⟩;rw[hm];show fmtTo n A m++_≠[];simp
def shwT(l:List UInt8):List UInt8:=if l=[] then[45] else l
theorem show_is(l:List UInt8):impl_ShowWord (BL l)=some (BL (shwT l)):=by
 unfold shwT
 by_cases h:l=[]
 ·subst h;have e:(ByteArray.toList (BL [])==ByteArray.toList (⟨#[]⟩:ByteArray))=true:=by rw[toList_bytes,toList_bytes];rfl
  simp only[impl_ShowWord,e,cond_true];rfl
 ·simp only[impl_ShowWord,BL_beq_nil h,cond_false,if_neg h]
theorem told_show(l:List UInt8):impl_told (BL l) true=some (BL (shwT l)):=by
 simp only[impl_told,Bool.not_true,cond_false,show_is,Option.bind_some]
/-- what is said of a text that may be missing -/
def sayX(s:List UInt8)(ok:Bool):List UInt8:=if ok=true then s else[110,111]
theorem told_sayX{s:List UInt8}{ok:Bool}(h:ok=true→s≠[]):impl_told (BL s) ok=some (BL (sayX s ok)):=by
 cases ok with
 |true=>rw[told_yes (h rfl)];rfl
 |false=>rw[told_no];rfl
theorem daLineX(l:List UInt8)(hl:l.length≤1000000)(ok:Bool):laws_daLine (BL l) ok=some (BL (sayX l ok++[10])):=by
 cases ok with
 |false=>rfl
 |true=>
  simp only[laws_daLine,Bool.not_true,cond_false,show(⟨#[(10:UInt8)]⟩:ByteArray)=BL [10] from rfl,BL_app,BL_size];rw[if_pos (by simp only[List.length_cons,List.length_nil];omega)];rfl
theorem tx_value(A k:Aut){e:ByteArray}{m:Int}{G:List Int}{b:Bool}{s:List UInt8}(h1:impl_ValueOf A e=some ((m,G),b))(h2:impl_FormatGrades (m,G)=some (BL s))(hs:b=true→s≠[]):
  impl_desk_text (A,k) (BL [118,97,108,117,101]) e=some ((BL (sayX s b),true),(A,k),()):=by
 obtain⟨x0,x1,x2,x3⟩:=A;obtain⟨y0,y1,y2,y3⟩:=k;have e:impl_desk_text ((x0,x1,x2,x3),y0,y1,y2,y3) (BL [118,97,108,117,101]) e=Option.bind (impl_ValueOf (x0,x1,x2,x3) e) fun((r14,r15),r16)=>
   Option.bind (impl_FormatGrades (r14,(List.take (List.length r15) (List.drop 0 r15)))) fun r17=>
    Option.bind (impl_told r17 r16) fun r18=>some ((r18,true),((x0,x1,x2,x3),y0,y1,y2,y3),()):=by
  simp only[impl_desk_text,toList_bytes];rfl
 rw[e,h1];simp only[Option.bind_some,List.drop_zero,List.take_length,h2,told_sayX hs]
theorem tx_expand(A k:Aut){n:Int}(h0:0≤n)(h9:n≤9){t w:List UInt8}{b:Bool}(ht:t.length≤1000)(h1:impl_ExpandExpression (BL t) n=some (BL w,b))(hw:b=true→w≠[]):
  impl_desk_text (A,k) (BL [101,120,112,97,110,100]) (BL ([dg n]++32::t))=some ((BL (sayX w b),true),(A,k),()):=by
 obtain⟨x0,x1,x2,x3⟩:=A;obtain⟨y0,y1,y2,y3⟩:=k;have e:impl_desk_text ((x0,x1,x2,x3),y0,y1,y2,y3) (BL [101,120,112,97,110,100]) (BL ([dg n]++32::t))=Option.bind (strings_Cut (BL ([dg n]++32::t)) (⟨#[(32:UInt8)]⟩:ByteArray)) fun(r19,r20,r21)=>
   Option.bind (impl_decimal r19) fun(r22,r23)=>
    bif (!r21) then some ((BL [110,111],true),((x0,x1,x2,x3),y0,y1,y2,y3),())
    else bif (!r23) then some ((BL [110,111],true),((x0,x1,x2,x3),y0,y1,y2,y3),())
    else Option.bind (impl_ExpandExpression r20 r22) fun(r24,r25)=>Option.bind (impl_told r24 r25) fun r26=>some ((r26,true),((x0,x1,x2,x3),y0,y1,y2,y3),()):=by
  simp only[impl_desk_text,toList_bytes];rfl
 have hc:=cutL_is (c:=32) (x:=[dg n]) (r:=t) (by
  intro hm;exact(dg_ne h0 h9 (.inl (by decide))).symm (List.mem_singleton.1 hm)) (by simp;omega)
 rw[e,hc];simp only[Option.bind_some,decimal_dg h0 h9,Bool.not_true,cond_false,h1,told_sayX hw]
theorem tx_growth(A k:Aut){n:Int}(h0:0≤n)(h9:n≤9){t:List UInt8}{cs:List Int}(ht:t.length≤1000)(h1:impl_GrowthOf A (BL t) n=some (cs,true))(hcs:Csts cs)(hl:cs.length≤1000):
  impl_desk_text (A,k) (BL [103,114,111,119,116,104]) (BL ([dg n]++32::t))=some ((BL (shwT (costsT cs)),true),(A,k),()):=by
 obtain⟨x0,x1,x2,x3⟩:=A;obtain⟨y0,y1,y2,y3⟩:=k;have e:impl_desk_text ((x0,x1,x2,x3),y0,y1,y2,y3) (BL [103,114,111,119,116,104]) (BL ([dg n]++32::t))=Option.bind (strings_Cut (BL ([dg n]++32::t)) (⟨#[(32:UInt8)]⟩:ByteArray)) fun(r19,r20,r21)=>
   Option.bind (impl_decimal r19) fun(r22,r23)=>
    bif (!r21) then some ((BL [110,111],true),((x0,x1,x2,x3),y0,y1,y2,y3),())
    else bif (!r23) then some ((BL [110,111],true),((x0,x1,x2,x3),y0,y1,y2,y3),())
    else Option.bind (impl_GrowthOf (x0,x1,x2,x3) r20 r22) fun(r27,r28)=>Option.bind (impl_costs (List.take (List.length r27) (List.drop 0 r27)) r28) fun r29=>some ((r29,true),((x0,x1,x2,x3),y0,y1,y2,y3),()):=by
  simp only[impl_desk_text,toList_bytes];rfl
 have hc:=cutL_is (c:=32) (x:=[dg n]) (r:=t) (by
  intro hm;exact(dg_ne h0 h9 (.inl (by decide))).symm (List.mem_singleton.1 hm)) (by simp;omega)
 rw[e,hc];simp only[Option.bind_some,decimal_dg h0 h9,Bool.not_true,cond_false,h1,List.drop_zero,List.take_length,impl_costs,fmtCosts_is hcs (by omega),told_show]
theorem p_FnScriptExpression(x0:List Int)(f0:Fits (.sl (.int .u8)) x0):laws_FnScriptExpression x0=some true:=by
 unfold laws_FnScriptExpression
 by_cases hx:((x0.length:Nat):Int)>1048576
 ·rw[decide_eq_true hx,cond_true]
 rw[decide_eq_false hx,cond_false];obtain⟨a,e,m,d1,hs,he,hm⟩:=drawGrowth_is (bytes_of f0);obtain⟨cs,ok,g1,g2,g3,g4⟩:=growth_same hs (e:=e) (by omega) m;have hda:=daSame_is (l:=cs) (by omega);rw[d1];cases ok with
 |false=>
  obtain⟨x,S,F,st⟩:=a;simp only[Option.bind_some,g1,g2,List.drop_zero,List.take_length,hda,Bool.not_true,Bool.not_false,cond_false,cond_true,BEq.rfl]
 |true=>
  obtain⟨hv,hm1,⟨t,l,rfl,h1,h2,h3⟩,hcs⟩:=g4 rfl;obtain⟨n,S,F,st,rfl,hV⟩:=autV_of hv;have hm9:0≤m∧m≤5:=by
   simp only[List.mem_cons,List.not_mem_nil,or_false] at hm;omega
  have n1:=hV.n1;have n4:=hV.n4;have hcl:Closed n st (GOk n):=⟨gr_ok (putSteps_rng hV.is la).1,gr_ok (putSteps_rng hV.is lb).1,fun A B hA hB=>gmul_ok hA hB,fun A hA _=>gstab_ok hA⟩;obtain⟨mm,G,b,v1,v2,v3⟩:=valueOf_any3 hV.is hv hs (C:=GOk n) hcl (fun A h=>h) (B t);have hG:∃s:List UInt8,impl_FormatGrades (mm,G)=some (BL s)∧s.length≤40∧(b=true→s≠[]):=by
   cases b with
   |true=>
    obtain⟨rfl,hA⟩:=v2 rfl;have hl:=fmtTo_len n G (n*n);have hsq:=sq_le n4;exact⟨_,fmtGr n1 n4 hA,by omega,fun _=>fmtGr_ne n1 G⟩
   |false=>
    obtain⟨rfl,rfl⟩:=v3 rfl;exact⟨[],rfl,by simp,fun h=>by cases h⟩
  obtain⟨s,s1,s2,s3⟩:=hG;have hX:∃(w:List UInt8) (bx:Bool),impl_ExpandExpression (BL t) m=some (BL w,bx)∧w.length≤1000∧(bx=true→w≠[]):=by
   by_cases hm0:m<1
   ·refine⟨[],false, ?_,by simp,fun h=>by cases h⟩;have hp:=parts_is h1 h2 h3;show impl_ExpandExpression (B t) m=_;simp only[impl_ExpandExpression,hp,Option.bind_some,Bool.not_true,cond_false,decide_eq_true hm0,cond_true];rfl
   ·obtain⟨w,w1,w2,w3,_⟩:=exp_both h1 h2 h3 (m:=m.toNat) (by omega) (by omega);rw[show((m.toNat:Nat):Int)=m by omega] at w3
    by_cases hw:w.length≤1000
    ·exact⟨w,true,by rw[show BL t=B t from rfl,w3];unfold xpR;rw[if_pos hw];rfl,hw,fun _=>w2⟩
    ·exact⟨[],false,by rw[show BL t=B t from rfl,w3];unfold xpR;rw[if_neg hw];rfl,by simp,fun h=>by cases h⟩
  obtain⟨w,bx,x1,x2,x3⟩:=hX;have hfa:=fmtA_is hV;have z1:=autT_short hV;have z2:=costsT_len hcs;have zs:∀(s:List UInt8) (b:Bool),(sayX s b).length≤s.length+2:=by
   intro s b;unfold sayX;split
   ·omega
   ·show 2≤_;omega
  have z3:=zs s b;have z4:=zs w bx;have z5:(shwT (costsT cs)).length≤(costsT cs).length+1:=by
   unfold shwT;split
   ·show 1≤_;omega
   ·omega
  have g1:impl_GrowthOf ((n:Int),S,F,st) (BL t) m=some (cs,true):=g1;have g2:spec_GrowthOf ((n:Int),S,F,st) (BL t) m=some (cs,true):=g2;have v1:impl_ValueOf ((n:Int),S,F,st) (BL t)=some ((mm,G),b):=v1;have sc:Sc A0 A0 [] [[97,117,116,111,109,97,116,111,110]++32::autT n S F st,[118,97,108,117,101]++32::t,[101,120,112,97,110,100]++32::([dg m]++32::t),[103,114,111,119,116,104]++32::([dg m]++32::t)]
    (((([]++(autT n S F st++[10]))++(sayX s b++[10]))++(sayX w bx++[10]))++(shwT (costsT cs)++[10])):=by
   refine .line (by decide) (by simp only[List.length_cons,List.length_nil];omega) (tx_automaton A0 A0 hV) ?_;refine .line (by decide) (by simp only[List.length_cons,List.length_nil];omega) (tx_value _ A0 v1 s1 s3) ?_;refine .line (by decide) (by simp only[List.length_append,List.length_cons,List.length_nil];omega) (tx_expand _ A0 hm9.1 (by omega) (by omega) x1 x3) ?_;refine .line (by decide) (by simp only[List.length_append,List.length_cons,List.length_nil];omega) (tx_growth _ A0 hm9.1 (by omega) (by omega) g1 hcs (by omega)) ?_;exact .nil _ _ _
  have ht10:(10:UInt8)∉t:=fun hm=>by have:=fo_ch h1 _ hm;exact absurd this (by decide)
  have hd10:(10:UInt8)≠dg m:=(dg_ne hm9.1 (by omega) (.inl (by decide))).symm;have hsc:=script_is sc (by simp) (by simp only[List.length_append,List.length_cons,List.length_nil];omega) (fun y hy=>by
   simp only[List.mem_cons,List.not_mem_nil,or_false] at hy
   rcases hy with rfl|rfl|rfl|rfl
   ·intro hm
    rcases List.mem_append.1 hm with hm|hm
    ·exact absurd hm (by decide)
    ·rcases List.mem_cons.1 hm with hm|hm
     ·exact absurd hm (by decide)
     ·exact autT_no hV (by decide) hm
   ·intro hm
    rcases List.mem_append.1 hm with hm|hm
    ·exact absurd hm (by decide)
    ·rcases List.mem_cons.1 hm with hm|hm
     ·exact absurd hm (by decide)
     ·exact ht10 hm
   all_goals
    intro hm
    rcases List.mem_append.1 hm with hm|hm
    ·exact absurd hm (by decide)
    ·rcases List.mem_cons.1 hm with hm|hm
     ·exact absurd hm (by decide)
     ·rcases List.mem_append.1 hm with hm|hm
      ·exact hd10 (List.mem_singleton.1 hm)
      ·rcases List.mem_cons.1 hm with hm|hm
       ·exact absurd hm (by decide)
       ·exact ht10 hm) (by
   simp only[scText_cons,scText_nil,List.length_append,List.length_cons,List.length_nil];omega)
  have hdg:laws_daDigit m=some (BL [dg m]):=by
   have h:=fmtNum_is (xs:=[m]) (fun x hx=>by obtain rfl:=List.mem_singleton.1 hx;omega) (by simp);have e:fmtN [m]=BL [dg m]:=by
    unfold fmtN;rw[if_neg (by simp)];unfold numsT;rw[List.map_cons,List.map_nil,Lib.join_one,itoa_dg hm9.1 (by omega)]
   rw[e] at h;simp only[laws_daDigit,List.drop_zero,show List.take 1 [m]=[m] from rfl,h,Option.bind_some]
  have hfc:=fmtCosts_is hcs (by omega);simp only[scText_cons,scText_nil,List.append_assoc,List.cons_append,List.nil_append] at hsc;simp only[show B t=BL t from rfl,Option.bind_some,g1,g2,List.drop_zero,List.take_length,hda,Bool.not_true,cond_false,BEq.rfl,v1,x1,hfa,hdg,s1,daLineX s (by omega) b,daLineX w (by omega) bx,hfc,show_is];simp only[lit_BL,BL_app,BL_size,List.append_assoc,List.cons_append,List.nil_append,List.length_append,List.length_cons,List.length_nil]
  repeat rw[if_pos (by omega)]
  rw[hsc];simp only[Option.bind_some,beq_self_eq_true]
end Go.Proofs.YthkflageghfbgaaGreatDoor
