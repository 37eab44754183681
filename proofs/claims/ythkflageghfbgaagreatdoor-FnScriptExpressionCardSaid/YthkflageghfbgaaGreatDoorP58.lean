/- The value of any text is none, or it lies among closed matrices. -/
import Derived.Test.YthkflageghfbgaaGreatDoorP57
set_option linter.unusedVariables false
set_option linter.unusedSimpArgs false
namespace Go.Proofs.YthkflageghfbgaaGreatDoor
open Go Go.Proofs.YthkflageghfbgaaGreatDoor.Am
section
variable {a : Aut} {n : Nat} (ha : AutIs a n) (hv : autOk a = true) (hs : Small a) {C : List Int → Prop} (hC : Closed n a.2.2.2 C) (hg : ∀ A, C A → GOk n A)
include ha hv hs hC hg
theorem val_loop{φ:RecV}{N:Nat}(hφ:∀{t:List UInt8} {l:Pts},Fo t l→l≠[]→t.length<N→∃m A b,φ a l=some ((m,A),b)∧(b=true→m=(n:Int)∧C A)){t:List UInt8}{l:Pts}(h:Fo t l):
  t.length≤N→∀(L:Pts) (k:Nat) (m:Int) (O:List Int),L.drop k=l→L.length≤1000→(k=0→l≠[])→(0<k→m=(n:Int)∧C O)→
   (loopF (impl_value_l3 φ) ((a.1,a.2.1,a.2.2.1,a.2.2.2,()),((0:Int),[],()),(m,O,()),L,((L.length:Nat):Int),(k:Int),())=some (.inl (((0:Int),[],()),false,())))∨
   (∃(x:Int×List Int×Unit) (A:List Int),loopF (impl_value_l3 φ) ((a.1,a.2.1,a.2.2.1,a.2.2.2,()),((0:Int),[],()),(m,O,()),L,((L.length:Nat):Int),(k:Int),())=some (.inr (x,((n:Int),A,()),()))∧C A):=by
 induction h with
 |nil=>
  intro _ L k m O hL hl h0 hk;have hkl:L.length≤k:=List.drop_eq_nil_iff.1 hL;have hk0:0<k:=by
   rcases Nat.eq_zero_or_pos k with h|h
   ·exact absurd rfl (h0 h)
   ·exact h
  obtain⟨rfl,hO⟩:=hk hk0;right;refine⟨((0:Int),[],()),O, ?_,hO⟩;obtain⟨x,S,F,st⟩:=a;rw[loopF_eq];simp only[impl_value_l3,decide_eq_false (show ¬(k:Int)<((L.length:Nat):Int) by omega),cond_false,tk_id',Option.bind_some,List.length_nil,List.take_nil,List.drop_nil]
 |@lt c t l hc _ ih=>
  intro hN L k m O hL hl h0 hk;simp only[List.length_cons] at hN;obtain⟨g1,g2,g3⟩:=drop_cons ((⟨Array.empty⟩:ByteArray),PT.mk []) hL;have hc2:B [c]=la∨B [c]=lb:=by
   rcases hc with rfl|rfl
   ·exact .inl rfl
   ·exact .inr rfl
  have hm:=stepMatrix_is ha hv hs hc2;have hr:=putSteps_rng ha (B [c]);have hgr:=gradesOf_is ha.n1 ha.n4 hr;have hA:GOk n (lett (B [c]) n a.2.2.2):=gr_ok hr.1;have hCA:C (lett (B [c]) n a.2.2.2):=by
   rcases hc2 with h|h<;>rw[h]
   ·exact hC.la
   ·exact hC.lb
  have h1:=ha.n1;have h4:=ha.n4
  rcases Nat.eq_zero_or_pos k with hk0|hk0
  ·subst hk0;have ih:=ih (by omega) L 1 (n:Int) (lett (B [c]) n a.2.2.2) (by simpa using g3) hl (by omega) (fun _=>⟨rfl,hCA⟩);have g2:List.getD L (Int.toNat 0) ((⟨Array.empty⟩:ByteArray),PT.mk [])=(B [c],PT.mk []):=g2;have e:loopF (impl_value_l3 φ) ((a.1,a.2.1,a.2.2.1,a.2.2.2,()),((0:Int),[],()),(m,O,()),L,((L.length:Nat):Int),((0:Nat):Int),())=loopF (impl_value_l3 φ) ((a.1,a.2.1,a.2.2.1,a.2.2.2,()),((0:Int),[],()),((n:Int),lett (B [c]) n a.2.2.2,()),L,((L.length:Nat):Int),((1:Nat):Int),()):=by
    obtain⟨x,S,F,st⟩:=a;have hm:impl_StepMatrix (x,S,F,st) (B [c])=some (((n:Int),putSteps (B [c]) n st st.length),true):=hm;have hgr:impl_GradesOf ((n:Int),putSteps (B [c]) n st st.length)=some (((n:Int),lett (B [c]) n st),true):=hgr;rw[loopF_eq];simp only[impl_value_l3,Int.ofNat_zero,Int.natCast_zero,show decide ((0:Int)<((L.length:Nat):Int))=true from decide_eq_true (by omega),cond_true,if_pos (show(0:Int)≤0∧(0:Int)<((L.length:Nat):Int) by omega),g2,B_ne,Bool.not_false,hm,Option.bind_some,tk_id',hgr,show decide ((0:Int)>0)=false from rfl,cond_false];rfl
   rw[e];exact ih
  ·obtain⟨rfl,hO⟩:=hk hk0;have ih:=ih (by omega) L (k+1) (n:Int) (gmul n O (lett (B [c]) n a.2.2.2)) g3 hl (by omega) (fun _=>⟨rfl,hC.mul _ _ hO hCA⟩);have e:loopF (impl_value_l3 φ) ((a.1,a.2.1,a.2.2.1,a.2.2.2,()),((0:Int),[],()),((n:Int),O,()),L,((L.length:Nat):Int),(k:Int),())=loopF (impl_value_l3 φ) ((a.1,a.2.1,a.2.2.1,a.2.2.2,()),((0:Int),[],()),((n:Int),gmul n O (lett (B [c]) n a.2.2.2),()),L,((L.length:Nat):Int),((k+1:Nat):Int),()):=by
    have hgO:=hg O hO;obtain⟨x,S,F,st⟩:=a;have hm:impl_StepMatrix (x,S,F,st) (B [c])=some (((n:Int),putSteps (B [c]) n st st.length),true):=hm;have hgr:impl_GradesOf ((n:Int),putSteps (B [c]) n st st.length)=some (((n:Int),lett (B [c]) n st),true):=hgr;have hA:GOk n (lett (B [c]) n st):=hA;rw[loopF_eq];simp only[impl_value_l3,lt_t g1,cond_true,if_pos (in_t g1),Int.toNat_natCast,g2,B_ne,Bool.not_false,hm,Option.bind_some,tk_id',hgr,decide_eq_true (show(k:Int)>0 by omega),mulGrades_is h1 h4 hgO hA,w64_succ g1 (show L.length≤9223372036854775807 by omega)]
   rw[e];exact ih
 |@rp t1 t2 l1 l2 f1 hn _ _ ih=>
  intro hN L k m O hL hl h0 hk;simp only[List.length_cons,List.length_append] at hN;obtain⟨g1,g2,g3⟩:=drop_cons ((⟨Array.empty⟩:ByteArray),PT.mk []) hL;obtain⟨m1,A,b,hin,hb⟩:=hφ f1 hn (by omega);have h1:=ha.n1;have h4:=ha.n4
  -- what the step does, by what the inner value is
  cases b with
  |false=>
   left;obtain⟨x,S,F,st⟩:=a;have hin:φ (x,S,F,st) (PT.l (PT.mk l1))=some ((m1,A),false):=hin;rw[loopF_eq];simp only[impl_value_l3,lt_t g1,cond_true,if_pos (in_t g1),Int.toNat_natCast,g2,B_eq,Bool.not_true,Bool.not_false,cond_false,hin,Option.bind_some]
  |true=>
   obtain⟨rfl,hA⟩:=hb rfl;have hgA:=hg A hA;have hst:=stabilise_is h1 h4 hgA
   by_cases hid:gmul n A A=A
   ·rw[if_pos hid] at hst;have hS:=hC.stab A hA hid;have hgS:=hg _ hS
    rcases Nat.eq_zero_or_pos k with hk0|hk0
    ·subst hk0;have ih:=ih (by omega) L 1 (n:Int) (gstab n A) (by simpa using g3) hl (by omega) (fun _=>⟨rfl,hS⟩);have g2:List.getD L (Int.toNat 0) ((⟨Array.empty⟩:ByteArray),PT.mk [])=(B [],PT.mk l1):=g2;have e:loopF (impl_value_l3 φ) ((a.1,a.2.1,a.2.2.1,a.2.2.2,()),((0:Int),[],()),(m,O,()),L,((L.length:Nat):Int),((0:Nat):Int),())=loopF (impl_value_l3 φ) ((a.1,a.2.1,a.2.2.1,a.2.2.2,()),((0:Int),[],()),((n:Int),gstab n A,()),L,((L.length:Nat):Int),((1:Nat):Int),()):=by
      obtain⟨x,S,F,st⟩:=a;have hin:φ (x,S,F,st) (PT.l (PT.mk l1))=some (((n:Int),A),true):=hin;rw[loopF_eq];simp only[impl_value_l3,Int.ofNat_zero,Int.natCast_zero,show decide ((0:Int)<((L.length:Nat):Int))=true from decide_eq_true (by omega),cond_true,if_pos (show(0:Int)≤0∧(0:Int)<((L.length:Nat):Int) by omega),g2,B_eq,Bool.not_true,hin,Option.bind_some,tk_id',hst,show decide ((0:Int)>0)=false from rfl,cond_false];rfl
     rw[e];exact ih
    ·obtain⟨rfl,hO⟩:=hk hk0;have ih:=ih (by omega) L (k+1) (n:Int) (gmul n O (gstab n A)) g3 hl (by omega) (fun _=>⟨rfl,hC.mul _ _ hO hS⟩);have e:loopF (impl_value_l3 φ) ((a.1,a.2.1,a.2.2.1,a.2.2.2,()),((0:Int),[],()),((n:Int),O,()),L,((L.length:Nat):Int),(k:Int),())=loopF (impl_value_l3 φ) ((a.1,a.2.1,a.2.2.1,a.2.2.2,()),((0:Int),[],()),((n:Int),gmul n O (gstab n A),()),L,((L.length:Nat):Int),((k+1:Nat):Int),()):=by
      have hgO:=hg O hO;obtain⟨x,S,F,st⟩:=a;have hin:φ (x,S,F,st) (PT.l (PT.mk l1))=some (((n:Int),A),true):=hin;rw[loopF_eq];simp only[impl_value_l3,lt_t g1,cond_true,if_pos (in_t g1),Int.toNat_natCast,g2,B_eq,Bool.not_true,cond_false,hin,Option.bind_some,tk_id',hst,decide_eq_true (show(k:Int)>0 by omega),mulGrades_is h1 h4 hgO hgS,w64_succ g1 (show L.length≤9223372036854775807 by omega)]
     rw[e];exact ih
   ·rw[if_neg hid] at hst;left;obtain⟨x,S,F,st⟩:=a;have hin:φ (x,S,F,st) (PT.l (PT.mk l1))=some (((n:Int),A),true):=hin;rw[loopF_eq];simp only[impl_value_l3,lt_t g1,cond_true,if_pos (in_t g1),Int.toNat_natCast,g2,B_eq,Bool.not_true,Bool.not_false,cond_false,hin,Option.bind_some,tk_id',hst]
theorem val_fuel:∀(N:Nat) {t:List UInt8} {l:Pts},Fo t l→l≠[]→t.length<N→N≤200→∃m A b,impl_value_fuel N a l=some ((m,A),b)∧(b=true→m=(n:Int)∧C A)∧(b=false→m=0∧A=[])
 |0,t,l,_,_,hN,_=>absurd hN (by omega)
 |N+1,t,l,h,hn,hN,hN'=>by
  have hlen:=h.len;have e:=val_loop ha hv hs hC hg (φ:=impl_value_fuel N) (N:=N) (fun{t1 l1} h1 h2 h3=>by obtain⟨m,A,b,e1,e2,_⟩:=val_fuel N h1 h2 h3 (by omega);exact⟨m,A,b,e1,e2⟩) h (by omega) l 0 (0:Int) [] (by simp) (by omega) (fun _=>hn) (by omega);show ∃m A b,impl_value_step (impl_value_fuel N) a l=_∧_;obtain⟨x,S,F,st⟩:=a;unfold impl_value_step;dsimp only
  rcases e with e|⟨⟨x1,x2,_⟩,A,e,hA⟩
  ·have e:loopF (impl_value_l3 (impl_value_fuel N)) ((x,S,F,st,()),((0:Int),[],()),((0:Int),[],()),l,((l.length:Nat):Int),(0:Int),())=_:=e;refine⟨0,[],false, ?_,fun h=>(by cases h),fun _=>⟨rfl,rfl⟩⟩;rw[e];simp only[Option.bind_some,tk_id']
  ·have e:loopF (impl_value_l3 (impl_value_fuel N)) ((x,S,F,st,()),((0:Int),[],()),((0:Int),[],()),l,((l.length:Nat):Int),(0:Int),())=_:=e;refine⟨(n:Int),A,true, ?_,fun _=>⟨rfl,hA⟩,fun h=>by cases h⟩;rw[e];simp only[Option.bind_some,tk_id']
/-- the value of any text -/
theorem valueOf_any3(s:ByteArray):∃m A b,impl_ValueOf a s=some ((m,A),b)∧(b=true→m=(n:Int)∧C A)∧(b=false→m=0∧A=[]):=by
 have hV:=impl_AutomatonValid_is a (small_len hs).1 (small_len hs).2
 rcases parts_any s with⟨l,e⟩|⟨t,l,rfl,h1,h2,h3,e⟩
 ·refine⟨(0:Int),[],false, ?_,fun h=>(by cases h),fun _=>⟨rfl,rfl⟩⟩;obtain⟨x,S,F,st⟩:=a;simp only[impl_ValueOf,e,Option.bind_some,Bool.not_false,cond_true]
 ·obtain⟨m,A,b,e2,e3⟩:=val_fuel ha hv hs hC hg 200 h1 h2 (by omega) (by omega);have e2:impl_value a l=some ((m,A),b):=e2;refine⟨m,A,b, ?_,e3⟩;obtain⟨x,S,F,st⟩:=a;simp only[impl_ValueOf,e,Option.bind_some,Bool.not_true,cond_false,hV,hv,tk_id',e2]
end
end Go.Proofs.YthkflageghfbgaaGreatDoor
