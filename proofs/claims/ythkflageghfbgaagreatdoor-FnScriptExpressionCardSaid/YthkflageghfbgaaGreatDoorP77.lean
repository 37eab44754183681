/- Both sides expand a text to the same word. -/
import Derived.Test.YthkflageghfbgaaGreatDoorP76
set_option linter.unusedVariables false
set_option linter.unusedSimpArgs false
namespace Go.Proofs.YthkflageghfbgaaGreatDoor
open Go Go.Proofs.YthkflageghfbgaaGreatDoor.Am
theorem rep_lib(w:List UInt8):∀m,Lib.repeatL w m=rep m w
 |0=>rfl
 |m+1=>by
  show w++Lib.repeatL w m=_;rw[rep_lib w m,rep_succ]
theorem B_mk(l:List UInt8):(⟨l.toArray⟩:ByteArray)=B l:=by simp[B]
theorem repeat_is{w:List UInt8}{m:Nat}(hm:m≤1000)(h:m*w.length≤1000):strings_Repeat (B w) (m:Int)=some (B (rep m w)):=by
 have h1:(B w).size*m≤140737488355328:=by rw[B_size,Nat.mul_comm];omega
 show repS (B w) (m:Int)=_;unfold repS;rw[if_pos ⟨by omega,by rw[Int.toNat_natCast];exact h1,by omega⟩,Int.toNat_natCast];show some (⟨(Lib.repeatL w m).toArray⟩:ByteArray)=_;rw[rep_lib,B_mk]
/-- the word of an expansion, if it is not too long -/
def xpR(w:List UInt8):ByteArray×Bool:=if w.length≤1000 then(B w,true) else((⟨#[]⟩:ByteArray),false)
abbrev RecX:=Pts→Int→Option (ByteArray×Bool)
theorem tdiv_nat(a b:Nat):Int.tdiv (a:Int) (b:Int)=((a/b:Nat):Int):=rfl
theorem room{o k m:Nat}(hk:0<k)(ho:o≤1000)(hk2:k≤1000):decide ((m:Int)>IntKind.wrap .i64 (Int.tdiv (IntKind.wrap .i64 ((1000:Int)-(o:Int))) (k:Int)))=decide (1000<o+m*k):=by
 have e1:IntKind.wrap .i64 ((1000:Int)-(o:Int))=((1000-o:Nat):Int):=by
  rw[w64 (by omega) (by omega)];omega
 have hle:(1000-o)/k≤1000:=Nat.le_trans (Nat.div_le_self _ _) (by omega);have h:=Nat.div_lt_iff_lt_mul (x:=1000-o) (y:=m) hk;rw[e1,tdiv_nat];generalize(1000-o)/k=q at hle h;rw[w64 (by omega) (by omega)];rw[decide_eq_decide];constructor
 ·intro h1;have:=h.1 (by omega);omega
 ·intro h1;have:=h.2 (by omega);omega
theorem xp_loop{m:Nat}(hm:1≤m){φ:RecX}{N:Nat}(hφ:∀{t1 w1:List UInt8} {l1:Pts},Xo m t1 l1 w1→l1≠[]→t1.length<N→φ l1 (m:Int)=some (xpR w1)){t w:List UInt8}{l:Pts}(h:Xo m t l w):
  t.length≤N→∀(L:Pts) (k:Nat) (o:List UInt8),L.drop k=l→L.length≤1000→k≤L.length→o.length≤1000→
   loopF (impl_expand_l3 φ) ((m:Int),B o,L,((L.length:Nat):Int),(k:Int),())=some (if(o++w).length≤1000 then .inr (B (o++w),()) else .inl ((⟨#[]⟩:ByteArray),false,())):=by
 induction h with
 |nil=>
  intro _ L k o hL h1 hk ho;have hk2:L.length≤k:=List.drop_eq_nil_iff.1 hL;obtain rfl:k=L.length:=by omega
  rw[loopF_eq];simp only[impl_expand_l3,lt_f,cond_false,Option.bind_some,List.append_nil];rw[if_pos ho]
 |@lt c t w l hc _ ih=>
  intro hN L k o hL h1 hk ho;simp only[List.length_cons] at hN;obtain⟨g1,g2,g3⟩:=drop_cons ((⟨Array.empty⟩:ByteArray),PT.mk []) hL;have hr:=room (o:=o.length) (k:=1) (m:=1) (by omega) ho (by omega);have hr:decide ((1:Int)>IntKind.wrap .i64 (Int.tdiv (IntKind.wrap .i64 ((1000:Int)-((o.length:Nat):Int))) ((([c].length:Nat)):Int)))=decide (1000<o.length+1*1):=hr;rw[loopF_eq];simp only[impl_expand_l3,lt_t g1,cond_true,if_pos (in_t g1),Int.toNat_natCast,g2,B_ne,cond_false,B_size,hr];rw[if_neg (show ¬(([c].length:Nat):Int)=0 by simp)]
  by_cases hf:1000<o.length+1*1
  ·rw[decide_eq_true hf,cond_true];simp only[Option.bind_some];rw[if_neg (by simp;omega)]
  ·rw[decide_eq_false hf,cond_false];have e:=repeat_is (w:=[c]) (m:=1) (by omega) (by simp);have e:strings_Repeat (B [c]) (1:Int)=some (B [c]):=e;rw[e];simp only[Option.bind_some,B_size,B_app];rw[if_pos (by simp;omega)];simp only[Option.bind_some,w64_succ g1 (show L.length≤9223372036854775807 by omega)];rw[ih (by omega) L (k+1) (o++[c]) g3 h1 (by omega) (by simp;omega)];rw[List.append_assoc];rfl
 |@rp t1 t2 w1 w2 l1 l2 h1' hn _ _ ih=>
  intro hN L k o hL h1 hk ho;simp only[List.length_cons,List.length_append] at hN;obtain⟨g1,g2,g3⟩:=drop_cons ((⟨Array.empty⟩:ByteArray),PT.mk []) hL;have hin:=hφ h1' hn (by omega);have hin:φ (PT.l (PT.mk l1)) (m:Int)=some (xpR w1):=hin;have hne:=h1'.ne hm hn;have hpos:0<w1.length:=List.length_pos_iff.2 hne;have hrl:=rep_len m w1;have htot:(o++(rep m w1++w2)).length=o.length+m*w1.length+w2.length:=by
   rw[List.length_append,List.length_append,hrl];omega
  rw[loopF_eq];simp only[impl_expand_l3,lt_t g1,cond_true,if_pos (in_t g1),Int.toNat_natCast,g2,B_eq,hin,Option.bind_some]
  by_cases hw:w1.length≤1000
  ·have hx:xpR w1=(B w1,true):=by unfold xpR;rw[if_pos hw]
   have hr:=room (o:=o.length) (k:=w1.length) (m:=m) hpos ho hw;simp only[hx,Bool.not_true,cond_false,B_size,hr];rw[if_neg (show ¬((w1.length:Nat):Int)=0 by omega)]
   by_cases hf:1000<o.length+m*w1.length
   ·rw[decide_eq_true hf,cond_true];simp only[Option.bind_some];rw[if_neg (by omega)]
   ·rw[decide_eq_false hf,cond_false];have hmk:m≤m*w1.length:=Nat.le_mul_of_pos_right _ hpos;rw[repeat_is (by omega) (by omega)];simp only[Option.bind_some,B_size,B_app];rw[if_pos (by omega)];simp only[Option.bind_some,w64_succ g1 (show L.length≤9223372036854775807 by omega)];rw[ih (by omega) L (k+1) (o++rep m w1) g3 h1 (by omega) (by rw[List.length_append];omega)];rw[List.append_assoc]
  ·have hx:xpR w1=((⟨#[]⟩:ByteArray),false):=by unfold xpR;rw[if_neg hw]
   have hmk:w1.length≤m*w1.length:=Nat.le_mul_of_pos_left _ hm;simp only[hx,Bool.not_false,cond_true,Option.bind_some];rw[if_neg (by omega)]
theorem xp_fuel{m:Nat}(hm:1≤m):∀(N:Nat) {t w:List UInt8} {l:Pts},Xo m t l w→l≠[]→t.length<N→N≤200→impl_expand_fuel N l (m:Int)=some (xpR w)
 |0,t,w,l,_,_,hN,_=>absurd hN (by omega)
 |N+1,t,w,l,h,hn,hN,hN'=>by
  have hlen:=h.fo.len;have e:=xp_loop hm (φ:=impl_expand_fuel N) (N:=N) (fun{t1 w1 l1} h1 h2 h3=>xp_fuel hm N h1 h2 h3 (by omega)) h (by omega) l 0 [] (by simp) (by omega) (by omega) (by simp);have e:loopF (impl_expand_l3 (impl_expand_fuel N)) ((m:Int),(⟨#[]⟩:ByteArray),l,((l.length:Nat):Int),(0:Int),())=some (if w.length≤1000 then .inr (B w,()) else .inl ((⟨#[]⟩:ByteArray),false,())):=e;show impl_expand_step (impl_expand_fuel N) l (m:Int)=_;unfold impl_expand_step xpR;rw[e]
  by_cases hw:w.length≤1000
  ·rw[if_pos hw,if_pos hw];rfl
  ·rw[if_neg hw,if_neg hw];rfl
theorem expand_impl{m:Nat}(hm:1≤m){t w:List UInt8}{l:Pts}(h:Xo m t l w)(hl:l≠[])(h120:t.length≤120):impl_ExpandExpression (B t) (m:Int)=some (xpR w):=by
 have e:=xp_fuel hm 200 h hl (by omega) (by omega);have e:impl_expand l (m:Int)=some (xpR w):=e;simp only[impl_ExpandExpression,parts_is h.fo hl h120,Option.bind_some,Bool.not_true,cond_false,decide_eq_false (show ¬(m:Int)<1 by omega),List.drop_zero,List.take_length,e]
/-! ### the other side -/
theorem sx_in(φ:ByteArray→Int→Option ByteArray){m:Nat}(v:Int)(rest:ByteArray)(u:List UInt8)(hu:u.length≤1000000):∀(d k:Nat) (o:List UInt8),k+d=m→m≤9223372036854775807→o.length≤3000000→
  ∃o':List UInt8,loopF (spec_l7Expand_l10 φ) (v,B o,rest,B u,(m:Int),(k:Int),())=some (v,B o',rest,())∧((o++rep d u).length≤1000→o'=o++rep d u)∧(1000<(o++rep d u).length→1000<o'.length)∧(o'.length≤o.length∨o'.length≤1000+u.length)
 |0,k,o,hk,hm,ho=>by
  obtain rfl:k=m:=by omega
  refine⟨o, ?_,fun _=>by simp[rep],fun h=>by simpa[rep] using h,.inl (Nat.le_refl _)⟩;rw[loopF_eq];simp only[spec_l7Expand_l10,lt_f,cond_false,Option.bind_some]
 |d+1,k,o,hk,hm,ho=>by
  have hkm:k<m:=by omega
  by_cases h1:o.length≤1000
  ·obtain⟨o',e1,e2,e3,e4⟩:=sx_in φ v rest u hu d (k+1) (o++u) (by omega) hm (by rw[List.length_append];omega);refine⟨o', ?_,fun h=> ?_,fun h=> ?_, ?_⟩
   ·rw[loopF_eq];simp only[spec_l7Expand_l10,lt_t hkm,cond_true,decide_eq_true (show(((B o).size:Nat):Int)≤1000 by rw[B_size];omega),B_app];rw[if_pos (by rw[B_size,B_size];omega)];simp only[Option.bind_some,w64_succ hkm hm];exact e1
   ·rw[rep_succ,←List.append_assoc] at h⊢;exact e2 h
   ·rw[rep_succ,←List.append_assoc] at h;exact e3 h
   ·rw[List.length_append] at e4;omega
  ·refine⟨o, ?_,fun h=> ?_,fun _=>by omega,.inl (Nat.le_refl _)⟩
   ·rw[loopF_eq];simp only[spec_l7Expand_l10,lt_t hkm,cond_true,decide_eq_false (show ¬(((B o).size:Nat):Int)≤1000 by rw[B_size];omega),cond_false,Option.bind_some]
   ·rw[List.length_append] at h;omega
abbrev RecY:=ByteArray→Int→Option ByteArray
/-- what a text's expansion is on the other side -/
def SX(K:Nat)(w:List UInt8)(r:Option ByteArray):Prop:=∃u:List UInt8,r=some (B u)∧(w.length≤1000→u=w)∧(1000<w.length→1000<u.length)∧u.length≤K
theorem sx_loop{m:Nat}(hm:1≤m)(hm2:m≤9223372036854775807){φ:RecY}{N K:Nat}(hK1:1≤K)(hK:K≤900000)(hφ:∀{t1 w1:List UInt8} {l1:Pts},Xo m t1 l1 w1→l1≠[]→t1.length<N→SX K w1 (φ (B t1) (m:Int))){t w:List UInt8}{l:Pts}(h:Xo m t l w):
  t.length≤N→N≤190→∀o:List UInt8,o.length≤1000+K→∃u:List UInt8,loopF (spec_l7Expand_l2 φ) (B t,(m:Int),B o,())=some (B u,())∧((o++w).length≤1000→u=o++w)∧(1000<(o++w).length→1000<u.length)∧u.length≤1000+K:=by
 induction h with
 |nil=>
  intro _ _ o ho;refine⟨o, ?_,fun _=>by simp,fun h=>by simpa using h,ho⟩;rw[loopF_eq];simp only[spec_l7Expand_l2,B_eq,Bool.not_true,cond_false,Option.bind_some]
 |@lt c t w l hc _ ih=>
  intro hN hN' o ho;simp only[List.length_cons] at hN
  by_cases h1:o.length≤1000
  ·obtain⟨o',e1,e2,e3,e4⟩:=sx_in φ (m:=1) (m:Int) (B t) [c] (by simp) 1 0 o (by omega) (by omega) (by omega);have r1:(o++rep 1 [c])=o++[c]:=by simp[rep]
   rw[r1] at e2 e3;have e1:loopF (spec_l7Expand_l10 φ) ((m:Int),B o,B t,B [c],(1:Int),(0:Int),())=some ((m:Int),B o',B t,()):=e1;obtain⟨u,f1,f2,f3,f4⟩:=ih (by omega) hN' o' (by simp at e4;omega);refine⟨u, ?_,fun h=> ?_,fun h=> ?_,f4⟩
   ·rw[loopF_eq];simp only[spec_l7Expand_l2,B_ne,Bool.not_false,cond_true,decide_eq_true (show(((B o).size:Nat):Int)≤1000 by rw[B_size];omega),l7Next_lt hc,Option.bind_some,cond_false,e1];exact f1
   ·have h2:(o++[c]).length≤1000:=by simp at h⊢;omega
    have h3:=e2 h2;subst h3;have:=f2 (by rw[List.append_assoc];exact h);rw[this,List.append_assoc];rfl
   ·by_cases h2:(o++[c]).length≤1000
    ·have h3:=e2 h2;subst h3;exact f3 (by rw[List.append_assoc];exact h)
    ·have:=e3 (by omega);exact f3 (by rw[List.length_append];omega)
  ·refine⟨o, ?_,fun h=> ?_,fun _=>by omega,ho⟩
   ·rw[loopF_eq];simp only[spec_l7Expand_l2,B_ne,Bool.not_false,cond_true,decide_eq_false (show ¬(((B o).size:Nat):Int)≤1000 by rw[B_size];omega),cond_false,Option.bind_some]
   ·rw[List.length_append] at h;omega
 |@rp t1 t2 w1 w2 l1 l2 h1' hn _ _ ih=>
  intro hN hN' o ho;simp only[List.length_cons,List.length_append] at hN
  by_cases h1:o.length≤1000
  ·obtain⟨r,p1,p2,p3,p4⟩:=hφ h1' hn (by omega);obtain⟨o',e1,e2,e3,e4⟩:=sx_in φ (m:=m) (m:Int) (B t2) r (by omega) m 0 o (by omega) hm2 (by omega);have e1:loopF (spec_l7Expand_l10 φ) ((m:Int),B o,B t2,B r,(m:Int),(0:Int),())=some ((m:Int),B o',B t2,()):=e1;have hnx:=l7Next_rp (t2:=t2) h1'.fo hn (by omega);obtain⟨u,f1,f2,f3,f4⟩:=ih (by omega) hN' o' (by omega);have hw1:w1.length≤m*w1.length:=Nat.le_mul_of_pos_left _ hm;have hr1:r.length≤m*r.length:=Nat.le_mul_of_pos_left _ hm;refine⟨u, ?_,fun h=> ?_,fun h=> ?_,f4⟩
   ·rw[loopF_eq];simp only[spec_l7Expand_l2,B_ne,Bool.not_false,cond_true,decide_eq_true (show(((B o).size:Nat):Int)≤1000 by rw[B_size];omega),hnx,Option.bind_some,p1,e1];exact f1
   ·rw[List.length_append,List.length_append,rep_len] at h;have h3:=p2 (by omega);subst h3;have h4:=e2 (by rw[List.length_append,rep_len];omega);subst h4;have:=f2 (by rw[List.length_append,List.length_append,rep_len];omega);rw[this,List.append_assoc]
   ·by_cases hw:w1.length≤1000
    ·have h3:=p2 hw;subst h3
     by_cases h4:(o++rep m r).length≤1000
     ·have h5:=e2 h4;subst h5;exact f3 (by rw[List.append_assoc];exact h)
     ·have:=e3 (by omega);exact f3 (by rw[List.length_append];omega)
    ·have h3:=p3 (by omega);have:=e3 (by rw[List.length_append,rep_len];omega);exact f3 (by rw[List.length_append];omega)
  ·refine⟨o, ?_,fun h=> ?_,fun _=>by omega,ho⟩
   ·rw[loopF_eq];simp only[spec_l7Expand_l2,B_ne,Bool.not_false,cond_true,decide_eq_false (show ¬(((B o).size:Nat):Int)≤1000 by rw[B_size];omega),cond_false,Option.bind_some]
   ·rw[List.length_append] at h;omega
theorem sx_fuel{m:Nat}(hm:1≤m)(hm2:m≤9223372036854775807):∀(N:Nat) {t w:List UInt8} {l:Pts},Xo m t l w→l≠[]→t.length<N→N≤190→∀M,N≤M→SX (1000*N+1) w (spec_l7Expand_fuel M (B t) (m:Int))
 |0,t,w,l,_,_,hN,_,_,_=>absurd hN (by omega)
 |N+1,t,w,l,h,hn,hN,hN',0,hM=>absurd hM (by omega)
 |N+1,t,w,l,h,hn,hN,hN',M+1,hM=>by
  obtain⟨u,e1,e2,e3,e4⟩:=sx_loop hm hm2 (φ:=spec_l7Expand_fuel M) (N:=N) (K:=1000*N+1) (by omega) (by omega) (fun{t1 w1 l1} h1 h2 h3=>sx_fuel hm hm2 N h1 h2 h3 (by omega) M (by omega)) h (by omega) (by omega) [] (by simp);refine⟨u, ?_,e2,e3,by omega⟩;have e1:loopF (spec_l7Expand_l2 (spec_l7Expand_fuel M)) (B t,(m:Int),(⟨#[]⟩:ByteArray),())=some (B u,()):=e1;show spec_l7Expand_step (spec_l7Expand_fuel M) (B t) (m:Int)=_;unfold spec_l7Expand_step;rw[e1];rfl
theorem expand_spec{m:Nat}(hm:1≤m)(hm2:m≤9223372036854775807){t w:List UInt8}{l:Pts}(h:Xo m t l w)(hl:l≠[])(h120:t.length≤120):spec_ExpandExpression (B t) (m:Int)=some (xpR w):=by
 obtain⟨u,e1,e2,e3,e4⟩:=sx_fuel hm hm2 121 h hl (by omega) (by omega) 200 (by omega);have e1:spec_l7Expand (B t) (m:Int)=some (B u):=e1;have ht:=h.fo.ne hl;have htp:0<t.length:=List.length_pos_iff.2 ht;have he:=l7End_is 200 h.fo hl (by omega) [] [] (.inl rfl) (by simp;omega);have he:spec_l7End (B ([]++(t++[]))) (0:Int)=some ((([]:List UInt8).length+t.length:Nat):Int):=he;rw[List.nil_append,List.append_nil] at he;have hv:spec_ExpressionValid (B t)=some true:=by
  simp only[spec_ExpressionValid,decide_eq_true (show(((B t).size:Nat):Int)≤120 by rw[B_size];omega),cond_true,he,Option.bind_some];rw[show((((([]:List UInt8).length+t.length:Nat):Int))==(((B t).size:Nat):Int))=true from beq_iff_eq.2 (by rw[B_size];simp),cond_true,decide_eq_true (show(((B t).size:Nat):Int)>0 by rw[B_size];omega)]
 simp only[spec_ExpandExpression,hv,Option.bind_some,Bool.not_true,cond_false,decide_eq_false (show ¬(m:Int)<1 by omega),e1];unfold xpR
 by_cases hw:w.length≤1000
 ·have:=e2 hw;subst this;rw[if_pos hw,decide_eq_false (show ¬(((B u).size:Nat):Int)>1000 by rw[B_size];omega),cond_false]
 ·have:=e3 (by omega);rw[if_neg hw,decide_eq_true (show(((B u).size:Nat):Int)>1000 by rw[B_size];omega),cond_true]
end Go.Proofs.YthkflageghfbgaaGreatDoor
