import Derived.Test.YtafognnoibjjeaaGreatDoorP91
import Derived.Test.YtafognnoibjjeaaGreatDoorP101
import Derived.Test.YtafognnoibjjeaaGreatDoorP102
import Derived.Test.YtafognnoibjjeaaGreatDoorP72
set_option linter.unusedVariables false
set_option linter.unusedSimpArgs false
/- What the program tells of y5o and finite powers: that it tells something. -/
namespace Go.Proofs.YtafognnoibjjeaaGreatDoor
open Go Go.Proofs.YtafognnoibjjeaaGreatDoor.Am
/-! ### y5o of expressions -/
theorem adI{a b:Int}(ha:0≤a∧a≤1000000)(hb:0≤b∧b≤1000000):y1i a b=some (ad a b):=by
 simp only[y1i,y3u ha,y3u hb,Option.bind_some,Bool.not_true,cond_false,w64 (show-9223372036854775808≤a+b by omega) (show a+b≤9223372036854775807 by omega)];rfl
theorem timesI{v:Int}(hv:0≤v∧v≤1000000):∃w,(0≤w∧w≤1000000)∧yx9 2 v=some w:=by
 by_cases h0:v=0
 ·subst h0;exact⟨0,by omega,rfl⟩
 ·have hb:(v==0)=false:=by simpa using h0
  have hq0:0≤Int.tdiv 1000000 v:=Int.tdiv_nonneg (by omega) (by omega);have hq1:Int.tdiv 1000000 v≤1000000:=Int.tdiv_le_self _ (by omega);have wq:=w64 (show-9223372036854775808≤Int.tdiv 1000000 v by omega) (show Int.tdiv 1000000 v≤9223372036854775807 by omega)
  by_cases hc:2>Int.tdiv 1000000 v
  ·refine⟨1000000,by omega, ?_⟩;simp only[yx9,show decide ((2:Int)<0)=false from rfl,cond_false,y3u hv,Option.bind_some,Bool.not_true,hb,y7e,if_neg h0,wq,decide_eq_true hc,cond_true]
  ·have h2:2*v≤1000000:=by
    rw[Int.tdiv_eq_ediv_of_nonneg (by omega)] at hc;have h4:1000000/v*v≤1000000:=Int.ediv_mul_le _ h0;have h5:2≤1000000/v:=by omega
    have h6:2*v≤1000000/v*v:=Int.mul_le_mul_of_nonneg_right h5 hv.1;omega
   have wm:=w64 (show-9223372036854775808≤2*v by omega) (show 2*v≤9223372036854775807 by omega);refine⟨2*v,by omega, ?_⟩;simp only[yx9,show decide ((2:Int)<0)=false from rfl,cond_false,y3u hv,Option.bind_some,Bool.not_true,hb,y7e,if_neg h0,wq,decide_eq_false hc,wm]
theorem z6s{φi:Pts→Option Int}{N:Nat}(hφ:∀{t1:List UInt8} {l1:Pts},Fo t1 l1→l1≠[]→t1.length<N→∃v,(0≤v∧v≤1000000)∧φi l1=some v):
  ∀{t:List UInt8} {l:Pts},Fo t l→t.length≤N→∀(L:Pts) (k:Nat) (ac:Int),L.drop k=l→L.length≤1000→k≤L.length→0≤ac∧ac≤1000000→
   ∃v,(0≤v∧v≤1000000)∧ya2 (ym6 φi) (ac,L,((L.length:Nat):Int),(k:Int),())=some (v,()):=by
 intro t l h
 induction h with
 |nil=>
  intro _ L k ac hL h1 hk ha;have hk2:L.length≤k:=List.drop_eq_nil_iff.1 hL;obtain rfl:k=L.length:=by omega
  refine⟨ac,ha, ?_⟩;rw[yb2];simp only[ym6,lt_f,cond_false,Option.bind_some]
 |@lt c t l hc _ ih=>
  intro hN' L k ac hL h1 hk ha;simp only[List.length_cons] at hN';obtain⟨g1,g2,g3⟩:=z33 ((⟨Array.empty⟩:ByteArray),PT.mk []) hL;have h3:(0:Int)≤3∧(3:Int)≤1000000:=by omega
  obtain⟨v,v1,v4⟩:=ih (by omega) L (k+1) (ad ac 3) g3 h1 (by omega) (ad_rng ha h3);refine⟨v,v1, ?_⟩;rw[yb2];simp only[ym6,lt_t g1,cond_true,if_pos (in_t g1),Int.toNat_natCast,g2,B_ne,Bool.not_false,adI ha h3,Option.bind_some,ya3 g1 (show L.length≤9223372036854775807 by omega)];exact v4
 |@rp t1 t2 l1 l2 h1' hn _ _ ih=>
  intro hN' L k ac hL h1 hk ha;simp only[List.length_cons,List.length_append] at hN';obtain⟨g1,g2,g3⟩:=z33 ((⟨Array.empty⟩:ByteArray),PT.mk []) hL;obtain⟨u,u1,u4⟩:=hφ h1' hn (by omega);obtain⟨w,w1,w3⟩:=timesI u1;obtain⟨v,v1,v4⟩:=ih (by omega) L (k+1) (ad ac w) g3 h1 (by omega) (ad_rng ha w1);refine⟨v,v1, ?_⟩;rw[yb2];have u4:φi (PT.l (PT.mk l1))=some u:=u4;simp only[ym6,lt_t g1,cond_true,if_pos (in_t g1),Int.toNat_natCast,g2,B_eq,Bool.not_true,cond_false,u4,w3,adI ha w1,Option.bind_some,ya3 g1 (show L.length≤9223372036854775807 by omega)];exact v4
theorem zs6:∀(N:Nat) {t:List UInt8} {l:Pts},Fo t l→l≠[]→t.length<N→N≤190→∀M,N≤M→∃v,(0≤v∧v≤1000000)∧yl2 M l=some v
 |0,t,l,h,_,hN,_,_,_=>absurd hN (by omega)
 |N+1,t,l,h,hl,hN,hN',0,hM=>absurd hM (by omega)
 |N+1,t,l,h,hl,hN,hN',M+1,hM=>by
  have hlen:=h.len;obtain⟨v,v1,v4⟩:=z6s (φi:=yl2 M) (N:=N) (fun{t1 l1} h1 h2 h3=>zs6 N h1 h2 h3 (by omega) M (by omega)) h (by omega) l 0 0 rfl (by omega) (by omega) (by omega);have v4:ya2 (ym6 (yl2 M)) ((0:Int),l,((l.length:Nat):Int),(0:Int),())=some (v,()):=v4;refine⟨v,v1, ?_⟩;show yv5 (yl2 M) l=_;unfold yv5;rw[v4];rfl
theorem ky3{s:ByteArray}(h:IsEx s)(hs:s.size≤120):∃v,(0≤v∧v≤1000000)∧y3l s=some v:=by
 obtain⟨t,l,rfl,h1,h2⟩:=h;have hs:t.length≤120:=hs;obtain⟨v,v1,v4⟩:=zs6 121 h1 h2 (by omega) (by omega) 200 (by omega);have v4:zb9 l=some v:=v4;refine⟨v,v1, ?_⟩;simp only[y3l,k1u h1 h2 hs,Option.bind_some,Bool.not_true,cond_false,List.drop_zero,List.take_length,v4]
/-! ### what is told of a valid automaton -/
/-- elements, with their texts -/
theorem zs7{a:Aut}{n:Nat}(ha:AutIs a n)(hv:yo7 a=true)(hs:yy1 a):∃L ok,LOk n L∧ya6 a=some (L,ok)∧(ok=false→L=[])∧XOk (fun _ s=>IsEx s) L:=by
 obtain⟨L,ok,hL,e1,e2,e0,eX,_⟩:=y5k ha hv hs;exact⟨L,ok,hL,e2,e0,eX _ (k1s n) isEx_la isEx_lb⟩
theorem isEx_ne{s:ByteArray}(h:IsEx s):s.data.toList≠[]:=by
 obtain⟨t,l,rfl,h1,h2⟩:=h;exact h1.ne h2
theorem someI{a:Aut}{n:Nat}(ha:AutIs a n)(hv:yo7 a=true)(hs:yy1 a){L:List Elt}{ok:Bool}(hL:LOk n L)(e2:ya6 a=some (L,ok))(hX:XOk (fun _ s=>IsEx s) L):
  ∃r,yv6 a=some r∧-1≤r∧r≤1000000:=by
 obtain⟨x,S,F,l⟩:=a;have hx:x=(n:Int):=ha.st;subst hx;have hlen:=hL.len;cases ok with
 |false=>exact⟨-1,by simp only[yv6,e2,Option.bind_some,Bool.not_false,cond_true],by omega,by omega⟩
 |true=>
  obtain⟨r,k1,k2⟩:=y3o (f:=yq3) L.length (fun i (m:Int)=>(((n:Int),S,F,l,()),m,L,(L.length:Int),(i:Int),())) (fun m=>(m,())) (fun i m=>0≤m∧m≤1000000)
   (fun i m hi hm=>by
    have hat:=hL.at hi;have hmem:L.getD i el0∈L:=by rw[yb4 el0 hi];exact List.getElem_mem hi
    have hbt:=y6r ha.n1 ha.n4 l ha.S ha.F hs.1 hs.2.1 hat.2.1 hv;obtain⟨v,v1,v2⟩:=ky3 (hX _ hmem) hat.2.2;simp only[yq3,lt_t hi,cond_true,if_pos (in_t hi),Int.toNat_natCast,Nat.zero_add,hat.1,hbt,Option.bind_some,v2,List.drop_zero,List.take_length,ya3 hi (show L.length≤9223372036854775807 by omega)];cases btw n (L.getD i el0).1.2 S F==1 with
    |true=>exact⟨if v>m then v else m,rfl,by split<;>omega⟩
    |false=>exact⟨m,rfl,hm⟩)
   (fun m _=>by simp only[yq3,lt_f,cond_false])
   0 (by omega)
  have k1:ya2 yq3 (((n:Int),S,F,l,()),(0:Int),L,(L.length:Int),(0:Int),())=_:=k1;exact⟨r,by simp only[yv6,e2,Option.bind_some,Bool.not_true,cond_false,List.drop_zero,List.take_length,k1],by omega,k2.2⟩
theorem growI{a:Aut}{n:Nat}(ha:AutIs a n)(hv:yo7 a=true)(hs:yy1 a){L:List Elt}{ok:Bool}(hL:LOk n L)(e2:ya6 a=some (L,ok))(hX:XOk (fun _ s=>IsEx s) L):
  ∃e gr is,yk4 a=some (e,gr)∧yn2 a=some (is,ok)∧(gr=true→e.data.toList≠[])∧e.size≤120:=by
 have g:=z30 ha hv hs hL e2;have hf1:∀p:Elt→Bool,(y5l L p).2=true→(y5l L p).1.data.toList≠[]:=by
  intro p h;unfold y5l at h⊢;cases hf:(List.range L.length).find? fun i=>p (L.getD i el0) with
  |none=>rw[hf] at h;cases h
  |some i=>
   have hi:=List.mem_range.1 (List.mem_of_find?_eq_some hf);exact isEx_ne (hX _ (by rw[yb4 el0 hi];exact List.getElem_mem hi))
 have hf2:∀p:Elt→Bool,(y5l L p).1.size≤120:=by
  intro p;unfold y5l;cases hf:(List.range L.length).find? fun i=>p (L.getD i el0) with
  |none=>show(0:Nat)≤_;omega
  |some i=>exact(hL.at (List.mem_range.1 (List.mem_of_find?_eq_some hf))).2.2
 have h1:=hf1 (growP n a.2.1 a.2.2.1);have h2:=hf2 (growP n a.2.1 a.2.2.1);generalize y5l L (growP n a.2.1 a.2.2.1)=q at g h1 h2;obtain⟨e,gr⟩:=q;obtain⟨x,S,F,l⟩:=a;refine⟨e,gr,ok&& !gr,g, ?_,h1,h2⟩;simp only[yn2,e2,g,Option.bind_some];cases ok<;>rfl
/-- the automaton of factors is told -/
theorem powerI{a:Aut}(hs:yy1 a)(hv:yo7 a=true):∃R ok,yo2 a=some (R,ok)∧yy1 R∧(ok=true→yo7 R=true):=by
 have hV:=yc4 a (yh0 hs).1 (yh0 hs).2;obtain⟨x,S,F,l⟩:=a;obtain⟨h1,h2,h3⟩:=hs;simp only at h1 h2 h3;obtain⟨q1,q2,q3,q4,q5⟩:=y8i hv;have hlz:(l.map zs).length=l.length:=List.length_map _;have h0:IP (l.map zs) (l.map zs):=by
  refine⟨List.Perm.refl _, ?_, ?_⟩
  ·exact kv7 (zy9 q4)
  ·intro s hs;obtain⟨t,_,rfl⟩:=List.mem_map.1 hs;exact Int.zero_le_ofNat 1
 have hall:=h0.all (S:=S) (F:=F) (l:=l);have hst:=z96 (l:=l) (by omega) (φ:=fun y1=>yv8 y1.1) (z:=zs) (fun s=>rfl);have hi:=k16 (x:=x) (S:=S) (F:=F) (l:=l) h1 h2 q3 (l.map zs) (by omega);have hlen:(allI S F (l.map zs) l).length≤24+24*1048576:=by
  have:=z1k (S:=S) (F:=F) (I:=l.map zs) l l.length (Nat.le_refl _);rw[List.take_length] at this;have hm:l.length*F.length≤24*1048576:=Nat.mul_le_mul q3 h2;omega
 have hm:=made_is (x:=x) (S:=S) (F:=F) q1 q2 hall.srt hall.perm h1 h2 (by omega);generalize allP S F (l.map zs) l=P at hm;have himpl:yo2 (x,S,F,l)=some (if yo7 (x,S,F,P)=true then((x,S,F,P),true) else(((0:Int),[],[],[]),false)):=by
  unfold yo2;dsimp only
  rw[hV];simp only[Option.bind_some,hv,Bool.not_true,cond_false,hst,List.drop_zero,List.take_length,hi,hm]
 rw[himpl];cases hP:yo7 (x,S,F,P) with
 |true=>
  obtain⟨_,_,p3,_,_⟩:=y8i hP;exact⟨_,_,rfl,⟨h1,h2,by show P.length≤_;omega⟩,fun _=>hP⟩
 |false=>exact⟨_,_,rfl,⟨by show(0:Nat)≤_;omega,by show(0:Nat)≤_;omega,by show(0:Nat)≤_;omega⟩,fun h=>by cases h⟩
theorem finiteI{a:Aut}(hs:yy1 a)(hv:yo7 a=true):∃is ok,ye5 a=some (is,ok):=by
 obtain⟨R,ok,p,hR,hok⟩:=powerI hs hv;obtain⟨x,S,F,l⟩:=a;obtain⟨y,T,G,k⟩:=R;cases ok with
 |false=>exact⟨_,_,by simp only[ye5,p,Option.bind_some,Bool.not_false,cond_true];rfl⟩
 |true=>
  have hv2:=hok rfl;obtain⟨n,hn⟩:=y9n hv2;obtain⟨L,ok2,hL,e2,_,hX⟩:=zs7 hn hv2 hR;obtain⟨e,gr,is,_,b,_⟩:=growI hn hv2 hR hL e2 hX;exact⟨_,_,by simp only[ye5,p,Option.bind_some,Bool.not_true,cond_false,List.drop_zero,List.take_length,b];rfl⟩
end Go.Proofs.YtafognnoibjjeaaGreatDoor

/- Scripts of words and of lines with rests: what they tell. -/
namespace Go.Proofs.YtafognnoibjjeaaGreatDoor
open Go Go.Proofs.YtafognnoibjjeaaGreatDoor.Am
/-- what lines tell, one behind the other -/
inductive Sq:Aut→Aut→List UInt8→List (List UInt8)→List UInt8→Prop where
 |nil (A k:Aut) (out:List UInt8):Sq A k out [] out
 |line {A k A' k':Aut} {out said wd rest:List UInt8} {ls:List (List UInt8)} {fin:List UInt8} (hw:(32:UInt8)∉wd) (hs:wd.length+rest.length≤20000)
   (ht:yn3 (A,k) (BL wd) (BL rest)=some ((BL said,true),(A',k'),())) (hn:Sq A' k' (out++(said++[10])) ls fin):Sq A k out ((wd++32::rest)::ls) fin
 |word {A k A' k':Aut} {out said wd:List UInt8} {ls:List (List UInt8)} {fin:List UInt8} (hw:(32:UInt8)∉wd) (hne:wd≠[]) (hs:wd.length≤20000)
   (ht:yb3 (A,k) (BL wd)=some ((BL said,true),(A',k'),())) (hn:Sq A' k' (out++(said++[10])) ls fin):Sq A k out (wd::ls) fin
theorem Sq.le{A k:Aut}{out:List UInt8}{ls:List (List UInt8)}{fin:List UInt8}(h:Sq A k out ls fin):out.length≤fin.length:=by
 induction h with
 |nil=>exact Nat.le_refl _
 |line _ _ _ _ ih=>rw[List.length_append] at ih;omega
 |word _ _ _ _ _ ih=>rw[List.length_append] at ih;omega
theorem cutL_no{c:UInt8}{x:List UInt8}(h:c∉x)(hs:x.length<4294967281):strings_Cut (BL x) ⟨#[c]⟩=some (BL x,BL [],false):=by
 show cutS _ _=_;unfold cutS;rw[if_pos (show(BL x).size<4294967281 from hs)];show some ((⟨(Lib.cut x [c]).1.toArray⟩:ByteArray),(⟨(Lib.cut x [c]).2.1.toArray⟩:ByteArray),(Lib.cut x [c]).2.2)=_;rw[cut_no h];rfl
theorem sq_loop{A k:Aut}{out:List UInt8}{ls:List (List UInt8)}{fin:List UInt8}(h:Sq A k out ls fin):∀(L:List ByteArray) (i:Nat),L.length≤1000→L.drop i=ls.map BL++[BL []]→i+ls.length<100→fin.length≤40000→
  ya2 yg9 ((A.1,A.2.1,A.2.2.1,A.2.2.2,k.1,k.2.1,k.2.2.1,k.2.2.2,()),BL out,L,(L.length:Int),(i:Int),())=some (.inr (BL fin,())):=by
 induction h with
 |nil A k out=>
  intro L i hl hd hi hf;obtain⟨x0,x1,x2,x3⟩:=A;obtain⟨y0,y1,y2,y3⟩:=k;obtain⟨h1,h2,h3⟩:=z6q (x:=BL []) (r:=[]) hd;have hL:L.length=i+1:=by
   have:=congrArg List.length h3;rw[List.length_drop,List.length_nil] at this;omega
  have e:(ByteArray.toList (BL [])==ByteArray.toList (⟨#[]⟩:ByteArray))=true:=by rw[yc3,yc3];rfl
  rw[yb2];simp only[yg9,lt_t h1,cond_true,if_pos (in_t h1),Int.toNat_natCast,Nat.zero_add,h2,e,List.drop_zero,List.take_length,Option.bind_some,ya3 h1 (show L.length≤9223372036854775807 by omega)];rw[yb2,hL];simp only[yg9,lt_f,cond_false,Option.bind_some]
 |line hw hs ht hn ih=>
  rename_i A k A' k' out said wd rest ls fin;intro L i hl hd hi hf;have hle:=hn.le;rw[List.length_append,List.length_append] at hle;obtain⟨x0,x1,x2,x3⟩:=A;obtain⟨y0,y1,y2,y3⟩:=k;obtain⟨z0,z1,z2,z3⟩:=A';obtain⟨u0,u1,u2,u3⟩:=k';obtain⟨h1,h2,h3⟩:=z6q (x:=BL (wd++32::rest)) (r:=ls.map BL++[BL []]) hd;have e:(ByteArray.toList (BL (wd++32::rest))==ByteArray.toList (⟨#[]⟩:ByteArray))=false:=y7l (by simp);have hc:=cutL_is (r:=rest) hw (by rw[List.length_append,List.length_cons];omega);have ht:yn3 ((x0,x1,x2,x3),y0,y1,y2,y3) (BL wd) (BL rest)=some ((BL said,true),((z0,z1,z2,z3),u0,u1,u2,u3),()):=ht;have e10:(⟨#[(10:UInt8)]⟩:ByteArray)=BL [10]:=rfl;rw[List.length_cons] at hi;have hlen:([10]:List UInt8).length=1:=rfl;have ho:decide (((ByteArray.size (BL out):Nat):Int)>(40000:Int))=false:=decide_eq_false (by rw[ys5];omega);rw[yb2];simp only[yg9,lt_t h1,cond_true,if_pos (in_t h1),Int.toNat_natCast,Nat.zero_add,h2,e,cond_false,decide_eq_false (show ¬((i:Int)≥100) by omega),ho,hc,Option.bind_some,Bool.not_true,ht,e10,y9u,List.drop_zero,List.take_length,ya3 h1 (show L.length≤9223372036854775807 by omega)];rw[if_pos (by rw[ys5,ys5];omega),if_pos (by rw[ys5,ys5,List.length_append];omega)];exact ih L (i+1) hl h3 (by omega) hf
 |word hw hne hs ht hn ih=>
  rename_i A k A' k' out said wd ls fin;intro L i hl hd hi hf;have hle:=hn.le;rw[List.length_append,List.length_append] at hle;obtain⟨x0,x1,x2,x3⟩:=A;obtain⟨y0,y1,y2,y3⟩:=k;obtain⟨z0,z1,z2,z3⟩:=A';obtain⟨u0,u1,u2,u3⟩:=k';obtain⟨h1,h2,h3⟩:=z6q (x:=BL wd) (r:=ls.map BL++[BL []]) hd;have e:(ByteArray.toList (BL wd)==ByteArray.toList (⟨#[]⟩:ByteArray))=false:=y7l hne;have hc:=cutL_no hw (by omega);have ht:yb3 ((x0,x1,x2,x3),y0,y1,y2,y3) (BL wd)=some ((BL said,true),((z0,z1,z2,z3),u0,u1,u2,u3),()):=ht;have e10:(⟨#[(10:UInt8)]⟩:ByteArray)=BL [10]:=rfl;rw[List.length_cons] at hi;have hlen:([10]:List UInt8).length=1:=rfl;have ho:decide (((ByteArray.size (BL out):Nat):Int)>(40000:Int))=false:=decide_eq_false (by rw[ys5];omega);rw[yb2];simp only[yg9,lt_t h1,cond_true,if_pos (in_t h1),Int.toNat_natCast,Nat.zero_add,h2,e,cond_false,decide_eq_false (show ¬((i:Int)≥100) by omega),ho,hc,Option.bind_some,Bool.not_true,Bool.not_false,ht,e10,y9u,List.drop_zero,List.take_length,ya3 h1 (show L.length≤9223372036854775807 by omega)];rw[if_pos (by rw[ys5,ys5];omega),if_pos (by rw[ys5,ys5,List.length_append];omega)];exact ih L (i+1) hl h3 (by omega) hf
theorem ky4{ls:List (List UInt8)}{fin:List UInt8}(h:Sq A0 A0 [] ls fin)(hl:ls.length<100)(hf:fin.length≤40000)(h10:∀x∈ls,(10:UInt8)∉x)(hs:(y9w ls).length≤20000):yy0 (BL (y9w ls))=some (BL fin):=by
 have hsp:=z4l (c:=10) (L:=ls++[[]]) (by simp) (fun x hx=>by
  rcases List.mem_append.1 hx with hx|hx
  ·exact h10 x hx
  ·obtain rfl:=List.mem_singleton.1 hx;simp) (by unfold y9w at hs;omega)
 have hsp:strings_Split (BL (y9w ls)) (⟨#[(10:UInt8)]⟩:ByteArray)=some ((ls++[[]]).map BL):=hsp;have hp:=z4o a0_v;rw[a0_text] at hp;have hp:yi3 (⟨#[(49:UInt8),(59:UInt8),(48:UInt8),(59:UInt8),(48:UInt8),(59:UInt8)]⟩:ByteArray)=some (((1:Int),[0],[0],[]),true):=hp;have hlp:=sq_loop h ((ls++[[]]).map BL) 0 (by simp;omega) (by simp) (by omega) hf;have hlp:ya2 yg9 (((1:Int),[(0:Int)],[(0:Int)],[],(1:Int),[(0:Int)],[(0:Int)],[],()),(⟨#[]⟩:ByteArray),(ls++[[]]).map BL,((((ls++[[]]).map BL).length:Nat):Int),(0:Int),())=some (.inr (BL fin,())):=hlp;have ho:decide (((ByteArray.size (BL (y9w ls)):Nat):Int)>(20000:Int))=false:=decide_eq_false (by rw[ys5];omega);simp only[yy0,ho,cond_false,hp,Option.bind_some,hsp,List.drop_zero,List.take_length,hlp]
end Go.Proofs.YtafognnoibjjeaaGreatDoor

/- The law of scripts about verdicts. -/
namespace Go.Proofs.YtafognnoibjjeaaGreatDoor
open Go Go.Proofs.YtafognnoibjjeaaGreatDoor.Am
/-! ### texts of elements -/
def elT(n:Nat)(e:Elt):List UInt8:=e.2.data.toList++(32::z4k n e.1.2 (n*n))
theorem fmtEl{n:Nat}(h1:1≤n)(h4:n≤4){s:Int}{A:List Int}{t:ByteArray}(hs:s=(n:Int))(hA:GOk n A)(ht:t.size≤120):yp5 ((s,A),t)=some (BL (elT n ((s,A),t))):=by
 subst hs;have hg:=y1b h1 h4 hA;have hf:=k2c h1 h4 hA;have hl:=y9v n A (n*n);have hsq:=y1l h4;obtain⟨tl,rfl⟩:∃tl,t=BL tl:=⟨t.data.toList,rfl⟩;have ht:tl.length≤120:=ht;have hfg:yx0 ((n:Int),A)=some (BL (z4k n A (n*n))):=by
  simp only[yx0,hg,hf,Option.bind_some,Bool.not_true,cond_false]
 have e32:(⟨#[(32:UInt8)]⟩:ByteArray)=BL [32]:=rfl;simp only[yp5,e32,hfg,Option.bind_some,y9u,ys5];rw[if_pos (by simp;omega),if_pos (by simp;omega)];unfold elT;rw[show(BL tl).data.toList=tl from rfl];simp
theorem z6t{n:Nat}(h4:n≤4){e:Elt}(ht:e.2.size≤120):(elT n e).length≤160:=by
 have hl:=y9v n e.1.2 (n*n);have hsq:=y1l h4;have:e.2.data.toList.length=e.2.size:=Array.length_toList;unfold elT;rw[List.length_append,List.length_cons];omega
theorem elT_ne(n:Nat)(e:Elt):elT n e≠[]:=by unfold elT;simp
def y9x(n:Nat)(L:List Elt):List UInt8:=(L.map fun e=>elT n e++[10]).flatten
theorem ka3{xs:List (List UInt8)}(hne:xs≠[]):Lib.join xs [10]++[10]=(xs.map fun x=>x++[10]).flatten:=by
 induction xs with
 |nil=>exact absurd rfl hne
 |cons x r ih=>
  cases r with
  |nil=>rw[Lib.join_one];simp
  |cons y l=>
   rw[yq4,List.map_cons,List.flatten_cons,←ih (by simp)];simp
theorem zc7{n:Nat}(h4:n≤4):∀{L:List Elt},(∀e∈L,e.2.size≤120)→(y9x n L).length≤161*L.length
 |[],_=>Nat.le_refl _
 |e::L,h=>by
  have ih:=zc7 h4 (L:=L) fun x hx=>h x (List.mem_cons_of_mem _ hx);have:=z6t h4 (h e List.mem_cons_self);unfold y9x at ih⊢;rw[List.map_cons,List.flatten_cons,List.length_append,List.length_append,List.length_cons];simp only[List.length_cons,List.length_nil];omega
theorem y72{n:Nat}(h4:n≤4){L:List Elt}(h:∀e∈L,e.2.size≤120):(Lib.join (L.map (elT n)) [10]).length≤161*L.length:=by
 have:=y3t (c:=10) (B:=160) (L:=L.map (elT n)) (fun x hx=>by
  obtain⟨e,he,rfl⟩:=List.mem_map.1 hx;exact z6t h4 (h e he))
 rw[List.length_map] at this;exact this
/-! ### what the words tell -/
def truT(is ok:Bool):List UInt8:=if ok=true then(if is=true then[116,114,117,101] else[102,97,108,115,101]) else[110,111]
theorem z8s(is ok:Bool):y2g is ok=some (BL (truT is ok)):=by
 cases ok with
 |false=>cases is<;>rfl
 |true=>
  cases is with
  |false=>
   show Option.bind (yo4 (BL [102,97,108,115,101]) true) _=_;rw[zi3 (by simp)];rfl
  |true=>
   show Option.bind (yo4 (BL [116,114,117,101]) true) _=_;rw[zi3 (by simp)];rfl
theorem ka4(is ok:Bool):yz2 is ok=some (BL (truT is ok++[10])):=by
 cases is<;>cases ok<;>rfl
theorem ka5(A k:Aut){v:List UInt8}(h:yh6 A=some (BL v)):yb3 (A,k) (BL [118,101,114,100,105,99,116])=some ((BL v,true),(A,k),()):=by
 obtain⟨x0,x1,x2,x3⟩:=A;obtain⟨y0,y1,y2,y3⟩:=k;have e:yb3 ((x0,x1,x2,x3),y0,y1,y2,y3) (BL [118,101,114,100,105,99,116])=Option.bind (yh6 (x0,x1,x2,x3)) fun r14=>some ((r14,true),((x0,x1,x2,x3),y0,y1,y2,y3),()):=by
  simp only[yb3,yc3];rfl
 rw[e,h];rfl
theorem ka6(A k:Aut){is ok:Bool}(h:yn2 A=some (is,ok)):yb3 (A,k) (BL [98,111,117,110,100,101,100])=some ((BL (truT is ok),true),(A,k),()):=by
 obtain⟨x0,x1,x2,x3⟩:=A;obtain⟨y0,y1,y2,y3⟩:=k;have e:yb3 ((x0,x1,x2,x3),y0,y1,y2,y3) (BL [98,111,117,110,100,101,100])=Option.bind (yn2 (x0,x1,x2,x3)) fun(r15,r16)=>Option.bind (y2g r15 r16) fun r17=>some ((r17,true),((x0,x1,x2,x3),y0,y1,y2,y3),()):=by
  simp only[yb3,yc3];rfl
 rw[e,h];simp only[Option.bind_some,z8s]
def sayT(s:List UInt8)(ok:Bool):List UInt8:=if ok=true then s else[110,111]
theorem z1q{s:List UInt8}{ok:Bool}(h:ok=true→s≠[]):yo4 (BL s) ok=some (BL (sayT s ok)):=by
 cases ok with
 |true=>rw[zi3 (h rfl)];rfl
 |false=>rw[told_no];rfl
theorem ka7(A k:Aut){s:List UInt8}{gr:Bool}(h:yk4 A=some (BL s,gr))(hs:gr=true→s≠[]):yb3 (A,k) (BL [103,114,111,119,105,110,103])=some ((BL (sayT s gr),true),(A,k),()):=by
 obtain⟨x0,x1,x2,x3⟩:=A;obtain⟨y0,y1,y2,y3⟩:=k;have e:yb3 ((x0,x1,x2,x3),y0,y1,y2,y3) (BL [103,114,111,119,105,110,103])=Option.bind (yk4 (x0,x1,x2,x3)) fun(r18,r19)=>Option.bind (yo4 r18 r19) fun r20=>some ((r20,true),((x0,x1,x2,x3),y0,y1,y2,y3),()):=by
  simp only[yb3,yc3];rfl
 rw[e,h];simp only[Option.bind_some,z1q hs]
theorem Itoa_is{n:Int}(h0:-9223372036854775808≤n)(h1:n≤9223372036854775807):strconv_Itoa n=some (BL (Lib.itoa n)):=by
 show z0z _=_;unfold z0z;rw[if_pos ⟨h0,h1⟩,zu4]
theorem pl_some(A k:Aut){n:Int}(h:yv6 A=some n)(h0:-1≤n)(h1:n≤1000000):yb3 (A,k) (BL [115,111,109,101])=some ((BL (sayT (Lib.itoa n) (decide (n≥0))),true),(A,k),()):=by
 obtain⟨x0,x1,x2,x3⟩:=A;obtain⟨y0,y1,y2,y3⟩:=k;have e:yb3 ((x0,x1,x2,x3),y0,y1,y2,y3) (BL [115,111,109,101])=Option.bind (yv6 (x0,x1,x2,x3)) fun r21=>Option.bind (strconv_Itoa r21) fun r22=>Option.bind (yo4 r22 (decide (r21≥(0:Int)))) fun r23=>some ((r23,true),((x0,x1,x2,x3),y0,y1,y2,y3),()):=by
  simp only[yb3,yc3];rfl
 have hi:=zi1 (n:=n) (by omega) (by omega);rw[e,h];simp only[Option.bind_some,Itoa_is (n:=n) (by omega) (by omega),z1q (s:=Lib.itoa n) (ok:=decide (n≥0)) (fun _ e=>by rw[e] at hi;exact absurd hi.1 (by decide))]
theorem ky5(A k:Aut){is ok:Bool}(h:ye5 A=some (is,ok)):yb3 (A,k) (BL [102,105,110,105,116,101])=some ((BL (truT is ok),true),(A,k),()):=by
 obtain⟨x0,x1,x2,x3⟩:=A;obtain⟨y0,y1,y2,y3⟩:=k;have e:yb3 ((x0,x1,x2,x3),y0,y1,y2,y3) (BL [102,105,110,105,116,101])=Option.bind (ye5 (x0,x1,x2,x3)) fun(r24,r25)=>Option.bind (y2g r24 r25) fun r26=>some ((r26,true),((x0,x1,x2,x3),y0,y1,y2,y3),()):=by
  simp only[yb3,yc3];rfl
 rw[e,h];simp only[Option.bind_some,z8s]
theorem z6u(A k:Aut){n:Nat}(h1:1≤n)(h4:n≤4){L:List Elt}{ok:Bool}(h:ya6 A=some (L,ok))(hL:LOk n L)(hne:ok=true→L≠[]):yb3 (A,k) (BL [101,108,101,109,101,110,116,115])=some ((BL (sayT (Lib.join (L.map (elT n)) [10]) ok),true),(A,k),()):=by
 obtain⟨x0,x1,x2,x3⟩:=A;obtain⟨y0,y1,y2,y3⟩:=k;have hlen:=hL.len;have e:yb3 ((x0,x1,x2,x3),y0,y1,y2,y3) (BL [101,108,101,109,101,110,116,115])=Option.bind (ya6 (x0,x1,x2,x3)) fun(r1,r2)=>
   Option.bind (ya2 yg3 ((x0,x1,x2,x3,y0,y1,y2,y3,()),r2,(List.take 0 (List.drop 0 [])),(List.take (List.length r1) (List.drop 0 r1)),(((List.length r1):Nat):Int),(0:Int),())) fun((r3,r4,r5,r6,r7,r8,r9,r10,_),r11,r12,_)=>
    Option.bind (y7f (List.take (List.length r12) (List.drop 0 r12)) r11) fun r13=>some ((r13,true),((r3,r4,r5,r6),r7,r8,r9,r10),()):=by
  simp only[yb3,yc3];rfl
 obtain⟨r,g1,g2⟩:=yd9 (f:=yg3) L.length (fun i (o:List ByteArray)=>((x0,x1,x2,x3,y0,y1,y2,y3,()),ok,o,L,(L.length:Int),(i:Int),())) (fun i _=>(L.take (i+1)).map fun e=>BL (elT n e)) (fun o=>((x0,x1,x2,x3,y0,y1,y2,y3,()),ok,o,())) (fun i o=>o=(L.take i).map fun e=>BL (elT n e))
  (fun i o hi ho=>rfl)
  (fun i o hi ho=>by
   have hat:=hL.at hi;have hg:L.getD i el0=L[i]:=yb4 el0 hi;have hol:o.length≤120:=by rw[ho,List.length_map,List.length_take];omega
   have hf:=fmtEl h1 h4 hat.1 hat.2.1 hat.2.2;rw[yg4 hi,List.map_append,←ho,←hg];simp only[yg3,lt_t hi,cond_true,if_pos (in_t hi),Int.toNat_natCast,Nat.zero_add,hf,Option.bind_some,List.drop_zero,List.take_length,show ∀z:ByteArray,List.take 1 [z]=[z] from fun _=>rfl,ya3 hi (show L.length≤9223372036854775807 by omega)];rw[if_pos ⟨trivial,by simp;omega⟩,List.take_of_length_le (by simp)];rfl)
  (fun o ho=>by simp only[yg3,lt_f,cond_false,List.drop_zero,List.take_length])
  [] rfl
 have g1:ya2 yg3 ((x0,x1,x2,x3,y0,y1,y2,y3,()),ok,[],L,(L.length:Int),(0:Int),())=_:=g1;rw[List.take_length] at g2;have hjl:=y72 h4 (fun e he=>(hL.el e he).2.2);have hj:=z1o (L:=L.map (elT n)) (c:=10) (by rw[List.length_map];omega) (by omega);rw[List.map_map] at hj;have hj:strings_Join (L.map fun e=>BL (elT n e)) (⟨#[(10:UInt8)]⟩:ByteArray)=some (BL (Lib.join (L.map (elT n)) [10])):=hj;have hs:=z1q (s:=Lib.join (L.map (elT n)) [10]) (ok:=ok) (fun hok e=>by
  cases L with
  |nil=>exact hne hok rfl
  |cons x r=>
   rw[List.map_cons,Lib.join_cons] at e;exact elT_ne n x (List.append_eq_nil_iff.1 e).1)
 rw[e,h];simp only[Option.bind_some,List.drop_zero,List.take_zero,List.take_length,g1,g2,y7f,hj,hs]
theorem ka8{n:Int}(h0:-1≤n)(h1:n≤1000000):y1k n=some (BL (Lib.itoa n)):=by
 have h:=ky2 (xs:=[n]) (fun x hx=>by obtain rfl:=List.mem_singleton.1 hx;omega) (by simp);have e:fmtN [n]=BL (Lib.itoa n):=by
  unfold fmtN;rw[if_neg (by simp)];unfold z1n;rw[List.map_cons,List.map_nil,Lib.join_one]
 rw[e] at h;simp only[y1k,List.drop_zero,show List.take 1 [n]=[n] from rfl,h,Option.bind_some]
theorem zz5(l:List UInt8)(hl:l.length≤1000000)(ok:Bool):ys3 (BL l) ok=some (BL (sayT l ok++[10])):=by
 cases ok with
 |false=>rfl
 |true=>
  simp only[ys3,Bool.not_true,cond_false,show(⟨#[(10:UInt8)]⟩:ByteArray)=BL [10] from rfl,y9u,ys5];rw[if_pos (by simp only[List.length_cons,List.length_nil];omega)];rfl
theorem verd_ok(gs:List Int)(ok em:Bool):∃v:List UInt8,verd gs ok em=BL v∧v≠[]∧v.length≤7:=by
 unfold verd;cases ok
 ·exact⟨_,rfl,by decide,by decide⟩
 ·cases gs.any fun e=>(2:Int)==e
  ·cases gs.any fun e=>(1:Int)==e
   ·cases gs.any fun e=>(0:Int)==e
    ·cases em<;>exact⟨_,rfl,by decide,by decide⟩
    ·exact⟨_,rfl,by decide,by decide⟩
   ·exact⟨_,rfl,by decide,by decide⟩
  ·exact⟨_,rfl,by decide,by decide⟩
end Go.Proofs.YtafognnoibjjeaaGreatDoor

/- The law of scripts about verdicts: put together. -/
namespace Go.Proofs.YtafognnoibjjeaaGreatDoor
open Go Go.Proofs.YtafognnoibjjeaaGreatDoor.Am
theorem z6v(n:Nat)(L:List Elt)(e:Elt):y9x n (L++[e])=y9x n L++elT n e++[10]:=by
 unfold y9x;rw[List.map_append,List.flatten_append];simp
theorem vd_loop{n:Nat}(h1:1≤n)(h4:n≤4){L:List Elt}(hL:LOk n L)(x:Int)(S F:List Int)(l:List Stp)(v:ByteArray)(is kn:Bool)(e:ByteArray)(gr:Bool)(sm:Int)(ok:Bool):
  ya2 ye9 ((x,S,F,l,()),v,is,kn,e,gr,sm,ok,(⟨#[]⟩:ByteArray),L,((L.length:Nat):Int),(0:Int),())=some ((x,S,F,l,()),v,is,kn,e,gr,sm,ok,BL (y9x n L),()):=by
 have hlen:=hL.len;obtain⟨r,g1,g2⟩:=yd9 (f:=ye9) L.length (fun i (o:ByteArray)=>((x,S,F,l,()),v,is,kn,e,gr,sm,ok,o,L,((L.length:Nat):Int),(i:Int),())) (fun i _=>BL (y9x n (L.take (i+1)))) (fun o=>((x,S,F,l,()),v,is,kn,e,gr,sm,ok,o,())) (fun i o=>o=BL (y9x n (L.take i)))
  (fun i o hi ho=>rfl)
  (fun i o hi ho=>by
   have hat:=hL.at hi;have hg:L.getD i el0=L[i]:=yb4 el0 hi;have hf:=fmtEl h1 h4 hat.1 hat.2.1 hat.2.2;have hl1:=zc7 h4 (L:=L.take i) fun y hy=>(hL.el y (List.mem_of_mem_take hy)).2.2;have hl2:=z6t (n:=n) h4 hat.2.2;rw[List.length_take] at hl1;subst ho;rw[yg4 hi,z6v,←hg];simp only[ye9,lt_t hi,cond_true,if_pos (in_t hi),Int.toNat_natCast,Nat.zero_add,hf,Option.bind_some,show(⟨#[(10:UInt8)]⟩:ByteArray)=BL [10] from rfl,y9u,ys5,List.drop_zero,List.take_length,ya3 hi (show L.length≤9223372036854775807 by omega)];have e0:(((L.getD i el0).1.1,(L.getD i el0).1.2),(L.getD i el0).2)=L.getD i el0:=rfl;rw[e0,if_pos (by omega),if_pos (by rw[List.length_append];simp only[List.length_cons,List.length_nil];omega)])
  (fun o ho=>by simp only[ye9,lt_f,cond_false])
  (⟨#[]⟩:ByteArray) rfl
 rw[List.take_length] at g2;subst g2;exact g1
theorem zc8(x0:List Int)(f0:Fits (.sl (.int .u8)) x0):ym4 x0=some true:=by
 unfold ym4
 by_cases hx:((x0.length:Nat):Int)>1048576
 ·rw[decide_eq_true hx,cond_true]
 rw[decide_eq_false hx,cond_false];obtain⟨a,d1,hs⟩:=zu5 (k11 f0);rw[d1];cases hv:yo7 a with
 |false=>
  obtain⟨v1,v2⟩:=z6r hv hs;obtain⟨x,S,F,l⟩:=a;simp only[Option.bind_some,v1,v2,BEq.rfl,Bool.not_true,cond_false,cond_true]
 |true=>
  obtain⟨n,S,F,l,rfl,hV⟩:=kx6 hv;have n1:=hV.n1;have n4:=hV.n4;obtain⟨L,ok,hL,e1,e2,e0,v1,v2⟩:=z4q hV.is hv hs;obtain⟨n',L',ok',_,_,_,e2',_,eN,_⟩:=z4b hs;obtain⟨rfl,rfl⟩:=Prod.mk.inj (Option.some.inj (e2.symm.trans e2'));obtain⟨L',ok',_,e2',_,hX⟩:=zs7 hV.is hv hs;obtain⟨rfl,rfl⟩:=Prod.mk.inj (Option.some.inj (e2.symm.trans e2'));obtain⟨vt,hvt,vne,vlen⟩:=verd_ok (gset (yg5 n S F L)) ok (y4q ((n:Int),S,F,l));have v1:yj0 ((n:Int),S,F,l)=some (verd (gset (yg5 n S F L)) ok (y4q ((n:Int),S,F,l))):=v1;have v2:yh6 ((n:Int),S,F,l)=some (verd (gset (yg5 n S F L)) ok (y4q ((n:Int),S,F,l))):=v2;rw[hvt] at v1 v2;obtain⟨sm,s1,s2,s3⟩:=someI hV.is hv hs hL e2 hX;obtain⟨e,gr,is,g1,g2,g3,g4⟩:=growI hV.is hv hs hL e2 hX;obtain⟨fi,fk,f1⟩:=finiteI hs hv;obtain⟨es,rfl⟩:∃es,e=BL es:=⟨e.data.toList,rfl⟩;have g3:gr=true→es≠[]:=g3;have g4:es.length≤120:=g4;have hdg:=ka8 s2 s3;have hil:=zi1 (n:=sm) (by omega) (by omega);have hA:=z6p hV;have z1:=zc6 hV;have hlen:=hL.len;have zl:=zc7 n4 (L:=L) fun y hy=>(hL.el y hy).2.2;have zj:=y72 n4 (L:=L) fun y hy=>(hL.el y hy).2.2;have hloop:=vd_loop n1 n4 hL (n:Int) S F l (BL vt) is ok (BL es) gr sm ok;have hne1:(ByteArray.toList (BL vt)==ByteArray.toList (⟨#[]⟩:ByteArray))=false:=y7l vne;have zs:∀(s:List UInt8) (b:Bool),(sayT s b).length≤s.length+2:=by
   intro s b;unfold sayT;split
   ·omega
   ·show 2≤_;omega
  have zt:∀a b:Bool,(truT a b).length≤5:=by decide
  have z2:=zs es gr;have z3:=zs (Lib.itoa sm) (decide (sm≥0));have z4:=zs (Lib.join (L.map (elT n)) [10]) ok;have z5:=zt is ok;have z6:=zt fi fk;have sc:Sq A0 A0 [] [[97,117,116,111,109,97,116,111,110]++32::autT n S F l,[118,101,114,100,105,99,116],[98,111,117,110,100,101,100],[103,114,111,119,105,110,103],[115,111,109,101],[102,105,110,105,116,101],[101,108,101,109,101,110,116,115]]
    ((((((([]++(autT n S F l++[10]))++(vt++[10]))++(truT is ok++[10]))++(sayT es gr++[10]))++(sayT (Lib.itoa sm) (decide (sm≥0))++[10]))++(truT fi fk++[10]))++(sayT (Lib.join (L.map (elT n)) [10]) ok++[10])):=by
   refine .line (by decide) (by simp only[List.length_cons,List.length_nil];omega) (z4p A0 A0 hV) ?_;refine .word (by decide) (by simp) (by simp) (ka5 _ A0 v2) ?_;refine .word (by decide) (by simp) (by simp) (ka6 _ A0 g2) ?_;refine .word (by decide) (by simp) (by simp) (ka7 _ A0 g1 g3) ?_;refine .word (by decide) (by simp) (by simp) (pl_some _ A0 s1 s2 s3) ?_;refine .word (by decide) (by simp) (by simp) (ky5 _ A0 f1) ?_;refine .word (by decide) (by simp) (by simp) (z6u _ A0 n1 n4 e2 hL eN) ?_;exact .nil _ _ _
  have hsc:=ky4 sc (by simp) (by simp only[List.length_append,List.length_cons,List.length_nil];omega) (fun y hy=>by
   simp only[List.mem_cons,List.not_mem_nil,or_false] at hy
   rcases hy with rfl|rfl|rfl|rfl|rfl|rfl|rfl
   ·intro hm
    rcases List.mem_append.1 hm with hm|hm
    ·exact absurd hm (by decide)
    ·rcases List.mem_cons.1 hm with hm|hm
     ·exact absurd hm (by decide)
     ·exact autT_no hV (by decide) hm
   all_goals decide) (by
   simp only[zs5,zz4,List.length_append,List.length_cons,List.length_nil];omega)
  simp only[zs5,zz4,List.append_assoc,List.cons_append,List.nil_append] at hsc;simp only[Option.bind_some,v1,v2,BEq.rfl,Bool.not_true,cond_false,hne1,g2,g1,s1,e2,List.drop_zero,List.take_length,hloop,f1,hA,ka4,zz5 es (by omega) gr,hdg,zz5 (Lib.itoa sm) (by omega)];cases ok with
  |false=>
   simp only[Bool.not_false,cond_true,lit_BL,y9u,ys5,List.append_assoc,List.cons_append,List.nil_append,List.length_append,List.length_cons,List.length_nil]
   repeat rw[if_pos (by omega)]
   rw[hsc];have:sayT (Lib.join (L.map (elT n)) [10]) false=[110,111]:=rfl;rw[this];simp only[Option.bind_some,List.cons_append,List.nil_append,beq_self_eq_true]
  |true=>
   have hj:sayT (Lib.join (L.map (elT n)) [10]) true++[10]=y9x n L:=by
    show Lib.join (L.map (elT n)) [10]++[10]=_;rw[ka3 (by simpa using eN rfl),List.map_map];rfl
   simp only[Bool.not_true,cond_false,lit_BL,y9u,ys5,List.append_assoc,List.cons_append,List.nil_append,List.length_append,List.length_cons,List.length_nil]
   repeat rw[if_pos (by omega)]
   rw[hsc,hj];simp only[Option.bind_some,beq_self_eq_true]
end Go.Proofs.YtafognnoibjjeaaGreatDoor
