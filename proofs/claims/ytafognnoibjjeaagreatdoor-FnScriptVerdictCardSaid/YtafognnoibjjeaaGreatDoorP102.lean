/- A script of lines with rests: what it tells. -/
import Derived.Test.YtafognnoibjjeaaGreatDoorP95
import Derived.Test.YtafognnoibjjeaaGreatDoorP101
set_option linter.unusedVariables false
set_option linter.unusedSimpArgs false
namespace Go.Proofs.YtafognnoibjjeaaGreatDoor
open Go Go.Proofs.YtafognnoibjjeaaGreatDoor.Am
/-- what lines with rests tell, one behind the other -/
inductive Sc:Aut→Aut→List UInt8→List (List UInt8)→List UInt8→Prop where
 |nil (A k:Aut) (out:List UInt8):Sc A k out [] out
 |line {A k A' k':Aut} {out said wd rest:List UInt8} {ls:List (List UInt8)} {fin:List UInt8} (hw:(32:UInt8)∉wd) (hs:wd.length+rest.length≤20000)
   (ht:yn3 (A,k) (BL wd) (BL rest)=some ((BL said,true),(A',k'),())) (hn:Sc A' k' (out++(said++[10])) ls fin):Sc A k out ((wd++32::rest)::ls) fin
theorem Sc.le{A k:Aut}{out:List UInt8}{ls:List (List UInt8)}{fin:List UInt8}(h:Sc A k out ls fin):out.length≤fin.length:=by
 induction h with
 |nil=>exact Nat.le_refl _
 |line _ _ _ _ ih=>rw[List.length_append] at ih;omega
theorem y7l{l:List UInt8}(h:l≠[]):(ByteArray.toList (BL l)==ByteArray.toList (⟨#[]⟩:ByteArray))=false:=by
 rw[yc3,yc3,beq_eq_false_iff_ne];exact h
theorem z6q{L:List ByteArray}{i:Nat}{x:ByteArray}{r:List ByteArray}(h:L.drop i=x::r):i<L.length∧L.getD i (⟨Array.empty⟩:ByteArray)=x∧L.drop (i+1)=r:=by
 have h1:i<L.length:=by
  refine Nat.lt_of_not_le fun hl=> ?_;rw[List.drop_eq_nil_of_le hl] at h;cases h
 rw[List.drop_eq_getElem_cons h1] at h;obtain⟨h2,h3⟩:=List.cons.inj h;exact⟨h1,by rw[List.getD_eq_getElem?_getD,List.getElem?_eq_getElem h1,h2];rfl,h3⟩
/-- the automaton that stands at first -/
def A0:Aut:=((1:Int),[0],[0],[])
theorem a0_v:AutV 1 [0] [0] []:=by
 have hok:yo7 ((1:Int),[(0:Int)],[(0:Int)],[])=true:=by decide+kernel
 obtain⟨n,S,F,l,e,h⟩:=kx6 hok;have e1:(1:Int)=(n:Int):=congrArg (fun x=>x.1) e;have e2:[(0:Int)]=S:=congrArg (fun x=>x.2.1) e;have e3:[(0:Int)]=F:=congrArg (fun x=>x.2.2.1) e;have e4:([]:List Stp)=l:=congrArg (fun x=>x.2.2.2) e;obtain rfl:n=1:=by omega
 subst e2 e3 e4;exact h
theorem a0_text:autT ((1:Nat):Int) [0] [0] []=[49,59,48,59,48,59]:=by decide+kernel
def y9w(ls:List (List UInt8)):List UInt8:=Lib.join (ls++[[]]) [10]
/-! ### what is told -/
theorem zi3{l:List UInt8}(h:l≠[]):yo4 (BL l) true=some (BL l):=by
 simp only[yo4,Bool.not_true,cond_false,y5g,y7l h,Option.bind_some]
theorem told_no(s:ByteArray):yo4 s false=some (BL [110,111]):=rfl
theorem autT_ne(n:Int)(S F:List Int)(l:List Stp):autT n S F l≠[]:=by
 unfold autT;rw[yq4];simp
theorem autT_no{n:Nat}{S F:List Int}{l:List Stp}(h:AutV n S F l){b:UInt8}(hb:b.toNat<32):b∉autT n S F l:=by
 have n4:=h.n4;have hq:∀q:Int,0≤q∧q≤9→b≠dg q:=fun q hq=>(dg_ne hq.1 hq.2 (.inl (by omega))).symm;have hk:∀c:UInt8,32≤c.toNat→b≠c:=by
  rintro c hc rfl;omega
 have hn:∀L:List Int,(∀q∈L,0≤q∧q≤(n:Int)-1)→b∉Lib.join (L.map fun q=>[dg q]) [32]:=by
  intro L hL hm
  rcases y7j hm with hm|⟨x,hx,hm⟩
  ·exact hk 32 (by decide) hm
  ·obtain⟨q,hq',rfl⟩:=List.mem_map.1 hx;have:=hL q hq';exact hq q ⟨this.1,by omega⟩ (List.mem_singleton.1 hm)
 intro hm;unfold autT at hm
 rcases y7j hm with hm|⟨x,hx,hm⟩
 ·exact hk 59 (by decide) hm
 ·simp only[List.mem_cons,List.not_mem_nil,or_false] at hx
  rcases hx with rfl|rfl|rfl|rfl
  ·exact hq (n:Int) ⟨by omega,by omega⟩ (List.mem_singleton.1 hm)
  ·exact hn S h.hS hm
  ·exact hn F h.hF hm
  ·rcases y7j hm with hm|⟨x,hx,hm⟩
   ·exact hk 32 (by decide) hm
   ·obtain⟨s,hs,rfl⟩:=List.mem_map.1 hx;have hs:=h.st s hs;have e0:=hs.f0;have e1:=hs.f1;have e2:=hs.t0;have e3:=hs.t1;have e4:=hs.c0;have e5:=hs.c1;unfold yw2 at hm
    rcases List.mem_cons.1 hm with hm|hm
    ·exact hq _ ⟨e0,by omega⟩ hm
    ·rcases List.mem_append.1 hm with hm|hm
     ·rcases y7k hs with e|e<;>rw[e] at hm<;>exact hk _ (by decide) (List.mem_singleton.1 hm)
     ·simp only[List.mem_cons,List.not_mem_nil,or_false] at hm
      rcases hm with hm|hm|hm
      ·exact hq _ ⟨e2,by omega⟩ hm
      ·exact hk 58 (by decide) hm
      ·exact hq _ ⟨e4,by omega⟩ hm
theorem ky1{n:Nat}{S F:List Int}{l:List Stp}(h:AutV n S F l)(A k:Aut):yt0 (A,k) ((n:Int),S,F,l) true=some (BL (autT n S F l),(((n:Int),S,F,l),k),()):=by
 obtain⟨x0,x1,x2,x3⟩:=A;obtain⟨y0,y1,y2,y3⟩:=k;simp only[yt0,cond_true,z6p h,Option.bind_some,zi3 (autT_ne _ _ _ _)]
theorem ky2{xs:List Int}(h:Num xs)(hl:xs.length≤1048576):yu0 xs=some (fmtN xs):=by
 unfold fmtN
 by_cases h0:xs=[]
 ·subst h0;rfl
 ·have e:(((xs.length:Nat):Int)==0)=false:=by
   have:xs.length≠0:=fun e=>h0 (List.length_eq_zero_iff.1 e);rw[beq_eq_false_iff_ne];omega
  rw[if_neg h0];simp only[yu0,e,cond_false,zs0 h hl,Option.bind_some]
theorem z4p(A k:Aut){n:Nat}{S F:List Int}{l:List Stp}(h:AutV n S F l):
  yn3 (A,k) (BL [97,117,116,111,109,97,116,111,110]) (BL (autT n S F l))=some ((BL (autT n S F l),true),(((n:Int),S,F,l),k),()):=by
 obtain⟨x0,x1,x2,x3⟩:=A;obtain⟨y0,y1,y2,y3⟩:=k;have hb:=ky1 h (x0,x1,x2,x3) (y0,y1,y2,y3);have e:yn3 ((x0,x1,x2,x3),y0,y1,y2,y3) (BL [97,117,116,111,109,97,116,111,110]) (BL (autT n S F l))=Option.bind (yi3 (BL (autT n S F l))) fun((r0,r1,r2,r3),r4)=>
   Option.bind (yt0 ((x0,x1,x2,x3),y0,y1,y2,y3) (r0,(List.take (List.length r1) (List.drop 0 r1)),(List.take (List.length r2) (List.drop 0 r2)),(List.take (List.length r3) (List.drop 0 r3))) r4) fun(r5,((r6,r7,r8,r9),r10,r11,r12,r13),_)=>
    some ((r5,true),((r6,r7,r8,r9),r10,r11,r12,r13),()):=by
  simp only[yn3,yc3];rfl
 rw[e,z4o h];simp only[Option.bind_some,List.drop_zero,List.take_length,hb]
/-- lines and what they tell, put together -/
theorem zs5(x:List UInt8)(ls:List (List UInt8)):y9w (x::ls)=x++10::y9w ls:=by
 unfold y9w;cases ls with
 |nil=>rw[List.cons_append,List.nil_append,yq4]
 |cons y r=>rw[List.cons_append,List.cons_append,yq4]
theorem zz4:y9w []=[]:=Lib.join_one _ _
theorem lit_BL(l:List UInt8):(⟨⟨l⟩⟩:ByteArray)=BL l:=rfl
end Go.Proofs.YtafognnoibjjeaaGreatDoor
