/- A script of lines with rests: what it tells. -/
import Derived.Test.YthkflageghfbgaaGreatDoorP95
import Derived.Test.YthkflageghfbgaaGreatDoorP101
set_option linter.unusedVariables false
set_option linter.unusedSimpArgs false
namespace Go.Proofs.YthkflageghfbgaaGreatDoor
open Go Go.Proofs.YthkflageghfbgaaGreatDoor.Am
/-- what lines with rests tell, one behind the other -/
inductive Sc:Aut→Aut→List UInt8→List (List UInt8)→List UInt8→Prop where
 |nil (A k:Aut) (out:List UInt8):Sc A k out [] out
 |line {A k A' k':Aut} {out said wd rest:List UInt8} {ls:List (List UInt8)} {fin:List UInt8} (hw:(32:UInt8)∉wd) (hs:wd.length+rest.length≤20000)
   (ht:impl_desk_text (A,k) (BL wd) (BL rest)=some ((BL said,true),(A',k'),())) (hn:Sc A' k' (out++(said++[10])) ls fin):Sc A k out ((wd++32::rest)::ls) fin
theorem Sc.le{A k:Aut}{out:List UInt8}{ls:List (List UInt8)}{fin:List UInt8}(h:Sc A k out ls fin):out.length≤fin.length:=by
 induction h with
 |nil=>exact Nat.le_refl _
 |line _ _ _ _ ih=>rw[List.length_append] at ih;omega
theorem BL_beq_nil{l:List UInt8}(h:l≠[]):(ByteArray.toList (BL l)==ByteArray.toList (⟨#[]⟩:ByteArray))=false:=by
 rw[toList_bytes,toList_bytes,beq_eq_false_iff_ne];exact h
theorem drop_at{L:List ByteArray}{i:Nat}{x:ByteArray}{r:List ByteArray}(h:L.drop i=x::r):i<L.length∧L.getD i (⟨Array.empty⟩:ByteArray)=x∧L.drop (i+1)=r:=by
 have h1:i<L.length:=by
  refine Nat.lt_of_not_le fun hl=> ?_;rw[List.drop_eq_nil_of_le hl] at h;cases h
 rw[List.drop_eq_getElem_cons h1] at h;obtain⟨h2,h3⟩:=List.cons.inj h;exact⟨h1,by rw[List.getD_eq_getElem?_getD,List.getElem?_eq_getElem h1,h2];rfl,h3⟩
theorem sc_loop{A k:Aut}{out:List UInt8}{ls:List (List UInt8)}{fin:List UInt8}(h:Sc A k out ls fin):∀(L:List ByteArray) (i:Nat),L.length≤1000→L.drop i=ls.map BL++[BL []]→i+ls.length<100→fin.length≤40000→
  loopF impl_RunScript_l7 ((A.1,A.2.1,A.2.2.1,A.2.2.2,k.1,k.2.1,k.2.2.1,k.2.2.2,()),BL out,L,(L.length:Int),(i:Int),())=some (.inr (BL fin,())):=by
 induction h with
 |nil A k out=>
  intro L i hl hd hi hf;obtain⟨x0,x1,x2,x3⟩:=A;obtain⟨y0,y1,y2,y3⟩:=k;obtain⟨h1,h2,h3⟩:=drop_at (x:=BL []) (r:=[]) hd;have hL:L.length=i+1:=by
   have:=congrArg List.length h3;rw[List.length_drop,List.length_nil] at this;omega
  have e:(ByteArray.toList (BL [])==ByteArray.toList (⟨#[]⟩:ByteArray))=true:=by rw[toList_bytes,toList_bytes];rfl
  rw[loopF_eq];simp only[impl_RunScript_l7,lt_t h1,cond_true,if_pos (in_t h1),Int.toNat_natCast,Nat.zero_add,h2,e,List.drop_zero,List.take_length,Option.bind_some,w64_succ h1 (show L.length≤9223372036854775807 by omega)];rw[loopF_eq,hL];simp only[impl_RunScript_l7,lt_f,cond_false,Option.bind_some]
 |line hw hs ht hn ih=>
  rename_i A k A' k' out said wd rest ls fin;intro L i hl hd hi hf;have hle:=hn.le;rw[List.length_append,List.length_append] at hle;obtain⟨x0,x1,x2,x3⟩:=A;obtain⟨y0,y1,y2,y3⟩:=k;obtain⟨z0,z1,z2,z3⟩:=A';obtain⟨u0,u1,u2,u3⟩:=k';obtain⟨h1,h2,h3⟩:=drop_at (x:=BL (wd++32::rest)) (r:=ls.map BL++[BL []]) hd;have e:(ByteArray.toList (BL (wd++32::rest))==ByteArray.toList (⟨#[]⟩:ByteArray))=false:=BL_beq_nil (by simp);have hc:=cutL_is (r:=rest) hw (by rw[List.length_append,List.length_cons];omega);have ht:impl_desk_text ((x0,x1,x2,x3),y0,y1,y2,y3) (BL wd) (BL rest)=some ((BL said,true),((z0,z1,z2,z3),u0,u1,u2,u3),()):=ht;have e10:(⟨#[(10:UInt8)]⟩:ByteArray)=BL [10]:=rfl;rw[List.length_cons] at hi;have hlen:([10]:List UInt8).length=1:=rfl;rw[loopF_eq];have ho:decide (((ByteArray.size (BL out):Nat):Int)>(40000:Int))=false:=decide_eq_false (by rw[BL_size];omega);simp only[impl_RunScript_l7,lt_t h1,cond_true,if_pos (in_t h1),Int.toNat_natCast,Nat.zero_add,h2,e,cond_false,decide_eq_false (show ¬((i:Int)≥100) by omega),ho,hc,Option.bind_some,Bool.not_true,ht,e10,BL_app,List.drop_zero,List.take_length,w64_succ h1 (show L.length≤9223372036854775807 by omega)];rw[if_pos (by rw[BL_size,BL_size];omega),if_pos (by rw[BL_size,BL_size,List.length_append];omega)];exact ih L (i+1) hl h3 (by omega) hf
/-- the automaton that stands at first -/
def A0:Aut:=((1:Int),[0],[0],[])
theorem a0_v:AutV 1 [0] [0] []:=by
 have hok:autOk ((1:Int),[(0:Int)],[(0:Int)],[])=true:=by decide+kernel
 obtain⟨n,S,F,l,e,h⟩:=autV_of hok;have e1:(1:Int)=(n:Int):=congrArg (fun x=>x.1) e;have e2:[(0:Int)]=S:=congrArg (fun x=>x.2.1) e;have e3:[(0:Int)]=F:=congrArg (fun x=>x.2.2.1) e;have e4:([]:List Stp)=l:=congrArg (fun x=>x.2.2.2) e;obtain rfl:n=1:=by omega
 subst e2 e3 e4;exact h
theorem a0_text:autT ((1:Nat):Int) [0] [0] []=[49,59,48,59,48,59]:=by decide+kernel
def scText(ls:List (List UInt8)):List UInt8:=Lib.join (ls++[[]]) [10]
theorem script_is{ls:List (List UInt8)}{fin:List UInt8}(h:Sc A0 A0 [] ls fin)(hl:ls.length<100)(hf:fin.length≤40000)(h10:∀x∈ls,(10:UInt8)∉x)(hs:(scText ls).length≤20000):impl_RunScript (BL (scText ls))=some (BL fin):=by
 have hsp:=splitL_is (c:=10) (L:=ls++[[]]) (by simp) (fun x hx=>by
  rcases List.mem_append.1 hx with hx|hx
  ·exact h10 x hx
  ·obtain rfl:=List.mem_singleton.1 hx;simp) (by unfold scText at hs;omega)
 have hsp:strings_Split (BL (scText ls)) (⟨#[(10:UInt8)]⟩:ByteArray)=some ((ls++[[]]).map BL):=hsp;have hp:=parseA_is a0_v;rw[a0_text] at hp;have hp:impl_ParseAutomaton (⟨#[(49:UInt8),(59:UInt8),(48:UInt8),(59:UInt8),(48:UInt8),(59:UInt8)]⟩:ByteArray)=some (((1:Int),[0],[0],[]),true):=hp;have hlp:=sc_loop h ((ls++[[]]).map BL) 0 (by simp;omega) (by simp) (by omega) hf;have hlp:loopF impl_RunScript_l7 (((1:Int),[(0:Int)],[(0:Int)],[],(1:Int),[(0:Int)],[(0:Int)],[],()),(⟨#[]⟩:ByteArray),(ls++[[]]).map BL,((((ls++[[]]).map BL).length:Nat):Int),(0:Int),())=some (.inr (BL fin,())):=hlp;have ho:decide (((ByteArray.size (BL (scText ls)):Nat):Int)>(20000:Int))=false:=decide_eq_false (by rw[BL_size];omega);simp only[impl_RunScript,ho,cond_false,hp,Option.bind_some,hsp,List.drop_zero,List.take_length,hlp]
/-! ### what is told -/
theorem told_yes{l:List UInt8}(h:l≠[]):impl_told (BL l) true=some (BL l):=by
 simp only[impl_told,Bool.not_true,cond_false,impl_ShowWord,BL_beq_nil h,Option.bind_some]
theorem told_no(s:ByteArray):impl_told s false=some (BL [110,111]):=rfl
theorem autT_ne(n:Int)(S F:List Int)(l:List Stp):autT n S F l≠[]:=by
 unfold autT;rw[join_two];simp
theorem autT_no{n:Nat}{S F:List Int}{l:List Stp}(h:AutV n S F l){b:UInt8}(hb:b.toNat<32):b∉autT n S F l:=by
 have n4:=h.n4;have hq:∀q:Int,0≤q∧q≤9→b≠dg q:=fun q hq=>(dg_ne hq.1 hq.2 (.inl (by omega))).symm;have hk:∀c:UInt8,32≤c.toNat→b≠c:=by
  rintro c hc rfl;omega
 have hn:∀L:List Int,(∀q∈L,0≤q∧q≤(n:Int)-1)→b∉Lib.join (L.map fun q=>[dg q]) [32]:=by
  intro L hL hm
  rcases mem_join hm with hm|⟨x,hx,hm⟩
  ·exact hk 32 (by decide) hm
  ·obtain⟨q,hq',rfl⟩:=List.mem_map.1 hx;have:=hL q hq';exact hq q ⟨this.1,by omega⟩ (List.mem_singleton.1 hm)
 intro hm;unfold autT at hm
 rcases mem_join hm with hm|⟨x,hx,hm⟩
 ·exact hk 59 (by decide) hm
 ·simp only[List.mem_cons,List.not_mem_nil,or_false] at hx
  rcases hx with rfl|rfl|rfl|rfl
  ·exact hq (n:Int) ⟨by omega,by omega⟩ (List.mem_singleton.1 hm)
  ·exact hn S h.hS hm
  ·exact hn F h.hF hm
  ·rcases mem_join hm with hm|⟨x,hx,hm⟩
   ·exact hk 32 (by decide) hm
   ·obtain⟨s,hs,rfl⟩:=List.mem_map.1 hx;have hs:=h.st s hs;have e0:=hs.f0;have e1:=hs.f1;have e2:=hs.t0;have e3:=hs.t1;have e4:=hs.c0;have e5:=hs.c1;unfold stepT at hm
    rcases List.mem_cons.1 hm with hm|hm
    ·exact hq _ ⟨e0,by omega⟩ hm
    ·rcases List.mem_append.1 hm with hm|hm
     ·rcases letterOf hs with e|e<;>rw[e] at hm<;>exact hk _ (by decide) (List.mem_singleton.1 hm)
     ·simp only[List.mem_cons,List.not_mem_nil,or_false] at hm
      rcases hm with hm|hm|hm
      ·exact hq _ ⟨e2,by omega⟩ hm
      ·exact hk 58 (by decide) hm
      ·exact hq _ ⟨e4,by omega⟩ hm
theorem become_is{n:Nat}{S F:List Int}{l:List Stp}(h:AutV n S F l)(A k:Aut):impl_desk_become (A,k) ((n:Int),S,F,l) true=some (BL (autT n S F l),(((n:Int),S,F,l),k),()):=by
 obtain⟨x0,x1,x2,x3⟩:=A;obtain⟨y0,y1,y2,y3⟩:=k;simp only[impl_desk_become,cond_true,fmtA_is h,Option.bind_some,told_yes (autT_ne _ _ _ _)]
theorem fmtNum_is{xs:List Int}(h:Num xs)(hl:xs.length≤1048576):impl_FormatNumbers xs=some (fmtN xs):=by
 unfold fmtN
 by_cases h0:xs=[]
 ·subst h0;rfl
 ·have e:(((xs.length:Nat):Int)==0)=false:=by
   have:xs.length≠0:=fun e=>h0 (List.length_eq_zero_iff.1 e);rw[beq_eq_false_iff_ne];omega
  rw[if_neg h0];simp only[impl_FormatNumbers,e,cond_false,impl_nums h hl,Option.bind_some]
theorem tx_automaton(A k:Aut){n:Nat}{S F:List Int}{l:List Stp}(h:AutV n S F l):
  impl_desk_text (A,k) (BL [97,117,116,111,109,97,116,111,110]) (BL (autT n S F l))=some ((BL (autT n S F l),true),(((n:Int),S,F,l),k),()):=by
 obtain⟨x0,x1,x2,x3⟩:=A;obtain⟨y0,y1,y2,y3⟩:=k;have hb:=become_is h (x0,x1,x2,x3) (y0,y1,y2,y3);have e:impl_desk_text ((x0,x1,x2,x3),y0,y1,y2,y3) (BL [97,117,116,111,109,97,116,111,110]) (BL (autT n S F l))=Option.bind (impl_ParseAutomaton (BL (autT n S F l))) fun((r0,r1,r2,r3),r4)=>
   Option.bind (impl_desk_become ((x0,x1,x2,x3),y0,y1,y2,y3) (r0,(List.take (List.length r1) (List.drop 0 r1)),(List.take (List.length r2) (List.drop 0 r2)),(List.take (List.length r3) (List.drop 0 r3))) r4) fun(r5,((r6,r7,r8,r9),r10,r11,r12,r13),_)=>
    some ((r5,true),((r6,r7,r8,r9),r10,r11,r12,r13),()):=by
  simp only[impl_desk_text,toList_bytes];rfl
 rw[e,parseA_is h];simp only[Option.bind_some,List.drop_zero,List.take_length,hb]
/-- lines and what they tell, put together -/
theorem scText_cons(x:List UInt8)(ls:List (List UInt8)):scText (x::ls)=x++10::scText ls:=by
 unfold scText;cases ls with
 |nil=>rw[List.cons_append,List.nil_append,join_two]
 |cons y r=>rw[List.cons_append,List.cons_append,join_two]
theorem scText_nil:scText []=[]:=Lib.join_one _ _
theorem lit_BL(l:List UInt8):(⟨⟨l⟩⟩:ByteArray)=BL l:=rfl
end Go.Proofs.YthkflageghfbgaaGreatDoor
