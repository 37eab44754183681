import Derived.Test.YthkflageghfbgaaGreatDoorP0
import Derived.Test.YthkflageghfbgaaGreatDoorP86
import Derived.Test.YthkflageghfbgaaGreatDoorP90
set_option linter.unusedVariables false
set_option linter.unusedSimpArgs false
/- Texts that are put together and split again. -/
namespace Go.Proofs.YthkflageghfbgaaGreatDoor
open Go Go.Proofs.YthkflageghfbgaaGreatDoor.Am
theorem idx_app{c:UInt8}:∀{x:List UInt8} (r:List UInt8),c∉x→Lib.indexByte (x++c::r) c=(x.length:Int)
 |[],r,_=>by simp[Lib.indexByte]
 |b::x,r,h=>by
  have hb:(b==c)=false:=by
   rw[beq_eq_false_iff_ne];rintro rfl;exact h List.mem_cons_self
  have ih:=idx_app (x:=x) r fun hm=>h (List.mem_cons_of_mem _ hm);show Lib.indexByte (b::(x++c::r)) c=_;rw[Lib.indexByte,hb,ih];have:((x.length:Int)==-1)=false:=by rw[beq_eq_false_iff_ne];omega
  simp[this]
theorem join_two(x y:List UInt8)(l:List (List UInt8))(c:UInt8):Lib.join (x::y::l) [c]=x++c::Lib.join (y::l) [c]:=by
 simp[Lib.join,List.intercalate]
theorem split_join{c:UInt8}:∀{xs:List (List UInt8)},xs≠[]→(∀x∈xs,c∉x)→Lib.splitK [c] 0 (xs.length-1) (Lib.join xs [c])=xs
 |[],h,_=>absurd rfl h
 |[x],_,_=>by simp[Lib.splitK,Lib.join_one]
 |x::y::l,_,h=>by
  have ih:=split_join (c:=c) (xs:=y::l) (by simp) fun z hz=>h z (List.mem_cons_of_mem _ hz);have hx:=h x List.mem_cons_self;have hix:Lib.index (Lib.join (x::y::l) [c]) [c]=(x.length:Int):=by rw[Lib.index_one,join_two,idx_app _ hx]
  have hne:((x.length:Int)==-1)=false:=by rw[beq_eq_false_iff_ne];omega
  show Lib.splitK [c] 0 ((l.length)+1) _=_;rw[Lib.splitK,hix,hne];simp only[Bool.false_eq_true,if_false,Int.toNat_natCast,Nat.add_zero,List.length_singleton];have e1:(Lib.join (x::y::l) [c]).take x.length=x:=by rw[join_two];simp
  have e2:(Lib.join (x::y::l) [c]).drop (x.length+1)=Lib.join (y::l) [c]:=by
   rw[join_two,←List.drop_drop];simp
  rw[e1,e2];exact congrArg (x::·) ih
theorem count_join{c:UInt8}:∀{xs:List (List UInt8)},(∀x∈xs,c∉x)→Lib.count (Lib.join xs [c]) [c]=xs.length-1
 |[],_=>by rw[Lib.count_one];rfl
 |[x],h=>by
  rw[Lib.count_one,Lib.join_one];exact List.count_eq_zero.2 (h x List.mem_cons_self)
 |x::y::l,h=>by
  have ih:=count_join (c:=c) (xs:=y::l) fun z hz=>h z (List.mem_cons_of_mem _ hz);rw[Lib.count_one] at ih⊢;rw[join_two,List.count_append,List.count_cons_self,ih,List.count_eq_zero.2 (h x List.mem_cons_self)];simp only[List.length_cons];omega
theorem cut_at{c:UInt8}{x:List UInt8}(r:List UInt8)(h:c∉x):Lib.cut (x++c::r) [c]=(x,r,true):=by
 have hix:Lib.index (x++c::r) [c]=(x.length:Int):=by rw[Lib.index_one,idx_app _ h]
 unfold Lib.cut;rw[hix,if_pos (by omega)];simp only[Int.toNat_natCast,List.length_singleton];rw[←List.drop_drop];simp
theorem fieldsGo_word:∀{x cur r:List UInt8},(∀b∈x,Lib.isSp b=false)→Lib.fieldsGo cur (x++r)=Lib.fieldsGo (cur++x) r
 |[],cur,r,_=>by simp
 |b::x,cur,r,h=>by
  show Lib.fieldsGo cur (b::(x++r))=_;rw[Lib.fieldsGo,h b List.mem_cons_self];simp only[Bool.false_eq_true,if_false];rw[fieldsGo_word (fun z hz=>h z (List.mem_cons_of_mem _ hz))];simp
/-- words with single spaces between them -/
theorem fields_join:∀{xs:List (List UInt8)},(∀x∈xs,x≠[]∧∀b∈x,Lib.isSp b=false)→Lib.fields (Lib.join xs [32])=xs
 |[],_=>rfl
 |[x],h=>by
  obtain⟨h1,h2⟩:=h x List.mem_cons_self;rw[Lib.join_one];unfold Lib.fields;have:=fieldsGo_word (x:=x) (cur:=[]) (r:=[]) h2;rw[List.append_nil,List.nil_append] at this;rw[this,Lib.fieldsGo];simp[h1]
 |x::y::l,h=>by
  obtain⟨h1,h2⟩:=h x List.mem_cons_self;have ih:=fields_join (xs:=y::l) fun z hz=>h z (List.mem_cons_of_mem _ hz);rw[join_two];unfold Lib.fields at ih⊢;rw[fieldsGo_word h2,List.nil_append,Lib.fieldsGo,show Lib.isSp 32=true from rfl];simp only[if_true];have:x.isEmpty=false:=by cases x with|nil=>exact absurd rfl h1|cons _ _=>rfl
  rw[this,ih];simp
end Go.Proofs.YthkflageghfbgaaGreatDoor

/- What is told of texts that are split, cut and read, at texts that were put together. -/
namespace Go.Proofs.YthkflageghfbgaaGreatDoor
open Go Go.Proofs.YthkflageghfbgaaGreatDoor.Am
theorem data_inj{x y:ByteArray}(h:x.data.toList=y.data.toList):x=y:=by
 obtain⟨⟨x⟩⟩:=x;obtain⟨⟨y⟩⟩:=y;exact congrArg (fun l:List UInt8=>(⟨⟨l⟩⟩:ByteArray)) h
theorem map_inj{α β:Type}{f:α→β}(hf:∀a b,f a=f b→a=b):∀{l m:List α},l.map f=m.map f→l=m
 |[],[],_=>rfl
 |[],_::_,h=>by cases h
 |_::_,[],h=>by cases h
 |a::l,b::m,h=>by
  obtain⟨h1,h2⟩:=List.cons.inj h;rw[hf a b h1,map_inj hf h2]
theorem splitS_is{c:UInt8}{xs:List ByteArray}(hne:xs≠[])(h:∀x∈xs,c∉x.data.toList)(hs:(Lib.join (xs.map (·.data.toList)) [c]).length<4294967281):
  splitS ⟨(Lib.join (xs.map (·.data.toList)) [c]).toArray⟩ ⟨#[c]⟩=some xs:=by
 unfold splitS;rw[if_pos ⟨by simpa[ByteArray.size] using hs,by simp[ByteArray.size]⟩];refine congrArg some (map_inj (f:=fun x:ByteArray=>x.data.toList) (fun a b=>data_inj) ?_);rw[Lib.splitB_data];have h':∀x∈xs.map (·.data.toList),c∉x:=by
  intro x hx;obtain⟨y,hy,rfl⟩:=List.mem_map.1 hx;exact h y hy
 have hc:Lib.countB ⟨(Lib.join (xs.map (·.data.toList)) [c]).toArray⟩ ⟨#[c]⟩=xs.length-1:=by
  show Lib.count (Lib.join (xs.map (·.data.toList)) [c]) [c]=_;rw[count_join h',List.length_map]
 rw[hc];have:=split_join (c:=c) (xs:=xs.map (·.data.toList)) (by simpa using hne) h';rw[List.length_map] at this;exact this
theorem cutS_is{c:UInt8}{x r:List UInt8}(h:c∉x)(hs:(x++c::r).length<4294967281):cutS ⟨(x++c::r).toArray⟩ ⟨#[c]⟩=some (⟨x.toArray⟩,⟨r.toArray⟩,true):=by
 unfold cutS;rw[if_pos (by simpa[ByteArray.size] using hs)];show some ((⟨(Lib.cut (x++c::r) [c]).1.toArray⟩:ByteArray),(⟨(Lib.cut (x++c::r) [c]).2.1.toArray⟩:ByteArray),(Lib.cut (x++c::r) [c]).2.2)=_;rw[cut_at r h]
theorem fieldsS_is{xs:List ByteArray}(h:∀x∈xs,x.data.toList≠[]∧∀b∈x.data.toList,Lib.isSp b=false∧b.toNat<128)(hs:(Lib.join (xs.map (·.data.toList)) [32]).length<4294967281):
  fieldsS ⟨(Lib.join (xs.map (·.data.toList)) [32]).toArray⟩=some xs:=by
 have h7:∀{l:List (List UInt8)},(∀x∈l,∀b∈x,b.toNat<128)→∀b∈Lib.join l [32],b.toNat<128:=by
  intro l
  induction l with
  |nil=>intro _ b hb;cases hb
  |cons x l ih=>
   intro hl b hb;cases l with
   |nil=>rw[Lib.join_one] at hb;exact hl x List.mem_cons_self b hb
   |cons y l=>
    rw[join_two] at hb
    rcases List.mem_append.1 hb with hb|hb
    ·exact hl x List.mem_cons_self b hb
    ·rcases List.mem_cons.1 hb with rfl|hb
     ·decide
     ·exact ih (fun z hz=>hl z (List.mem_cons_of_mem _ hz)) b hb
 unfold fieldsS;rw[if_pos ⟨by simpa[ByteArray.size] using hs,h7 fun x hx b hb=>by
  obtain⟨y,hy,rfl⟩:=List.mem_map.1 hx;exact((h y hy).2 b hb).2⟩]
 refine congrArg some ?_;show(Lib.fields (Lib.join (xs.map (·.data.toList)) [32])).map _=xs;rw[fields_join fun x hx=>by
  obtain⟨y,hy,rfl⟩:=List.mem_map.1 hx;exact⟨(h y hy).1,fun b hb=>((h y hy).2 b hb).1⟩]
 rw[List.map_map];exact(List.map_congr_left fun x _=>data_inj rfl).trans (List.map_id xs)
theorem atoi_digit:∀d:Nat,d≤9→atoiS ⟨#[UInt8.ofNat (48+d)]⟩=some ((d:Int),true):=by decide+kernel
theorem itoa_digit:∀d:Nat,d≤9→Lib.itoa (d:Int)=[UInt8.ofNat (48+d)]:=by decide+kernel
end Go.Proofs.YthkflageghfbgaaGreatDoor

/- Texts that are joined, and the text of an automaton. -/
namespace Go.Proofs.YthkflageghfbgaaGreatDoor
open Go Go.Proofs.YthkflageghfbgaaGreatDoor.Am
theorem BL_toList(l:List UInt8):(BL l).toList=l:=toList_bytes _
/-! ### joined texts -/
theorem join_len{c:UInt8}{B:Nat}:∀{L:List (List UInt8)},(∀x∈L,x.length≤B)→(Lib.join L [c]).length≤(B+1)*L.length
 |[],_=>by simp[Lib.join_nil]
 |[x],h=>by
  have:=h x List.mem_cons_self;rw[Lib.join_one];simp;omega
 |x::y::l,h=>by
  have ih:=join_len (c:=c) (L:=y::l) fun z hz=>h z (List.mem_cons_of_mem _ hz);have:=h x List.mem_cons_self;rw[join_two,List.length_append,List.length_cons];have e:(B+1)*(x::y::l).length=(B+1)*(y::l).length+(B+1):=by rw[List.length_cons,Nat.mul_succ]
  omega
theorem mem_join{c b:UInt8}:∀{L:List (List UInt8)},b∈Lib.join L [c]→b=c∨∃x∈L,b∈x
 |[],h=>by rw[Lib.join_nil] at h;cases h
 |[x],h=>by rw[Lib.join_one] at h;exact .inr ⟨x,List.mem_cons_self,h⟩
 |x::y::l,h=>by
  rw[join_two] at h
  rcases List.mem_append.1 h with h|h
  ·exact .inr ⟨x,List.mem_cons_self,h⟩
  ·rcases List.mem_cons.1 h with h|h
   ·exact .inl h
   ·rcases mem_join h with h|⟨z,h1,h2⟩
    ·exact .inl h
    ·exact .inr ⟨z,List.mem_cons_of_mem _ h1,h2⟩
theorem joinS_is{L:List (List UInt8)}{c:UInt8}(h:L.length≤1048576)(h2:(Lib.join L [c]).length≤140737488355328):strings_Join (L.map BL) (⟨#[c]⟩:ByteArray)=some (BL (Lib.join L [c])):=by
 show joinS _ _=_;have e:(L.map BL).map (·.data.toList)=L:=by
  rw[List.map_map];exact(List.map_congr_left fun x _=>rfl).trans (List.map_id L)
 unfold joinS;rw[e,if_pos ⟨by rw[List.length_map];omega,h2⟩,BL_mk]
theorem splitL_is{c:UInt8}{L:List (List UInt8)}(hne:L≠[])(h:∀x∈L,c∉x)(hs:(Lib.join L [c]).length<4294967281):strings_Split (BL (Lib.join L [c])) ⟨#[c]⟩=some (L.map BL):=by
 have e:(L.map BL).map (·.data.toList)=L:=by
  rw[List.map_map];exact(List.map_congr_left fun x _=>rfl).trans (List.map_id L)
 have:=splitS_is (c:=c) (xs:=L.map BL) (by simpa using hne) (fun x hx=>by obtain⟨y,hy,rfl⟩:=List.mem_map.1 hx;exact h y hy) (by rw[e];exact hs);rw[e,BL_mk] at this;exact this
theorem cutL_is{c:UInt8}{x r:List UInt8}(h:c∉x)(hs:(x++c::r).length<4294967281):strings_Cut (BL (x++c::r)) ⟨#[c]⟩=some (BL x,BL r,true):=by
 have:=cutS_is (r:=r) h hs;rw[BL_mk,BL_mk,BL_mk] at this;exact this
theorem fieldsL_is{L:List (List UInt8)}(h:∀x∈L,x≠[]∧∀b∈x,Lib.isSp b=false∧b.toNat<128)(hs:(Lib.join L [32]).length<4294967281):strings_Fields (BL (Lib.join L [32]))=some (L.map BL):=by
 have e:(L.map BL).map (·.data.toList)=L:=by
  rw[List.map_map];exact(List.map_congr_left fun x _=>rfl).trans (List.map_id L)
 have:=fieldsS_is (xs:=L.map BL) (fun x hx=>by obtain⟨y,hy,rfl⟩:=List.mem_map.1 hx;exact h y hy) (by rw[e];exact hs);rw[e,BL_mk] at this;exact this
/-! ### digits -/
def dg(n:Int):UInt8:=UInt8.ofNat (48+n.toNat)
theorem itoa_dg{n:Int}(h0:0≤n)(h9:n≤9):Lib.itoa n=[dg n]:=by
 have:=itoa_digit n.toNat (by omega);rw[show((n.toNat:Nat):Int)=n by omega] at this;exact this
theorem atoi_dg{n:Int}(h0:0≤n)(h9:n≤9):strconv_Atoi (BL [dg n])=some (n,true):=by
 have:=atoi_digit n.toNat (by omega);rw[show((n.toNat:Nat):Int)=n by omega] at this;exact this
theorem Itoa_dg{n:Int}(h0:0≤n)(h9:n≤9):strconv_Itoa n=some (BL [dg n]):=by
 show itoaS n=_;unfold itoaS;rw[if_pos ⟨by omega,by omega⟩,itoa_dg h0 h9];rfl
theorem dg_nat{n:Int}(h0:0≤n)(h9:n≤9):(dg n).toNat=48+n.toNat:=by
 unfold dg;rw[UInt8.toNat_ofNat'];omega
theorem dg_ne{n:Int}(h0:0≤n)(h9:n≤9){b:UInt8}(hb:b.toNat<48∨57<b.toNat):dg n≠b:=by
 rintro rfl;rw[dg_nat h0 h9] at hb;omega
/-! ### the text of an automaton -/
def stepT(s:Stp):List UInt8:=dg s.1::(s.2.1.data.toList++[dg s.2.2.1,58,dg s.2.2.2])
def autT(n:Int)(S F:List Int)(l:List Stp):List UInt8:=Lib.join [[dg n],Lib.join (S.map fun q=>[dg q]) [32],Lib.join (F.map fun q=>[dg q]) [32],Lib.join (l.map stepT) [32]] [59]
theorem letterOf{n:Int}{s:Stp}(h:StepIs n s):s.2.1.data.toList=[97]∨s.2.1.data.toList=[98]:=by
 rcases h.l with h|h<;>simp only[toList_bytes] at h
 ·exact .inl h
 ·exact .inr h
theorem stepT_len{n:Int}{s:Stp}(h:StepIs n s):(stepT s).length=5:=by
 unfold stepT
 rcases letterOf h with e|e<;>rw[e]<;>rfl
theorem numsT_dg{S:List Int}(h:∀q∈S,0≤q∧q≤9):numsT S=Lib.join (S.map fun q=>[dg q]) [32]:=by
 unfold numsT;rw[List.map_congr_left fun q hq=>itoa_dg (h q hq).1 (h q hq).2]
theorem fmtA_loop{n:Nat}(h4:n≤4){S F:List Int}{l:List Stp}(hl:∀s∈l,StepIs (n:Int) s)(h24:l.length≤24):
  loopF impl_FormatAutomaton_l5 (((n:Int),S,F,l,()),[],l,(l.length:Int),(0:Int),())=some (((n:Int),S,F,l,()),l.map fun s=>BL (stepT s),()):=by
 obtain⟨r,g1,g2⟩:=loop_inv (f:=impl_FormatAutomaton_l5) l.length (fun i (o:List ByteArray)=>(((n:Int),S,F,l,()),o,l,(l.length:Int),(i:Int),())) (fun i _=>(l.take (i+1)).map fun s=>BL (stepT s)) (fun o=>(((n:Int),S,F,l,()),o,())) (fun i o=>o=(l.take i).map fun s=>BL (stepT s))
  (fun i o hi ho=>rfl)
  (fun i o hi ho=>by
   have hs:=hl _ (List.getElem_mem hi);have hmem:l.getD i stp0=l[i]:=by rw[List.getD_eq_getElem?_getD,List.getElem?_eq_getElem hi];rfl
   have hol:o.length≤24:=by rw[ho,List.length_map,List.length_take];omega
   rw[take_snoc hi,List.map_append,←ho];have e0:=hs.f0;have e1:=hs.f1;have e2:=hs.t0;have e3:=hs.t1;have e4:=hs.c0;have e5:=hs.c1;have eL:l[i].2.1=BL l[i].2.1.data.toList:=rfl;have eL5:l[i].2.1.data.toList.length=1:=by rcases letterOf hs with e|e<;>rw[e]<;>rfl
   generalize l[i].2.1.data.toList=L at eL eL5 hs;simp only[impl_FormatAutomaton_l5,lt_t hi,cond_true,if_pos (in_t hi),Int.toNat_natCast,hmem,Itoa_dg e0 (show l[i].1≤9 by omega),Itoa_dg e2 (show l[i].2.2.1≤9 by omega),Itoa_dg e4 (show l[i].2.2.2≤9 by omega),Option.bind_some,eL,show(⟨#[(58:UInt8)]⟩:ByteArray)=BL [58] from rfl,BL_app,BL_size,w64_succ hi (show l.length≤9223372036854775807 by omega),List.drop_zero,Nat.zero_add,show ∀z:ByteArray,List.take 1 [z]=[z] from fun _=>rfl];rw[if_pos (by simp;omega),if_pos (by simp;omega),if_pos (by simp;omega),if_pos (by simp;omega),if_pos ⟨trivial,by simp;omega⟩,List.take_of_length_le (by simp)];have es:stepT l[i]=[dg l[i].1]++L++[dg l[i].2.2.1]++[58]++[dg l[i].2.2.2]:=by
    unfold stepT;rw[show l[i].2.1.data.toList=L from by rw[eL];rfl];simp
   rw[←es];rfl)
  (fun o ho=>by simp only[impl_FormatAutomaton_l5,lt_f,cond_false,List.drop_zero,List.take_length])
  [] rfl
 have g1:loopF impl_FormatAutomaton_l5 (((n:Int),S,F,l,()),[],l,(l.length:Int),(0:Int),())=_:=g1;rw[g1,g2,List.take_length]
theorem marks_len{n:Nat}(h4:n≤4){l:List Int}(h:marksOk (n:Int) l=true):l.length≤4:=by
 refine Nat.le_of_not_lt fun hl=> ?_;have h0:=marks_mem h;have key:∀i,i<l.length→(i:Int)≤l.getD i 0:=by
  intro i
  induction i with
  |zero=>intro hi;rw[getD_g 0 hi];exact(h0 _ (List.getElem_mem hi)).1
  |succ i ih=>
   intro hi;have h1:=ih (by omega);have h2:=marks_lt h 0 i (by omega);rw[Nat.add_zero] at h2;omega
 have h1:=key 4 hl;have h2:=h0 (l.getD 4 0) (by rw[getD_g 0 hl];exact List.getElem_mem hl);omega
/-- what is valid, in parts -/
structure AutV (n:Nat) (S F:List Int) (l:List Stp):Prop where
 n1:1≤n
 n4:n≤4
 hS:∀q∈S,0≤q∧q≤(n:Int)-1
 hF:∀q∈F,0≤q∧q≤(n:Int)-1
 s4:S.length≤4
 f4:F.length≤4
 l24:l.length≤24
 st:∀s∈l,StepIs (n:Int) s
 ok:autOk ((n:Int),S,F,l)=true
theorem autV_of{a:Aut}(h:autOk a=true):∃n S F l,a=(((n:Nat):Int),S,F,l)∧AutV n S F l:=by
 obtain⟨n,ha⟩:=autOk_is h;obtain⟨x,S,F,l⟩:=a;have hx:x=(n:Int):=ha.st;subst hx;have h':=h;unfold autOk at h';simp only[Bool.and_eq_true,decide_eq_true_eq] at h';obtain⟨_,q1,q2,q3,_⟩:=h';exact⟨n,S,F,l,rfl,ha.n1,ha.n4,ha.S,ha.F,marks_len ha.n4 q1,marks_len ha.n4 q2,q3,ha.steps,h⟩
theorem AutV.small{n:Nat}{S F:List Int}{l:List Stp}(h:AutV n S F l):Small ((n:Int),S,F,l):=
 ⟨by have:=h.s4;show S.length≤_;omega,by have:=h.f4;show F.length≤_;omega,by have:=h.l24;show l.length≤_;omega⟩
theorem AutV.is{n:Nat}{S F:List Int}{l:List Stp}(h:AutV n S F l):AutIs ((n:Int),S,F,l) n:=by
 obtain⟨m,hm⟩:=autOk_is h.ok;have h1:(n:Int)=(m:Int):=hm.st;obtain rfl:n=m:=by omega
 exact hm
theorem autT_short{n:Nat}{S F:List Int}{l:List Stp}(h:AutV n S F l):(autT n S F l).length≤200:=by
 have h1:=join_len (c:=32) (B:=1) (L:=S.map fun q=>[dg q]) (fun x hx=>by obtain⟨q,_,rfl⟩:=List.mem_map.1 hx;exact Nat.le_refl _);have h2:=join_len (c:=32) (B:=1) (L:=F.map fun q=>[dg q]) (fun x hx=>by obtain⟨q,_,rfl⟩:=List.mem_map.1 hx;exact Nat.le_refl _);have h3:=join_len (c:=32) (B:=5) (L:=l.map stepT) (fun x hx=>by obtain⟨s,hs,rfl⟩:=List.mem_map.1 hx;exact Nat.le_of_eq (stepT_len (h.st s hs)));rw[List.length_map] at h1 h2 h3;have:=h.s4;have:=h.f4;have:=h.l24;unfold autT;rw[join_two,join_two,join_two,Lib.join_one];simp only[List.length_append,List.length_cons,List.length_nil];omega
theorem fmtA_is{n:Nat}{S F:List Int}{l:List Stp}(h:AutV n S F l):impl_FormatAutomaton ((n:Int),S,F,l)=some (BL (autT n S F l)):=by
 have n1:=h.n1;have n4:=h.n4;have s4:=h.s4;have f4:=h.f4;have l24:=h.l24;have hV:=impl_AutomatonValid_is ((n:Int),S,F,l) (show S.length≤_ by omega) (show F.length≤_ by omega);rw[h.ok] at hV;have hS:∀q∈S,0≤q∧q≤9:=fun q hq=>⟨(h.hS q hq).1,by have:=(h.hS q hq).2;omega⟩;have hF:∀q∈F,0≤q∧q≤9:=fun q hq=>⟨(h.hF q hq).1,by have:=(h.hF q hq).2;omega⟩;have e1:=impl_nums (xs:=S) (fun q hq=>by have:=hS q hq;omega) (by omega);have e2:=impl_nums (xs:=F) (fun q hq=>by have:=hF q hq;omega) (by omega);rw[numsT_dg hS] at e1;rw[numsT_dg hF] at e2;have h3:=join_len (c:=32) (B:=5) (L:=l.map stepT) (fun x hx=>by obtain⟨s,hs,rfl⟩:=List.mem_map.1 hx;exact Nat.le_of_eq (stepT_len (h.st s hs)));rw[List.length_map] at h3;have e3:=joinS_is (L:=l.map stepT) (c:=32) (by rw[List.length_map];omega) (by omega);rw[List.map_map] at e3;have e3:strings_Join (l.map fun s=>BL (stepT s)) (⟨#[(32:UInt8)]⟩:ByteArray)=_:=e3;have e4:=joinS_is (L:=[[dg (n:Int)],Lib.join (S.map fun q=>[dg q]) [32],Lib.join (F.map fun q=>[dg q]) [32],Lib.join (l.map stepT) [32]]) (c:=59) (by simp) (by have:=autT_short h;unfold autT at this;omega);simp only[impl_FormatAutomaton,hV,Option.bind_some,Bool.not_true,cond_false,List.drop_zero,List.take_zero,fmtA_loop n4 h.st l24,Itoa_dg (show(0:Int)≤(n:Int) by omega) (show(n:Int)≤9 by omega),e1,e2,List.take_length,e3];exact congrArg (fun z=>Option.bind z fun r10=>some r10) e4
end Go.Proofs.YthkflageghfbgaaGreatDoor

/- The text of an automaton is read as that automaton. -/
namespace Go.Proofs.YthkflageghfbgaaGreatDoor
open Go Go.Proofs.YthkflageghfbgaaGreatDoor.Am
theorem getD_map_dg{S:List Int}{i:Nat}(hi:i<S.length):List.getD (S.map fun q=>BL [dg q]) i (⟨Array.empty⟩:ByteArray)=BL [dg S[i]]:=by
 rw[List.getD_eq_getElem?_getD,List.getElem?_map,List.getElem?_eq_getElem hi];rfl
theorem parse_l7(A0:ByteArray)(z0:Int)(z1 z2:List Int)(z3:List Stp)(P:List ByteArray)(x:Int)(F:List Int)(l:List Stp){S:List Int}(hS:∀q∈S,0≤q∧q≤9)(h4:S.length≤4):
  loopF impl_ParseAutomaton_l7 (A0,(z0,z1,z2,z3,()),P,(x,[],F,l,()),S.map (fun q=>BL [dg q]),(S.length:Int),(0:Int),())=some (A0,(z0,z1,z2,z3,()),P,(x,S,F,l,()),()):=by
 have hml:(S.map fun q=>BL [dg q]).length=S.length:=List.length_map _;obtain⟨r,g1,g2⟩:=loop_inv (f:=impl_ParseAutomaton_l7) S.length (fun i (o:List Int)=>(A0,(z0,z1,z2,z3,()),P,(x,o,F,l,()),S.map (fun q=>BL [dg q]),(S.length:Int),(i:Int),())) (fun i _=>S.take (i+1)) (fun o=>(A0,(z0,z1,z2,z3,()),P,(x,o,F,l,()),())) (fun i o=>o=S.take i)
  (fun i o hi ho=>rfl)
  (fun i o hi ho=>by
   have hq:=hS _ (List.getElem_mem hi);have hol:o.length≤4:=by rw[ho,List.length_take];omega
   rw[take_snoc hi,←ho];simp only[impl_ParseAutomaton_l7,lt_t hi,cond_true,hml,if_pos (in_t hi),Int.toNat_natCast,Nat.zero_add,getD_map_dg hi,atoi_dg hq.1 hq.2,Option.bind_some,List.drop_zero,show ∀z:Int,List.take 1 [z]=[z] from fun _=>rfl,w64_succ hi (show S.length≤9223372036854775807 by omega)];rw[if_pos ⟨trivial,by simp;omega⟩,List.take_length,List.take_length,List.take_length,List.take_length,List.take_length,List.take_length,List.take_of_length_le (by simp),List.take_of_length_le (by simp)])
  (fun o ho=>by simp only[impl_ParseAutomaton_l7,lt_f,cond_false,List.drop_zero,List.take_length])
  [] rfl
 have g1:loopF impl_ParseAutomaton_l7 (A0,(z0,z1,z2,z3,()),P,(x,[],F,l,()),S.map (fun q=>BL [dg q]),(S.length:Int),(0:Int),())=_:=g1;rw[g1,g2,List.take_length]
theorem parse_l13(A0:ByteArray)(z0:Int)(z1 z2:List Int)(z3:List Stp)(P:List ByteArray)(x:Int)(F:List Int)(l:List Stp){S:List Int}(hS:∀q∈S,0≤q∧q≤9)(h4:S.length≤4):
  loopF impl_ParseAutomaton_l13 (A0,(z0,z1,z2,z3,()),P,(x,F,[],l,()),S.map (fun q=>BL [dg q]),(S.length:Int),(0:Int),())=some (A0,(z0,z1,z2,z3,()),P,(x,F,S,l,()),()):=by
 have hml:(S.map fun q=>BL [dg q]).length=S.length:=List.length_map _;obtain⟨r,g1,g2⟩:=loop_inv (f:=impl_ParseAutomaton_l13) S.length (fun i (o:List Int)=>(A0,(z0,z1,z2,z3,()),P,(x,F,o,l,()),S.map (fun q=>BL [dg q]),(S.length:Int),(i:Int),())) (fun i _=>S.take (i+1)) (fun o=>(A0,(z0,z1,z2,z3,()),P,(x,F,o,l,()),())) (fun i o=>o=S.take i)
  (fun i o hi ho=>rfl)
  (fun i o hi ho=>by
   have hq:=hS _ (List.getElem_mem hi);have hol:o.length≤4:=by rw[ho,List.length_take];omega
   rw[take_snoc hi,←ho];simp only[impl_ParseAutomaton_l13,lt_t hi,cond_true,hml,if_pos (in_t hi),Int.toNat_natCast,Nat.zero_add,getD_map_dg hi,atoi_dg hq.1 hq.2,Option.bind_some,List.drop_zero,show ∀z:Int,List.take 1 [z]=[z] from fun _=>rfl,w64_succ hi (show S.length≤9223372036854775807 by omega)];rw[if_pos ⟨trivial,by simp;omega⟩,List.take_length,List.take_length,List.take_length,List.take_length,List.take_length,List.take_length,List.take_of_length_le (by simp),List.take_of_length_le (by simp)])
  (fun o ho=>by simp only[impl_ParseAutomaton_l13,lt_f,cond_false,List.drop_zero,List.take_length])
  [] rfl
 have g1:loopF impl_ParseAutomaton_l13 (A0,(z0,z1,z2,z3,()),P,(x,F,[],l,()),S.map (fun q=>BL [dg q]),(S.length:Int),(0:Int),())=_:=g1;rw[g1,g2,List.take_length]
theorem num_dg{n:Int}(h0:0≤n)(h9:n≤9):IntKind.wrap .i64 (IntKind.wrap .i64 (((dg n).toNat:Nat):Int)-48)=n:=by
 have e:IntKind.wrap .i64 (((48+n.toNat:Nat)):Int)=((48+n.toNat:Nat):Int):=w64 (by omega) (by omega);rw[dg_nat h0 h9,e,w64 (by omega) (by omega)];omega
theorem step_read{n:Nat}(h4:n≤4){s:Stp}(h:StepIs (n:Int) s):(BL (stepT s)).size=5∧Array.getD (BL (stepT s)).data (Int.toNat (0:Int)) (0:UInt8)=dg s.1∧Array.getD (BL (stepT s)).data (Int.toNat (2:Int)) (0:UInt8)=dg s.2.2.1∧Array.getD (BL (stepT s)).data (Int.toNat (4:Int)) (0:UInt8)=dg s.2.2.2∧ByteArray.extract (BL (stepT s)) (Int.toNat (1:Int)) (Int.toNat (2:Int))=s.2.1:=by
 obtain⟨f,L,t,c⟩:=s;have hL:=letterOf h;have hL:L.data.toList=[97]∨L.data.toList=[98]:=hL
 rcases hL with e|e
 ·have e2:L=BL [97]:=data_inj e;subst e2;exact⟨rfl,rfl,rfl,rfl,by rw[BL_extract];rfl⟩
 ·have e2:L=BL [98]:=data_inj e;subst e2;exact⟨rfl,rfl,rfl,rfl,by rw[BL_extract];rfl⟩
theorem parse_l19(A0:ByteArray)(z0:Int)(z1 z2:List Int)(z3:List Stp)(x:Int)(S F:List Int){n:Nat}(h4:n≤4){l:List Stp}(hl:∀s∈l,StepIs (n:Int) s)(h24:l.length≤24):
  loopF impl_ParseAutomaton_l19 (A0,(z0,z1,z2,z3,()),(x,S,F,[],()),l.map (fun s=>BL (stepT s)),(l.length:Int),(0:Int),())=some (.inr (A0,(z0,z1,z2,z3,()),(x,S,F,l,()),())):=by
 have hml:(l.map fun s=>BL (stepT s)).length=l.length:=List.length_map _;obtain⟨r,g1,g2⟩:=loop_inv (f:=impl_ParseAutomaton_l19) l.length (fun i (o:List Stp)=>(A0,(z0,z1,z2,z3,()),(x,S,F,o,()),l.map (fun s=>BL (stepT s)),(l.length:Int),(i:Int),())) (fun i _=>l.take (i+1)) (fun o=>.inr (A0,(z0,z1,z2,z3,()),(x,S,F,o,()),())) (fun i o=>o=l.take i)
  (fun i o hi ho=>rfl)
  (fun i o hi ho=>by
   have hs:=hl _ (List.getElem_mem hi);have e0:=hs.f0;have e1:=hs.f1;have e2:=hs.t0;have e3:=hs.t1;have e4:=hs.c0;have e5:=hs.c1;obtain⟨k1,k2,k3,k4,k5⟩:=step_read h4 hs;have hg:List.getD (l.map fun s=>BL (stepT s)) i (⟨Array.empty⟩:ByteArray)=BL (stepT l[i]):=by
    rw[List.getD_eq_getElem?_getD,List.getElem?_map,List.getElem?_eq_getElem hi];rfl
   have hol:o.length≤24:=by rw[ho,List.length_take];omega
   rw[take_snoc hi,←ho];have hne:((((5:Nat):Int)) != (5:Int))=false:=rfl;simp only[impl_ParseAutomaton_l19,lt_t hi,cond_true,hml,if_pos (in_t hi),Int.toNat_natCast,Nat.zero_add,hg,k1,k2,k3,k4,k5,hne,cond_false,num_dg e0 (show l[i].1≤9 by omega),num_dg e2 (show l[i].2.2.1≤9 by omega),num_dg e4 (show l[i].2.2.2≤9 by omega),List.drop_zero,show ∀z:Stp,List.take 1 [z]=[z] from fun _=>rfl,w64_succ hi (show l.length≤9223372036854775807 by omega)];rw[if_pos (by omega),if_pos (by omega),if_pos (by omega),if_pos (by omega),if_pos ⟨trivial,by simp;omega⟩,List.take_length,List.take_length,List.take_length,List.take_length,List.take_length,List.take_of_length_le (by simp),List.take_of_length_le (by simp)])
  (fun o ho=>by simp only[impl_ParseAutomaton_l19,lt_f,cond_false,List.drop_zero,List.take_length])
  [] rfl
 have g1:loopF impl_ParseAutomaton_l19 (A0,(z0,z1,z2,z3,()),(x,S,F,[],()),l.map (fun s=>BL (stepT s)),(l.length:Int),(0:Int),())=_:=g1;rw[g1,g2,List.take_length]
theorem dg_sp{q:Int}(h:0≤q∧q≤9):Lib.isSp (dg q)=false∧(dg q).toNat<128:=by
 have e:=dg_nat h.1 h.2;refine⟨?_,by omega⟩;unfold Lib.isSp;have hne:∀b:UInt8,b.toNat<48→(dg q==b)=false:=by
  intro b hb;rw[beq_eq_false_iff_ne];rintro rfl;omega
 rw[hne 9 (by decide),hne 10 (by decide),hne 11 (by decide),hne 12 (by decide),hne 13 (by decide),hne 32 (by decide)];rfl
theorem nums_fields{S:List Int}(h:∀q∈S,0≤q∧q≤9)(h4:S.length≤4):strings_Fields (BL (Lib.join (S.map fun q=>[dg q]) [32]))=some (S.map fun q=>BL [dg q]):=by
 have h1:=join_len (c:=32) (B:=1) (L:=S.map fun q=>[dg q]) (fun x hx=>by obtain⟨q,_,rfl⟩:=List.mem_map.1 hx;exact Nat.le_refl _);rw[List.length_map] at h1;rw[fieldsL_is (L:=S.map fun q=>[dg q]) (fun x hx=>by
  obtain⟨q,hq,rfl⟩:=List.mem_map.1 hx;refine⟨by simp,fun b hb=> ?_⟩;obtain rfl:=List.mem_singleton.1 hb;exact dg_sp (h q hq)) (by omega),List.map_map]
 rfl
theorem steps_fields{n:Nat}(h4:n≤4){l:List Stp}(hl:∀s∈l,StepIs (n:Int) s)(h24:l.length≤24):strings_Fields (BL (Lib.join (l.map stepT) [32]))=some (l.map fun s=>BL (stepT s)):=by
 have h3:=join_len (c:=32) (B:=5) (L:=l.map stepT) (fun x hx=>by obtain⟨s,hs,rfl⟩:=List.mem_map.1 hx;exact Nat.le_of_eq (stepT_len (hl s hs)));rw[List.length_map] at h3;rw[fieldsL_is (L:=l.map stepT) (fun x hx=>by
  obtain⟨s,hs,rfl⟩:=List.mem_map.1 hx;have h:=hl s hs;have e0:=h.f0;have e1:=h.f1;have e2:=h.t0;have e3:=h.t1;have e4:=h.c0;have e5:=h.c1;refine⟨by unfold stepT;simp,fun b hb=> ?_⟩;unfold stepT at hb
  rcases List.mem_cons.1 hb with rfl|hb
  ·exact dg_sp ⟨e0,by omega⟩
  ·rcases List.mem_append.1 hb with hb|hb
   ·rcases letterOf h with e|e<;>rw[e] at hb<;>obtain rfl:=List.mem_singleton.1 hb<;>exact⟨rfl,by decide⟩
   ·simp only[List.mem_cons,List.not_mem_nil,or_false] at hb
    rcases hb with rfl|rfl|rfl
    ·exact dg_sp ⟨e2,by omega⟩
    ·exact⟨rfl,by decide⟩
    ·exact dg_sp ⟨e4,by omega⟩) (by omega),List.map_map]
 rfl
theorem no59{n:Nat}{S F:List Int}{l:List Stp}(h:AutV n S F l):∀x∈[[dg (n:Int)],Lib.join (S.map fun q=>[dg q]) [32],Lib.join (F.map fun q=>[dg q]) [32],Lib.join (l.map stepT) [32]],(59:UInt8)∉x:=by
 have n4:=h.n4;have hq:∀q:Int,0≤q∧q≤(n:Int)-1→(59:UInt8)≠dg q:=fun q hq=>(dg_ne hq.1 (by omega) (.inr (by decide))).symm;have hn:∀L:List Int,(∀q∈L,0≤q∧q≤(n:Int)-1)→(59:UInt8)∉Lib.join (L.map fun q=>[dg q]) [32]:=by
  intro L hL hm
  rcases mem_join hm with hm|⟨x,hx,hm⟩
  ·cases hm
  ·obtain⟨q,hq',rfl⟩:=List.mem_map.1 hx;exact hq q (hL q hq') (List.mem_singleton.1 hm)
 intro x hx;simp only[List.mem_cons,List.not_mem_nil,or_false] at hx
 rcases hx with rfl|rfl|rfl|rfl
 ·intro hm;exact(dg_ne (show(0:Int)≤(n:Int) by omega) (show(n:Int)≤9 by omega) (.inr (by decide))).symm (List.mem_singleton.1 hm)
 ·exact hn S h.hS
 ·exact hn F h.hF
 ·intro hm
  rcases mem_join hm with hm|⟨x,hx,hm⟩
  ·cases hm
  ·obtain⟨s,hs,rfl⟩:=List.mem_map.1 hx;have hs:=h.st s hs;have e4:=hs.c0;have e5:=hs.c1;unfold stepT at hm
   rcases List.mem_cons.1 hm with hm|hm
   ·exact hq _ ⟨hs.f0,hs.f1⟩ hm
   ·rcases List.mem_append.1 hm with hm|hm
    ·rcases letterOf hs with e|e<;>rw[e] at hm<;>exact absurd (List.mem_singleton.1 hm) (by decide)
    ·simp only[List.mem_cons,List.not_mem_nil,or_false] at hm
     rcases hm with hm|hm|hm
     ·exact hq _ ⟨hs.t0,hs.t1⟩ hm
     ·exact absurd hm (by decide)
     ·exact(dg_ne e4 (show s.2.2.2≤9 by omega) (.inr (by decide))).symm hm
theorem parseA_is{n:Nat}{S F:List Int}{l:List Stp}(h:AutV n S F l):impl_ParseAutomaton (BL (autT n S F l))=some (((n:Int),S,F,l),true):=by
 have n1:=h.n1;have n4:=h.n4;have s4:=h.s4;have f4:=h.f4;have l24:=h.l24;have hS:∀q∈S,0≤q∧q≤9:=fun q hq=>⟨(h.hS q hq).1,by have:=(h.hS q hq).2;omega⟩;have hF:∀q∈F,0≤q∧q≤9:=fun q hq=>⟨(h.hF q hq).1,by have:=(h.hF q hq).2;omega⟩;have hsh:=autT_short h;have hsp:=splitL_is (c:=59) (by simp) (no59 h) (by unfold autT at hsh;omega);have hsp:strings_Split (BL (autT n S F l)) (⟨#[(59:UInt8)]⟩:ByteArray)=some [BL [dg (n:Int)],BL (Lib.join (S.map fun q=>[dg q]) [32]),BL (Lib.join (F.map fun q=>[dg q]) [32]),BL (Lib.join (l.map stepT) [32])]:=hsp;have hat:=atoi_dg (show(0:Int)≤(n:Int) by omega) (show(n:Int)≤9 by omega);have c0:∀a b c d:ByteArray,((0:Int)≤(0:Int))∧((0:Int)<((([a,b,c,d]:List ByteArray).length:Nat):Int)):=fun _ _ _ _=>⟨by omega,by simp⟩;have c1:∀a b c d:ByteArray,((0:Int)≤(1:Int))∧((1:Int)<((([a,b,c,d]:List ByteArray).length:Nat):Int)):=fun _ _ _ _=>⟨by omega,by simp⟩;have c2:∀a b c d:ByteArray,((0:Int)≤(2:Int))∧((2:Int)<((([a,b,c,d]:List ByteArray).length:Nat):Int)):=fun _ _ _ _=>⟨by omega,by simp⟩;have c3:∀a b c d:ByteArray,((0:Int)≤(3:Int))∧((3:Int)<((([a,b,c,d]:List ByteArray).length:Nat):Int)):=fun _ _ _ _=>⟨by omega,by simp⟩;have hne:∀a b c d:ByteArray,((((([a,b,c,d]:List ByteArray).length:Nat):Int)) != (4:Int))=false:=fun _ _ _ _=>rfl;have hlm1:(S.map fun q=>BL [dg q]).length=S.length:=List.length_map _;have hlm2:(F.map fun q=>BL [dg q]).length=F.length:=List.length_map _;have hlm3:(l.map fun s=>BL (stepT s)).length=l.length:=List.length_map _;have hg0:∀a b c d:ByteArray,List.getD [a,b,c,d] (Int.toNat (0:Int)) (⟨Array.empty⟩:ByteArray)=a:=fun _ _ _ _=>rfl;have hg1:∀a b c d:ByteArray,List.getD [a,b,c,d] (Int.toNat (1:Int)) (⟨Array.empty⟩:ByteArray)=b:=fun _ _ _ _=>rfl;have hg2:∀a b c d:ByteArray,List.getD [a,b,c,d] (Int.toNat (2:Int)) (⟨Array.empty⟩:ByteArray)=c:=fun _ _ _ _=>rfl;have hg3:∀a b c d:ByteArray,List.getD [a,b,c,d] (Int.toNat (3:Int)) (⟨Array.empty⟩:ByteArray)=d:=fun _ _ _ _=>rfl;have hnil:((BL (autT n S F l)).toList==(⟨#[]⟩:ByteArray).toList)=false:=by
  rw[BL_toList,show(⟨#[]⟩:ByteArray).toList=[] from toList_bytes _,beq_eq_false_iff_ne];unfold autT;rw[join_two];simp
 simp only[impl_ParseAutomaton,hsp,Option.bind_some,hne,cond_false,if_pos (c0 _ _ _ _),if_pos (c1 _ _ _ _),if_pos (c2 _ _ _ _),if_pos (c3 _ _ _ _),Nat.zero_add,hg0,hg1,hg2,hg3,hat,nums_fields hS s4,nums_fields hF f4,steps_fields n4 h.st l24,List.drop_zero,List.take_length,List.take_nil,hlm1,hlm2,hlm3,parse_l7 _ _ _ _ _ _ _ _ _ hS s4,parse_l13 _ _ _ _ _ _ _ _ _ hF f4,parse_l19 _ _ _ _ _ _ _ _ n4 h.st l24,hnil,fmtA_is h,beq_self_eq_true,Bool.not_true]
end Go.Proofs.YthkflageghfbgaaGreatDoor
