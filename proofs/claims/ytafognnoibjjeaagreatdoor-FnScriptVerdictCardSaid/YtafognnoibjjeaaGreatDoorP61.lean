import Derived.Test.YtafognnoibjjeaaGreatDoorP10
set_option linter.unusedVariables false
set_option linter.unusedSimpArgs false
/- Marks of automata that are handed back. -/
namespace Go.Proofs.YtafognnoibjjeaaGreatDoor
open Go Go.Proofs.YtafognnoibjjeaaGreatDoor.Am
end Go.Proofs.YtafognnoibjjeaaGreatDoor

/- Steps in order: what is put among them; the sort of steps. -/
namespace Go.Proofs.YtafognnoibjjeaaGreatDoor
open Go Go.Proofs.YtafognnoibjjeaaGreatDoor.Am
theorem y3s{α:Type}{l:List α}{i:Nat}(d:α)(hi:i<l.length):l.getD i d=l[i]:=by
 rw[List.getD_eq_getElem?_getD,List.getElem?_eq_getElem hi];rfl
theorem z6e(s t:Stp):befB s t=ltS s t:=by
 obtain⟨r,h1,h2⟩:=y4n s t;have h3:=y3z s t;rw[h3] at h1;obtain rfl:=Option.some.inj h1;unfold ltS;cases hb:befB s t with
 |true=>
  rw[hb] at h2;have:=of_decide_eq_false h2;exact(decide_eq_true (by omega)).symm
 |false=>
  rw[hb] at h2;have:=of_decide_eq_true h2;exact(decide_eq_false (by omega)).symm
theorem z4c{a b c:Stp}(h:ltS a b=true)(k:ltS b c=true):ltS a c=true:=by
 have h:=of_decide_eq_true h;have k:=of_decide_eq_true k;have g1:=good_step.le a b c (by omega) (by omega);have g2:=good_step.eq a b c (by omega) (by omega);exact decide_eq_true (by omega)
theorem kv4{a b:Stp}(h:ltS a b=true):ltS b a=false:=by
 have h:=of_decide_eq_true h;have g:=good_step.anti a b;exact decide_eq_false (by omega)
theorem same_of{a b:Stp}(h:ltS a b=false)(k:ltS b a=false):y49 a b=0:=by
 have h:=of_decide_eq_false h;have k:=of_decide_eq_false k;have g:=good_step.anti a b;omega
theorem z1h{a b:Stp}(h:ltS a b=true):y49 a b≠0:=by
 have h:=of_decide_eq_true h;omega
/-- steps that stand in order, none twice -/
def Srt(l:List Stp):Prop:=l.Pairwise fun s t=>ltS s t=true
def ins(x:Stp):List Stp→List Stp
 |[]=>[x]
 |s::l=>if ltS s x=true then s::ins x l else if ltS x s=true then x::s::l else s::l
theorem z6f{x y:Stp}:∀{l:List Stp},y∈ins x l→y=x∨y∈l
 |[],h=>.inl (List.mem_singleton.1 h)
 |s::l,h=>by
  unfold ins at h;split at h
  ·rcases List.mem_cons.1 h with rfl|h
   ·exact .inr List.mem_cons_self
   ·exact(z6f h).imp id (List.mem_cons_of_mem _)
  ·split at h
   ·rcases List.mem_cons.1 h with rfl|h
    ·exact .inl rfl
    ·exact .inr h
   ·exact .inr h
theorem kv5{x:Stp}:∀{l:List Stp},Srt l→Srt (ins x l)
 |[],_=>List.pairwise_singleton _ _
 |s::l,h=>by
  obtain⟨h1,h2⟩:=List.pairwise_cons.1 h;unfold ins;split
  ·rename_i hs;refine List.pairwise_cons.2 ⟨fun y hy=> ?_,kv5 h2⟩
   rcases z6f hy with rfl|hy
   ·exact hs
   ·exact h1 y hy
  ·split
   ·rename_i hx;refine List.pairwise_cons.2 ⟨fun y hy=> ?_,h⟩
    rcases List.mem_cons.1 hy with rfl|hy
    ·exact hx
    ·exact z4c hx (h1 y hy)
   ·exact h
theorem z8j{x:Stp}:∀{l:List Stp},Srt l→(∃s∈l,y49 s x=0)→ins x l=l
 |[],_,⟨_,h,_⟩=>by cases h
 |s::l,h,⟨t,ht,he⟩=>by
  obtain⟨h1,h2⟩:=List.pairwise_cons.1 h;unfold ins
  rcases List.mem_cons.1 ht with rfl|ht
  ·have a1:¬ltS t x=true:=fun hh=>z1h hh he;have a2:¬ltS x t=true:=fun hh=>by
    have:=z1h hh;have g:=good_step.anti t x;omega
   rw[if_neg a1,if_neg a2]
  ·have hst:=h1 t ht;have hsx:ltS s x=true:=by
    have b1:=of_decide_eq_true hst;have g1:=good_step.le s t x (by omega) (by omega);have g2:=good_step.eq s t x (by omega) (by omega);exact decide_eq_true (by omega)
   rw[if_pos hsx,z8j h2 ⟨t,ht,he⟩]
theorem kv6{x:Stp}:∀{l:List Stp},(∀s∈l,y49 s x≠0)→(ins x l).Perm (x::l)
 |[],_=>List.Perm.refl _
 |s::l,h=>by
  unfold ins;split
  ·exact((kv6 fun t ht=>h t (List.mem_cons_of_mem _ ht)).cons s).trans (List.Perm.swap x s l)
  ·rename_i h1;split
   ·exact List.Perm.refl _
   ·rename_i h2;exact absurd (same_of (by simpa using h1) (by simpa using h2)) (h s List.mem_cons_self)
/-- the sort of steps of which none is there twice -/
theorem k13{l m:List Stp}(hs:Srt m)(hp:l.Perm m)(hl:l.length<4611686018427387904):z3e l=some m:=by
 have hex:∃ys,z3e l=some ys:=by
  unfold z3e;rw[if_pos hl];exact⟨_,rfl⟩
 obtain⟨ys,hy⟩:=hex;obtain⟨h1,h2,h3⟩:=zx1 hy;obtain⟨q1,_,q3⟩:=h2;have e1:(ys.toArray.extract 0 l.length).toList=ys:=by
  rw[←h1];simp
 have e2:(l.toArray.extract 0 l.length).toList=l:=by simp
 rw[e1,e2] at q3;have hperm:ys.Perm m:=q3.trans hp;have hd:m.Pairwise fun s t=>y49 s t≠0:=hs.imp fun h=>z1h h;have hd2:ys.Pairwise fun s t=>y49 s t≠0:=by
  refine(hperm.pairwise_iff ?_).2 hd;intro a b hab;have g:=good_step.anti a b;omega
 have hsr:ys.Pairwise fun s t=>ltS s t=true:=by
  rw[List.pairwise_iff_getElem] at hd2⊢;intro i j hi hj hij;have h4:=h3 i j (Nat.zero_le _) hij (by omega);have f1:ys.toArray[j]! =ys[j]:=by rw[getElem!_pos ys.toArray j (by simpa using hj)];rfl
  have f2:ys.toArray[i]! =ys[i]:=by rw[getElem!_pos ys.toArray i (by simpa using hi)];rfl
  rw[f1,f2] at h4;have h5:=hd2 i j hi hj hij;have h6:=of_decide_eq_false h4;have g:=good_step.anti ys[i] ys[j];exact decide_eq_true (by omega)
 have:ys=m:=by
  refine List.Perm.eq_of_pairwise (le:=fun s t=>ltS s t=true) ?_ hsr hs hperm;intro a b _ _ h5 h6;rw[kv4 h5] at h6;cases h6
 rw[hy,this]
end Go.Proofs.YtafognnoibjjeaaGreatDoor

/- The automaton of factors: both sides make the same. -/
namespace Go.Proofs.YtafognnoibjjeaaGreatDoor
open Go Go.Proofs.YtafognnoibjjeaaGreatDoor.Am
theorem z4d{R:Type}{x y z:Option R}{r:R}(hy:y=some r)(hx:x=some r∨(x≠some r∧z=some r)):zu9 x y z=some r:=by
 unfold zu9
 rcases hx with hx|⟨hx,hz⟩
 ·rw[if_pos (by rw[hx,hy]),hx]
 ·rw[if_neg (by rw[hy];exact hx),hz]
theorem z8k{x:List Int}(h:x.length≤1000000000):y1j x=some x:=by
 have hB:(if(((0+0)=(List.length ([]:List Unit)))∧(((0+(List.length x))*8)≤140737488355328)) then some (List.take (0+(List.length x)) (List.drop 0 ((List.drop 0 [])++x))) else none)=some x:=by
  rw[if_pos ⟨rfl,by omega⟩];simp
 unfold y1j;refine z4d hB ?_;cases x with
 |nil=>exact .inl rfl
 |cons a l=>exact .inr ⟨by simp,hB⟩
theorem z94{x:List Stp}(h:x.length≤1000000000):yx1 x=some x:=by
 have hB:(if(((0+0)=(List.length ([]:List Unit)))∧(((0+(List.length x))*40)≤140737488355328)) then some (List.take (0+(List.length x)) (List.drop 0 ((List.drop 0 [])++x))) else none)=some x:=by
  rw[if_pos ⟨rfl,by omega⟩];simp
 unfold yx1;refine z4d hB ?_;cases x with
 |nil=>exact .inl rfl
 |cons a l=>exact .inr ⟨by simp,hB⟩
/-! ### what stands in order -/
theorem z1i{n:Int}{l:List Int}(h:ys4 n l=true):∀(d i:Nat),i+d+1<l.length→l.getD i 0<l.getD (i+d+1) 0
 |0,i,hi=>by
  have:=List.all_eq_true.1 h (i+1) (List.mem_range.2 hi);unfold y70 at this;simp at this;exact this.2
 |d+1,i,hi=>by
  have h1:=z1i h d i (by omega);have:=List.all_eq_true.1 h (i+d+1+1) (List.mem_range.2 (by omega));unfold y70 at this;simp at this;have h2:=this.2;show l.getD i 0<l.getD (i+d+1+1) 0;rw[List.getD_eq_getElem?_getD,List.getD_eq_getElem?_getD] at h1⊢;omega
theorem z95{n:Int}{l:List Int}(h:ys4 n l=true):l.Pairwise fun a b=>decide (a≤b)=true:=by
 rw[List.pairwise_iff_getElem];intro i j hi hj hij;have:=z1i h (j-i-1) i (by omega);rw[show i+(j-i-1)+1=j by omega,y3s 0 hi,y3s 0 hj] at this;exact decide_eq_true (by omega)
theorem zy8{n:Int}{l:List Int}(h:ys4 n l=true)(hl:l.length≤1048576):yu8 l=some ((),(l,())):=by
 unfold yu8 sortI;rw[if_pos (by omega),List.mergeSort_of_pairwise (z95 h)];rfl
theorem z8l{n:Int}{l:List Stp}(h:y1z n l=true):∀(d i:Nat),i+d+1<l.length→ltS (l.getD i stp0) (l.getD (i+d+1) stp0)=true
 |0,i,hi=>by
  have:=List.all_eq_true.1 h (i+1) (List.mem_range.2 hi);unfold y6o at this;rw[Bool.and_eq_true] at this;have:=this.2;rw[decide_eq_false (by omega),Bool.false_or,z6e] at this;exact this
 |d+1,i,hi=>by
  have h1:=z8l h d i (by omega);have:=List.all_eq_true.1 h (i+d+1+1) (List.mem_range.2 (by omega));unfold y6o at this;rw[Bool.and_eq_true] at this;have:=this.2;rw[decide_eq_false (by omega),Bool.false_or,z6e] at this;exact z4c h1 this
theorem kv7{n:Int}{l:List Stp}(h:y1z n l=true):Srt l:=by
 unfold Srt;rw[List.pairwise_iff_getElem];intro i j hi hj hij;have:=z8l h (j-i-1) i (by omega)
 rwa [show i+(j-i-1)+1=j by omega,y3s stp0 hi,y3s stp0 hj] at this
/-- what the program makes of steps, wherever they stand -/
theorem made_is{x:Int}{S F:List Int}{l m:List Stp}(hS:ys4 x S=true)(hF:ys4 x F=true)(hs:Srt m)(hp:l.Perm m)(sS:S.length≤1048576)(sF:F.length≤1048576)(sl:l.length≤100000000):
  y9l x S F l=some (if yo7 (x,S,F,m)=true then((x,S,F,m),true) else(((0:Int),[],[],[]),false)):=by
 have hV:=yc4 (x,S,F,m) (show S.length≤_ by omega) (show F.length≤_ by omega);have hsort:y0f l=some ((),(m,())):=by
  unfold y0f;rw[k13 hs hp (by omega)];rfl
 have hlm:l.length=m.length:=hp.length_eq;unfold y9l;rw[z8k (by omega)];simp only[Option.bind_some];rw[z8k (by omega)];simp only[Option.bind_some];rw[z94 (by omega)];simp only[Option.bind_some,if_true];rw[zy8 hS sS];simp only[Option.bind_some];rw[zy8 hF sF];simp only[Option.bind_some];rw[hsort];simp only[Option.bind_some,hlm,List.drop_zero,List.take_length,hV];cases yo7 (x,S,F,m)<;>rfl
/-! ### the loops -/
theorem zh9{α:Type}(d:α)(l:List α)(p:α→Bool):(match(List.range l.length).find? fun i=>p (l.getD i d) with|some _=>true|none=>false)=l.any p:=by
 cases hf:(List.range l.length).find? fun i=>p (l.getD i d) with
 |none=>
  have:=List.find?_eq_none.1 hf;symm;rw[List.any_eq_false];intro x hx;obtain⟨i,hi,rfl⟩:=List.getElem_of_mem hx;have:=this i (List.mem_range.2 hi)
  rwa [y3s d hi] at this
 |some i=>
  have hi:=List.mem_range.1 (List.mem_of_find?_eq_some hf);have hp:=List.find?_some (p:=fun i=>p (l.getD i d)) hf;symm;rw[List.any_eq_true];exact⟨l.getD i d,by rw[y3s d hi];exact List.getElem_mem hi,hp⟩
theorem zr6{l:List Stp}(hl:l.length≤1000000000){φ:(Stp×Unit)→Option Bool}{p:Stp→Bool}(hφ:∀s∈l,φ (s,())=some (p s)):yl3 l φ=some (l.any p):=by
 have g:=yr0 (f:=ye8) (fun i=>(l,φ,(l.length:Int),(i:Int),())) l.length (fun i=>p (l.getD i stp0)) (fun i=>Sum.inl ((i:Int),())) (Sum.inr ())
  (fun i hi=>by
   have hm:l.getD i stp0∈l:=by rw[y3s stp0 hi];exact List.getElem_mem hi
   have hp:=hφ _ hm;simp only[ye8,lt_t hi,cond_true,if_pos (in_t hi),Int.toNat_natCast,hp,Option.bind_some,ya3 hi (show l.length≤9223372036854775807 by omega)];cases p (l.getD i stp0)<;>rfl)
  (by simp only[ye8,lt_f,cond_false])
 have g:ya2 ye8 (l,φ,(l.length:Int),(0:Int),())=_:=g;have ha:=zh9 stp0 l p;simp only[yl3,yv9,g,Option.bind_some];rw[←ha];cases(List.range l.length).find? fun i=>p (l.getD i stp0) with
 |none=>rfl
 |some i=>
  simp only[Option.bind_some];rw[decide_eq_true (by omega)]
theorem zg2{l:List Int}(hl:l.length≤1000000000)(q:Int):yk9 l q=some (l.any fun e=>q==e):=by
 have g:=yr0 (f:=yn9) (fun i=>(l,q,(l.length:Int),(i:Int),())) l.length (fun i=>q==l.getD i 0) (fun i=>Sum.inl ((i:Int),())) (Sum.inr ())
  (fun i hi=>by
   simp only[yn9,lt_t hi,cond_true,if_pos (in_t hi),Int.toNat_natCast,ya3 hi (show l.length≤9223372036854775807 by omega)];cases q==l.getD i 0<;>rfl)
  (by simp only[yn9,lt_f,cond_false])
 have g:ya2 yn9 (l,q,(l.length:Int),(0:Int),())=_:=g;have ha:=zh9 0 l fun e=>q==e;simp only[yk9,y6h,g,Option.bind_some];rw[←ha];cases(List.range l.length).find? fun i=>q==l.getD i 0 with
 |none=>rfl
 |some i=>
  simp only[Option.bind_some];rw[decide_eq_true (by omega)]
theorem kv8{l:List Int}(hl:l.length≤1000000000)(q:Int):y3a l q=some (l.any fun e=>q==e):=by
 have g:=yr0 (f:=yv4) (fun i=>(q,l,(l.length:Int),(i:Int),())) l.length (fun i=>q==l.getD i 0) (fun i=>Sum.inl (true,())) (Sum.inr ())
  (fun i hi=>by
   simp only[yv4,lt_t hi,cond_true,if_pos (in_t hi),Int.toNat_natCast,ya3 hi (show l.length≤9223372036854775807 by omega)];rw[BEq.comm (a:=l.getD i 0)];cases q==l.getD i 0<;>rfl)
  (by simp only[yv4,lt_f,cond_false])
 have g:ya2 yv4 (q,l,(l.length:Int),(0:Int),())=_:=g;have ha:=zh9 0 l fun e=>q==e;simp only[y3a,g,Option.bind_some];rw[←ha];cases(List.range l.length).find? fun i=>q==l.getD i 0<;>rfl
def zs(s:Stp):Stp:=(s.1,s.2.1,s.2.2.1,0)
theorem z96{l:List Stp}(hl:l.length≤1048576){φ:(Stp×Unit)→Option Stp}{z:Stp→Stp}(hφ:∀s,φ (s,())=some (z s)):y3m l φ=some (l.map z):=by
 obtain⟨r,g1,g2⟩:=yd9 (f:=yo1) l.length (fun i (o:List Stp)=>(φ,o,l,(l.length:Int),(i:Int),())) (fun i o=>o++[z (l.getD i stp0)]) (fun o=>(o,())) (fun i o=>o=(l.take i).map z)
  (fun i o hi ho=>by rw[ho,yg4 hi,List.map_append,y3s stp0 hi];rfl)
  (fun i o hi ho=>by
   have hol:o.length=i:=by rw[ho,List.length_map,List.length_take];omega
   have hp:=hφ (l.getD i stp0);have hp:φ (((l.getD i stp0).1,(l.getD i stp0).2.1,(l.getD i stp0).2.2.1,(l.getD i stp0).2.2.2),())=some ((z (l.getD i stp0)).1,(z (l.getD i stp0)).2.1,(z (l.getD i stp0)).2.2.1,(z (l.getD i stp0)).2.2.2):=hp;have e:List.take 1 (List.drop 0 [z (l.getD i stp0)])=[z (l.getD i stp0)]:=rfl;simp only[yo1,lt_t hi,cond_true,if_pos (in_t hi),Int.toNat_natCast,hp,Option.bind_some];show(if 0+o.length=o.length∧(o.length+(List.take 1 (List.drop 0 [z (l.getD i stp0)])).length)*40≤140737488355328 then some (Sum.inl (φ,List.take (o.length+(List.take 1 (List.drop 0 [z (l.getD i stp0)])).length) (List.drop 0 (List.drop 0 o++List.take 1 (List.drop 0 [z (l.getD i stp0)]))),l,(l.length:Int),IntKind.wrap .i64 ((i:Int)+1),())) else none)=_;rw[e,if_pos ⟨by omega,by show(o.length+1)*40≤_;omega⟩,ya3 hi (by omega)];simp only[List.drop_zero];rw[List.take_of_length_le (by simp)])
  (fun o ho=>by simp only[yo1,lt_f,cond_false,List.drop_zero,List.take_length])
  [] rfl
 have g1:ya2 yo1 (φ,[],l,(l.length:Int),(0:Int),())=some (r,()):=g1;simp only[y3m,List.take_zero,g1,Option.bind_some,List.drop_zero,List.take_length];rw[g2,List.take_length]
/-! ### what is put -/
def cand(s:Stp)(f:Int):Stp:=(f,s.2.1,s.2.2.1,1)
def addI(I:List Stp)(x:Stp):List Stp:=if(I.any fun s=>y49 s x==0)=true then I else I++[x]
def has1(S:List Int)(s:Stp):Bool:=S.any fun e=>s.1==e
def rowI(S:List Int)(s:Stp)(I:List Stp)(F:List Int):List Stp:=F.foldl (fun I f=>bif has1 S s then addI I (cand s f) else I) I
def rowP(S:List Int)(s:Stp)(I:List Stp)(F:List Int):List Stp:=F.foldl (fun I f=>bif has1 S s then ins (cand s f) I else I) I
def allI(S F:List Int)(I:List Stp)(l:List Stp):List Stp:=l.foldl (fun I s=>rowI S s I F) I
def allP(S F:List Int)(I:List Stp)(l:List Stp):List Stp:=l.foldl (fun I s=>rowP S s I F) I
structure IP (I P:List Stp):Prop where
 perm:I.Perm P
 srt:Srt P
 cost:∀s∈P,s.2.2.2≤1
theorem IP.put{I P:List Stp}(h:IP I P)(s:Stp)(f:Int):IP (addI I (cand s f)) (ins (cand s f) P):=by
 have hc:∀t∈ins (cand s f) P,t.2.2.2≤1:=by
  intro t ht
  rcases z6f ht with rfl|ht
  ·exact Int.le_refl _
  ·exact h.cost t ht
 unfold addI;cases ha:I.any fun t=>y49 t (cand s f)==0 with
 |true=>
  rw[if_pos rfl];obtain⟨t,ht,he⟩:=List.any_eq_true.1 ha;have he:y49 t (cand s f)=0:=by simpa using he
  rw[z8j h.srt ⟨t,h.perm.mem_iff.1 ht,he⟩];exact h
 |false=>
  rw[if_neg (by simp)];have hn:∀t∈P,y49 t (cand s f)≠0:=by
   intro t ht he;have:=List.any_eq_false.1 ha t (h.perm.mem_iff.2 ht);simp[he] at this
  refine⟨?_,kv5 h.srt,hc⟩;exact(List.perm_append_singleton _ _).trans ((h.perm.cons _).trans (kv6 hn).symm)
theorem IP.row{S:List Int}{s:Stp}:∀{F:List Int} {I P:List Stp},IP I P→IP (rowI S s I F) (rowP S s P F)
 |[],_,_,h=>h
 |f::F,I,P,h=>by
  show IP (rowI S s (bif has1 S s then addI I (cand s f) else I) F) (rowP S s (bif has1 S s then ins (cand s f) P else P) F);cases has1 S s with
  |true=>exact IP.row (h.put s f)
  |false=>exact IP.row h
theorem IP.all{S F:List Int}:∀{l:List Stp} {I P:List Stp},IP I P→IP (allI S F I l) (allP S F P l)
 |[],_,_,h=>h
 |s::l,I,P,h=>IP.all (l:=l) (h.row (S:=S) (s:=s) (F:=F))
theorem k14(I:List Stp)(x:Stp):(addI I x).length≤I.length+1:=by
 unfold addI;split<;>simp
theorem z4e{S:List Int}{s:Stp}{I:List Stp}{F:List Int}{k:Nat}(hk:k<F.length):rowI S s I (F.take (k+1))=bif has1 S s then addI (rowI S s I (F.take k)) (cand s (F.getD k 0)) else rowI S s I (F.take k):=by
 unfold rowI;rw[yg4 hk,List.foldl_append,y3s 0 hk];rfl
theorem z1j{S:List Int}{s:Stp}{I:List Stp}(F:List Int):∀k,k≤F.length→(rowI S s I (F.take k)).length≤I.length+k
 |0,_=>by simp[rowI]
 |k+1,hk=>by
  have ih:=z1j (S:=S) (s:=s) (I:=I) F k (by omega);rw[z4e (by omega)];cases has1 S s with
  |true=>
   have:=k14 (rowI S s I (F.take k)) (cand s (F.getD k 0));show(addI _ _).length≤_;omega
  |false=>
   show(rowI S s I (F.take k)).length≤_;omega
theorem k15{x:Int}{S F:List Int}{l:List Stp}(sS:S.length≤1048576)(sF:F.length≤1048576)(I:List Stp)(hI:I.length≤50000000)(s:Stp)(i:Nat):
  ya2 yd2 ((x,S,F,l,()),((0:Int),[],[],[],()),I,(s.1,s.2.1,s.2.2.1,s.2.2.2,()),l,((l.length:Nat):Int),(i:Int),F,((F.length:Nat):Int),(0:Int),())=some ((x,S,F,l,()),((0:Int),[],[],[],()),rowI S s I F,l,((l.length:Nat):Int),(i:Int),()):=by
 obtain⟨r,g1,g2⟩:=yd9 (f:=yd2) F.length (fun k (o:List Stp)=>((x,S,F,l,()),((0:Int),[],[],[],()),o,(s.1,s.2.1,s.2.2.1,s.2.2.2,()),l,((l.length:Nat):Int),(i:Int),F,((F.length:Nat):Int),(k:Int),()))
  (fun k o=>bif has1 S s then addI o (cand s (F.getD k 0)) else o) (fun o=>((x,S,F,l,()),((0:Int),[],[],[],()),o,l,((l.length:Nat):Int),(i:Int),())) (fun k o=>o=rowI S s I (F.take k))
  (fun k o hk ho=>by rw[ho,z4e hk])
  (fun k o hk ho=>by
   have hol:o.length≤I.length+k:=by rw[ho];exact z1j F k (by omega)
   have hc:=zg2 (l:=S) (by omega) s.1;have hc:yk9 S s.1=some (has1 S s):=hc;simp only[yd2,lt_t hk,cond_true,if_pos (in_t hk),Int.toNat_natCast,hc,Option.bind_some,ya3 hk (show F.length≤9223372036854775807 by omega)];cases has1 S s with
   |false=>simp only[cond_false,List.drop_zero,List.take_length,List.length_nil,List.take_zero]
   |true=>
    have hf:=zr6 (l:=o) (by omega) (φ:=fun y1=>yp6 y1.1 (F.getD k 0,s.2.1,s.2.2.1,(1:Int))) (p:=fun t=>y49 t (cand s (F.getD k 0))==0) (fun t _=>by
     obtain⟨t1,t2,t3,t4⟩:=t;simp only[yp6];rw[y3z];rfl)
    simp only[cond_true,List.drop_zero,List.take_length];rw[hf];simp only[Option.bind_some];unfold addI;cases o.any fun t=>y49 t (cand s (F.getD k 0))==0 with
    |true=>simp only[Bool.not_true,cond_false,if_true,List.length_nil,List.take_nil]
    |false=>
     have e:List.take 1 [((F.getD k 0,s.2.1,s.2.2.1,(1:Int)):Stp)]=[(F.getD k 0,s.2.1,s.2.2.1,(1:Int))]:=rfl;simp only[Bool.not_false,cond_true,e,Bool.false_eq_true,if_false,List.length_nil,List.take_nil];rw[if_pos ⟨by omega,by show(o.length+1)*40≤_;omega⟩];rw[List.take_of_length_le (by simp)];rfl)
  (fun o ho=>by simp only[yd2,lt_f,cond_false,List.drop_zero,List.take_length,List.length_nil,List.take_nil])
  I (by simp[rowI])
 have g1:ya2 yd2 ((x,S,F,l,()),((0:Int),[],[],[],()),I,(s.1,s.2.1,s.2.2.1,s.2.2.2,()),l,((l.length:Nat):Int),(i:Int),F,((F.length:Nat):Int),(0:Int),())=_:=g1;rw[g1,g2,List.take_length]
theorem z4f{S F:List Int}{I l:List Stp}{k:Nat}(hk:k<l.length):allI S F I (l.take (k+1))=rowI S (l.getD k stp0) (allI S F I (l.take k)) F:=by
 unfold allI;rw[yg4 hk,List.foldl_append,y3s stp0 hk];rfl
theorem z1k{S F:List Int}{I:List Stp}(l:List Stp):∀k,k≤l.length→(allI S F I (l.take k)).length≤I.length+k*F.length
 |0,_=>by simp[allI]
 |k+1,hk=>by
  have ih:=z1k (S:=S) (F:=F) (I:=I) l k (by omega);rw[z4f (by omega)];have:=z1j (S:=S) (s:=l.getD k stp0) (I:=allI S F I (l.take k)) F F.length (Nat.le_refl _);rw[List.take_length] at this;rw[Nat.add_mul,Nat.one_mul];omega
end Go.Proofs.YtafognnoibjjeaaGreatDoor

/- The automaton of factors, on: both sides make the same; its law. -/
namespace Go.Proofs.YtafognnoibjjeaaGreatDoor
open Go Go.Proofs.YtafognnoibjjeaaGreatDoor.Am
theorem k16{x:Int}{S F:List Int}{l:List Stp}(sS:S.length≤1048576)(sF:F.length≤1048576)(sl:l.length≤24)(I:List Stp)(hI:I.length≤24):
  ya2 ye3 ((x,S,F,l,()),((0:Int),[],[],[],()),I,l,((l.length:Nat):Int),(0:Int),())=some ((x,S,F,l,()),((0:Int),[],[],[],()),allI S F I l,()):=by
 obtain⟨r,g1,g2⟩:=yd9 (f:=ye3) l.length (fun i (o:List Stp)=>((x,S,F,l,()),((0:Int),[],[],[],()),o,l,((l.length:Nat):Int),(i:Int),()))
  (fun i o=>rowI S (l.getD i stp0) o F) (fun o=>((x,S,F,l,()),((0:Int),[],[],[],()),o,())) (fun i o=>o=allI S F I (l.take i))
  (fun i o hi ho=>by rw[ho,z4f hi])
  (fun i o hi ho=>by
   have hol:o.length≤I.length+i*F.length:=by rw[ho];exact z1k l i (by omega)
   have hm:i*F.length≤24*1048576:=Nat.mul_le_mul (by omega) sF;have hr:=k15 (x:=x) (S:=S) (F:=F) (l:=l) sS sF o (by omega) (l.getD i stp0) i;have hr:ya2 yd2 ((x,S,F,l,()),((0:Int),[],[],[],()),o,((List.getD l i ((0:Int),(⟨Array.empty⟩:ByteArray),(0:Int),(0:Int))).1,(List.getD l i ((0:Int),(⟨Array.empty⟩:ByteArray),(0:Int),(0:Int))).2.1,(List.getD l i ((0:Int),(⟨Array.empty⟩:ByteArray),(0:Int),(0:Int))).2.2.1,(List.getD l i ((0:Int),(⟨Array.empty⟩:ByteArray),(0:Int),(0:Int))).2.2.2,()),l,((l.length:Nat):Int),(i:Int),F,((F.length:Nat):Int),(0:Int),())=_:=hr;simp only[ye3,lt_t hi,cond_true,if_pos (in_t hi),Int.toNat_natCast,List.drop_zero,List.take_length,List.length_nil,List.take_nil];rw[hr];simp only[Option.bind_some,List.drop_zero,List.take_length,List.length_nil,List.take_nil,ya3 hi (show l.length≤9223372036854775807 by omega)])
  (fun o ho=>by simp only[ye3,lt_f,cond_false,List.drop_zero,List.take_length,List.length_nil,List.take_nil])
  I (by simp[allI])
 have g1:ya2 ye3 ((x,S,F,l,()),((0:Int),[],[],[],()),I,l,((l.length:Nat):Int),(0:Int),())=_:=g1;rw[g1,g2,List.take_length]
/-! ### costs put to nothing -/
theorem kv9{n:Int}{s:Stp}(h:y5r n s=true):y5r n (zs s)=true:=by
 unfold y5r at h⊢;simp only[Bool.and_eq_true] at h⊢;exact⟨h.1,h.2.1,rfl,h.2.2.2⟩
theorem z4g{l:List Stp}{i:Nat}(hi:i<l.length):(l.map zs).getD i stp0=zs (l.getD i stp0):=by
 rw[y3s stp0 (show i<(l.map zs).length by simpa using hi),y3s stp0 hi];simp
theorem zy9{n:Int}{l:List Stp}(h:y1z n l=true):y1z n (l.map zs)=true:=by
 unfold y1z at h⊢;rw[List.all_eq_true] at h⊢;intro i hi;rw[List.length_map] at hi;have hi':=List.mem_range.1 hi;have h1:=h i hi;unfold y6o at h1⊢;rw[Bool.and_eq_true] at h1⊢;rw[z4g hi',z4g (show i-1<l.length by omega)];refine⟨kv9 h1.1, ?_⟩;have h2:=h1.2;rw[z6e] at h2⊢;exact h2
theorem y8i{x:Int}{S F:List Int}{l:List Stp}(h:yo7 (x,S,F,l)=true):ys4 x S=true∧ys4 x F=true∧l.length≤24∧y1z x l=true∧yo7 (x,S,F,l.map zs)=true:=by
 unfold yo7 at h⊢;simp only[Bool.and_eq_true,decide_eq_true_eq] at h⊢;obtain⟨h1,h2,h3,h4,h5⟩:=h;exact⟨h2,h3,h4,h5,h1,h2,h3,by simpa using h4,zy9 h5⟩
end Go.Proofs.YtafognnoibjjeaaGreatDoor
