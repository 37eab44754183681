/- Operations that may change places: regions that draw their order; what a printed text leans on; what a claim hands in. -/
import Derived.Test.YtafognnoibjjeaaGreatDoorAm2
import Derived.Carry
import Derived.ChangeArms
import Derived.Orders
set_option linter.unusedVariables false
set_option linter.unusedSimpArgs false
/- What an operation does does not hang on what follows it. -/
namespace Go.Proofs.YtafognnoibjjeaaGreatDoor.Am
open Go Go.RowKit
section
variable {α R : Type} {E : Env} {S : St}
theorem yt5(b:Bool)(x y:Option α)(K:α→Option R):(ifT b x y).bind K=ifT b (x.bind K) (y.bind K):=by cases b<;>rfl
theorem zl0(a b:Nat)(x y:Option α)(K:α→Option R):(ifEq a b x y).bind K=ifEq a b (x.bind K) (y.bind K):=yt5 _ _ _ _
theorem y8y{p:Prop}[Decidable p](x y:Option α)(K:α→Option R):(if p then x else y).bind K=if p then x.bind K else y.bind K:=by split<;>rfl
theorem z2o(b:Bool)(x y:Option α)(K:α→Option R):(bif b then x else y).bind K=bif b then x.bind K else y.bind K:=by cases b<;>rfl
theorem z86(op:BinOp)(k:IntKind)(a b:Int)(F:AVal→Option α)(K:α→Option R):(zu6 op k a b F).bind K=zu6 op k a b fun x=>(F x).bind K:=by
 cases op<;>simp only[zu6,y8y,Option.bind_none]
theorem z87(op:BinOp)(a b:ByteArray)(F:AVal→Option α)(K:α→Option R):(zu7 op a b F).bind K=zu7 op a b fun x=>(F x).bind K:=by
 cases op<;>simp only[zu7,y8y,Option.bind_none]
theorem z88(op:BinOp)(x y:AVal)(F:AVal→Option α)(K:α→Option R):(zc9 op x y F).bind K=zc9 op x y fun x=>(F x).bind K:=by
 unfold zc9;split<;>simp only[yt5,z86,z87,Option.bind_none]
 split<;>simp only[Option.bind_none]
theorem z89(fs:List (Nat×Kd))(op:BinOp)(cs ds:List AVal)(F:AVal→Option α)(K:α→Option R):(z1s fs op cs ds F).bind K=z1s fs op cs ds fun x=>(F x).bind K:=by
 unfold z1s;split<;>simp only[Option.bind_none]
 split<;>simp only[Option.bind_none]
theorem z9a(op:BinOp)(x:AVal)(F:AVal→Option α)(K:α→Option R):(z1t op x F).bind K=z1t op x fun x=>(F x).bind K:=by
 unfold z1t;split<;>simp only[Option.bind_none]
 split<;>simp only[Option.bind_none]
theorem z9b(n:Nat)(l h:Option AVal)(F:Nat→Nat→Option α)(K:α→Option R):(y5o n l h F).bind K=y5o n l h fun x y=>(F x y).bind K:=by
 unfold y5o;split<;>simp only[y8y,Option.bind_none]
theorem z0s(op:Op)(ρ:Operand→AVal)(F:AVal→Option α)(K:α→Option R):(vact E op ρ F).bind K=vact E op ρ fun x=>(F x).bind K:=by
 unfold vact;split<;>(repeat' (first|rfl|(simp only[yt5,zl0,y8y,z2o,Option.bind_none,z88,z89,z9a,z9b];done)|split))
theorem new_nat(d:Option Nat)(r:Row)(f:Nat→AVal)(F:St→Option α)(K:α→Option R):(S.new d r f F).bind K=S.new d r f fun x=>(F x).bind K:=by
 unfold St.new;split<;>simp only[yt5,Option.bind_none]
theorem z43(d:Option Nat)(own:Bool)(ks:List Kd)(x:yu2 ks)(F:St→Option α)(K:α→Option R):(S.got d own ks x F).bind K=S.got d own ks x fun x=>(F x).bind K:=by
 unfold St.got;rw[yt5];split<;>simp only[yt5,Option.bind_none]
theorem ke6(d:Option Nat)(a:AVal)(vs:List AVal)(F:St→Option α)(K:α→Option R):(zz7 d S a vs F).bind K=zz7 d S a vs fun x=>(F x).bind K:=by
 unfold zz7;split<;>simp only[yt5,Option.bind_none]
 split<;>simp only[Option.bind_assoc,Option.bind_none]
theorem y64(o:Oper)(F:St→Option α)(K:α→Option R):(step E o S F).bind K=step E o S fun x=>(F x).bind K:=by
 unfold step;split<;>(repeat' (first|rfl|(simp only[yt5,zl0,y8y,z2o,Option.bind_none,z0s,new_nat,z43,ke6,Option.bind_assoc];done)|split|(dsimp only;split)))
end
end Go.Proofs.YtafognnoibjjeaaGreatDoor.Am
/- An operation does not look at slots that are none of its operands. -/
namespace Go.Proofs.YtafognnoibjjeaaGreatDoor.Am
open Go Go.RowKit
section
variable {α R : Type} {E : Env} {S : St}
theorem z0t{β:Type}(f:α→β):∀l:List α,mapA f l=l.map f
 |[]=>rfl
 |x::l=>by simp only[mapA,List.map_cons,z0t f l]
theorem yp0{β:Type}{f g:α→β}{l:List α}(h:∀x∈l,f x=g x):mapA f l=mapA g l:=by
 rw[z0t,z0t];exact List.map_congr_left h
theorem zd6{β:Type}{f g:α→β}{x:Option α}(h:∀y,x=some y→f y=g y):x.map f=x.map g:=by
 cases x with
 |none=>rfl
 |some y=>exact congrArg some (h y rfl)
theorem zv9{op:Op}{ρ ρ':Operand→AVal}{K:AVal→Option R}(h:∀x∈op.operands,ρ x=ρ' x):vact E op ρ K=vact E op ρ' K:=by
 cases op<;>simp only[Op.operands,Call.operands] at h
 case move x=>simp only[vact,h x (by simp)]
 case assign x=>simp only[vact,h x (by simp)]
 case build t ps=>
  have e:mapA (fun p:Nat×Operand=>(p.1,ρ p.2)) ps.toList=mapA (fun p=>(p.1,ρ' p.2)) ps.toList:=yp0 fun p hp=>by
   rw[h p.2 (by simp only[List.mem_toArray,List.mem_map];exact⟨p,hp,rfl⟩)]
  simp only[vact,e]
 case pick c a b=>simp only[vact,h c (by simp),h a (by simp),h b (by simp)]
 case binOp op t x y u=>simp only[vact,h x (by simp),h y (by simp)]
 case unOp op t x=>simp only[vact,h x (by simp)]
 case convert s d x=>simp only[vact,h x (by simp)]
 case extract x i=>simp only[vact,h x (by simp)]
 case nilCheck x=>simp only[vact,h x (by simp)]
 case fieldAddr s x f=>simp only[vact,h x (by simp)]
 case field s x f=>simp only[vact,h x (by simp)]
 case indexAddr t x i=>simp only[vact,h x (by simp),h i (by simp)]
 case index t x i=>simp only[vact,h x (by simp),h i (by simp)]
 case slice t x l hh m=>
  cases m with
  |some m=>
   cases l with
   |some l=>rfl
   |none=>
    cases hh with
    |none=>rfl
    |some hh=>simp only[vact,h x (by simp),h hh (by simp),h m (by simp)]
  |none=>
   have e1:l.map ρ=l.map ρ':=zd6 fun y hy=>h y (by simp[hy]);have e2:hh.map ρ=hh.map ρ':=zd6 fun y hy=>h y (by simp[hy]);simp only[vact,h x (by simp),e1,e2]
 case call c=>
  obtain⟨callee,args,tys⟩:=c;cases callee with
  |value f=>rfl
  |invoke r m=>rfl
  |builtin b=>
   have h':∀x∈args.toList,ρ x=ρ' x:=fun x hx=>h x (by simpa using hx);generalize hl:args.toList=l at h';cases b
   case len=>
    simp only[vact,hl];generalize tys.toList=ts
    match l,ts,h' with
    |[],_,_=>rfl
    |[x],[],_=>rfl
    |[x],t::ts,h'=>simp only[h' x (by simp)]
    |_::_::_,_,_=>rfl
   case min=>
    simp only[vact,hl]
    match l,h' with
    |[],_=>rfl
    |[x],_=>rfl
    |[x,y],h'=>simp only[h' x (by simp),h' y (by simp)]
    |[x,y,z],h'=>simp only[h' x (by simp),h' y (by simp),h' z (by simp)]
    |_::_::_::_::_,_=>rfl
   case max=>
    simp only[vact,hl]
    match l,h' with
    |[],_=>rfl
    |[x],_=>rfl
    |[x,y],h'=>simp only[h' x (by simp),h' y (by simp)]
    |[x,y,z],h'=>simp only[h' x (by simp),h' y (by simp),h' z (by simp)]
    |_::_::_::_::_,_=>rfl
   all_goals rfl
 all_goals rfl
theorem ke7{l:List α}:∀{i j:Nat} {x y:α},i≠j→setA (setA l i x) j y=setA (setA l j y) i x:=by
 induction l with
 |nil=>intro i j x y _;rfl
 |cons z l ih=>
  intro i j x y h;cases i with
  |zero=>cases j with
   |zero=>exact absurd rfl h
   |succ j=>rfl
  |succ i=>cases j with
   |zero=>rfl
   |succ j=>simp only[setA];rw[ih (by omega)]
theorem zd7{d:α}{l:List α}:∀{i j:Nat} {x:α},i≠j→getA d (setA l i x) j=getA d l j:=by
 induction l with
 |nil=>intro i j x _;rfl
 |cons z l ih=>
  intro i j x h;cases i with
  |zero=>cases j with
   |zero=>exact absurd rfl h
   |succ j=>rfl
  |succ i=>cases j with
   |zero=>rfl
   |succ j=>simp only[setA,getA];exact ih (by omega)
/-- a slot that is put, and another one -/
theorem y3y(S:St){d:Nat}{y:AVal}{e:Option Nat}{v:AVal}(h:e≠some d):(S.put (some d) y).put e v=(S.put e v).put (some d) y:=by
 cases e with
 |none=>rfl
 |some e=>
  have hne:d≠e:=fun e'=>h (by rw[e']);simp only[St.put];rw[ke7 hne]
theorem y8z(S:St){d:Nat}{y:AVal}{x:Operand}(h:x≠ .tmp d):(S.put (some d) y).eval x=S.eval x:=by
 cases x with
 |tmp p=>
  have hne:d≠p:=fun e=>h (by rw[e]);simp only[St.eval,St.put];exact zd7 hne
 |const c=>rfl
 |func f=>rfl
 |«global» g=>rfl
theorem zl1{d:Nat}{y:AVal}{e:Option Nat}{r:Row}{f:Nat→AVal}{F:St→Option R}(h:e≠some d):(S.put (some d) y).new e r f F=S.new e r f fun S'=>F (S'.put (some d) y):=by
 unfold St.new;cases e with
 |none=>rfl
 |some e=>
  simp only
  have:((S.put (some d) y).setH (e*16) r).put (some e) (f (e*16))=((S.setH (e*16) r).put (some e) (f (e*16))).put (some d) y:=by
   rw[←y3y _ h];rfl
  rw[this];rfl
theorem z2p{d:Option Nat}{y:AVal}:∀{l:List (Nat×Row)} {S:St},(S.put d y).setHs l=(S.setHs l).put d y
 |[],_=>rfl
 |x::l,S=>by
  simp only[St.setHs];rw[←z2p];cases d<;>rfl
theorem z44{d:Nat}{y:AVal}{e:Option Nat}{own:Bool}{ks:List Kd}{x:yu2 ks}{F:St→Option R}(h:e≠some d):(S.put (some d) y).got e own ks x F=S.got e own ks x fun S'=>F (S'.put (some d) y):=by
 unfold St.got;cases own with
 |false=>simp only[ifT];rw[y3y _ h]
 |true=>
  simp only[ifT];cases e with
  |none=>rfl
  |some e=>
   simp only[yc2];rw[z2p,y3y _ h]
end
end Go.Proofs.YtafognnoibjjeaaGreatDoor.Am
/- An operation beside a slot that is put. -/
namespace Go.Proofs.YtafognnoibjjeaaGreatDoor.Am
open Go Go.RowKit
section
variable {α R : Type} {E : Env} {S : St}
theorem y0b{d:Option Nat}{y:AVal}{t:Nat}{r:Row}:(S.put d y).setH t r=(S.setH t r).put d y:=by cases d<;>rfl
theorem zl2{d:Nat}{y:AVal}{H:Nat→Option Row}:({S.put (some d) y with heap:=H}:St)=({S with heap:=H}:St).put (some d) y:=rfl
theorem z7e{o:Oper}{d:Nat}{y:AVal}{F:St→Option R}(hd:o.dst≠some d)(hop:∀x∈o.op.operands,x≠ .tmp d):
  step E o (S.put (some d) y) F=step E o S fun S'=>F (S'.put (some d) y):=by
 have hev:∀x∈o.op.operands,(S.put (some d) y).eval x=S.eval x:=fun x hx=>y8z S (hop x hx);have hheap:(S.put (some d) y).heap=S.heap:=rfl;have hpp:∀(T:St) (v:AVal),(T.put (some d) y).put o.dst v=(T.put o.dst v).put (some d) y:=fun T v=>y3y T hd;have hvact:vact E o.op (S.put (some d) y).eval (fun x=>F ((S.put (some d) y).put o.dst x))=vact E o.op S.eval fun x=>F ((S.put o.dst x).put (some d) y):=by
  rw[zv9 hev];simp only[hpp]
 obtain⟨dst,op,type,pos,after,guard⟩:=o;simp only at hd hev hpp hvact;cases op
 case box t x=>
  have h1:=hev x (by simp[Op.operands]);simp only[step,h1,zl1 hd]
 case alloc t=>simp only[step,zl1 hd]
 case load t x=>
  have h1:=hev x (by simp[Op.operands]);simp only[step,h1,hheap,hpp]
 case store t x z=>
  have h1:=hev x (by simp[Op.operands]);have h2:=hev z (by simp[Op.operands]);simp only[step,h1,h2,hheap,y0b,zl2,hpp]
 case makeSlice t l c=>
  have h1:=hev l (by simp[Op.operands]);have h2:=hev c (by simp[Op.operands]);simp only[step,h1,h2,zl1 hd]
 case buildSlice t n ps=>
  have h1:mapA (fun p:Nat×Operand=>(S.put (some d) y).eval p.2) ps.toList=mapA (fun p=>S.eval p.2) ps.toList:=yp0 fun p hp=>hev p.2 (by
   simp only[Op.operands,List.mem_toArray,List.mem_map];exact⟨p,hp,rfl⟩)
  simp only[step,h1,hheap,zl2,zl1 hd]
 case call c=>
  obtain⟨callee,args,tys⟩:=c;have hargs:∀x∈args.toList,(S.put (some d) y).eval x=S.eval x:=fun x hx=>hev x (by simp only[Op.operands,Call.operands,Array.mem_append];exact .inr (by simpa using hx));cases callee with
  |value f=>
   cases f with
   |func g=>
    have h1:mapA (S.put (some d) y).eval args.toList=mapA S.eval args.toList:=yp0 hargs;simp only[step,h1,hheap,zl2,z44 hd]
   |tmp p=>
    have h1:mapA (S.put (some d) y).eval args.toList=mapA S.eval args.toList:=yp0 hargs;have h2:=hev (.tmp p) (by simp only[Op.operands,Call.operands,Array.mem_append];exact .inl (by simp));simp only[step,h1,h2,zz7,hheap,hpp]
   |const c=>exact hvact
   |«global» g=>exact hvact
  |invoke r m=>exact hvact
  |builtin b=>
   cases b
   case append=>
    simp only[step];generalize args.toList=l at hargs;generalize tys.toList=ts
    match l,ts,hargs with
    |[],_,_=>rfl
    |[x],_,_=>rfl
    |[s,x],[],_=>rfl
    |[s,x],[t],_=>rfl
    |[s,x],t::t2::ts,hargs=>
     have h1:=hargs s (by simp);have h2:=hargs x (by simp);simp only[h1,h2,hheap,y0b,zl1 hd]
    |_::_::_::_,_,_=>rfl
   case copy=>
    simp only[step];generalize args.toList=l at hargs;generalize tys.toList=ts
    match l,ts,hargs with
    |[],_,_=>rfl
    |[x],_,_=>rfl
    |[s,x],[],_=>rfl
    |[s,x],[t],_=>rfl
    |[s,x],t::t2::ts,hargs=>
     have h1:=hargs s (by simp);have h2:=hargs x (by simp);simp only[h1,h2,hheap,y0b,hpp]
    |_::_::_::_,_,_=>rfl
   all_goals exact hvact
 all_goals exact hvact
end
end Go.Proofs.YtafognnoibjjeaaGreatDoor.Am
/- What an operation leaves as it was. -/
namespace Go.Proofs.YtafognnoibjjeaaGreatDoor.Am
open Go Go.RowKit
section
variable {α R : Type} {E : Env} {S S' : St}
def Eff(S:St)(d:Option Nat)(S':St):Prop:=(∃v,S'.slots=(S.put d v).slots)∧∀t,S.heap t≠none→S'.heap t≠none
theorem z9c{H:Nat→Option Row}{t p:Nat}(h:H p≠none):Am.sealR H t p≠none:=by
 rcases y2m H t with e|⟨k,xs,e1,e2⟩
 ·rw[e];exact h
 ·rw[e2];show ifEq p t _ _≠none
  by_cases e:p=t
  ·rw[yb1 e];simp
  ·rw[ya4 e];exact h
theorem y65{p:Nat}:∀{l:List AVal} {H:Nat→Option Row},H p≠none→Am.sealL H l p≠none
 |[],_,h=>h
 |x::l,H,h=>by
  unfold Am.sealL;split
  ·exact y65 (z9c h)
  ·exact y65 h
theorem y45{p:Nat}:∀{l:List AVal} {H:Nat→Option Row},H p≠none→Am.sealVs H l p≠none
 |[],_,h=>h
 |x::l,H,h=>by
  unfold Am.sealVs;exact y45 (y65 h)
theorem y2v{t p:Nat}{r:Row}(h:S.heap p≠none):(S.setH t r).heap p≠none:=by
 show ifEq p t _ _≠none
 by_cases e:p=t
 ·rw[yb1 e];simp
 ·rw[ya4 e];exact h
theorem za5{p:Nat}:∀{l:List (Nat×Row)} {S:St},S.heap p≠none→(S.setHs l).heap p≠none
 |[],_,h=>h
 |x::l,S,h=>by simp only[St.setHs];exact za5 (y2v h)
theorem zl3{S T:St}{d:Option Nat}{v:AVal}(h:T.slots=S.slots):(T.put d v).slots=(S.put d v).slots:=by
 cases d with
 |none=>exact h
 |some d=>simp only[St.put,h]
theorem Eff.put{d:Option Nat}{T:St}{v:AVal}(hs:T.slots=S.slots)(hm:∀t,S.heap t≠none→T.heap t≠none):Eff S d (T.put d v):=
 ⟨⟨v,zl3 hs⟩,fun t ht=>by rw[yc2];exact hm t ht⟩
theorem z2q{op:Op}{ρ:Operand→AVal}{K:AVal→Option R}{r:R}(h:vact E op ρ K=some r):∃x,vact E op ρ some=some x∧K x=some r:=by
 have:=z0s (E:=E) op ρ some K;simp only[Option.bind_some] at this;rw[←this] at h;exact Option.bind_eq_some_iff.1 h
theorem ke8{o:Oper}{K:St→Option R}{r:R}(h:step E o S K=some r):∃S',step E o S some=some S'∧K S'=some r:=by
 have:=y64 (E:=E) (S:=S) o some K;simp only[Option.bind_some] at this;rw[←this] at h;exact Option.bind_eq_some_iff.1 h
theorem za6{T:St}{d:Option Nat}{rw_:Row}{f:Nat→AVal}(hs:T.slots=S.slots)(hm:∀t,S.heap t≠none→T.heap t≠none)(h:T.new d rw_ f some=some S'):Eff S d S':=by
 obtain⟨d',rfl,⟨h1,_⟩,h2⟩:=St.new_spec h;obtain rfl:=Option.some.inj h2;exact Eff.put (T:=T.setH (d'*16) rw_) hs fun t ht=>y2v (hm t ht)
theorem z2r{d:Option Nat}{a:AVal}{vs:List AVal}(h:zz7 d S a vs some=some S'):∃x,S'=S.put d x:=by
 unfold zz7 at h;split at h
 ·obtain⟨_,h⟩:=ya1 h;split at h
  ·obtain⟨y,_,h⟩:=Option.bind_eq_some_iff.1 h;exact⟨_,(Option.some.inj h).symm⟩
  ·cases h
 ·cases h
theorem kz8{o:Oper}(h:step E o S some=some S'):Eff S o.dst S':=by
 unfold step at h;split at h
 ·obtain⟨_,h⟩:=ya1 h;exact za6 rfl (fun _ h=>h) h
 ·split at h
  ·exact za6 rfl (fun _ h=>h) h
  ·cases h
 ·split at h
  ·split at h
   ·obtain rfl:=Option.some.inj h;exact Eff.put rfl fun _ h=>h
   ·cases h
  ·split at h
   ·split at h
    ·split at h
     ·obtain⟨_,h⟩:=ya1 h;obtain rfl:=Option.some.inj h;exact Eff.put rfl fun _ h=>h
     ·cases h
     ·split at h
      ·obtain rfl:=Option.some.inj h;exact Eff.put rfl fun _ h=>h
      ·cases h
    ·cases h
   ·split at h
    ·split at h
     ·obtain rfl:=Option.some.inj h;exact Eff.put rfl fun _ h=>h
     ·cases h
    ·cases h
   ·split at h
    ·obtain⟨_,h⟩:=ya1 h;split at h
     ·obtain rfl:=Option.some.inj h;exact Eff.put rfl fun _ h=>h
     ·cases h
    ·cases h
   ·split at h
    ·obtain rfl:=Option.some.inj h;exact Eff.put rfl fun _ h=>h
    ·cases h
   ·cases h
 ·split at h
  ·cases h
  ·split at h
   ·split at h
    ·obtain⟨_,h⟩:=ya1 h;obtain⟨_,h⟩:=ya1 h;obtain⟨_,h⟩:=y2p h;obtain⟨_,h⟩:=ya1 h;obtain rfl:=Option.some.inj h;exact Eff.put (T:=S.setH _ _) rfl fun _ h=>y2v h
    ·cases h
   ·split at h
    ·split at h
     ·obtain rfl:=Option.some.inj h;exact Eff.put (T:=({S with heap:=Am.sealV S.heap (S.eval _)}:St).setH _ _) rfl fun _ h=>y2v (S:={S with heap:=Am.sealV S.heap (S.eval _)}) (y65 h)
     ·cases h
    ·cases h
   ·split at h
    ·obtain⟨_,h⟩:=ya1 h;split at h
     ·split at h
      ·obtain rfl:=Option.some.inj h;exact Eff.put (T:=S.setH _ _) rfl fun _ h=>y2v h
      ·cases h
     ·cases h
    ·cases h
   ·cases h
 ·split at h
  ·obtain⟨_,h⟩:=ya1 h;split at h
   ·exact za6 rfl (fun _ h=>h) h
   ·cases h
  ·cases h
 ·split at h
  ·dsimp only at h;split at h
   ·obtain⟨_,h⟩:=ya1 h;obtain⟨_,h⟩:=ya1 h;obtain⟨_,h⟩:=ya1 h;obtain⟨_,h⟩:=y2p h;exact za6 (T:={S with heap:=Am.sealVs S.heap _}) rfl (fun _ h=>y45 h) h
   ·cases h
  ·cases h
 ·split at h
  ·split at h
   ·cases h
   ·obtain⟨_,h⟩:=ya1 h;split at h
    ·split at h
     ·exact za6 rfl (fun _ h=>h) h
     ·cases h
    ·split at h
     ·split at h
      ·split at h
       ·exact za6 (T:=S.setH _ .dead) rfl (fun _ h=>y2v h) h
       ·cases h
      ·cases h
     ·cases h
    ·cases h
  ·cases h
 ·split at h
  ·split at h
   ·cases h
   ·obtain⟨_,h⟩:=ya1 h;split at h
    ·split at h
     ·split at h
      ·obtain rfl:=Option.some.inj h;exact Eff.put (T:=S.setH _ _) rfl fun _ h=>y2v h
      ·cases h
     ·cases h
    ·cases h
  ·cases h
 ·split at h
  ·cases h
  ·rename_i f hf;dsimp only at h;generalize hH:ifT (ifT f.own (y73 f.outs) false) S.heap (Am.sealVs S.heap (mapA S.eval _))=H at h;have hm:∀t,S.heap t≠none→H t≠none:=by
    intro t ht;rw[←hH];cases ifT f.own (y73 f.outs) false with
    |true=>exact ht
    |false=>exact y45 ht
   split at h
   ·cases h
   ·obtain⟨y,hy,h⟩:=Option.bind_eq_some_iff.1 h;obtain⟨h1,h2⟩:=y07 h;obtain rfl:=Option.some.inj h1;unfold St.gotS;split
    ·exact Eff.put (T:=({S with heap:=H}:St).setHs _) (y2r _ _) fun t ht=>za5 (S:={S with heap:=H}) (hm t ht)
    ·rename_i hd;exact⟨⟨.undef,by rw[hd];rfl⟩,hm⟩
    ·exact Eff.put (T:={S with heap:=H}) rfl hm
 ·obtain⟨x,rfl⟩:=z2r h;exact Eff.put rfl fun _ h=>h
 ·obtain⟨x,_,h⟩:=z2q h;obtain rfl:=Option.some.inj h;exact Eff.put rfl fun _ h=>h
end
end Go.Proofs.YtafognnoibjjeaaGreatDoor.Am
/- One operation with its guard; two that may change places. -/
namespace Go.Proofs.YtafognnoibjjeaaGreatDoor.Am
open Go Go.RowKit
section
variable {α R : Type} {E : Env} {S S' : St} {ops : Array Oper}
def gd(ops:List Oper)(o:Oper)(S:St):Option Bool:=
 match o.guard with
 |none=>some true
 |some jw=>match z1v ops jw.1 with
  |some d=>match getA .undef S.slots d with
   |.v .bool b=>some (eqB b jw.2)
   |.tup []=>some false
   |_=>none
  |none=>none
theorem reput{d:Nat}{y:AVal}(h:getA .undef S.slots d=y):S.put (some d) y=S:=by
 subst h;unfold St.put;simp only[zk4]
theorem y66{l:List Oper}{o:Oper}{yes no:St→Option R}:yy7 l o S yes no=(gd l o S).bind fun t=>bif t then yes S else no S:=by
 unfold yy7 gd;cases o.guard with
 |none=>rfl
 |some jw=>
  obtain⟨j,want⟩:=jw;simp only
  cases z1v l j with
  |none=>rfl
  |some d=>
   simp only
   split
   ·rename_i b hb;cases b with
    |true=>
     rw[show S.put (some d) (.v .bool true)=S from reput hb];simp only[hb];cases want<;>rfl
    |false=>
     rw[show S.put (some d) (.v .bool false)=S from reput hb];simp only[hb];cases want<;>rfl
   ·rename_i hb;simp only[hb];rfl
   ·rename_i h1 h2;split
    ·rename_i b hb;exact(h1 b hb).elim
    ·rename_i hb;exact(h2 hb).elim
    ·rfl
def opS(E:Env)(ops:List Oper)(o:Oper)(S:St):Option St:=(gd ops o S).bind fun t=>bif t then step E o S some else some (S.put o.dst (.tup []))
theorem zw0{l:List Oper}{o:Oper}{os:List Oper}{K:St→Option R}(hms:yk6 E o.dst o.op=true):y10 E l (o::os) S K=(opS E l o S).bind fun S'=>y10 E l os S' K:=by
 have hst:∀{R:Type} (S:St) (K:St→Option R),y2k E o S K=step E o S K:=fun S K=>y43 hms S K;simp only[y10,hst];rw[y66];unfold opS;rw[Option.bind_assoc];congr 1;funext t;cases t with
 |true=>
  simp only[cond_true];rw[y64];simp only[Option.bind_some]
 |false=>rfl
theorem y1r{l:List Oper}{o:Oper}(h:opS E l o S=some S'):Eff S o.dst S':=by
 unfold opS at h;obtain⟨t,_,h⟩:=Option.bind_eq_some_iff.1 h;cases t with
 |true=>exact kz8 h
 |false=>
  obtain rfl:=Option.some.inj h;exact Eff.put rfl fun _ h=>h
/-- the slots that an operation looks at -/
def SameAt(ops:Array Oper)(o:Oper)(S T:St):Prop:=∀p∈o.looksAt ops,getA .undef T.slots p=getA .undef S.slots p
theorem yw5{o:Oper}{p:Nat}(h:Operand.tmp p∈o.op.operands):p∈o.looksAt ops:=
 List.mem_append_left _ (List.mem_filterMap.2 ⟨.tmp p,by simpa using h,rfl⟩)
theorem ke9{j d:Nat}(h:z1v ops.toList j=some d):(ops[j]?).bind (·.dst)=some d:=by
 unfold z1v at h;split at h
 ·rename_i oj hoj;have h1:=zh4 hoj;rw[Array.getElem?_toList] at h1;rw[h1];exact h
 ·cases h
theorem SameAt.gd{o:Oper}{T:St}(h:SameAt ops o S T):Am.gd ops.toList o T=Am.gd ops.toList o S:=by
 unfold Am.gd;cases hg:o.guard with
 |none=>rfl
 |some jw=>
  obtain⟨j,want⟩:=jw;simp only
  cases hd:z1v ops.toList j with
  |none=>rfl
  |some d=>
   simp only
   rw[h d (List.mem_append_right _ (by rw[hg];simp only;rw[ke9 hd];exact List.mem_singleton.2 rfl))]
theorem SameAt.eval{o:Oper}{T:St}(h:SameAt ops o S T):∀x∈o.op.operands,T.eval x=S.eval x:=by
 intro x hx;cases x with
 |tmp p=>exact h p (yw5 hx)
 |const c=>rfl
 |func f=>rfl
 |«global» g=>rfl
theorem SameAt.put{o:Oper}{d:Option Nat}{y:AVal}(h:∀e,d=some e→e∉o.looksAt ops):SameAt ops o S (S.put d y):=by
 intro p hp;cases d with
 |none=>rfl
 |some e=>exact zd7 fun e'=>h e rfl (by rw[e'];exact hp)
theorem SameAt.eff{o:Oper}{d:Option Nat}(he:Eff S d S')(h:∀e,d=some e→e∉o.looksAt ops):SameAt ops o S S':=by
 obtain⟨⟨v,hv⟩,_⟩:=he;intro p hp;rw[hv];exact SameAt.put (y:=v) h p hp
/-- an operation beside a slot that is put -/
theorem y8a{o:Oper}{d:Option Nat}{y:AVal}(hd:∀e,d=some e→o.dst≠some e)(hl:∀e,d=some e→e∉o.looksAt ops)(h:opS E ops.toList o S=some S'):opS E ops.toList o (S.put d y)=some (S'.put d y):=by
 cases d with
 |none=>
  exact h
 |some d=>
  unfold opS at h⊢;rw[(SameAt.put hl).gd];obtain⟨t,ht,h⟩:=Option.bind_eq_some_iff.1 h;rw[ht];simp only[Option.bind_some];cases t with
  |true=>
   simp only[cond_true] at h⊢;rw[z7e (hd d rfl) (fun x hx e=>hl d rfl (yw5 (by rw[←e];exact hx)))];have:=y64 (E:=E) (S:=S) o some (fun S'=>some (S'.put (some d) y));simp only[Option.bind_some] at this;rw[←this,h];rfl
  |false=>
   simp only[cond_false] at h⊢;obtain rfl:=Option.some.inj h;rw[y3y _ (hd d rfl)]
def vopB:Op→Bool
 |.box ..=>false
 |.alloc _=>false
 |.load ..=>false
 |.store ..=>false
 |.makeSlice ..=>false
 |.buildSlice ..=>false
 |.call {callee:=.builtin .append,..}=>false
 |.call {callee:=.builtin .copy,..}=>false
 |.call {callee:=.value (.func _),..}=>false
 |.call {callee:=.value (.tmp _),..}=>false
 |_=>true
theorem z7f{o:Oper}{K:St→Option R}(h:vopB o.op=true):step E o S K=vact E o.op S.eval fun x=>K (S.put o.dst x):=by
 unfold step;split<;>first|rfl|(rename_i e;rw[e] at h;cases h)|(rename_i e _;rw[e] at h;cases h)
/-- an operation that only puts, and what it puts hangs on what it looks at alone -/
def z47(E:Env)(ops:Array Oper)(o:Oper):Prop:=∀S S',opS E ops.toList o S=some S'→∃y,S'=S.put o.dst y∧∀T,SameAt ops o S T→opS E ops.toList o T=some (T.put o.dst y)
theorem y2w{o:Oper}(h:vopB o.op=true):z47 E ops o:=by
 intro S S' hs;unfold opS at hs;obtain⟨t,ht,hs⟩:=Option.bind_eq_some_iff.1 hs;cases t with
 |true=>
  simp only[cond_true] at hs;rw[z7f h] at hs;obtain⟨x,h1,h2⟩:=z2q hs;obtain rfl:=Option.some.inj h2;refine⟨x,rfl,fun T hT=> ?_⟩;unfold opS;rw[hT.gd,ht];simp only[Option.bind_some,cond_true];rw[z7f h,zv9 hT.eval];have:=z0s (E:=E) o.op S.eval some (fun x=>some (T.put o.dst x));simp only[Option.bind_some] at this;rw[←this,h1];rfl
 |false=>
  obtain rfl:=Option.some.inj hs;refine⟨.tup [],rfl,fun T hT=> ?_⟩;unfold opS;rw[hT.gd,ht];rfl
/-- x, then i: as well i, then x -/
def Swaps(E:Env)(ops:Array Oper)(x i:Oper):Prop:=∀S S1 S2,opS E ops.toList x S=some S1→opS E ops.toList i S1=some S2→∃S1',opS E ops.toList i S=some S1'∧opS E ops.toList x S1'=some S2
theorem z48{x i:Oper}(ha:x.apart ops i=true)(hv:z47 E ops i):Swaps E ops x i:=by
 intro S S1 S2 h1 h2;obtain⟨a1,a2,a3⟩:=Oper.apart_spec ha;obtain⟨y,rfl,hy⟩:=hv _ _ h2;have he:=y1r h1;have hsame:SameAt ops i S1 S:=fun p hp=>(SameAt.eff he a1 p hp).symm;refine⟨_,hy S hsame, ?_⟩;exact y8a (fun e he'=>by intro hx;exact a2 e hx he') a3 h1
theorem z9d{x i:Oper}(ha:x.apart ops i=true)(hv:z47 E ops x)(h0:∀S S1 S2 y,S1=S.put x.dst y→opS E ops.toList i S1=some S2→∃S1',opS E ops.toList i S=some S1'∧S2=S1'.put x.dst y):Swaps E ops x i:=by
 intro S S1 S2 h1 h2;obtain⟨a1,a2,a3⟩:=Oper.apart_spec ha;obtain⟨y,rfl,hy⟩:=hv _ _ h1;obtain⟨S1',h3,rfl⟩:=h0 _ _ _ _ rfl h2;exact⟨S1',h3,hy S1' (SameAt.eff (y1r h3) a3)⟩
end
end Go.Proofs.YtafognnoibjjeaaGreatDoor.Am
/- Which operations may change places. -/
namespace Go.Proofs.YtafognnoibjjeaaGreatDoor.Am
open Go Go.RowKit
section
variable {α R : Type} {E : Env} {S S' : St} {ops : Array Oper}
theorem y59{o:Oper}{d:Option Nat}{y:AVal}(hd:∀e,d=some e→o.dst≠some e)(hl:∀e,d=some e→e∉o.looksAt ops)(h:opS E ops.toList o (S.put d y)=some S'):
  ∃T,opS E ops.toList o S=some T∧S'=T.put d y:=by
 cases d with
 |none=>exact⟨S',h,rfl⟩
 |some d=>
  unfold opS at h⊢;rw[(SameAt.put hl).gd] at h;obtain⟨t,ht,h⟩:=Option.bind_eq_some_iff.1 h;rw[ht];simp only[Option.bind_some];cases t with
  |true=>
   simp only[cond_true] at h⊢;rw[z7e (hd d rfl) (fun x hx e=>hl d rfl (yw5 (by rw[←e];exact hx)))] at h;obtain⟨T,h1,h2⟩:=ke8 h;exact⟨T,h1,(Option.some.inj h2).symm⟩
  |false=>
   simp only[cond_false] at h⊢;obtain rfl:=Option.some.inj h;exact⟨_,rfl,y3y _ (hd d rfl)⟩
theorem kf0{x i:Oper}(ha:x.apart ops i=true)(hv:vopB x.op=true∨vopB i.op=true):Swaps E ops x i:=by
 rcases hv with hv|hv
 ·refine z9d ha (y2w hv) ?_;rintro S S1 S2 y rfl h;obtain⟨a1,a2,a3⟩:=Oper.apart_spec ha;exact y59 a2 a1 h
 ·exact z48 ha (y2w hv)

/-! ### loads -/
def z0u(r r':Row):Prop:=r=r'∨∃k xs,r=.arr k xs false∧r'=.arr k xs true
def HeapExt(H H':Nat→Option Row):Prop:=∀t r,H t=some r→∃r',H' t=some r'∧z0u r r'
theorem HeapExt.refl(H:Nat→Option Row):HeapExt H H:=fun t r h=>⟨r,h,.inl rfl⟩
theorem HeapExt.trans{H H' H'':Nat→Option Row}(h:HeapExt H H')(k:HeapExt H' H''):HeapExt H H'':=by
 intro t r hr;obtain⟨r1,h1,h2⟩:=h t r hr;obtain⟨r2,h3,h4⟩:=k t r1 h1;refine⟨r2,h3, ?_⟩
 rcases h2 with rfl|⟨kk,xs,rfl,rfl⟩
 ·exact h4
 ·rcases h4 with rfl|⟨kk',xs',e1,_⟩
  ·exact .inr ⟨kk,xs,rfl,rfl⟩
  ·cases e1
theorem kf1(H:Nat→Option Row)(t:Nat):HeapExt H (Am.sealR H t):=by
 intro p r hr
 rcases y2m H t with e|⟨k,xs,e1,e2⟩
 ·rw[e];exact⟨r,hr,.inl rfl⟩
 ·rw[e2]
  by_cases e:p=t
  ·subst e;rw[hr] at e1;obtain rfl:=Option.some.inj e1;exact⟨.arr k xs true,yb1 rfl _ _,.inr ⟨k,xs,rfl,rfl⟩⟩
  ·exact⟨r,by show ifEq p t _ _=_;rw[ya4 e];exact hr,.inl rfl⟩
theorem zl4:∀(l:List AVal) (H:Nat→Option Row),HeapExt H (Am.sealL H l)
 |[],H=>HeapExt.refl H
 |x::l,H=>by
  unfold Am.sealL;split
  ·exact(kf1 H _).trans (zl4 l _)
  ·exact zl4 l H
theorem y4a:∀(l:List AVal) (H:Nat→Option Row),HeapExt H (Am.sealVs H l)
 |[],H=>HeapExt.refl H
 |x::l,H=>by
  unfold Am.sealVs;exact(zl4 x.cells H).trans (y4a l _)
theorem kz9{t:Nat}{r:Row}(h:S.heap t=none):HeapExt S.heap (S.setH t r).heap:=by
 intro p q hq;refine⟨q, ?_,.inl rfl⟩;show ifEq p t _ _=_;rw[ya4 (by rintro rfl;rw[h] at hq;cases hq)];exact hq
theorem z0v{T:St}{d:Option Nat}{rw_:Row}{f:Nat→AVal}(h:T.new d rw_ f some=some S'):HeapExt T.heap S'.heap:=by
 obtain⟨d',rfl,⟨h1,_⟩,h2⟩:=St.new_spec h;obtain rfl:=Option.some.inj h2;rw[yc2];exact kz9 h1
def extB:Op→Bool
 |.box ..=>true
 |.alloc _=>true
 |.makeSlice ..=>true
 |.buildSlice ..=>true
 |.load ..=>true
 |.call {callee:=.value (.func _),..}=>true
 |.call {callee:=.value (.tmp _),..}=>true
 |_=>false
theorem kf2{rows:List (Nat×Row)}(h:yo6 S.heap rows=true):HeapExt S.heap (S.setHs rows).heap:=by
 intro p q hq;refine⟨q, ?_,.inl rfl⟩;rw[ys7]
 ·exact hq
 ·intro hm;rw[y0u h p hm] at hq;cases hq
theorem k0a{o:Oper}(he:extB o.op=true)(h:step E o S some=some S'):HeapExt S.heap S'.heap:=by
 unfold step at h;split at h
 ·obtain⟨_,h⟩:=ya1 h;exact z0v h
 ·split at h
  ·exact z0v h
  ·cases h
 ·split at h
  ·split at h
   ·obtain rfl:=Option.some.inj h;rw[yc2];exact HeapExt.refl _
   ·cases h
  ·split at h
   ·split at h
    ·split at h
     ·obtain⟨_,h⟩:=ya1 h;obtain rfl:=Option.some.inj h;rw[yc2];exact HeapExt.refl _
     ·cases h
     ·split at h
      ·obtain rfl:=Option.some.inj h;rw[yc2];exact HeapExt.refl _
      ·cases h
    ·cases h
   ·split at h
    ·split at h
     ·obtain rfl:=Option.some.inj h;rw[yc2];exact HeapExt.refl _
     ·cases h
    ·cases h
   ·split at h
    ·obtain⟨_,h⟩:=ya1 h;split at h
     ·obtain rfl:=Option.some.inj h;rw[yc2];exact HeapExt.refl _
     ·cases h
    ·cases h
   ·split at h
    ·obtain rfl:=Option.some.inj h;rw[yc2];exact HeapExt.refl _
    ·cases h
   ·cases h
 ·rename_i e;rw[e] at he;cases he
 ·split at h
  ·obtain⟨_,h⟩:=ya1 h;split at h
   ·exact z0v h
   ·cases h
  ·cases h
 ·split at h
  ·dsimp only at h;split at h
   ·obtain⟨_,h⟩:=ya1 h;obtain⟨_,h⟩:=ya1 h;obtain⟨_,h⟩:=ya1 h;obtain⟨_,h⟩:=y2p h;exact(y4a _ S.heap).trans (z0v (T:={S with heap:=Am.sealVs S.heap _}) h)
   ·cases h
  ·cases h
 ·rename_i e;rw[e] at he;cases he
 ·rename_i e;rw[e] at he;cases he
 ·split at h
  ·cases h
  ·rename_i f hf;dsimp only at h;generalize hH:ifT (ifT f.own (y73 f.outs) false) S.heap (Am.sealVs S.heap (mapA S.eval _))=H at h;have hm:HeapExt S.heap H:=by
    rw[←hH];cases ifT f.own (y73 f.outs) false with
    |true=>exact HeapExt.refl _
    |false=>exact y4a _ _
   split at h
   ·cases h
   ·obtain⟨y,hy,h⟩:=Option.bind_eq_some_iff.1 h;obtain⟨h1,h2⟩:=y07 h;obtain rfl:=Option.some.inj h1;refine hm.trans ?_;unfold St.gotS;split
    ·rename_i d' ho hd;rw[yc2];exact kf2 (S:={S with heap:=H}) (h2 d' ho hd)
    ·exact HeapExt.refl _
    ·rw[yc2];exact HeapExt.refl _
 ·obtain⟨x,rfl⟩:=z2r h;rw[yc2];exact HeapExt.refl _
 ·rename_i h1 h2 h3 h4 h5 h6 h7 h9 h8 h10;exfalso;generalize o.op=op at*
  cases op<;>first|cases he|skip
  all_goals first|exact h1 _ _ rfl|exact h2 _ rfl|exact h3 _ _ rfl|exact h5 _ _ _ rfl|exact h6 _ _ _ rfl|skip
  rename_i c;obtain⟨callee,args,tys⟩:=c;cases callee with
  |value f=>cases f with
   |func g=>exact h8 _ _ _ rfl
   |tmp p=>exact h10 _ _ _ rfl
   |_=>cases he
  |_=>cases he
end
end Go.Proofs.YtafognnoibjjeaaGreatDoor.Am
/- A load may change places with a load, and with what makes new rows. -/
namespace Go.Proofs.YtafognnoibjjeaaGreatDoor.Am
open Go Go.RowKit
section
variable {α R : Type} {E : Env} {S S' : St} {ops : Array Oper}
def ldV(E:Env)(t:TypeId)(x:AVal)(H:Nat→Option Row):Option AVal:=
 match kdOf E t with
 |none=>z4s E t x
 |some k'=>match x with
  |.ptr t c=>match H t with
   |some (.box cs)=>match k' with
    |.pair a b=>ifT (Nat.ble (c+(Kd.pair a b).size) (lenA cs)) (some (.agg (ys6 (Kd.pair a b).size (yu1 c cs)))) none
    |.unit=>none
    |_=>getA none (mapA some cs) c
   |_=>none
  |.ep t i c=>match H t with
   |some (.arr k xs _)=>match Kd.at k' k c with|some gs=>some (.v k' (gs.1 (List.getD (α:=k.T) xs i k.dflt)))|none=>none
   |_=>none
  |.pi t n i=>match H t with
   |some (.box cs)=>ifT (ifT k'.isAgg false (Nat.ble n (lenA cs))) (match y5y k' (ys6 n cs) with
    |some xs=>some (.v k' (List.getD (α:=k'.T) xs i k'.dflt))
    |none=>none) none
   |_=>none
  |.fp k y=>match Kd.at k' k 0 with|some gs=>some (.v k' (gs.1 y))|none=>none
  |_=>none
theorem y4b{o:Oper}{t:TypeId}{x:Operand}(ho:o.op=.load t x){K:St→Option R}:step E o S K=(ldV E t (S.eval x) S.heap).bind fun y=>K (S.put o.dst y):=by
 unfold step ldV;rw[ho];dsimp only
 cases kdOf E t with
 |none=>
  dsimp only
  cases z4s E t (S.eval x)<;>rfl
 |some k'=>
  dsimp only
  cases S.eval x<;>try rfl
  case ptr t' c=>
   dsimp only
   cases S.heap t' with
   |none=>rfl
   |some r=>
    cases r<;>try rfl
    case box cs=>
     dsimp only
     cases k'<;>dsimp only<;>first|rfl|(rw[yt5];rfl)|(cases getA none (mapA some cs) c<;>rfl)
  case ep t' i c=>
   dsimp only
   cases S.heap t' with
   |none=>rfl
   |some r=>
    cases r<;>try rfl
    case arr k xs ao=>
     dsimp only
     cases Kd.at k' k c<;>rfl
  case pi t' n i=>
   dsimp only
   cases S.heap t' with
   |none=>rfl
   |some r=>
    cases r<;>try rfl
    case box cs=>
     dsimp only
     rw[yt5];cases y5y k' (ys6 n cs)<;>rfl
  case fp k y=>
   dsimp only
   cases Kd.at k' k 0<;>rfl
def yf8:AVal→List Nat
 |.ptr t _=>[t]
 |.ep t _ _=>[t]
 |.pi t _ _=>[t]
 |_=>[]
theorem y80{t:TypeId}{x y:AVal}(h:z4s E t x=some y):yf8 x=[]:=by
 unfold z4s at h;split at h
 ·rfl
 ·cases h
theorem z7g{t:TypeId}{x:AVal}{H H':Nat→Option Row}(h:∀p∈yf8 x,∃r r',H p=some r∧H' p=some r'∧z0u r r'):ldV E t x H'=ldV E t x H:=by
 unfold ldV;cases kdOf E t with
 |none=>rfl
 |some k'=>
  dsimp only
  cases x<;>try rfl
  case ptr p c=>
   obtain⟨r,r',h1,h2,h3⟩:=h p (by simp[yf8]);dsimp only
   rw[h1,h2]
   rcases h3 with rfl|⟨k,xs,rfl,rfl⟩<;>rfl
  case ep p i c=>
   obtain⟨r,r',h1,h2,h3⟩:=h p (by simp[yf8]);dsimp only
   rw[h1,h2]
   rcases h3 with rfl|⟨k,xs,rfl,rfl⟩<;>rfl
  case pi p n i=>
   obtain⟨r,r',h1,h2,h3⟩:=h p (by simp[yf8]);dsimp only
   rw[h1,h2]
   rcases h3 with rfl|⟨k,xs,rfl,rfl⟩<;>rfl
theorem ldV_tok{t:TypeId}{x:AVal}{H:Nat→Option Row}{y:AVal}(h:ldV E t x H=some y):∀p∈yf8 x,H p≠none:=by
 intro p hp hn;unfold ldV at h;cases hk:kdOf E t with
 |none=>
  rw[hk] at h;rw[y80 h] at hp;cases hp
 |some k'=>
  rw[hk] at h;dsimp only at h;cases x<;>try (simp[yf8] at hp;done)
  case ptr q c=>
   simp only[yf8,List.mem_singleton] at hp;subst hp;dsimp only at h;rw[hn] at h;cases h
  case ep q i c=>
   simp only[yf8,List.mem_singleton] at hp;subst hp;dsimp only at h;rw[hn] at h;cases h
  case pi q n i=>
   simp only[yf8,List.mem_singleton] at hp;subst hp;dsimp only at h;rw[hn] at h;cases h
def Ready(o:Oper)(S:St):Prop:=∀t x,o.op=.load t x→∀p∈yf8 (S.eval x),S.heap p≠none
theorem Ready.eff{o:Oper}{d:Option Nat}(h:Ready o S)(he:Eff S d S')(hl:∀e,d=some e→e∉o.looksAt ops):Ready o S':=by
 intro t x ho p hp;have hs:SameAt ops o S S':=SameAt.eff he hl;rw[hs.eval x (by rw[ho];simp[Op.operands])] at hp;exact he.2 p (h t x ho p hp)
theorem Sim.ready{P:Pg}{Wr0:Base}{w0:World}{I:Info}{a:Act}{w:World}(hS:Sim P Wr0 w0 S I a w)(o:Oper):Ready o S:=by
 intro t x _ p hp hn;have hv:=hS.eval x;have hI:=hS.free p hn;cases he:S.eval x<;>rw[he] at hp hv<;>try (simp[yf8] at hp;done)
 case ptr q c=>
  simp only[yf8,List.mem_singleton] at hp;subst hp;simp only[Rep,hI] at hv
 case ep q i c=>
  simp only[yf8,List.mem_singleton] at hp;subst hp;simp only[Rep,hI] at hv
 case pi q n i=>
  simp only[yf8,List.mem_singleton] at hp;subst hp;simp only[Rep,hI] at hv
/-- x, then i: as well i, then x, where what i loads stands -/
def y7v(E:Env)(ops:Array Oper)(x i:Oper):Prop:=∀S S1 S2,Ready i S→opS E ops.toList x S=some S1→opS E ops.toList i S1=some S2→∃S1',opS E ops.toList i S=some S1'∧opS E ops.toList x S1'=some S2
theorem kf3{o:Oper}(he:extB o.op=true)(h:opS E ops.toList o S=some S'):HeapExt S.heap S'.heap:=by
 unfold opS at h;obtain⟨t,_,h⟩:=Option.bind_eq_some_iff.1 h;cases t with
 |true=>exact k0a he h
 |false=>
  obtain rfl:=Option.some.inj h;rw[yc2];exact HeapExt.refl _
/-- a load reads the same where the rows that it reads are the same -/
theorem y0c{o:Oper}{t:TypeId}{x:Operand}(ho:o.op=.load t x)(h:opS E ops.toList o S=some S'):
  ∃y,S'=S.put o.dst y∧∀T,SameAt ops o S T→(∀p∈yf8 (S.eval x),S.heap p≠none→∃r r',S.heap p=some r∧T.heap p=some r'∧(z0u r r'∨z0u r' r))→opS E ops.toList o T=some (T.put o.dst y):=by
 unfold opS at h;obtain⟨b,hb,h⟩:=Option.bind_eq_some_iff.1 h;cases b with
 |true=>
  simp only[cond_true] at h;rw[y4b ho] at h;obtain⟨y,h1,h2⟩:=Option.bind_eq_some_iff.1 h;obtain rfl:=Option.some.inj h2;refine⟨y,rfl,fun T hT hh=> ?_⟩;unfold opS;rw[hT.gd,hb];simp only[Option.bind_some,cond_true];rw[y4b ho,hT.eval x (by rw[ho];simp[Op.operands])];have:ldV E t (S.eval x) T.heap=ldV E t (S.eval x) S.heap:=by
   have htok:=ldV_tok h1;have key:∀p∈yf8 (S.eval x),∃r r',S.heap p=some r∧T.heap p=some r'∧(z0u r r'∨z0u r' r):=fun p hp=>hh p hp (htok p hp)
   by_cases hall:∀p∈yf8 (S.eval x),∃r r',S.heap p=some r∧T.heap p=some r'∧z0u r r'
   ·exact z7g hall
   ·refine(z7g (H:=T.heap) (H':=S.heap) fun p hp=> ?_).symm;obtain⟨r,r',e1,e2,e3⟩:=key p hp
    rcases e3 with e3|e3
    ·exfalso;refine hall fun q hq=> ?_;have:q=p:=by
      cases he:S.eval x<;>rw[he] at hp hq<;>simp[yf8] at hp hq
      ·rw[hp,hq]
      ·rw[hp,hq]
      ·rw[hp,hq]
     subst this;exact⟨r,r',e1,e2,e3⟩
    ·exact⟨r',r,e2,e1,e3⟩
  rw[this,h1];rfl
 |false=>
  obtain rfl:=Option.some.inj h;refine⟨.tup [],rfl,fun T hT _=> ?_⟩;unfold opS;rw[hT.gd,hb];rfl
theorem zl5{x i:Oper}(ha:x.apart ops i=true){t:TypeId}{z:Operand}(hx:x.op=.load t z)(hi:extB i.op=true):y7v E ops x i:=by
 intro S S1 S2 _ h1 h2;obtain⟨a1,a2,a3⟩:=Oper.apart_spec ha;obtain⟨y,rfl,hy⟩:=y0c hx h1;obtain⟨T,h3,rfl⟩:=y59 a2 a1 h2;refine⟨T,h3,hy T (SameAt.eff (y1r h3) a3) fun p hp hn=> ?_⟩;cases hr:S.heap p with
 |none=>exact absurd hr hn
 |some r=>
  obtain⟨r',h4,h5⟩:=kf3 hi h3 p r hr;exact⟨r,r',rfl,h4,.inl h5⟩
theorem zg4{x i:Oper}(ha:x.apart ops i=true){t:TypeId}{z:Operand}(hi:i.op=.load t z)(hx:extB x.op=true):y7v E ops x i:=by
 intro S S1 S2 hr h1 h2;obtain⟨a1,a2,a3⟩:=Oper.apart_spec ha;have he:=y1r h1;have hs:SameAt ops i S S1:=SameAt.eff he a1;obtain⟨y,rfl,hy⟩:=y0c hi h2;have hev:S1.eval z=S.eval z:=hs.eval z (by rw[hi];simp[Op.operands]);refine⟨_,hy S (fun p hp=>(hs p hp).symm) fun p hp hn=> ?_, ?_⟩
 ·rw[hev] at hp;cases hq:S.heap p with
  |none=>exact absurd hq (hr t z hi p hp)
  |some r=>
   obtain⟨r',h4,h5⟩:=kf3 hx h1 p r hq;exact⟨r',r,h4,rfl,.inr h5⟩
 ·exact y8a (fun e he' hxe=>a2 e hxe he') a3 h1
end
end Go.Proofs.YtafognnoibjjeaaGreatDoor.Am
/- A new box may change places with a call, and with a new box. -/
namespace Go.Proofs.YtafognnoibjjeaaGreatDoor.Am
open Go Go.RowKit
section
variable {α R : Type} {E : Env} {S S' : St} {ops : Array Oper} {tok : Nat} {z : List AVal}
def put1(H:Nat→Option Row)(tok:Nat)(z:List AVal):Nat→Option Row:=fun p=>ifEq p tok (some (.box z)) (H p)
theorem za7(H:Nat→Option Row):put1 H tok z tok=some (.box z):=yb1 rfl _ _
theorem za8{H:Nat→Option Row}{p:Nat}(h:p≠tok):put1 H tok z p=H p:=ya4 h _ _
theorem zw1{H:Nat→Option Row}{t:Nat}(h:H tok=none):Am.sealR H t tok=none:=by
 rcases y2m H t with e|⟨k,xs,e1,e2⟩
 ·rw[e];exact h
 ·rw[e2];show ifEq tok t _ _=none;rw[ya4 (by rintro rfl;rw[h] at e1;cases e1)];exact h
theorem z9e{H:Nat→Option Row}{t:Nat}(h:H tok=none):Am.sealR (put1 H tok z) t=put1 (Am.sealR H t) tok z:=by
 by_cases e:t=tok
 ·subst e;unfold Am.sealR;rw[za7,h]
 ·unfold Am.sealR;rw[za8 e];cases ht:H t with
  |none=>rfl
  |some r=>
   cases r with
   |dead=>rfl
   |box cs=>rfl
   |arr k xs ao=>
    cases ao with
    |true=>rfl
    |false=>
     funext p
     by_cases e1:p=tok
     ·subst e1;rw[za7];show ifEq p t _ (put1 H p z p)=_;rw[ya4 (Ne.symm e),za7]
     ·rw[za8 e1];show ifEq p t _ (put1 H tok z p)=ifEq p t _ _;rw[za8 e1]
theorem y67:∀{l:List AVal} {H:Nat→Option Row},H tok=none→Am.sealL H l tok=none
 |[],_,h=>h
 |x::l,H,h=>by
  unfold Am.sealL;split
  ·exact y67 (zw1 h)
  ·exact y67 h
theorem za9:∀{l:List AVal} {H:Nat→Option Row},H tok=none→Am.sealL (put1 H tok z) l=put1 (Am.sealL H l) tok z
 |[],_,_=>rfl
 |x::l,H,h=>by
  unfold Am.sealL;split
  ·rw[z9e h];exact za9 (zw1 h)
  ·exact za9 h
theorem zl6:∀{l:List AVal} {H:Nat→Option Row},H tok=none→Am.sealVs H l tok=none
 |[],_,h=>h
 |x::l,H,h=>by
  unfold Am.sealVs;exact zl6 (y67 h)
theorem zl7:∀{l:List AVal} {H:Nat→Option Row},H tok=none→Am.sealVs (put1 H tok z) l=put1 (Am.sealVs H l) tok z
 |[],_,_=>rfl
 |x::l,H,h=>by
  unfold Am.sealVs Am.sealV;rw[za9 h];exact zl7 (y67 h)
theorem z5a{st:Bool}{H:Nat→Option Row}(h:H tok=none)(k:Kd)(x:AVal):leafT0 st (put1 H tok z) k x=leafT0 st H k x:=by
 cases k<;>cases x<;>try rfl
 rename_i k k' t off len;simp only[leafT0]
 by_cases e:t=tok
 ·subst e;rw[za7,h]
 ·rw[za8 e]
theorem y0y{st:Bool}{H:Nat→Option Row}(h:H tok=none)(k:Kd)(x:AVal):leafT st (put1 H tok z) k x=leafT st H k x:=by
 unfold leafT;split<;>first|rfl|rw[z5a h]
theorem zl8{st:Bool}{H:Nat→Option Row}(h:H tok=none):∀(k:Kd) (cs:List AVal),toTs st (put1 H tok z) k cs=toTs st H k cs
 |.unit,_=>by unfold toTs;rfl
 |.pair a b,cs=>by
  unfold toTs;rw[zl8 h a cs];cases toTs st H a cs with
  |none=>rfl
  |some r=>
   dsimp only
   rw[zl8 h b r.2]
 |.int _,cs=>by cases cs<;>(unfold toTs;first|rfl|rw[y0y h])
 |.bool,cs=>by cases cs<;>(unfold toTs;first|rfl|rw[y0y h])
 |.str,cs=>by cases cs<;>(unfold toTs;first|rfl|rw[y0y h])
 |.err,cs=>by cases cs<;>(unfold toTs;first|rfl|rw[y0y h])
 |.pt,cs=>by cases cs<;>(unfold toTs;first|rfl|rw[y0y h])
 |.sl _,cs=>by cases cs<;>(unfold toTs;first|rfl|rw[y0y h])
theorem k0b{st:Bool}{H:Nat→Option Row}(h:H tok=none)(k:Kd)(x:AVal):toT st (put1 H tok z) k x=toT st H k x:=by
 unfold toT;cases x<;>dsimp only<;>first|rw[zl8 h]|exact y0y h k _
theorem zl9{st:Bool}{H:Nat→Option Row}(h:H tok=none):∀(ps:List Prm) (xs:List AVal),y32 st (put1 H tok z) ps xs=y32 st H ps xs
 |[],[]=>rfl
 |[],_::_=>rfl
 |.v k::ps,[]=>rfl
 |.v k::ps,x::xs=>by
  simp only[y32];rw[k0b h k x,zl9 h ps xs]
 |.clo _ _::ps,_=>rfl
 |.cap _::ps,_=>rfl
theorem y4c{t u:Nat}{r q:Row}(h:t≠u):(S.setH t r).setH u q=(S.setH u q).setH t r:=by
 unfold St.setH;simp only[St.mk.injEq,true_and];refine⟨?_,trivial⟩;funext p
 by_cases e:p=u
 ·subst e;rw[yb1 rfl,ya4 (Ne.symm h),yb1 rfl]
 ·rw[ya4 e,ya4 e]
theorem zw2:∀{rows:List (Nat×Row)} {S:St} {q:Row},tok∉rows.map (·.1)→(S.setH tok q).setHs rows=(S.setHs rows).setH tok q
 |[],_,_,_=>rfl
 |x::rows,S,q,h=>by
  simp only[List.map_cons,List.mem_cons,not_or] at h;simp only[St.setHs];rw[y4c h.1,zw2 h.2]
theorem zw3:∀{rows:List (Nat×Row)} {S:St},tok∈rows.map (·.1)→(S.setHs rows).heap tok≠none
 |[],_,h=>by cases h
 |x::rows,S,h=>by
  simp only[St.setHs];simp only[List.map_cons,List.mem_cons] at h
  rcases h with rfl|h
  ·refine za5 ?_;show ifEq _ _ _ _≠none;rw[yb1 rfl];simp
  ·exact zw3 h
theorem zd8{H:Nat→Option Row}:∀{rows:List (Nat×Row)},tok∉rows.map (·.1)→yo6 (put1 H tok z) rows=yo6 H rows
 |[],_=>rfl
 |x::rows,h=>by
  simp only[List.map_cons,List.mem_cons,not_or] at h;unfold yo6;rw[zd8 h.2];unfold yx2;rw[za8 (Ne.symm h.1)]
def noneB(H:Nat→Option Row)(t:Nat):Bool:=match H t with|none=>true|some _=>false
def y5p(tok:Nat)(z:List AVal)(S':St):Option St:=ifT (noneB S'.heap tok) (some (S'.setH tok (.box z))) none
theorem noneB_iff{H:Nat→Option Row}{t:Nat}:noneB H t=true↔H t=none:=by
 unfold noneB;cases H t<;>simp
theorem z2s{H:Nat→Option Row}{t:Nat}(h:H t=none)(hl:t<200000):yx2 H t=true:=by
 unfold yx2;rw[h];show Nat.blt t 200000=true;rw[Nat.blt_eq];exact hl
theorem y0z(h:S'.heap tok=none):y5p tok z S'=some (S'.setH tok (.box z)):=by
 unfold y5p;rw[noneB_iff.2 h];rfl
theorem z5b{T:St}(h:y5p tok z S'=some T):S'.heap tok=none∧T=S'.setH tok (.box z):=by
 unfold y5p at h;obtain⟨h1,h2⟩:=ya1 h;exact⟨noneB_iff.1 h1,(Option.some.inj h2).symm⟩
theorem y81(x y:α):ifT true x y=x:=rfl
theorem zg5(x y:α):ifT false x y=y:=rfl
theorem z7h(h:S.heap tok=none)(d:Option Nat)(r:Row)(f:Nat→AVal):(S.setH tok (.box z)).new d r f some=(S.new d r f some).bind (y5p tok z):=by
 unfold St.new;cases d with
 |none=>rfl
 |some d=>
  dsimp only
  rw[yt5]
  by_cases e:d*16=tok
  ·have h1:yx2 (S.setH tok (.box z)).heap (d*16)=false:=by
    rw[e];show yx2 (put1 S.heap tok z) tok=false;unfold yx2;rw[za7]
   rw[h1];have h2:y5p tok z ((S.setH (d*16) r).put (some d) (f (d*16)))=none:=by
    unfold y5p;have:noneB ((S.setH (d*16) r).put (some d) (f (d*16))).heap tok=false:=by
     rw[yc2,←e];show(match ifEq (d*16) (d*16) (some r) (S.heap (d*16)) with|none=>true|some _=>false)=false;rw[yb1 rfl]
    rw[this];rfl
   rw[Option.bind_some,h2];cases yx2 S.heap (d*16)<;>rfl
  ·have h1:yx2 (S.setH tok (.box z)).heap (d*16)=yx2 S.heap (d*16):=by
    show yx2 (put1 S.heap tok z) (d*16)=_;unfold yx2;rw[za8 e]
   have h2:((S.setH (d*16) r).put (some d) (f (d*16))).heap tok=none:=by
    rw[yc2];show ifEq tok (d*16) _ _=none;rw[ya4 (Ne.symm e)];exact h
   rw[h1,Option.bind_some,y0z h2];congr 2;rw[y4c (Ne.symm e)];rfl
theorem k0c(h:S.heap tok=none)(d:Option Nat)(own:Bool)(ks:List Kd)(x:yu2 ks):(S.setH tok (.box z)).got d own ks x some=(S.got d own ks x some).bind (y5p tok z):=by
 unfold St.got;cases own with
 |false=>
  rw[zg5,zg5,Option.bind_some];rw[y0z (by rw[yc2];exact h),y0b]
 |true=>
  rw[y81,y81];cases d with
  |none=>
   dsimp only
   rw[Option.bind_some,y0z h]
  |some d=>
   dsimp only
   rw[yt5,Option.bind_some,Option.bind_none];generalize y9y d ks x 0=rr
   by_cases e:tok∈rr.2.map (·.1)
   ·have h1:yo6 (S.setH tok (.box z)).heap rr.2=false:=by
     cases hh:yo6 (S.setH tok (.box z)).heap rr.2 with
     |false=>rfl
     |true=>
      have:=y0u hh tok e;rw[show(S.setH tok (.box z)).heap tok=some (.box z) from za7 S.heap] at this;cases this
    have h2:y5p tok z ((S.setHs rr.2).put (some d) (one rr.1))=none:=by
     unfold y5p;have:noneB ((S.setHs rr.2).put (some d) (one rr.1)).heap tok=false:=by
      rw[yc2];have:=zw3 (S:=S) e;unfold noneB;cases hh:(S.setHs rr.2).heap tok with
      |none=>exact absurd hh this
      |some r=>rfl
     rw[this];rfl
    rw[h1,h2];cases yo6 S.heap rr.2<;>rfl
   ·rw[show yo6 (S.setH tok (.box z)).heap rr.2=yo6 S.heap rr.2 from zd8 (H:=S.heap) e];rw[y0z (by rw[yc2,ys7 e];exact h),zw2 e,←y0b]
def newB:Op→Bool
 |.alloc _=>true
 |.box ..=>true
 |_=>false
def callB:Op→Bool
 |.call {callee:=.value (.func _),..}=>true
 |_=>false
theorem kf4{o:Oper}(ho:newB o.op=true∨callB o.op=true)(h:S.heap tok=none):step E o (S.setH tok (.box z)) some=(step E o S some).bind (y5p tok z):=by
 obtain⟨dst,op,type,pos,after,guard⟩:=o;cases op<;>try (rcases ho with ho|ho<;>cases ho;done)
 case box t x=>
  simp only[step];rw[show(S.setH tok (.box z)).eval x=S.eval x from by cases x<;>rfl];cases okV (S.eval x) with
  |true=>rw[y81,y81];exact z7h h _ _ _
  |false=>rfl
 case alloc t=>
  simp only[step];cases kdOf E t with
  |none=>rfl
  |some k=>exact z7h h _ _ _
 case call c=>
  obtain⟨callee,args,tys⟩:=c;have hc:∃g,callee=.value (.func g):=by
   rcases ho with ho|ho
   ·cases ho
   ·cases callee with
    |value f=>cases f with
     |func g=>exact⟨g,rfl⟩
     |_=>cases ho
    |_=>cases ho
  obtain⟨g,rfl⟩:=hc;simp only[step];cases E.fn g with
  |none=>rfl
  |some f=>
   dsimp only
   have he:mapA (S.setH tok (.box z)).eval args.toList=mapA S.eval args.toList:=yp0 fun x _=>by cases x<;>rfl
   rw[he];generalize hl:ifT f.own (y73 f.outs) false=loose;have hH:∃H,ifT loose S.heap (Am.sealVs S.heap (mapA S.eval args.toList))=H∧H tok=none∧ifT loose (S.setH tok (.box z)).heap (Am.sealVs (S.setH tok (.box z)).heap (mapA S.eval args.toList))=put1 H tok z:=by
    cases loose with
    |true=>exact⟨_,rfl,h,rfl⟩
    |false=>exact⟨_,rfl,zl6 h,zl7 h⟩
   obtain⟨H,h1,h2,h3⟩:=hH;rw[h1,h3,zl9 h2];cases y32 (ifT loose false true) H f.ps (mapA S.eval args.toList) with
   |none=>rfl
   |some xs=>
    dsimp only
    rw[Option.bind_assoc];congr 1;funext y;exact k0c (S:={S with heap:=H}) h2 _ _ _ _
theorem z7i{o:Oper}(ho:newB o.op=true∨callB o.op=true)(h:S.heap tok=none){l:List Oper}:opS E l o (S.setH tok (.box z))=(opS E l o S).bind (y5p tok z):=by
 unfold opS;rw[Option.bind_assoc];rw[show gd l o (S.setH tok (.box z))=gd l o S from rfl];congr 1;funext t;cases t with
 |true=>exact kf4 ho h
 |false=>
  simp only[cond_false,Option.bind_some];rw[y0z (by rw[yc2];exact h),y0b]
/-- what a new box does -/
theorem z7j{o:Oper}(ho:newB o.op=true)(h:opS E ops.toList o S=some S'):
  (S'=S.put o.dst (.tup [])∧∀T,SameAt ops o S T→opS E ops.toList o T=some (T.put o.dst (.tup [])))∨
  ∃d z,o.dst=some d∧S.heap (d*16)=none∧S'=(S.setH (d*16) (.box z)).put o.dst (.ptr (d*16) 0)∧
   ∀T,SameAt ops o S T→T.heap (d*16)=none→opS E ops.toList o T=some ((T.setH (d*16) (.box z)).put o.dst (.ptr (d*16) 0)):=by
 unfold opS at h;obtain⟨t,ht,h⟩:=Option.bind_eq_some_iff.1 h;cases t with
 |false=>
  obtain rfl:=Option.some.inj h;refine .inl ⟨rfl,fun T hT=> ?_⟩;unfold opS;rw[hT.gd,ht];rfl
 |true=>
  simp only[cond_true] at h;have key:∀zz,S.new o.dst (.box zz) (.ptr · 0) some=some S'→(∀T,SameAt ops o S T→step E o T some=T.new o.dst (.box zz) (.ptr · 0) some)→
   ∃d z,o.dst=some d∧S.heap (d*16)=none∧S'=(S.setH (d*16) (.box z)).put o.dst (.ptr (d*16) 0)∧
   ∀T,SameAt ops o S T→T.heap (d*16)=none→opS E ops.toList o T=some ((T.setH (d*16) (.box z)).put o.dst (.ptr (d*16) 0)):=by
   intro zz h1 h2;obtain⟨d,hd,⟨h3,hdl⟩,h4⟩:=St.new_spec h1;refine⟨d,zz,hd,h3,(Option.some.inj h4).symm,fun T hT hf=> ?_⟩;unfold opS;rw[hT.gd,ht];simp only[Option.bind_some,cond_true];rw[h2 T hT,hd];unfold St.new;dsimp only
   rw[z2s hf hdl];rfl
  right;obtain⟨dst,op,type,pos,after,guard⟩:=o;cases op<;>try (cases ho;done)
  case box=>
   rename_i ty x h0;simp only[step] at h;obtain⟨hk,h⟩:=ya1 h;refine key _ h fun T hT=> ?_;have he:=hT.eval x (by simp[Op.operands]);simp only[step];rw[he,hk];rfl
  case alloc=>
   rename_i t h0;simp only[step] at h;cases hk:kdOf E t with
   |none=>rw[hk] at h;cases h
   |some k=>
    rw[hk] at h;refine key _ h fun T hT=> ?_;simp only[step];rw[hk]
theorem zt3{x i:Oper}(ha:x.apart ops i=true)(hx:newB x.op=true)(hi:newB i.op=true∨callB i.op=true):Swaps E ops x i:=by
 intro S S1 S2 h1 h2;obtain⟨a1,a2,a3⟩:=Oper.apart_spec ha
 rcases z7j hx h1 with⟨rfl,hy⟩|⟨d,z,hd,hf,rfl,hy⟩
 ·obtain⟨T,h3,rfl⟩:=y59 a2 a1 h2;exact⟨T,h3,hy T (SameAt.eff (y1r h3) a3)⟩
 ·obtain⟨T,h3,rfl⟩:=y59 a2 a1 h2;rw[z7i hi hf] at h3;obtain⟨S',h4,h5⟩:=Option.bind_eq_some_iff.1 h3;obtain⟨h6,rfl⟩:=z5b h5;exact⟨S',h4,hy S' (SameAt.eff (y1r h4) a3) h6⟩
theorem zm0{x i:Oper}(ha:x.apart ops i=true)(hi:newB i.op=true)(hx:newB x.op=true∨callB x.op=true):Swaps E ops x i:=by
 intro S S1 S2 h1 h2;obtain⟨a1,a2,a3⟩:=Oper.apart_spec ha;have he:=y1r h1;have hs:SameAt ops i S1 S:=fun p hp=>(SameAt.eff he a1 p hp).symm
 rcases z7j hi h2 with⟨rfl,hy⟩|⟨d,z,hd,hf,rfl,hy⟩
 ·exact⟨_,hy S hs,y8a (fun e he' hxe=>a2 e hxe he') a3 h1⟩
 ·have hf':S.heap (d*16)=none:=by
   cases hh:S.heap (d*16) with
   |none=>rfl
   |some r=>exact absurd hf (he.2 _ (by rw[hh];simp))
  refine⟨_,hy S hs hf', ?_⟩;refine y8a (fun e he' hxe=>a2 e hxe he') a3 ?_;rw[z7i hx hf',h1,Option.bind_some,y0z hf]
end
end Go.Proofs.YtafognnoibjjeaaGreatDoor.Am
/- Slices that are built or appended to, beside loads and slices that are built. -/
namespace Go.Proofs.YtafognnoibjjeaaGreatDoor.Am
open Go Go.RowKit
def appB:Op→Bool
 |.call {callee:=.builtin .append,..}=>true
 |_=>false
def bldB(E:Env):Op→Bool
 |.buildSlice t _ _=>match E.ty t with
  |some d=>d.elt.flat
  |none=>false
 |_=>false
def z5c(o:Oper):Bool:=match o.guard with
 |some _=>false
 |none=>match o.op with
  |.load ..=>true
  |_=>false
def commE(E:Env)(ops:Array Oper)(x i:Oper):Bool:=x.apart ops i&&((appB x.op&&z5c i)||((appB x.op||bldB E x.op)&&bldB E i.op))
section
variable {R : Type} {E : Env} {S S' : St} {ops : Array Oper} {H H' : Nat → Option Row} {st : Bool} {tok : Nat} {row : Row}
def isV(c:AVal):Prop:=∃k z,c=.v k z
theorem z0w:∀(k:Kd) (x:k.T),∀c∈k.leaves x,isV c
 |.unit,_,c,h=>by cases h
 |.pair a b,x,c,h=>by
  simp only[Kd.leaves,yh8] at h
  rcases List.mem_append.1 h with h|h
  ·exact z0w a x.1 c h
  ·exact z0w b x.2 c h
 |.int k,x,c,h=>⟨_,_,List.mem_singleton.1 h⟩
 |.bool,x,c,h=>⟨_,_,List.mem_singleton.1 h⟩
 |.str,x,c,h=>⟨_,_,List.mem_singleton.1 h⟩
 |.err,x,c,h=>⟨_,_,List.mem_singleton.1 h⟩
 |.pt,x,c,h=>⟨_,_,List.mem_singleton.1 h⟩
 |.sl k,x,c,h=>⟨_,_,List.mem_singleton.1 h⟩
theorem kf5:∀{l:List AVal},(∀c∈l,isV c)→Am.sealL H l=H
 |[],_=>rfl
 |c::l,h=>by
  obtain⟨k,z,rfl⟩:=h c List.mem_cons_self;unfold Am.sealL;exact kf5 fun x hx=>h x (List.mem_cons_of_mem _ hx)
theorem y4d{k:Kd}(hk:k.flat=true)(x:AVal):leafT st H k x=leafT st H' k x:=by
 cases k<;>first|(cases hk;done)|(cases x<;>rfl)
theorem zw4{k:Kd}(hk:k.flat=true){x:AVal}{y:k.T}(h:leafT st H k x=some y):isV x:=by
 cases k<;>first|(cases hk;done)|(cases x<;>first|exact⟨_,_,rfl⟩|(cases h;done))
theorem zm1:∀{k:Kd},k.flat=true→∀cs:List AVal,toTs st H k cs=toTs st H' k cs
 |.unit,_,cs=>by unfold toTs;rfl
 |.pair a b,hk,cs=>by
  obtain⟨h1,h2⟩:=yb8 hk;have e1:toTs st H a cs=toTs st H' a cs:=zm1 h1 cs;unfold toTs;rw[e1];cases toTs st H' a cs with
  |none=>rfl
  |some r=>
   have e2:toTs st H b r.2=toTs st H' b r.2:=zm1 h2 r.2;dsimp only
   rw[e2]
 |.int k,hk,cs=>by cases cs<;>(unfold toTs;first|rfl|rw[y4d (H:=H) (H':=H') hk])
 |.bool,hk,cs=>by cases cs<;>(unfold toTs;first|rfl|rw[y4d (H:=H) (H':=H') hk])
 |.str,hk,cs=>by cases cs<;>(unfold toTs;first|rfl|rw[y4d (H:=H) (H':=H') hk])
 |.err,hk,cs=>by cases cs<;>(unfold toTs;first|rfl|rw[y4d (H:=H) (H':=H') hk])
 |.pt,hk,cs=>by cases hk
 |.sl _,hk,cs=>by cases hk
theorem y46{k:Kd}(hk:k.flat=true)(h1:∀c cs,toTs st H k (c::cs)=match leafT st H k c with|some x=>some (x,cs)|none=>none)(h0:toTs st H k []=none){cs:List AVal}{x:k.T}{rest:List AVal}(h:toTs st H k cs=some (x,rest)):∀c∈cs,isV c∨c∈rest:=by
 cases cs with
 |nil=>rw[h0] at h;cases h
 |cons c cs=>
  rw[h1] at h;split at h
  ·rename_i y hy;obtain⟨_,rfl⟩:=Prod.mk.inj (Option.some.inj h);intro z hz
   rcases List.mem_cons.1 hz with rfl|hz
   ·exact .inl (zw4 hk hy)
   ·exact .inr hz
  ·cases h
theorem zb0:∀{k:Kd},k.flat=true→∀{cs:List AVal} {x:k.T} {rest:List AVal},toTs st H k cs=some (x,rest)→∀c∈cs,isV c∨c∈rest
 |.unit,_,cs,x,rest,h=>by
  unfold toTs at h;obtain⟨_,rfl⟩:=Prod.mk.inj (Option.some.inj h);exact fun c hc=>.inr hc
 |.pair a b,hk,cs,x,rest,h=>by
  obtain⟨k1,k2⟩:=yb8 hk;unfold toTs at h;split at h
  ·rename_i r hr;split at h
   ·rename_i q hq;obtain⟨_,rfl⟩:=Prod.mk.inj (Option.some.inj h);intro c hc
    rcases zb0 (x:=r.1) (rest:=r.2) k1 hr c hc with h1|h1
    ·exact .inl h1
    ·exact zb0 (x:=q.1) (rest:=q.2) k2 hq c h1
   ·cases h
  ·cases h
 |.int _,hk,cs,x,rest,h=>y46 hk (by intro c cs;unfold toTs;rfl) (by unfold toTs;rfl) h
 |.bool,hk,cs,x,rest,h=>y46 hk (by intro c cs;unfold toTs;rfl) (by unfold toTs;rfl) h
 |.str,hk,cs,x,rest,h=>y46 hk (by intro c cs;unfold toTs;rfl) (by unfold toTs;rfl) h
 |.err,hk,cs,x,rest,h=>y46 hk (by intro c cs;unfold toTs;rfl) (by unfold toTs;rfl) h
 |.pt,hk,_,_,_,_=>by cases hk
 |.sl _,hk,_,_,_,_=>by cases hk
theorem k0d{k:Kd}(hk:k.flat=true)(x:AVal):toT st H k x=toT st H' k x:=by
 unfold toT;cases x<;>dsimp only<;>first|rw[zm1 (H:=H) (H':=H') hk]|exact y4d hk _
theorem kf6{k:Kd}(hk:k.flat=true){x:AVal}{y:k.T}(h:toT st H k x=some y):∀c∈x.cells,isV c:=by
 unfold toT at h;split at h
 ·rename_i cs;obtain⟨_,h⟩:=ya1 h;split at h
  ·rename_i z hz;intro c hc
   rcases zb0 hk hz c hc with h1|h1
   ·exact h1
   ·cases h1
  ·cases h
 ·obtain⟨k',z,rfl⟩:=zw4 hk h;exact z0w k' z
theorem zw5{k:Kd}(hk:k.flat=true):∀vs:List AVal,elems H k vs=elems H' k vs
 |[]=>rfl
 |x::l=>by
  unfold elems;rw[k0d (H:=H) (H':=H') hk,zw5 hk l]
theorem y8b{k:Kd}(hk:k.flat=true):∀{vs:List AVal} {xs:List k.T},elems H' k vs=some xs→Am.sealVs H vs=H
 |[],_,_=>rfl
 |x::l,xs,h=>by
  unfold elems at h;split at h
  ·rename_i y hy;split at h
   ·rename_i ys hys;unfold Am.sealVs Am.sealV;rw[kf5 (kf6 hk hy)];exact y8b hk hys
   ·cases h
  ·cases h
theorem kf7{d:Option Nat}{r:Row}{f:Nat→AVal}(h:S.new d r f some=some S'):∃e,d=some e∧(S.heap (e*16)=none∧e*16<200000)∧S'=(S.setH (e*16) r).put d (f (e*16)):=by
 obtain⟨e,h1,h2,h3⟩:=St.new_spec h;exact⟨e,h1,h2,(Option.some.inj h3).symm⟩
theorem kf8{e:Nat}{r:Row}{f:Nat→AVal}(h:S.heap (e*16)=none)(hl:e*16<200000):S.new (some e) r f some=some ((S.setH (e*16) r).put (some e) (f (e*16))):=by
 unfold St.new;dsimp only
 rw[z2s h hl];rfl
theorem z7k{o:Oper}(ho:bldB E o.op=true)(h:opS E ops.toList o S=some S'):
  (S'=S.put o.dst (.tup [])∧∀T,SameAt ops o S T→opS E ops.toList o T=some (T.put o.dst (.tup [])))∨
  ∃d r v,o.dst=some d∧S.heap (d*16)=none∧S'=(S.setH (d*16) r).put o.dst v∧
   ∀T,SameAt ops o S T→T.heap (d*16)=none→opS E ops.toList o T=some ((T.setH (d*16) r).put o.dst v):=by
 unfold opS at h;obtain⟨t,ht,h⟩:=Option.bind_eq_some_iff.1 h;cases t with
 |false=>
  obtain rfl:=Option.some.inj h;refine .inl ⟨rfl,fun T hT=> ?_⟩;unfold opS;rw[hT.gd,ht];rfl
 |true=>
  simp only[cond_true] at h;right;obtain⟨dst,op,type,pos,after,guard⟩:=o;cases op<;>try (cases ho;done)
  rename_i t n ps h0;simp only[bldB] at ho;split at ho
  ·rename_i d hd;simp only[step] at h;rw[hd] at h;dsimp only at h;split at h
   ·rename_i xs hxs;obtain⟨k1,h⟩:=ya1 h;obtain⟨k2,h⟩:=ya1 h;obtain⟨k3,h⟩:=ya1 h;obtain⟨k4,h⟩:=yw3 h;rw[y8b (H:=S.heap) ho hxs] at h;obtain⟨e,rfl,⟨h1,h1'⟩,h2⟩:=kf7 h;refine⟨e,_,_,rfl,h1,h2,fun T hT hf=> ?_⟩;have hev:mapA (fun p:Nat×Operand=>T.eval p.2) ps.toList=mapA (fun p=>S.eval p.2) ps.toList:=yp0 fun p hp=>hT.eval p.2 (by simp only[Op.operands,List.mem_toArray,List.mem_map];exact⟨p,hp,rfl⟩);unfold opS;rw[hT.gd,ht];simp only[Option.bind_some,cond_true,step];rw[hd];dsimp only
    rw[hev];have hx2:elems T.heap d.elt (mapA (fun p=>S.eval p.2) ps.toList)=some xs:=by
     rw[zw5 (H':=Am.sealVs S.heap (mapA (fun p=>S.eval p.2) ps.toList)) ho];exact hxs
    rw[y8b (H:=T.heap) ho hxs,hx2];dsimp only
    rw[k1,k2,k3,y81,y81,y81,yb1 k4];exact kf8 hf h1'
   ·cases h
  ·cases ho
theorem z7l{k:Kd}{a:AVal}{ys:List k.T}(ht:H tok=none)(h:srcT H k a=some ys):srcT (fun p=>ifEq p tok (some row) (H p)) k a=some ys:=by
 unfold srcT at h⊢;split at h
 ·exact h
 ·exact h
 ·rename_i k' t off len;split at h
  ·rename_i k2 xs ao hr;have hne:t≠tok:=by rintro rfl;rw[ht] at hr;cases hr
   dsimp only
   rw[ya4 hne,hr];exact h
  ·cases h
 ·cases h
theorem z0x{o:Oper}(ho:appB o.op=true)(hs:step E o S some=some S'):∃e r v,o.dst=some e∧S.heap (e*16)=none∧
  ((S'=(S.setH (e*16) r).put o.dst v∧∀tok row,S.heap tok=none→tok≠e*16→step E o (S.setH tok row) some=some (((S.setH tok row).setH (e*16) r).put o.dst v))∨
  ∃t q,(S.heap t=some q∧∀cs,q≠ .box cs)∧S'=((S.setH t .dead).setH (e*16) r).put o.dst v∧∀tok row,S.heap tok=none→tok≠e*16→step E o (S.setH tok row) some=some ((((S.setH tok row).setH t .dead).setH (e*16) r).put o.dst v)):=by
 obtain⟨dst,op,type,pos,after,guard⟩:=o;cases op<;>try (cases ho;done)
 rename_i c;obtain⟨callee,args,tys⟩:=c;cases callee with
 |value f=>cases ho
 |invoke r m=>cases ho
 |builtin b=>
  cases b<;>try (cases ho;done)
  simp only[step] at hs⊢;split at hs
  ·rename_i s x t t2 ts hargs htys;split at hs
   ·cases hs
   ·rename_i d hd;obtain⟨k1,hs⟩:=ya1 hs;split at hs
    ·rename_i ys e1 e2;split at hs
     ·rename_i hlen;obtain⟨e,rfl,⟨h1,h1'⟩,h2⟩:=kf7 hs;refine⟨e,_,_,rfl,h1,.inl ⟨h2,fun tok row hn hne=> ?_⟩⟩;have e3:srcT (S.setH tok row).heap d.elt ((S.setH tok row).eval x)=some ys:=by
       rw[show(S.setH tok row).eval x=S.eval x from by cases x<;>rfl];exact z7l hn e2
      rw[k1,y81,show(S.setH tok row).eval s=S.eval s from by cases s<;>rfl,e1,e3];dsimp only
      rw[if_pos hlen];exact kf8 (by show ifEq _ _ _ _=none;rw[ya4 (Ne.symm hne)];exact h1) h1'
     ·cases hs
    ·rename_i k0 t0 off len ys e1 e2;split at hs
     ·rename_i k xs ao hr;split at hs
      ·rename_i xs' hc;split at hs
       ·rename_i hlen;obtain⟨e,rfl,⟨h1,h1'⟩,h2⟩:=kf7 hs;have hte:t0≠e*16:=by
         intro e';have:ifEq (e*16) t0 (some Row.dead) (S.heap (e*16))=none:=h1;rw[yb1 e'.symm] at this;cases this
        have hfree:S.heap (e*16)=none:=by
         have:ifEq (e*16) t0 (some Row.dead) (S.heap (e*16))=none:=h1;rw[ya4 (Ne.symm hte)] at this;exact this
        refine⟨e,_,_,rfl,hfree,.inr ⟨t0,_,⟨hr,fun _ h=>by cases h⟩,h2,fun tok row hn hne=> ?_⟩⟩;have e3:srcT (S.setH tok row).heap d.elt ((S.setH tok row).eval x)=some ys:=by
         rw[show(S.setH tok row).eval x=S.eval x from by cases x<;>rfl];exact z7l hn e2
        have hnt:t0≠tok:=by rintro rfl;rw[hn] at hr;cases hr
        have e4:(S.setH tok row).heap t0=some (.arr k xs ao):=by
         show ifEq t0 tok _ _=_;rw[ya4 hnt];exact hr
        rw[k1,y81,show(S.setH tok row).eval s=S.eval s from by cases s<;>rfl,e1,e3];dsimp only
        rw[e4];dsimp only
        rw[hc];dsimp only
        rw[if_pos hlen];refine kf8 ?_ h1';show ifEq (e*16) t0 _ (ifEq (e*16) tok _ _)=none;rw[ya4 (Ne.symm hte),ya4 (Ne.symm hne)];exact hfree
       ·cases hs
      ·cases hs
     ·cases hs
    ·cases hs
  ·cases hs
theorem app_put{o:Oper}(ho:appB o.op=true){l:List Oper}(hn:S.heap tok=none)(h:opS E l o S=some S')(hn':S'.heap tok=none):opS E l o (S.setH tok row)=some (S'.setH tok row):=by
 unfold opS at h⊢;rw[show gd l o (S.setH tok row)=gd l o S from rfl];obtain⟨t,ht,h⟩:=Option.bind_eq_some_iff.1 h;rw[ht];cases t with
 |false=>
  obtain rfl:=Option.some.inj h;exact congrArg some (y0b ..).symm
 |true=>
  simp only[Option.bind_some,cond_true] at h⊢;obtain⟨e,r,v,h1,h2,h3⟩:=z0x ho h
  rcases h3 with⟨rfl,h4⟩|⟨t,q,⟨h5,_⟩,rfl,h4⟩
  ·have hne:tok≠e*16:=by
    rintro rfl;rw[yc2] at hn';have:ifEq (e*16) (e*16) (some r) (S.heap (e*16))=none:=hn';rw[yb1 rfl] at this;cases this
   rw[h4 tok row hn hne,y4c hne,y0b]
  ·have hne:tok≠e*16:=by
    rintro rfl;rw[yc2] at hn';have:ifEq (e*16) (e*16) (some r) _=none:=hn';rw[yb1 rfl] at this;cases this
   have hnt:tok≠t:=by rintro rfl;rw[hn] at h5;cases h5
   rw[h4 tok row hn hne,y4c hnt,y4c hne,y0b]
theorem z7m{o:Oper}(ho:appB o.op=true){l:List Oper}(h:opS E l o S=some S'):∀p,S.heap p≠none→S'.heap p=S.heap p∨S'.heap p=some .dead:=by
 intro p hp;unfold opS at h;obtain⟨t,ht,h⟩:=Option.bind_eq_some_iff.1 h;cases t with
 |false=>
  obtain rfl:=Option.some.inj h;exact .inl (by rw[yc2])
 |true=>
  simp only[cond_true] at h;obtain⟨e,r,v,h1,h2,h3⟩:=z0x ho h;have hne:p≠e*16:=by rintro rfl;exact hp h2
  rcases h3 with⟨rfl,_⟩|⟨t,q,⟨h5,_⟩,rfl,_⟩
  ·left;rw[yc2];show ifEq p (e*16) _ _=_;rw[ya4 hne]
  ·rw[yc2];show ifEq p (e*16) _ (ifEq p t _ _)=_∨ifEq p (e*16) _ (ifEq p t _ _)=_;rw[ya4 hne]
   by_cases hpt:p=t
   ·right;rw[yb1 hpt]
   ·left;rw[ya4 hpt]
theorem z5d{o:Oper}(ho:appB o.op=true){l:List Oper}(h:opS E l o S=some S'){p:Nat}{cs:List AVal}(hp:S.heap p=some (.box cs)):S'.heap p≠some .dead:=by
 unfold opS at h;obtain⟨t,ht,h⟩:=Option.bind_eq_some_iff.1 h;cases t with
 |false=>
  obtain rfl:=Option.some.inj h;rw[yc2,hp];exact fun h=>by cases h
 |true=>
  simp only[cond_true] at h;obtain⟨e,r,v,h1,h2,h3⟩:=z0x ho h;have hne:p≠e*16:=by
   rintro rfl;rw[hp] at h2;cases h2
  rcases h3 with⟨rfl,_⟩|⟨t,q,⟨h5,h6⟩,rfl,_⟩
  ·rw[yc2];show ifEq p (e*16) _ _≠_;rw[ya4 hne,hp];exact fun h=>by cases h
  ·have hpt:p≠t:=by
    rintro rfl;rw[hp] at h5;exact h6 _ (Option.some.inj h5).symm
   rw[yc2];show ifEq p (e*16) _ (ifEq p t _ _)≠_;rw[ya4 hne,ya4 hpt,hp];exact fun h=>by cases h
theorem ldV_ptr{t:TypeId}{p c:Nat}{y:AVal}(h:ldV E t (.ptr p c) H=some y):∃cs,H p=some (.box cs):=by
 unfold ldV at h;split at h
 ·have:=y80 h;cases this
 ·dsimp only at h;split at h
  ·rename_i cs hr;exact⟨cs,hr⟩
  ·cases h
theorem k0e{t:TypeId}{x:AVal}{y:AVal}(h:ldV E t x H=some y):∀p∈yf8 x,H p≠some .dead:=by
 intro p hp hn;unfold ldV at h;cases hk:kdOf E t with
 |none=>
  rw[hk] at h;rw[y80 h] at hp;cases hp
 |some k'=>
  rw[hk] at h;dsimp only at h;cases x<;>try (simp[yf8] at hp;done)
  case ptr q c=>
   simp only[yf8,List.mem_singleton] at hp;subst hp;dsimp only at h;rw[hn] at h;cases h
  case ep q i c=>
   simp only[yf8,List.mem_singleton] at hp;subst hp;dsimp only at h;rw[hn] at h;cases h
  case pi q n i=>
   simp only[yf8,List.mem_singleton] at hp;subst hp;dsimp only at h;rw[hn] at h;cases h
theorem zt4{x i:Oper}(ha:x.apart ops i=true)(hx:appB x.op=true)(hi:z5c i=true):y7v E ops x i:=by
 intro S S1 S2 hr h1 h2;obtain⟨a1,a2,a3⟩:=Oper.apart_spec ha;have hl:i.guard=none∧∃t z,i.op=.load t z:=by
  unfold z5c at hi;split at hi
  ·cases hi
  ·rename_i hg;split at hi
   ·rename_i t z e;exact⟨hg,_,_,e⟩
   ·cases hi
 obtain⟨hg,t,z,ho⟩:=hl;have he:=y1r h1;have hs:SameAt ops i S S1:=SameAt.eff he a1;have hev:S1.eval z=S.eval z:=hs.eval z (by rw[ho];simp[Op.operands]);obtain⟨y,rfl,hy⟩:=y0c ho h2;have hdead:∀p∈yf8 (S1.eval z),S1.heap p≠some .dead:=by
  unfold opS gd at h2;rw[hg] at h2;simp only[Option.bind_some,cond_true] at h2;rw[y4b ho] at h2;obtain⟨u,hu,_⟩:=Option.bind_eq_some_iff.1 h2;exact k0e hu
 refine⟨_,hy S (fun p hp=>(hs p hp).symm) fun p hp hn=> ?_, ?_⟩
 ·have hp':=hp;rw[hev] at hp';have hSp:=hr t z ho p hp'
  rcases z7m hx h1 p hSp with e|e
  ·cases hq:S.heap p with
   |none=>exact absurd hq hSp
   |some r=>exact⟨r,r,by rw[e,hq],rfl,.inl (.inl rfl)⟩
  ·exact absurd e (hdead p hp)
 ·exact y8a (fun e he' hxe=>a2 e hxe he') a3 h1
theorem kf9{x i:Oper}(ha:x.apart ops i=true)(hx:appB x.op=true∨bldB E x.op=true)(hi:bldB E i.op=true):y7v E ops x i:=by
 intro S S1 S2 _ h1 h2;obtain⟨a1,a2,a3⟩:=Oper.apart_spec ha;have he:=y1r h1;have hs:SameAt ops i S1 S:=fun p hp=>(SameAt.eff he a1 p hp).symm
 rcases z7k hi h2 with⟨rfl,hy⟩|⟨d,r,v,hd,hf,rfl,hy⟩
 ·exact⟨_,hy S hs,y8a (fun e he' hxe=>a2 e hxe he') a3 h1⟩
 ·have hf':S.heap (d*16)=none:=by
   cases hh:S.heap (d*16) with
   |none=>rfl
   |some r=>exact absurd hf (he.2 _ (by rw[hh];simp))
  refine⟨_,hy S hs hf', ?_⟩;refine y8a (fun e he' hxe=>a2 e hxe he') a3 ?_
  rcases hx with hx|hx
  ·exact app_put hx hf' h1 hf
  ·rcases z7k hx h1 with⟨rfl,hz⟩|⟨d2,r2,v2,hd2,hf2,rfl,hz⟩
   ·rw[hz (S.setH (d*16) r) (fun p hp=>rfl)];exact congrArg some (y0b ..).symm
   ·have hne:d*16≠d2*16:=by
     intro e';rw[yc2] at hf;have:ifEq (d*16) (d2*16) (some r2) _=none:=hf;rw[yb1 e'] at this;cases this
    rw[hz (S.setH (d*16) r) (fun p hp=>rfl) (by show ifEq (d2*16) (d*16) _ _=none;rw[ya4 (Ne.symm hne)];exact hf2),y4c hne,y0b]
theorem z9f{x i:Oper}(h:commE E ops x i=true):y7v E ops x i∧∀e,x.dst=some e→e∉i.looksAt ops:=by
 obtain⟨ha,h⟩:=Bool.and_eq_true_iff.1 h;refine⟨?_,(Oper.apart_spec ha).1⟩
 rcases Bool.or_eq_true_iff.1 h with h|h
 ·obtain⟨h1,h2⟩:=Bool.and_eq_true_iff.1 h;exact zt4 ha h1 h2
 ·obtain⟨h1,h2⟩:=Bool.and_eq_true_iff.1 h;exact kf9 ha (Bool.or_eq_true_iff.1 h1) h2
end
end Go.Proofs.YtafognnoibjjeaaGreatDoor.Am
/- A region that draws its order does what its text's order does. -/
namespace Go.Proofs.YtafognnoibjjeaaGreatDoor.Am
open Go Go.RowKit
def zm2:Op→Bool
 |.load ..=>true
 |_=>false
def commB(ops:Array Oper)(x i:Oper):Bool:=x.apart ops i&&(vopB x.op||vopB i.op||(zm2 x.op&&extB i.op)||(zm2 i.op&&extB x.op)||(newB x.op&&(newB i.op||callB i.op))||(newB i.op&&(newB x.op||callB x.op)))
def zd9(ops:Array Oper):Nat→Nat→Nat→Bool
 |0,_,_=>false
 |f+1,j,x=>match ops[j]? with
  |none=>false
  |some o=>o.after.toList.any fun e=>Region.binds .any e&&(Nat.beq e.on x||zd9 ops f e.on x)
def pairB(ops:Array Oper)(x i:Nat):Bool:=zd9 ops ops.size i x||match ops[x]?,ops[i]? with
 |some ox,some oi=>commB ops ox oi
 |_,_=>false
def drawB(ops:Array Oper):Bool:=
 (List.range ops.size).all fun i=>((List.range i).all fun x=>pairB ops x i)&&match ops[i]? with
  |none=>true
  |some o=>o.after.toList.all fun e=> !Region.binds .any e||Nat.blt e.on i
section
variable {R : Type} {E : Env} {S S' : St} {ops : Array Oper} {P : Pg} {Wr0 : Base} {w0 : World} {I : Info} {a : Act} {w : World} {Q : Exit → Act → World → Prop}
theorem zb1{x i:Oper}(h:commB ops x i=true):y7v E ops x i∧∀e,x.dst=some e→e∉i.looksAt ops:=by
 unfold commB at h;rw[Bool.and_eq_true] at h;obtain⟨ha,h⟩:=h;refine⟨?_,(Oper.apart_spec ha).1⟩;simp only[Bool.or_eq_true,Bool.and_eq_true] at h;have ld:∀{op:Op},zm2 op=true→∃t z,op=.load t z:=by
  intro op ho;cases op<;>first|exact⟨_,_,rfl⟩|cases ho
 rcases h with((((h|h)|h)|h)|h)|h
 ·exact fun S S1 S2 _=>kf0 ha (.inl h) S S1 S2
 ·exact fun S S1 S2 _=>kf0 ha (.inr h) S S1 S2
 ·obtain⟨t,z,e⟩:=ld h.1;exact zl5 ha e h.2
 ·obtain⟨t,z,e⟩:=ld h.1;exact zg4 ha e h.2
 ·exact fun S S1 S2 _=>zt3 ha h.1 h.2 S S1 S2
 ·exact fun S S1 S2 _=>zm0 ha h.1 h.2 S S1 S2
def yz0(E:Env)(ops:Array Oper):List Nat→St→(St→Option R)→Option R
 |[],S,K=>K S
 |i::l,S,K=>match ops[i]? with
  |none=>none
  |some o=>(opS E ops.toList o S).bind fun S'=>yz0 E ops l S' K
theorem kg0{i:Nat}{o:Oper}(hi:ops[i]?=some o){post:List Nat}{K:St→Option R}{r:R}:∀{pre:List Nat} {S:St},Ready o S→(∀x∈pre,∀ox,ops[x]?=some ox→y7v E ops ox o∧∀e,ox.dst=some e→e∉o.looksAt ops)→
  yz0 E ops (pre++i::post) S K=some r→∃S1,opS E ops.toList o S=some S1∧yz0 E ops (pre++post) S1 K=some r
 |[],S,_,_,h=>by
  simp only[List.nil_append,yz0,hi] at h;exact Option.bind_eq_some_iff.1 h
 |x::pre,S,hr,hc,h=>by
  simp only[List.cons_append,yz0] at h;split at h
  ·cases h
  ·rename_i ox hox;obtain⟨S',h1,h2⟩:=Option.bind_eq_some_iff.1 h;obtain⟨c1,c2⟩:=hc x List.mem_cons_self ox hox;obtain⟨S1,h3,h4⟩:=kg0 hi (hr.eff (y1r h1) c2) (fun y hy=>hc y (List.mem_cons_of_mem _ hy)) h2;obtain⟨T,h5,h6⟩:=c1 S S' S1 hr h1 h3;refine⟨T,h5, ?_⟩;simp only[List.cons_append,yz0,hox];exact Option.bind_eq_some_iff.2 ⟨S1,h6,h4⟩
theorem y00{listed:Array Bool}(hcl:∀(j:Nat) o,ops[j]?=some o→listed.getD j false=true→∀e∈o.after,Region.binds .any e=true→listed.getD e.on false=true):
  ∀{f j x:Nat},(∀o,ops[j]?=some o→∀e∈o.after,Region.binds .any e=true→listed.getD e.on false=true)→zd9 ops f j x=true→listed.getD x false=true
 |0,_,_,_,h=>by cases h
 |f+1,j,x,hj,h=>by
  unfold zd9 at h;split at h
  ·cases h
  ·rename_i o ho;obtain⟨e,he,h⟩:=List.any_eq_true.1 h;rw[Bool.and_eq_true,Bool.or_eq_true] at h;have h1:=hj o ho e (by simpa using he) h.1
   rcases h.2 with h2|h2
   ·rw[←Nat.eq_of_beq_eq_true h2];exact h1
   ·exact y00 hcl (fun o' ho'=>hcl _ o' ho' h1) h2
theorem y47{listed:Array Bool}{j:Nat}(hj:j<listed.size):listed.getD j true=listed.getD j false:=by
 simp[Array.getD,hj]
theorem k0f(hE:ym1 P E)(hF:FnsOk P E)(hB:drawB ops=true){K:St→Option R}{r:R}(hQ:∀S' I' a' w',K S'=some r→Sim P Wr0 w0 S' I' a' w'→Q .normal a' w'):
  ∀(fuel:Nat) (rem:List Nat) (listed:Array Bool) {S:St} {I:Info} {a:Act} {w:World},rem.length=fuel→listed.size=ops.size→rem.Pairwise (·<·)→(∀j,j<ops.size→(j∈rem↔listed.getD j true=false))→(∀j∈rem,j<ops.size)→
  (∀(j:Nat) o,ops[j]?=some o→listed.getD j false=true→∀e∈o.after,Region.binds .any e=true→listed.getD e.on false=true)→
  yz0 E ops rem S K=some r→Sim P Wr0 w0 S I a w→wpAny P .any ops Q fuel listed a w:=by
 have hB':∀i,i<ops.size→(∀x,x<i→pairB ops x i=true)∧∀o,ops[i]?=some o→∀e∈o.after,Region.binds .any e=true→e.on<i:=by
  intro i hi;have:=List.all_eq_true.1 hB i (List.mem_range.2 hi);rw[Bool.and_eq_true] at this;refine⟨fun x hx=>List.all_eq_true.1 this.1 x (List.mem_range.2 hx),fun o ho e he hb=> ?_⟩;have h2:=this.2;rw[ho] at h2;have h3:=List.all_eq_true.1 h2 e (by simpa using he);rw[hb] at h3;simpa using h3
 intro fuel
 induction fuel with
 |zero=>
  intro rem listed S I a w hlen hsz hs hm hlt hcl h hS;have:rem=[]:=List.length_eq_zero_iff.1 hlen;subst this;refine⟨?_,hQ _ _ _ _ h hS⟩;cases hr:Region.ready .any ops listed with
  |nil=>rfl
  |cons x l=>
   have hx:x∈Region.ready .any ops listed:=by rw[hr];exact List.mem_cons_self
   obtain⟨h0,o,ho,_⟩:=mem_ready.1 hx;have hxl:x<ops.size:=(Array.getElem?_eq_some_iff.1 ho).1;exact absurd ((hm x hxl).2 h0) (by simp)
 |succ fuel ih=>
  intro rem listed S I a w hlen hsz hs hm hlt hcl h hS;refine⟨fun hr=> ?_,fun i hi=> ?_⟩
  ·exfalso
   match rem,hlen,hs,hm,hlt,h with
   |i::rem,_,hs,hm,hlt,h=>
    have hi:=hlt i List.mem_cons_self;have:i∈Region.ready .any ops listed:=by
     refine mem_ready.2 ⟨(hm i hi).1 List.mem_cons_self,_,Array.getElem?_eq_getElem hi,fun e he hb=> ?_⟩;have hlt2:=(hB' i hi).2 _ (Array.getElem?_eq_getElem hi) e he hb;have hnot:e.on∉i::rem:=by
      intro hmem
      rcases List.mem_cons.1 hmem with e1|e1
      ·omega
      ·have:=(List.pairwise_cons.1 hs).1 _ e1;omega
     have hb2:¬listed.getD e.on true=false:=fun hh=>hnot ((hm e.on (by omega)).2 hh);rw[y47 (by omega)] at hb2;simpa using hb2
    rw[hr] at this;cases this
  ·obtain⟨h0,o,ho,hdep⟩:=mem_ready.1 hi;have hil:i<ops.size:=(Array.getElem?_eq_some_iff.1 ho).1;have hmem:=(hm i hil).2 h0;obtain⟨pre,post,rfl⟩:=List.append_of_mem hmem;have hpre:∀x∈pre,x<i:=by
    intro x hx;have:=List.pairwise_append.1 hs;exact this.2.2 x hx i List.mem_cons_self
   have hpost:∀x∈post,i<x:=by
    have:=(List.pairwise_append.1 hs).2.1;exact(List.pairwise_cons.1 this).1
   have hcomm:∀x∈pre,∀ox,ops[x]?=some ox→y7v E ops ox o∧∀e,ox.dst=some e→e∉o.looksAt ops:=by
    intro x hx ox hox;have hxl:x<ops.size:=(Array.getElem?_eq_some_iff.1 hox).1;have hp:=(hB' i hil).1 x (hpre x hx);unfold pairB at hp;rw[Bool.or_eq_true] at hp
    rcases hp with hp|hp
    ·exfalso;have h1:=y00 hcl (fun o' ho'=>by rw[ho] at ho';obtain rfl:=Option.some.inj ho';exact hdep) hp;have h2:=(hm x hxl).1 (List.mem_append_left _ hx);rw[y47 (by omega),h1] at h2;cases h2
    ·rw[hox,ho] at hp;exact zb1 hp
   obtain⟨S1,h1,h2⟩:=kg0 ho (hS.ready o) hcomm h;have hg:yy7 ops.toList o S (fun S=>step E o S fun S'=>yz0 E ops (pre++post) S' K) (fun S=>yz0 E ops (pre++post) (S.put o.dst (.tup [])) K)=some r:=by
    have e1:(opS E ops.toList o S).bind (fun S'=>yz0 E ops (pre++post) S' K)=some r:=Option.bind_eq_some_iff.2 ⟨S1,h1,h2⟩;rw[y66];unfold opS at e1;rw[Option.bind_assoc] at e1;rw[←e1];congr 1;funext t;cases t with
    |true=>
     simp only[cond_true];rw[y64];simp only[Option.bind_some]
    |false=>rfl
   have next:∀{S2:St} {I':Info} {a':Act} {w':World},yz0 E ops (pre++post) S2 K=some r→Sim P Wr0 w0 S2 I' a' w'→wpAny P .any ops Q fuel (listed.setIfInBounds i true) a' w':=by
    intro S2 I' a' w' h3 hS2;refine ih (pre++post) _ ?_ (by simp[hsz]) ?_ ?_ ?_ ?_ h3 hS2
    ·simp only[List.length_append,List.length_cons] at hlen⊢;omega
    ·have:=List.pairwise_append.1 hs;exact List.pairwise_append.2 ⟨this.1,(List.pairwise_cons.1 this.2.1).2,fun x hx y hy=>this.2.2 x hx y (List.mem_cons_of_mem _ hy)⟩
    ·intro j hj
     by_cases e:j=i
     ·subst e;constructor
      ·intro hmm;exfalso
       rcases List.mem_append.1 hmm with hmm|hmm
       ·have:=hpre j hmm;omega
       ·have:=hpost j hmm;omega
      ·intro hh;have:j<listed.size:=by omega
       simp[this] at hh
     ·rw[getD_set_ne true (Ne.symm e),←hm j hj];simp only[List.mem_append,List.mem_cons];constructor
      ·rintro(hh|hh)
       ·exact .inl hh
       ·exact .inr (.inr hh)
      ·rintro(hh|hh|hh)
       ·exact .inl hh
       ·exact absurd hh e
       ·exact .inr hh
    ·intro j hj;refine hlt j ?_;simp only[List.mem_append,List.mem_cons] at hj⊢;exact hj.imp id .inr
    ·intro j oj hoj hl e he hb
     by_cases ej:j=i
     ·subst ej;rw[ho] at hoj;obtain rfl:=Option.some.inj hoj;exact getD_set_true (hdep e he hb)
     ·rw[getD_set_ne false (Ne.symm ej)] at hl;exact getD_set_true (hcl j oj hoj hl e he hb)
   unfold wpOp;simp only[ho]
   rcases y2d hS hg with⟨hw,S3,e3,h3⟩|⟨hw,S3,e3,h3⟩<;>subst e3
   ·rw[if_pos hw];refine .inl ?_;obtain⟨S2,h4,h5⟩:=z4y hE hF h3 I a w hS;exact h5 _ _ fun I' a' w' hS'=>next h4 hS'
   ·rw[if_neg (by rw[hw];simp)];exact next h3 (hS.undef o.dst)
theorem ze0{K:St→Option R}{r:R}:∀(os:List Oper) (k:Nat) (S:St),(∀j,os[j]?=ops[k+j]?)→(∀o∈os,yk6 E o.dst o.op=true)→y10 E ops.toList os S K=some r→yz0 E ops (List.range' k os.length) S K=some r
 |[],_,_,_,_,h=>h
 |o::os,k,S,hk,hms,h=>by
  have h0:ops[k]?=some o:=by simpa using(hk 0).symm
  rw[zw0 (hms o List.mem_cons_self)] at h;obtain⟨S',h1,h2⟩:=Option.bind_eq_some_iff.1 h;simp only[List.length_cons,List.range'_succ,yz0,h0];exact Option.bind_eq_some_iff.2 ⟨S',h1,ze0 os (k+1) S' (fun j=>by have:=hk (j+1);simpa[Nat.add_assoc,Nat.add_comm 1 j] using this) (fun x hx=>hms x (List.mem_cons_of_mem _ hx)) h2⟩
/-- A REGION THAT DRAWS ITS ORDER, CHECKED -/
theorem kg1(hE:ym1 P E)(hF:FnsOk P E)(hm:P.p.follows .mixedOrders=true){id:Nat}(hB:drawB ops=true)(hms:∀o∈ops.toList,yk6 E o.dst o.op=true):DrawOk0 P E id ops:=by
 intro R K r Wr0 w0 S h I a w hS Q hQ;refine wp_region_any hm ?_;have h1:=ze0 ops.toList 0 S (by simp) hms h;rw[Array.length_toList,←List.range_eq_range'] at h1;refine k0f hE hF hB hQ ops.size (List.range ops.size) _ (by simp) (by simp) List.pairwise_lt_range ?_ ?_ ?_ h1 (hS.grow (BelowD.refl _ _).drew)
 ·intro j hj;simp[hj]
 ·intro j hj;exact List.mem_range.1 hj
 ·intro j o ho hl;have:j<ops.size:=(Array.getElem?_eq_some_iff.1 ho).1;simp[this] at hl
/-- the same, where the last operation hangs on all the others -/
theorem z9g(hE:ym1 P E)(hF:FnsOk P E)(hB:drawB ops=true){n:Nat}{ol:Oper}(hol:ops[n]?=some ol)(hall:∀x,x<n→zd9 ops ops.size n x=true){K:St→Option R}{r:R}(hQ:∀S' I' a' w',K S'=some r→Sim P Wr0 w0 S' I' a' w'→Q .normal a' w'):
  ∀(fuel:Nat) (rem:List Nat) (listed:Array Bool) {S:St} {I:Info} {a:Act} {w:World},(rem++[n]).length=fuel→listed.size=ops.size→(rem++[n]).Pairwise (·<·)→(∀j,j<ops.size→(j∈rem++[n]↔listed.getD j true=false))→(∀j∈rem++[n],j<ops.size)→
  (∀(j:Nat) o,ops[j]?=some o→listed.getD j false=true→∀e∈o.after,Region.binds .any e=true→listed.getD e.on false=true)→
  yz0 E ops rem S (fun S'=>yy7 ops.toList ol S' (fun S=>y2k E ol S K) (fun S=>K (S.put ol.dst (.tup []))))=some r→Sim P Wr0 w0 S I a w→wpAny P .any ops Q fuel listed a w:=by
 have hB':∀i,i<ops.size→(∀x,x<i→pairB ops x i=true)∧∀o,ops[i]?=some o→∀e∈o.after,Region.binds .any e=true→e.on<i:=by
  intro i hi;have:=List.all_eq_true.1 hB i (List.mem_range.2 hi);rw[Bool.and_eq_true] at this;refine⟨fun x hx=>List.all_eq_true.1 this.1 x (List.mem_range.2 hx),fun o ho e he hb=> ?_⟩;have h2:=this.2;rw[ho] at h2;have h3:=List.all_eq_true.1 h2 e (by simpa using he);rw[hb] at h3;simpa using h3
 intro fuel
 induction fuel with
 |zero=>
  intro rem listed S I a w hlen hsz hs hm hlt hcl h hS;simp at hlen
 |succ fuel ih=>
  intro rem listed S I a w hlen hsz hs hm hlt hcl h hS;refine⟨fun hr=> ?_,fun i hi=> ?_⟩
  ·exfalso;clear h
   match rem++[n],hlen,hs,hm,hlt with
   |i::rem,_,hs,hm,hlt=>
    have hi:=hlt i List.mem_cons_self;have:i∈Region.ready .any ops listed:=by
     refine mem_ready.2 ⟨(hm i hi).1 List.mem_cons_self,_,Array.getElem?_eq_getElem hi,fun e he hb=> ?_⟩;have hlt2:=(hB' i hi).2 _ (Array.getElem?_eq_getElem hi) e he hb;have hnot:e.on∉i::rem:=by
      intro hmem
      rcases List.mem_cons.1 hmem with e1|e1
      ·omega
      ·have:=(List.pairwise_cons.1 hs).1 _ e1;omega
     have hb2:¬listed.getD e.on true=false:=fun hh=>hnot ((hm e.on (by omega)).2 hh);rw[y47 (by omega)] at hb2;simpa using hb2
    rw[hr] at this;cases this
  ·obtain⟨h0,o,ho,hdep⟩:=mem_ready.1 hi;have hil:i<ops.size:=(Array.getElem?_eq_some_iff.1 ho).1;have hmem0:=(hm i hil).2 h0
   by_cases hin:i=n
   ·subst hin;rw[hol] at ho;obtain rfl:=Option.some.inj ho;have hrem:rem=[]:=by
     cases rem with
     |nil=>rfl
     |cons x l=>
      exfalso;have hx:x<i:=(List.pairwise_cons.1 hs).1 i (by simp);have h1:=y00 hcl (fun o' ho'=>by rw[hol] at ho';obtain rfl:=Option.some.inj ho';exact hdep) (hall x hx);have h2:=(hm x (by omega)).1 (by simp);rw[y47 (by omega),h1] at h2;cases h2
    subst hrem;have hf0:fuel=0:=by simpa using hlen.symm
    subst hf0;have h:yy7 ops.toList ol S (fun S=>y2k E ol S K) (fun S=>K (S.put ol.dst (.tup [])))=some r:=h;have done:∀{S2:St} {I':Info} {a':Act} {w':World},K S2=some r→Sim P Wr0 w0 S2 I' a' w'→wpAny P .any ops Q 0 (listed.setIfInBounds i true) a' w':=by
     intro S2 I' a' w' h3 hS2;refine⟨?_,hQ _ _ _ _ h3 hS2⟩;cases hr:Region.ready .any ops (listed.setIfInBounds i true) with
     |nil=>rfl
     |cons x l=>
      exfalso;have hx:x∈Region.ready .any ops (listed.setIfInBounds i true):=by rw[hr];exact List.mem_cons_self
      obtain⟨h5,o,ho,_⟩:=mem_ready.1 hx;have hxl:x<ops.size:=(Array.getElem?_eq_some_iff.1 ho).1
      by_cases e:x=i
      ·subst e;have:x<listed.size:=by omega
       simp[this] at h5
      ·rw[getD_set_ne true (Ne.symm e)] at h5;have:=(hm x hxl).2 h5;simp at this;exact e this
    unfold wpOp;simp only[hol]
    rcases y2d hS h with⟨hw,S3,e3,h3⟩|⟨hw,S3,e3,h3⟩<;>subst e3
    ·rw[if_pos hw];refine .inl ?_;obtain⟨S2,h4,h5⟩:=zh3 hE hF h3 I a w hS;exact h5 _ _ fun I' a' w' hS'=>done h4 hS'
    ·rw[if_neg (by rw[hw];simp)];exact done h3 (hS.undef ol.dst)
   have hmem:i∈rem:=by
    rcases List.mem_append.1 hmem0 with h5|h5
    ·exact h5
    ·exact absurd (List.mem_singleton.1 h5) hin
   obtain⟨pre,post,rfl⟩:=List.append_of_mem hmem;have hpre:∀x∈pre,x<i:=by
    intro x hx;have:=List.pairwise_append.1 (List.pairwise_append.1 hs).1;exact this.2.2 x hx i List.mem_cons_self
   have hpost:∀x∈post,i<x:=by
    have:=(List.pairwise_append.1 (List.pairwise_append.1 hs).1).2.1;exact(List.pairwise_cons.1 this).1
   have hcomm:∀x∈pre,∀ox,ops[x]?=some ox→y7v E ops ox o∧∀e,ox.dst=some e→e∉o.looksAt ops:=by
    intro x hx ox hox;have hxl:x<ops.size:=(Array.getElem?_eq_some_iff.1 hox).1;have hp:=(hB' i hil).1 x (hpre x hx);unfold pairB at hp;rw[Bool.or_eq_true] at hp
    rcases hp with hp|hp
    ·exfalso;have h1:=y00 hcl (fun o' ho'=>by rw[ho] at ho';obtain rfl:=Option.some.inj ho';exact hdep) hp;have h2:=(hm x hxl).1 (List.mem_append_left _ (List.mem_append_left _ hx));rw[y47 (by omega),h1] at h2;cases h2
    ·rw[hox,ho] at hp;exact zb1 hp
   let KL:St→Option R:=fun S'=>yy7 ops.toList ol S' (fun S=>y2k E ol S K) (fun S=>K (S.put ol.dst (.tup [])))
   obtain⟨S1,h1,h2⟩:=kg0 ho (hS.ready o) hcomm h;have hg:yy7 ops.toList o S (fun S=>step E o S fun S'=>yz0 E ops (pre++post) S' KL) (fun S=>yz0 E ops (pre++post) (S.put o.dst (.tup [])) KL)=some r:=by
    have e1:(opS E ops.toList o S).bind (fun S'=>yz0 E ops (pre++post) S' KL)=some r:=Option.bind_eq_some_iff.2 ⟨S1,h1,h2⟩;rw[y66];unfold opS at e1;rw[Option.bind_assoc] at e1;rw[←e1];congr 1;funext t;cases t with
    |true=>
     simp only[cond_true];rw[y64];simp only[Option.bind_some]
    |false=>rfl
   have next:∀{S2:St} {I':Info} {a':Act} {w':World},yz0 E ops (pre++post) S2 KL=some r→Sim P Wr0 w0 S2 I' a' w'→wpAny P .any ops Q fuel (listed.setIfInBounds i true) a' w':=by
    intro S2 I' a' w' h3 hS2;refine ih (pre++post) _ ?_ (by simp[hsz]) ?_ ?_ ?_ ?_ h3 hS2
    ·simp only[List.length_append,List.length_cons] at hlen⊢;omega
    ·have h9:=List.pairwise_append.1 hs;have:=List.pairwise_append.1 h9.1;exact List.pairwise_append.2 ⟨List.pairwise_append.2 ⟨this.1,(List.pairwise_cons.1 this.2.1).2,fun x hx y hy=>this.2.2 x hx y (List.mem_cons_of_mem _ hy)⟩,h9.2.1,fun x hx y hy=>h9.2.2 x (by
      rcases List.mem_append.1 hx with hx|hx
      ·exact List.mem_append_left _ hx
      ·exact List.mem_append_right _ (List.mem_cons_of_mem _ hx)) y hy⟩
    ·intro j hj
     by_cases e:j=i
     ·subst e;constructor
      ·intro hmm;exfalso
       rcases List.mem_append.1 hmm with hmm|hmm
       ·rcases List.mem_append.1 hmm with hmm|hmm
        ·have:=hpre j hmm;omega
        ·have:=hpost j hmm;omega
       ·exact hin (List.mem_singleton.1 hmm)
      ·intro hh;have:j<listed.size:=by omega
       simp[this] at hh
     ·rw[getD_set_ne true (Ne.symm e),←hm j hj];simp only[List.mem_append,List.mem_cons];constructor
      ·rintro((hh|hh)|hh)
       ·exact .inl (.inl hh)
       ·exact .inl (.inr (.inr hh))
       ·exact .inr hh
      ·rintro((hh|hh|hh)|hh)
       ·exact .inl (.inl hh)
       ·exact absurd hh e
       ·exact .inl (.inr hh)
       ·exact .inr hh
    ·intro j hj;refine hlt j ?_;simp only[List.mem_append,List.mem_cons] at hj⊢
     rcases hj with(hj|hj)|hj
     ·exact .inl (.inl hj)
     ·exact .inl (.inr (.inr hj))
     ·exact .inr hj
    ·intro j oj hoj hl e he hb
     by_cases ej:j=i
     ·subst ej;rw[ho] at hoj;obtain rfl:=Option.some.inj hoj;exact getD_set_true (hdep e he hb)
     ·rw[getD_set_ne false (Ne.symm ej)] at hl;exact getD_set_true (hcl j oj hoj hl e he hb)
   unfold wpOp;simp only[ho]
   rcases y2d hS hg with⟨hw,S3,e3,h3⟩|⟨hw,S3,e3,h3⟩<;>subst e3
   ·rw[if_pos hw];refine .inl ?_;obtain⟨S2,h4,h5⟩:=z4y hE hF h3 I a w hS;exact h5 _ _ fun I' a' w' hS'=>next h4 hS'
   ·rw[if_neg (by rw[hw];simp)];exact next h3 (hS.undef o.dst)
theorem zm3{ol:Oper}{K:St→Option R}{r:R}:∀(os:List Oper) (k:Nat) (S:St),(∀j,j<os.length→os[j]?=ops[k+j]?)→(∀o∈os,yk6 E o.dst o.op=true)→y10 E ops.toList (os++[ol]) S K=some r→
  yz0 E ops (List.range' k os.length) S (fun S'=>yy7 ops.toList ol S' (fun S=>y2k E ol S K) (fun S=>K (S.put ol.dst (.tup []))))=some r
 |[],_,_,_,_,h=>h
 |o::os,k,S,hk,hms,h=>by
  have h0:ops[k]?=some o:=by simpa using(hk 0 (by simp)).symm
  rw[List.cons_append,zw0 (hms o List.mem_cons_self)] at h;obtain⟨S',h1,h2⟩:=Option.bind_eq_some_iff.1 h;simp only[List.length_cons,List.range'_succ,yz0,h0];exact Option.bind_eq_some_iff.2 ⟨S',h1,zm3 os (k+1) S' (fun j hj=>by have:=hk (j+1) (by simp;omega);simpa[Nat.add_assoc,Nat.add_comm 1 j] using this) (fun x hx=>hms x (List.mem_cons_of_mem _ hx)) h2⟩
def lastB(ops:Array Oper):Bool:=(List.range (ops.size-1)).all fun x=>zd9 ops ops.size (ops.size-1) x
/-- a region that draws its order, whose last operation hangs on all the others -/
theorem z5e(hE:ym1 P E)(hF:FnsOk P E)(hm:P.p.follows .mixedOrders=true){id:Nat}(hB:drawB ops=true)(hL:lastB ops=true){os:List Oper}{ol:Oper}(ho:ops.toList=os++[ol])(hms:∀o∈os,yk6 E o.dst o.op=true):DrawOk0 P E id ops:=by
 intro R K r Wr0 w0 S h I a w hS Q hQ;refine wp_region_any hm ?_;have hsz:ops.size=os.length+1:=by rw[←Array.length_toList,ho];simp
 have hget:∀j,ops[j]?=(os++[ol])[j]?:=fun j=>by rw[←ho,Array.getElem?_toList]
 rw[show ops.toList=os++[ol] from ho] at h;have h1:=zm3 (ops:=ops) os 0 S (fun j hj=>by rw[Nat.zero_add,hget,List.getElem?_append_left hj]) hms (by rw[ho];exact h);rw[←List.range_eq_range'] at h1;have e0:List.range os.length++[os.length]=List.range ops.size:=by rw[hsz,List.range_succ]
 refine z9g hE hF hB (n:=os.length) (ol:=ol) (by rw[hget];simp) ?_ hQ ops.size (List.range os.length) _ (by rw[e0];simp) (by simp) (by rw[e0];exact List.pairwise_lt_range) ?_ ?_ ?_ h1 (hS.grow (BelowD.refl _ _).drew)
 ·intro x hx;unfold lastB at hL;have:=List.all_eq_true.1 hL x (List.mem_range.2 (by omega));rw[show ops.size-1=os.length by omega] at this;exact this
 ·rw[e0];intro j hj;simp[hj]
 ·rw[e0];intro j hj;exact List.mem_range.1 hj
 ·intro j o ho hl;have:j<ops.size:=(Array.getElem?_eq_some_iff.1 ho).1;simp[this] at hl
end
end Go.Proofs.YtafognnoibjjeaaGreatDoor.Am
/- A region that draws its order in which a call writes into what is handed in. -/
namespace Go.Proofs.YtafognnoibjjeaaGreatDoor.Am
open Go Go.RowKit
def zm4(n:Nat):List Ar→Bool
 |[]=>true
 |.v _::ps=>zm4 n ps
 |.io _::_=>false
 |.bx k::ps=>ifT (Nat.blt k.size n) (zm4 n ps) false
def msB(n:Nat)(E:Env)(o:Oper):Bool:=
 match ilOf E o.dst with
 |some _=>false
 |none=>match msOf E o.op with
  |some f=>zm4 n f.ps
  |none=>false
def zm5(E:Env)(n:Nat)(o:Oper):Bool:=
 match o.guard with
 |some _=>false
 |none=>match o.op with
  |.load t _=>match kdOf E t with
   |some (.pair a b)=>Nat.ble n (Kd.pair a b).size
   |_=>false
  |_=>false
/-- a function value is made -/
def mkB(E:Env)(o:Oper):Bool:=
 match ilOf E o.dst with
 |some _=>false
 |none=>match msOf E o.op with
  |some _=>false
  |none=>match bsOf E o.op with
   |some _=>false
   |none=>match zz8 E o.op with
    |some _=>false
    |none=>match mkOf o.op with
     |some _=>true
     |none=>false
/-- a function is called that is handed a function value -/
def cloB(E:Env)(o:Oper):Bool:=
 match ilOf E o.dst with
 |some _=>false
 |none=>match msOf E o.op with
  |some _=>false
  |none=>match bsOf E o.op with
   |some _=>false
   |none=>match zz8 E o.op with
    |some _=>true
    |none=>false
def okX(E:Env)(n:Nat)(o:Oper):Bool:=ifT (yk6 E o.dst o.op) true (ifT (mkB E o) true (ifT (cloB E o) true (msB n E o)))
def commX(E:Env)(n:Nat)(ops:Array Oper)(x i:Oper):Bool:=
 ifT (yk6 E x.dst x.op) (ifT (yk6 E i.dst i.op) (commB ops x i||commE E ops x i) (ifT (msB n E i) (x.apart ops i&&(vopB x.op||zm5 E n x)) false)) (ifT (msB n E x) (ifT (yk6 E i.dst i.op) (x.apart ops i&&vopB i.op) false) false)||(yk6 E x.dst x.op&&(x.apart ops i&&((vopB x.op||zm2 x.op)&&(mkB E i||cloB E i))))
def pairX(E:Env)(n:Nat)(ops:Array Oper)(x i:Nat):Bool:=zd9 ops ops.size i x||match ops[x]?,ops[i]? with
 |some ox,some oi=>commX E n ops ox oi
 |_,_=>false
def drawX(E:Env)(n:Nat)(ops:Array Oper):Bool:=
 (List.range ops.size).all fun i=>((List.range i).all fun x=>pairX E n ops x i)&&match ops[i]? with
  |none=>true
  |some o=>okX E n o&&o.after.toList.all fun e=> !Region.binds .any e||Nat.blt e.on i
section
variable {R α : Type} {E : Env} {S S' : St} {ops : Array Oper} {P : Pg} {Wr0 : Base} {w0 : World} {I : Info} {a : Act} {w : World} {Q : Exit → Act → World → Prop} {n : Nat} {H : Nat → Option Row}
theorem zm6{st:Bool}:∀{k:Kd} {cs:List AVal} {x:k.T} {rest:List AVal},toTs st H k cs=some (x,rest)→cs.length=k.size+rest.length
 |.unit,cs,x,rest,h=>by
  unfold toTs at h;obtain⟨_,rfl⟩:=Prod.mk.inj (Option.some.inj h);simp[Kd.size]
 |.pair a b,cs,x,rest,h=>by
  unfold toTs at h;split at h
  ·rename_i r hr;split at h
   ·rename_i q hq;have h1:=zm6 (x:=r.1) (rest:=r.2) hr;have h2:=zm6 (x:=q.1) (rest:=q.2) hq;obtain⟨_,e⟩:=Prod.mk.inj (Option.some.inj h);rw[h1,h2,e];simp only[Kd.size];omega
   ·cases h
  ·cases h
 |.int _,cs,x,rest,h=>toTs_size1 (by intro c cs;unfold toTs;rfl) (by unfold toTs;rfl) h
 |.bool,cs,x,rest,h=>toTs_size1 (by intro c cs;unfold toTs;rfl) (by unfold toTs;rfl) h
 |.str,cs,x,rest,h=>toTs_size1 (by intro c cs;unfold toTs;rfl) (by unfold toTs;rfl) h
 |.err,cs,x,rest,h=>toTs_size1 (by intro c cs;unfold toTs;rfl) (by unfold toTs;rfl) h
 |.pt,cs,x,rest,h=>toTs_size1 (by intro c cs;unfold toTs;rfl) (by unfold toTs;rfl) h
 |.sl _,cs,x,rest,h=>toTs_size1 (by intro c cs;unfold toTs;rfl) (by unfold toTs;rfl) h
where
 toTs_size1 {st:Bool} {k:Kd} {cs:List AVal} {x:k.T} {rest:List AVal} (h1:∀c cs,toTs st H k (c::cs)=match leafT st H k c with|some x=>some (x,cs)|none=>none) (h0:toTs st H k []=none) (h:toTs st H k cs=some (x,rest)):cs.length=1+rest.length:=by
  cases cs with
  |nil=>rw[h0] at h;cases h
  |cons c cs=>
   rw[h1] at h;split at h
   ·obtain⟨_,rfl⟩:=Prod.mk.inj (Option.some.inj h);simp only[List.length_cons];omega
   ·cases h
theorem y8c:∀{ps:List Ar},zm4 n ps=true→∀(vs:List AVal) (ts:List Nat) (F:ArsT ps→List Nat→Option α) (K:α→Option R),(yl4 H ps vs ts F).bind K=yl4 H ps vs ts fun x ts=>(F x ts).bind K
 |[],_,[],_,_,_=>rfl
 |[],_,_::_,_,_,_=>rfl
 |.v k::ps,hs,[],_,_,_=>rfl
 |.v k::ps,hs,a::rest,ts,F,K=>by
  simp only[yl4];cases toT true H k a with
  |none=>rfl
  |some x=>exact y8c (ps:=ps) hs rest ts _ K
 |.io k::ps,hs,_,_,_,_=>by cases hs
 |.bx k::ps,hs,[],_,_,_=>rfl
 |.bx k::ps,hs,a::rest,ts,F,K=>by
  obtain⟨_,hs⟩:=yb8 hs;simp only[yl4];cases a<;>try rfl
  rename_i t c;dsimp only
  rw[zl0,yt5];cases H t with
  |none=>rfl
  |some row=>
   cases row<;>try rfl
   rename_i cs;dsimp only
   cases toTs true H k cs with
   |none=>rfl
   |some q=>
    obtain⟨x,l⟩:=q;cases l with
    |nil=>
     dsimp only
     rw[y8c (ps:=ps) hs rest _ _ K];rfl
    |cons _ _=>rfl
theorem y0d:∀{ps:List Ar},zm4 n ps=true→∀{vs:List AVal} {ts:List Nat} {K:ArsT ps→List Nat→Option R} {r:R},yl4 H ps vs ts K=some r→
  ∃x us,K x us=some r∧(∀t∈us,t∈ts∨((∃cs,H t=some (.box cs)∧cs.length<n)∧∃c,AVal.ptr t c∈vs))∧∀K':ArsT ps→List Nat→Option R,yl4 H ps vs ts K'=K' x us
 |[],_,[],ts,K,r,h=>⟨(),ts,h,fun t ht=>.inl ht,fun _=>rfl⟩
 |[],_,_::_,_,_,_,h=>by cases h
 |.v k::ps,hs,[],_,_,_,h=>by cases h
 |.v k::ps,hs,a::rest,ts,K,r,h=>by
  simp only[yl4] at h⊢;split at h
  ·rename_i x hx;obtain⟨y,us,h1,h2,h3⟩:=y0d (ps:=ps) hs h;exact⟨(x,y),us,h1,fun u hu=>(h2 u hu).imp id fun h4=>⟨h4.1,h4.2.imp fun c hc=>List.mem_cons_of_mem _ hc⟩,fun K'=>h3 _⟩
  ·cases h
 |.io k::ps,hs,_,_,_,_,_=>by cases hs
 |.bx k::ps,hs,[],_,_,_,h=>by cases h
 |.bx k::ps,hs,a::rest,ts,K,r,h=>by
  obtain⟨hk,hs⟩:=yb8 hs;simp only[yl4] at h⊢;cases a<;>try (cases h;done)
  rename_i t c;dsimp only at h⊢;obtain⟨hc,h⟩:=yw3 h;simp only[yb1 hc];cases hm:memN t ts with
  |true=>rw[hm] at h;cases h
  |false=>
   rw[hm,zg5] at h;simp only[zg5];cases hH:H t with
   |none=>rw[hH] at h;cases h
   |some row=>
    rw[hH] at h;cases row<;>try (cases h;done)
    rename_i cs;dsimp only at h⊢;cases hT:toTs true H k cs with
    |none=>rw[hT] at h;cases h
    |some q=>
     obtain⟨x,l⟩:=q;rw[hT] at h;cases l with
     |cons _ _=>cases h
     |nil=>
      dsimp only at h⊢;obtain⟨y,us,h1,h2,h3⟩:=y0d (ps:=ps) hs h;refine⟨(x,y),us,h1,fun u hu=> ?_,fun K'=>h3 _⟩
      rcases h2 u hu with h4|h4
      ·rw[yh8] at h4
       rcases List.mem_append.1 h4 with h4|h4
       ·exact .inl h4
       ·obtain rfl:=List.mem_singleton.1 h4;have:=zm6 hT;have hk:=Nat.le_of_ble_eq_true hk;exact .inr ⟨⟨cs,hH,by simp only[List.length_nil] at this;omega⟩,c,List.mem_cons_self⟩
      ·exact .inr ⟨h4.1,h4.2.imp fun c hc=>List.mem_cons_of_mem _ hc⟩
theorem zm7{f:FnM}(hs:zm4 n f.ps=true)(d:Option Nat)(vs:List AVal)(F:St→Option α)(K:α→Option R):(y90 f d S vs F).bind K=y90 f d S vs fun x=>(F x).bind K:=by
 unfold y90;dsimp only
 rw[y8c hs];congr 1;funext xs ts;rw[Option.bind_assoc];congr 1;funext r;exact z43 ..
theorem z2t{f:FnM}{d:Option Nat}{e:Nat}{y:AVal}(h:d≠some e)(vs:List AVal)(K:St→Option R):y90 f d (S.put (some e) y) vs K=y90 f d S vs fun S'=>K (S'.put (some e) y):=by
 unfold y90;dsimp only
 rw[yc2];congr 1;funext xs ts;congr 1;funext r;exact z44 (S:={S with heap:=_}) h
noncomputable def opX(E:Env)(ops:List Oper)(o:Oper)(S:St):Option St:=(gd ops o S).bind fun t=>bif t then y2k E o S some else some (S.put o.dst (.tup []))
theorem y3e{o:Oper}(h:msB n E o=true):∃f,msOf E o.op=some f∧zm4 n f.ps=true∧∀{R:Type} (S:St) (K:St→Option R),y2k E o S K=y90 f o.dst S (mapA S.eval (yh7 f o.op)) K:=by
 unfold msB at h;split at h
 ·cases h
 ·rename_i hil;split at h
  ·rename_i f hf;refine⟨f,hf,h,fun S K=> ?_⟩;unfold y2k z1u;rw[hil];dsimp only
   unfold zi6;rw[hf]
  ·cases h
theorem z7n{o:Oper}(h:mkB E o=true):∃gc,mkOf o.op=some gc∧∀{R:Type} (S:St) (K:St→Option R),y2k E o S K=K (S.put o.dst (mkClo E gc.1 (mapA S.eval gc.2))):=by
 unfold mkB at h;split at h
 ·cases h
 rename_i e0;split at h
 ·cases h
 rename_i e1;split at h
 ·cases h
 rename_i e2;split at h
 ·cases h
 rename_i e3;split at h
 ·rename_i gc e4;refine⟨gc,e4,fun S K=> ?_⟩;unfold y2k z1u;rw[e0];dsimp only
  unfold zi6;rw[e1,e2,e3,e4]
 ·cases h
theorem zm8{o:Oper}(h:cloB E o=true):∃f,zz8 E o.op=some f∧∀{R:Type} (S:St) (K:St→Option R),y2k E o S K=zi4 E f o.dst S (mapA S.eval (y2j o.op)) K:=by
 unfold cloB at h;split at h
 ·cases h
 rename_i e0;split at h
 ·cases h
 rename_i e1;split at h
 ·cases h
 rename_i e2;split at h
 ·rename_i f e3;refine⟨f,e3,fun S K=> ?_⟩;unfold y2k z1u;rw[e0];dsimp only
  unfold zi6;rw[e1,e2,e3]
 ·cases h
theorem z2u{f:FnA}(d:Option Nat)(vs:List AVal)(F:St→Option α)(K:α→Option R):(zi4 E f d S vs F).bind K=zi4 E f d S vs fun x=>(F x).bind K:=by
 unfold zi4;rw[yt5];congr 1;cases y1n E S.heap f.ps vs with
 |none=>rfl
 |some xs=>
  dsimp only
  rw[Option.bind_assoc];congr 1;funext r;exact z43 ..
theorem kg2{f:FnA}{d:Option Nat}{e:Nat}{y:AVal}(h:d≠some e)(vs:List AVal)(K:St→Option R):zi4 E f d (S.put (some e) y) vs K=zi4 E f d S vs fun S'=>K (S'.put (some e) y):=by
 unfold zi4;rw[yc2];congr 1;cases y1n E S.heap f.ps vs with
 |none=>rfl
 |some xs=>
  dsimp only
  congr 1;funext r;exact z44 h
theorem yf4{o:Oper}(h:yk6 E o.dst o.op=true)(l:List Oper)(S:St):opX E l o S=opS E l o S:=by
 unfold opX opS;congr 1;funext t;rw[y43 h]
theorem z9h{o:Oper}(h:okX E n o=true)(F:St→Option α)(K:α→Option R):(y2k E o S F).bind K=y2k E o S fun x=>(F x).bind K:=by
 unfold okX at h;cases hp:yk6 E o.dst o.op with
 |true=>
  rw[y43 hp,y43 hp];exact y64 ..
 |false=>
  rw[hp,zg5] at h;cases hm:mkB E o with
  |true=>
   obtain⟨gc,_,h3⟩:=z7n hm;rw[h3,h3]
  |false=>
   rw[hm,zg5] at h;cases hc:cloB E o with
   |true=>
    obtain⟨f,_,h3⟩:=zm8 hc;rw[h3,h3];exact z2u ..
   |false=>
    rw[hc,zg5] at h;obtain⟨f,_,h2,h3⟩:=y3e h;rw[h3,h3];exact zm7 h2 ..
theorem y48{o:Oper}(h:okX E n o=true){l:List Oper}{K:St→Option R}:yy7 l o S (fun S=>y2k E o S fun S'=>K S') (fun S=>K (S.put o.dst (.tup [])))=(opX E l o S).bind K:=by
 rw[y66];unfold opX;rw[Option.bind_assoc];congr 1;funext t;cases t with
 |true=>
  simp only[cond_true];rw[z9h h];simp only[Option.bind_some]
 |false=>rfl
theorem zb2{op:Op}{x:Operand}{f:FnM}(hf:msOf E op=some f)(h:x∈yh7 f op):x∈op.operands:=by
 unfold msOf at hf;split at hf
 ·rename_i g args tys;have hi:∀{l:List Operand},x∈initA l→x∈l:=by
   intro l
   induction l with
   |nil=>exact id
   |cons y l ih=>
    cases l with
    |nil=>intro h;cases h
    |cons z l=>
     intro h
     rcases List.mem_cons.1 h with rfl|h
     ·exact List.mem_cons_self
     ·exact List.mem_cons_of_mem _ (ih h)
  have h:x∈args.toList:=by
   unfold yh7 at h;split at h
   ·exact h
   ·exact hi h
  have h:x∈args:=by simpa only[Array.mem_toList_iff] using h
  simp only[Op.operands,Call.operands];simp[h]
 ·cases hf
theorem zm9{o:Oper}(hm:msB n E o=true){d:Option Nat}{y:AVal}(hd:∀e,d=some e→o.dst≠some e)(hl:∀e,d=some e→e∉o.looksAt ops)(h:opX E ops.toList o (S.put d y)=some S'):
  ∃T,opX E ops.toList o S=some T∧S'=T.put d y:=by
 cases d with
 |none=>exact⟨S',h,rfl⟩
 |some d=>
  unfold opX at h⊢;rw[(SameAt.put hl).gd] at h;obtain⟨t,ht,h⟩:=Option.bind_eq_some_iff.1 h;rw[ht];simp only[Option.bind_some];cases t with
  |true=>
   obtain⟨f,hf,h2,h3⟩:=y3e hm;simp only[cond_true] at h⊢;rw[h3] at h⊢;have hev:mapA (S.put (some d) y).eval (yh7 f o.op)=mapA S.eval (yh7 f o.op):=yp0 fun x hx=>y8z S fun e=>hl d rfl (yw5 (by rw[←e];exact zb2 hf hx));rw[hev,z2t (hd d rfl)] at h;have h4:=zm7 (S:=S) h2 o.dst (mapA S.eval (yh7 f o.op)) some (fun S'=>some (S'.put (some d) y));simp only[Option.bind_some] at h4;rw[←h4] at h;obtain⟨T,h5,h6⟩:=Option.bind_eq_some_iff.1 h;exact⟨T,h5,(Option.some.inj h6).symm⟩
  |false=>
   simp only[cond_false] at h⊢;obtain rfl:=Option.some.inj h;exact⟨_,rfl,y3y _ (hd d rfl)⟩
theorem zw6{T:St}{d:Option Nat}{own:Bool}{ks:List Kd}{x:yu2 ks}(h:T.slots=S.slots):∃v,(T.gotS d own ks x).slots=(S.put d v).slots:=by
 cases own with
 |false=>exact⟨_,zl3 h⟩
 |true=>
  cases d with
  |none=>exact⟨.undef,h⟩
  |some d=>exact⟨_,zl3 ((y2r _ _).trans h)⟩
theorem y82{T:St}{d:Option Nat}{own:Bool}{ks:List Kd}{x:yu2 ks}{p:Nat}{r:Row}(hf:∀d',own=true→d=some d'→yo6 T.heap (y9y d' ks x 0).2=true)(h:T.heap p=some r):(T.gotS d own ks x).heap p=some r:=by
 cases own with
 |false=>exact(congrFun (yc2 ..) p).trans h
 |true=>
  cases d with
  |none=>exact h
  |some d=>
   show(((T.setHs (y9y d ks x 0).2).put (some d) (one (y9y d ks x 0).1)).heap) p=some r;rw[yc2,ys7]
   ·exact h
   ·intro hm;have:=y0u (hf d rfl rfl) p hm;rw[h] at this;cases this
theorem y83{o:Oper}(hm:msB n E o=true){l:List Oper}{T:St}(h:opX E l o S=some T):(∃v,T.slots=(S.put o.dst v).slots)∧∀p r,S.heap p=some r→(∀cs,r=.box cs→n≤cs.length)→∃r',T.heap p=some r'∧z0u r r':=by
 unfold opX at h;obtain⟨t,_,h⟩:=Option.bind_eq_some_iff.1 h;cases t with
 |false=>
  obtain rfl:=Option.some.inj h;exact⟨⟨_,rfl⟩,fun p r hp _=>⟨r,by rw[yc2];exact hp,.inl rfl⟩⟩
 |true=>
  obtain⟨f,hf,h2,h3⟩:=y3e hm;simp only[cond_true] at h;rw[h3] at h;unfold y90 at h;dsimp only at h;obtain⟨x,us,h4,h5,_⟩:=y0d h2 h;obtain⟨q,_,h4⟩:=Option.bind_eq_some_iff.1 h4;obtain⟨h6,h7⟩:=y07 h4;obtain rfl:=Option.some.inj h6;refine⟨zw6 rfl,fun p r hp hr=> ?_⟩
  ·obtain⟨r1,e1,e2⟩:=y4a (y33 S.heap f.ps (mapA S.eval (yh7 f o.op))) S.heap p r hp;have hnot:p∉us:=by
    intro hmem
    rcases h5 p hmem with h8|⟨⟨cs,h8,h9⟩,_⟩
    ·cases h8
    ·rw[e1] at h8;obtain rfl:=Option.some.inj h8
     rcases e2 with rfl|⟨k,xs,_,e⟩
     ·have:=hr cs rfl;omega
     ·cases e
   have e3:=y0v (rs:=yj4 12500 f.ps (yz4 f.ps x q.2)) (H:=Am.sealVs S.heap (y33 S.heap f.ps (mapA S.eval (yh7 f o.op)))) hnot;rw[e1] at e3;exact⟨r1,y82 h7 e3,e2⟩
theorem z2v{o:Oper}{f:FnM}(hf:msOf E o.op=some f)(hm:msB n E o=true){l:List Oper}{T:St}(h:opX E l o S=some T){p:Nat}{r:Row}(hp:S.heap p=some r)(hn:∀c,AVal.ptr p c∉mapA S.eval (yh7 f o.op)):∃r',T.heap p=some r'∧z0u r r':=by
 unfold opX at h;obtain⟨t,_,h⟩:=Option.bind_eq_some_iff.1 h;cases t with
 |false=>
  obtain rfl:=Option.some.inj h;exact⟨r,by rw[yc2];exact hp,.inl rfl⟩
 |true=>
  obtain⟨f',hf',h2,h3⟩:=y3e hm;rw[hf] at hf';obtain rfl:=Option.some.inj hf';simp only[cond_true] at h;rw[h3] at h;unfold y90 at h;dsimp only at h;obtain⟨x,us,h4,h5,_⟩:=y0d h2 h;obtain⟨q,_,h4⟩:=Option.bind_eq_some_iff.1 h4;obtain⟨h6,h7⟩:=y07 h4;obtain rfl:=Option.some.inj h6;obtain⟨r1,e1,e2⟩:=y4a (y33 S.heap f.ps (mapA S.eval (yh7 f o.op))) S.heap p r hp;have hnot:p∉us:=by
   intro hmem
   rcases h5 p hmem with h8|⟨_,c,hc⟩
   ·cases h8
   ·exact hn c hc
  have e3:=y0v (rs:=yj4 12500 f.ps (yz4 f.ps x q.2)) (H:=Am.sealVs S.heap (y33 S.heap f.ps (mapA S.eval (yh7 f o.op)))) hnot;rw[e1] at e3;exact⟨r1,y82 h7 e3,e2⟩
theorem ze1:∀{ts:List Nat} {rs:List (Nat×Row)} {H:Nat→Option Row} {p:Nat},H p≠none→yx4 H ts rs p≠none
 |[],_,_,_,h=>h
 |_::_,[],_,_,h=>h
 |t::ts,r::rs,H,p,h=>by
  simp only[yx4];refine ze1 ?_
  by_cases e:p=t
  ·rw[yb1 e];exact fun h=>by cases h
  ·rw[ya4 e];exact h
theorem z5f{o:Oper}(hm:msB n E o=true){l:List Oper}{T:St}(h:opX E l o S=some T):Eff S o.dst T:=by
 refine⟨(y83 hm h).1,fun p hp=> ?_⟩;unfold opX at h;obtain⟨t,_,h⟩:=Option.bind_eq_some_iff.1 h;cases t with
 |false=>
  obtain rfl:=Option.some.inj h;rw[yc2];exact hp
 |true=>
  obtain⟨f,hf,h2,h3⟩:=y3e hm;simp only[cond_true] at h;rw[h3] at h;unfold y90 at h;dsimp only at h;obtain⟨x,us,h4,h5,_⟩:=y0d h2 h;obtain⟨q,_,h4⟩:=Option.bind_eq_some_iff.1 h4;obtain⟨h6,h7⟩:=y07 h4;obtain rfl:=Option.some.inj h6;have hs:=y45 (l:=y33 S.heap f.ps (mapA S.eval (yh7 f o.op))) hp;have hr:=ze1 (ts:=us) (rs:=yj4 12500 f.ps (yz4 f.ps x q.2)) hs;obtain⟨r,hr⟩:=Option.ne_none_iff_exists'.1 hr;rw[y82 h7 hr];exact fun h=>by cases h
theorem kg3{o:Oper}(hm:msB n E o=true){d:Option Nat}{y:AVal}(hd:∀e,d=some e→o.dst≠some e)(hl:∀e,d=some e→e∉o.looksAt ops){T:St}(h:opX E ops.toList o S=some T):
  opX E ops.toList o (S.put d y)=some (T.put d y):=by
 cases d with
 |none=>exact h
 |some d=>
  unfold opX at h⊢;rw[(SameAt.put hl).gd];obtain⟨t,ht,h⟩:=Option.bind_eq_some_iff.1 h;rw[ht];simp only[Option.bind_some];cases t with
  |true=>
   obtain⟨f,hf,h2,h3⟩:=y3e hm;simp only[cond_true] at h⊢;rw[h3] at h⊢;have hev:mapA (S.put (some d) y).eval (yh7 f o.op)=mapA S.eval (yh7 f o.op):=yp0 fun x hx=>y8z S fun e=>hl d rfl (yw5 (by rw[←e];exact zb2 hf hx));rw[hev,z2t (hd d rfl)];have h4:=zm7 (S:=S) h2 o.dst (mapA S.eval (yh7 f o.op)) some (fun S'=>some (S'.put (some d) y));simp only[Option.bind_some] at h4;rw[←h4,h];rfl
  |false=>
   simp only[cond_false] at h⊢;obtain rfl:=Option.some.inj h;exact congrArg some (y3y _ (hd d rfl))
def zw7(E:Env)(ops:Array Oper)(x i:Oper):Prop:=∀S S1 S2,Ready i S→opX E ops.toList x S=some S1→opX E ops.toList i S1=some S2→∃S1',opX E ops.toList i S=some S1'∧opX E ops.toList x S1'=some S2
theorem SameAt.slots{o:Oper}{d:Option Nat}{T:St}(he:∃v,T.slots=(S.put d v).slots)(h:∀e,d=some e→e∉o.looksAt ops):SameAt ops o S T:=by
 obtain⟨v,hv⟩:=he;intro p hp;rw[hv];exact SameAt.put (y:=v) h p hp
theorem z5g{o:Oper}{t:TypeId}{x:Operand}(ho:o.op=.load t x)(hb:zm5 E n o=true)(h:opS E ops.toList o S=some S'):∀p∈yf8 (S.eval x),∀cs,S.heap p=some (.box cs)→n≤cs.length:=by
 intro p hp cs hcs;unfold zm5 at hb;split at hb
 ·cases hb
 rename_i hg;rw[ho] at hb;dsimp only at hb;split at hb
 ·rename_i a b hk;unfold opS gd at h;rw[hg] at h;simp only[Option.bind_some,cond_true] at h;rw[y4b ho] at h;obtain⟨y,h1,_⟩:=Option.bind_eq_some_iff.1 h;unfold ldV at h1;rw[hk] at h1;dsimp only at h1;cases he:S.eval x<;>rw[he] at hp h1<;>try (simp[yf8] at hp;done)
  ·simp only[yf8,List.mem_singleton] at hp;subst hp;dsimp only at h1;rw[hcs] at h1;dsimp only at h1;obtain⟨h2,_⟩:=ya1 h1;have h2:=Nat.le_of_ble_eq_true h2;have hb:=Nat.le_of_ble_eq_true hb;rw[yn6] at h2;omega
  ·simp only[yf8,List.mem_singleton] at hp;subst hp;dsimp only at h1;rw[hcs] at h1;cases h1
  ·simp only[yf8,List.mem_singleton] at hp;subst hp;dsimp only at h1;rw[hcs] at h1;obtain⟨hh,_⟩:=ya1 h1;cases hh
 ·cases hb
theorem kg4{x i:Oper}(hp:yk6 E x.dst x.op=true)(hi:msB n E i=true)(ha:x.apart ops i=true)(hx:vopB x.op=true∨zm5 E n x=true):zw7 E ops x i:=by
 intro S S1 S2 _ h1 h2;obtain⟨a1,a2,a3⟩:=Oper.apart_spec ha;rw[yf4 hp] at h1
 rcases hx with hx|hx
 ·obtain⟨y,rfl,hy⟩:=y2w hx _ _ h1;obtain⟨T,h3,rfl⟩:=zm9 hi a2 a1 h2;refine⟨T,h3, ?_⟩;rw[yf4 hp];exact hy T (SameAt.slots (y83 hi h3).1 a3)
 ·have hl:∃t z,x.op=.load t z:=by
   have hx':=hx;unfold zm5 at hx';split at hx'
   ·cases hx'
   ·split at hx'
    ·rename_i t z e;exact⟨_,_,e⟩
    ·cases hx'
  obtain⟨t,z,ho⟩:=hl;have hrow:=z5g ho hx h1;obtain⟨y,rfl,hy⟩:=y0c ho h1;obtain⟨T,h3,rfl⟩:=zm9 hi a2 a1 h2;obtain⟨g1,g2⟩:=y83 hi h3;refine⟨T,h3, ?_⟩;rw[yf4 hp];refine hy T (SameAt.slots g1 a3) fun p hp hn=> ?_;cases hr:S.heap p with
  |none=>exact absurd hr hn
  |some r=>
   obtain⟨r',h4,h5⟩:=g2 p r hr (fun cs e=>hrow p hp cs (by rw[hr,e]));exact⟨r,r',rfl,h4,.inl h5⟩
/-! a function value is made; a function is called that is handed one -/
theorem z9i{op:Op}{gc:Nat×List Operand}(h:mkOf op=some gc){x:Operand}(hx:x∈gc.2):x∈op.operands:=by
 unfold mkOf at h;split at h
 ·split at h
  ·obtain rfl:=Option.some.inj h;simp only[Op.operands];simp at hx⊢;exact .inr hx
  ·cases h
 ·cases h
theorem z2w{op:Op}{f:FnA}(hf:zz8 E op=some f){x:Operand}(h:x∈y2j op):x∈op.operands:=by
 unfold zz8 at hf;split at hf
 ·rename_i g args tys;have h:x∈args:=by simpa only[y2j,Array.mem_toList_iff] using h
  simp only[Op.operands,Call.operands];simp[h]
 ·cases hf
theorem kg5{o:Oper}(hm:mkB E o=true){T:St}(h:opX E ops.toList o S=some T):∃v,T=S.put o.dst v∧∀U,SameAt ops o S U→opX E ops.toList o U=some (U.put o.dst v):=by
 unfold opX at h;obtain⟨t,ht,h⟩:=Option.bind_eq_some_iff.1 h;obtain⟨gc,hgc,h3⟩:=z7n hm;cases t with
 |true=>
  simp only[cond_true] at h;rw[h3] at h;refine⟨_,(Option.some.inj h).symm,fun U hU=> ?_⟩;unfold opX;rw[hU.gd,ht];simp only[Option.bind_some,cond_true];rw[h3,yp0 fun x hx=>hU.eval x (z9i hgc hx)]
 |false=>
  simp only[cond_false] at h;refine⟨_,(Option.some.inj h).symm,fun U hU=> ?_⟩;unfold opX;rw[hU.gd,ht];rfl
theorem kg6{o:Oper}(hm:cloB E o=true){d:Option Nat}{y:AVal}(hd:∀e,d=some e→o.dst≠some e)(hl:∀e,d=some e→e∉o.looksAt ops)(h:opX E ops.toList o (S.put d y)=some S'):
  ∃T,opX E ops.toList o S=some T∧S'=T.put d y:=by
 cases d with
 |none=>exact⟨S',h,rfl⟩
 |some d=>
  unfold opX at h⊢;rw[(SameAt.put hl).gd] at h;obtain⟨t,ht,h⟩:=Option.bind_eq_some_iff.1 h;rw[ht];simp only[Option.bind_some];cases t with
  |true=>
   obtain⟨f,hf,h3⟩:=zm8 hm;simp only[cond_true] at h⊢;rw[h3] at h⊢;have hev:mapA (S.put (some d) y).eval (y2j o.op)=mapA S.eval (y2j o.op):=yp0 fun x hx=>y8z S fun e=>hl d rfl (yw5 (by rw[←e];exact z2w hf hx));rw[hev,kg2 (hd d rfl)] at h;have h4:=z2u (E:=E) (S:=S) (f:=f) o.dst (mapA S.eval (y2j o.op)) some (fun S'=>some (S'.put (some d) y));simp only[Option.bind_some] at h4;rw[←h4] at h;obtain⟨T,h5,h6⟩:=Option.bind_eq_some_iff.1 h;exact⟨T,h5,(Option.some.inj h6).symm⟩
  |false=>
   simp only[cond_false] at h⊢;obtain rfl:=Option.some.inj h;exact⟨_,rfl,y3y _ (hd d rfl)⟩
theorem z7o{o:Oper}(hm:cloB E o=true){l:List Oper}{T:St}(h:opX E l o S=some T):(∃v,T.slots=(S.put o.dst v).slots)∧∀p r,S.heap p=some r→T.heap p=some r:=by
 unfold opX at h;obtain⟨t,_,h⟩:=Option.bind_eq_some_iff.1 h;cases t with
 |false=>
  obtain rfl:=Option.some.inj h;exact⟨⟨_,rfl⟩,fun p r hp=>by rw[yc2];exact hp⟩
 |true=>
  obtain⟨f,hf,h3⟩:=zm8 hm;simp only[cond_true] at h;rw[h3] at h;unfold zi4 at h;obtain⟨_,h⟩:=ya1 h;split at h
  ·cases h
  ·obtain⟨q,_,h⟩:=Option.bind_eq_some_iff.1 h;obtain⟨h6,h7⟩:=y07 h;obtain rfl:=Option.some.inj h6;exact⟨zw6 rfl,fun p r hp=>y82 h7 hp⟩
theorem opC_eff{o:Oper}(hm:cloB E o=true){l:List Oper}{T:St}(h:opX E l o S=some T):Eff S o.dst T:=by
 obtain⟨h1,h2⟩:=z7o hm h;refine⟨h1,fun p hp=> ?_⟩;obtain⟨r,hr⟩:=Option.ne_none_iff_exists'.1 hp;rw[h2 p r hr];exact fun h=>by cases h
theorem k0g{o:Oper}(hm:mkB E o=true){T:St}(h:opX E ops.toList o S=some T):Eff S o.dst T:=by
 obtain⟨v,rfl,_⟩:=kg5 hm h;exact⟨⟨v,rfl⟩,fun p hp=>by rw[yc2];exact hp⟩
/-- what an operation on values or a load gives, it gives wherever the rows stand as they stood -/
theorem k0h{x:Oper}(hx:vopB x.op=true∨zm2 x.op=true){T:St}(h:opS E ops.toList x S=some T):∃y,T=S.put x.dst y∧∀U,SameAt ops x S U→(∀p r,S.heap p=some r→U.heap p=some r)→opS E ops.toList x U=some (U.put x.dst y):=by
 rcases hx with hx|hx
 ·obtain⟨y,h1,h2⟩:=y2w hx _ _ h;exact⟨y,h1,fun U hU _=>h2 U hU⟩
 ·have hl:∃t z,x.op=.load t z:=by
   unfold zm2 at hx;split at hx
   ·rename_i t z e;exact⟨_,_,e⟩
   ·cases hx
  obtain⟨t,z,ho⟩:=hl;obtain⟨y,h1,h2⟩:=y0c ho h;refine⟨y,h1,fun U hU hh=>h2 U hU fun p _ hn=> ?_⟩;obtain⟨r,hr⟩:=Option.ne_none_iff_exists'.1 hn;exact⟨r,r,hr,hh p r hr,.inl (.inl rfl)⟩
theorem kg7{x i:Oper}(hp:yk6 E x.dst x.op=true)(ha:x.apart ops i=true)(hx:vopB x.op=true∨zm2 x.op=true)(hi:mkB E i=true∨cloB E i=true):zw7 E ops x i:=by
 intro S S1 S2 _ h1 h2;obtain⟨a1,a2,a3⟩:=Oper.apart_spec ha;rw[yf4 hp] at h1;obtain⟨y,rfl,hy⟩:=k0h hx h1
 rcases hi with hi|hi
 ·obtain⟨v,rfl,hv⟩:=kg5 hi h2;have hs:SameAt ops i (S.put x.dst y) S:=fun p hp=>(SameAt.put (S:=S) (y:=y) a1 p hp).symm;refine⟨S.put i.dst v,hv S hs, ?_⟩;rw[yf4 hp,hy _ (SameAt.put a3) (fun p r hr=>by rw[yc2];exact hr)];cases hd:x.dst with
  |none=>rfl
  |some d=>rw[y3y _ (a2 d hd)]
 ·obtain⟨T,h3,rfl⟩:=kg6 hi a2 a1 h2;obtain⟨g1,g2⟩:=z7o hi h3;refine⟨T,h3, ?_⟩;rw[yf4 hp];exact hy T (SameAt.slots g1 a3) g2
theorem kg8{x i:Oper}(hx:msB n E x=true)(hi:yk6 E i.dst i.op=true)(ha:x.apart ops i=true)(hv:vopB i.op=true):zw7 E ops x i:=by
 intro S S1 S2 _ h1 h2;obtain⟨a1,a2,a3⟩:=Oper.apart_spec ha;rw[yf4 hi] at h2;obtain⟨y,rfl,hy⟩:=y2w hv _ _ h2;have hs:SameAt ops i S S1:=SameAt.slots (y83 hx h1).1 a1;refine⟨S.put i.dst y, ?_,kg3 hx (fun e he hx'=>a2 e hx' he) a3 h1⟩;rw[yf4 hi];exact hy S fun p hp=>(hs p hp).symm
/-- what an operation leaves: its slot is written, no row is lost -/
def EffX(E:Env)(ops:Array Oper)(x:Oper):Prop:=∀S S',opX E ops.toList x S=some S'→Eff S x.dst S'
theorem y68{x:Oper}(hp:yk6 E x.dst x.op=true):EffX E ops x:=fun S S' h=>y1r (by rw[←yf4 hp];exact h)
theorem zw8{x i:Oper}(h:commX E n ops x i=true):EffX E ops x∧zw7 E ops x i∧∀e,x.dst=some e→e∉i.looksAt ops:=by
 unfold commX at h
 rcases Bool.or_eq_true_iff.1 h with h|h
 rotate_left
 ·obtain⟨h1,h⟩:=Bool.and_eq_true_iff.1 h;obtain⟨h2,h⟩:=Bool.and_eq_true_iff.1 h;obtain⟨h3,h4⟩:=Bool.and_eq_true_iff.1 h;exact⟨y68 h1,kg7 h1 h2 (Bool.or_eq_true_iff.1 h3) (Bool.or_eq_true_iff.1 h4),(Oper.apart_spec h2).1⟩
 cases hp:yk6 E x.dst x.op with
 |false=>
  rw[hp,zg5] at h;obtain⟨h1,h⟩:=yb8 h;obtain⟨h2,h⟩:=yb8 h;obtain⟨h3,h4⟩:=Bool.and_eq_true_iff.1 h;exact⟨fun S S' hh=>z5f h1 hh,kg8 h1 h2 h3 h4,(Oper.apart_spec h3).1⟩
 |true=>
 rw[hp,y81] at h;refine⟨y68 hp, ?_⟩;cases hq:yk6 E i.dst i.op with
 |true=>
  rw[hq,y81] at h;have hh:y7v E ops x i∧∀e,x.dst=some e→e∉i.looksAt ops:=by
   rcases Bool.or_eq_true_iff.1 h with h|h
   ·exact zb1 (E:=E) h
   ·exact z9f h
  obtain⟨h1,h2⟩:=hh;refine⟨fun S S1 S2 hr h3 h4=> ?_,h2⟩;rw[yf4 hp] at h3;rw[yf4 hq] at h4;obtain⟨T,h5,h6⟩:=h1 S S1 S2 hr h3 h4;exact⟨T,by rw[yf4 hq];exact h5,by rw[yf4 hp];exact h6⟩
 |false=>
  rw[hq,zg5] at h;obtain⟨h1,h2⟩:=yb8 h;obtain⟨h3,h4⟩:=Bool.and_eq_true_iff.1 h2;exact⟨kg4 hp h1 h3 (Bool.or_eq_true_iff.1 h4),(Oper.apart_spec h3).1⟩
noncomputable def y1s(E:Env)(ops:Array Oper):List Nat→St→(St→Option R)→Option R
 |[],S,K=>K S
 |i::l,S,K=>match ops[i]? with
  |none=>none
  |some o=>(opX E ops.toList o S).bind fun S'=>y1s E ops l S' K
theorem kg9{i:Nat}{o:Oper}(hi:ops[i]?=some o){post:List Nat}{K:St→Option R}{r:R}:∀{pre:List Nat} {S:St},Ready o S→(∀x∈pre,∀ox,ops[x]?=some ox→EffX E ops ox∧zw7 E ops ox o∧∀e,ox.dst=some e→e∉o.looksAt ops)→
  y1s E ops (pre++i::post) S K=some r→∃S1,opX E ops.toList o S=some S1∧y1s E ops (pre++post) S1 K=some r
 |[],S,_,_,h=>by
  simp only[List.nil_append,y1s,hi] at h;exact Option.bind_eq_some_iff.1 h
 |x::pre,S,hr,hc,h=>by
  simp only[List.cons_append,y1s] at h;split at h
  ·cases h
  ·rename_i ox hox;obtain⟨S',h1,h2⟩:=Option.bind_eq_some_iff.1 h;obtain⟨c0,c1,c2⟩:=hc x List.mem_cons_self ox hox;obtain⟨S1,h3,h4⟩:=kg9 hi (hr.eff (c0 _ _ h1) c2) (fun y hy=>hc y (List.mem_cons_of_mem _ hy)) h2;obtain⟨T,h5,h6⟩:=c1 S S' S1 hr h1 h3;refine⟨T,h5, ?_⟩;simp only[List.cons_append,y1s,hox];exact Option.bind_eq_some_iff.2 ⟨S1,h6,h4⟩
theorem kh0(hE:ym1 P E)(hF:FnsOk P E)(hB:drawX E n ops=true){K:St→Option R}{r:R}(hQ:∀S' I' a' w',K S'=some r→Sim P Wr0 w0 S' I' a' w'→Q .normal a' w'):
  ∀(fuel:Nat) (rem:List Nat) (listed:Array Bool) {S:St} {I:Info} {a:Act} {w:World},rem.length=fuel→listed.size=ops.size→rem.Pairwise (·<·)→(∀j,j<ops.size→(j∈rem↔listed.getD j true=false))→(∀j∈rem,j<ops.size)→
  (∀(j:Nat) o,ops[j]?=some o→listed.getD j false=true→∀e∈o.after,Region.binds .any e=true→listed.getD e.on false=true)→
  y1s E ops rem S K=some r→Sim P Wr0 w0 S I a w→wpAny P .any ops Q fuel listed a w:=by
 have hB':∀i,i<ops.size→(∀x,x<i→pairX E n ops x i=true)∧∀o,ops[i]?=some o→okX E n o=true∧∀e∈o.after,Region.binds .any e=true→e.on<i:=by
  intro i hi;have:=List.all_eq_true.1 hB i (List.mem_range.2 hi);rw[Bool.and_eq_true] at this;refine⟨fun x hx=>List.all_eq_true.1 this.1 x (List.mem_range.2 hx),fun o ho=> ?_⟩;have h2:=this.2;rw[ho] at h2;have h2:=Bool.and_eq_true_iff.1 h2;refine⟨h2.1,fun e he hb=> ?_⟩;have h3:=List.all_eq_true.1 h2.2 e (by simpa using he);rw[hb] at h3;simpa using h3
 intro fuel
 induction fuel with
 |zero=>
  intro rem listed S I a w hlen hsz hs hm hlt hcl h hS;have:rem=[]:=List.length_eq_zero_iff.1 hlen;subst this;refine⟨?_,hQ _ _ _ _ h hS⟩;cases hr:Region.ready .any ops listed with
  |nil=>rfl
  |cons x l=>
   have hx:x∈Region.ready .any ops listed:=by rw[hr];exact List.mem_cons_self
   obtain⟨h0,o,ho,_⟩:=mem_ready.1 hx;have hxl:x<ops.size:=(Array.getElem?_eq_some_iff.1 ho).1;exact absurd ((hm x hxl).2 h0) (by simp)
 |succ fuel ih=>
  intro rem listed S I a w hlen hsz hs hm hlt hcl h hS;refine⟨fun hr=> ?_,fun i hi=> ?_⟩
  ·exfalso
   match rem,hlen,hs,hm,hlt,h with
   |i::rem,_,hs,hm,hlt,h=>
    have hi:=hlt i List.mem_cons_self;have:i∈Region.ready .any ops listed:=by
     refine mem_ready.2 ⟨(hm i hi).1 List.mem_cons_self,_,Array.getElem?_eq_getElem hi,fun e he hb=> ?_⟩;have hlt2:=((hB' i hi).2 _ (Array.getElem?_eq_getElem hi)).2 e he hb;have hnot:e.on∉i::rem:=by
      intro hmem
      rcases List.mem_cons.1 hmem with e1|e1
      ·omega
      ·have:=(List.pairwise_cons.1 hs).1 _ e1;omega
     have hb2:¬listed.getD e.on true=false:=fun hh=>hnot ((hm e.on (by omega)).2 hh);rw[y47 (by omega)] at hb2;simpa using hb2
    rw[hr] at this;cases this
  ·obtain⟨h0,o,ho,hdep⟩:=mem_ready.1 hi;have hil:i<ops.size:=(Array.getElem?_eq_some_iff.1 ho).1;have hmem:=(hm i hil).2 h0;obtain⟨pre,post,rfl⟩:=List.append_of_mem hmem;have hpre:∀x∈pre,x<i:=by
    intro x hx;have:=List.pairwise_append.1 hs;exact this.2.2 x hx i List.mem_cons_self
   have hpost:∀x∈post,i<x:=by
    have:=(List.pairwise_append.1 hs).2.1;exact(List.pairwise_cons.1 this).1
   have hcomm:∀x∈pre,∀ox,ops[x]?=some ox→EffX E ops ox∧zw7 E ops ox o∧∀e,ox.dst=some e→e∉o.looksAt ops:=by
    intro x hx ox hox;have hxl:x<ops.size:=(Array.getElem?_eq_some_iff.1 hox).1;have hp:=(hB' i hil).1 x (hpre x hx);unfold pairX at hp;rw[Bool.or_eq_true] at hp
    rcases hp with hp|hp
    ·exfalso;have h1:=y00 hcl (fun o' ho'=>by rw[ho] at ho';obtain rfl:=Option.some.inj ho';exact hdep) hp;have h2:=(hm x hxl).1 (List.mem_append_left _ hx);rw[y47 (by omega),h1] at h2;cases h2
    ·rw[hox,ho] at hp;exact zw8 hp
   obtain⟨S1,h1,h2⟩:=kg9 ho (hS.ready o) hcomm h;have hok:=((hB' i hil).2 o ho).1;have hg:yy7 ops.toList o S (fun S=>y2k E o S fun S'=>y1s E ops (pre++post) S' K) (fun S=>y1s E ops (pre++post) (S.put o.dst (.tup [])) K)=some r:=by
    rw[y48 hok];exact Option.bind_eq_some_iff.2 ⟨S1,h1,h2⟩
   have next:∀{S2:St} {I':Info} {a':Act} {w':World},y1s E ops (pre++post) S2 K=some r→Sim P Wr0 w0 S2 I' a' w'→wpAny P .any ops Q fuel (listed.setIfInBounds i true) a' w':=by
    intro S2 I' a' w' h3 hS2;refine ih (pre++post) _ ?_ (by simp[hsz]) ?_ ?_ ?_ ?_ h3 hS2
    ·simp only[List.length_append,List.length_cons] at hlen⊢;omega
    ·have:=List.pairwise_append.1 hs;exact List.pairwise_append.2 ⟨this.1,(List.pairwise_cons.1 this.2.1).2,fun x hx y hy=>this.2.2 x hx y (List.mem_cons_of_mem _ hy)⟩
    ·intro j hj
     by_cases e:j=i
     ·subst e;constructor
      ·intro hmm;exfalso
       rcases List.mem_append.1 hmm with hmm|hmm
       ·have:=hpre j hmm;omega
       ·have:=hpost j hmm;omega
      ·intro hh;have:j<listed.size:=by omega
       simp[this] at hh
     ·rw[getD_set_ne true (Ne.symm e),←hm j hj];simp only[List.mem_append,List.mem_cons];constructor
      ·rintro(hh|hh)
       ·exact .inl hh
       ·exact .inr (.inr hh)
      ·rintro(hh|hh|hh)
       ·exact .inl hh
       ·exact absurd hh e
       ·exact .inr hh
    ·intro j hj;refine hlt j ?_;simp only[List.mem_append,List.mem_cons] at hj⊢;exact hj.imp id .inr
    ·intro j oj hoj hl e he hb
     by_cases ej:j=i
     ·subst ej;rw[ho] at hoj;obtain rfl:=Option.some.inj hoj;exact getD_set_true (hdep e he hb)
     ·rw[getD_set_ne false (Ne.symm ej)] at hl;exact getD_set_true (hcl j oj hoj hl e he hb)
   unfold wpOp;simp only[ho]
   rcases y2d hS hg with⟨hw,S3,e3,h3⟩|⟨hw,S3,e3,h3⟩<;>subst e3
   ·rw[if_pos hw];refine .inl ?_;obtain⟨S2,h4,h5⟩:=zh3 hE hF h3 I a w hS;exact h5 _ _ fun I' a' w' hS'=>next h4 hS'
   ·rw[if_neg (by rw[hw];simp)];exact next h3 (hS.undef o.dst)
theorem y84{K:St→Option R}{r:R}:∀(os:List Oper) (k:Nat) (S:St),(∀j,os[j]?=ops[k+j]?)→(∀o∈os,okX E n o=true)→y10 E ops.toList os S K=some r→y1s E ops (List.range' k os.length) S K=some r
 |[],_,_,_,_,h=>h
 |o::os,k,S,hk,hms,h=>by
  have h0:ops[k]?=some o:=by simpa using(hk 0).symm
  simp only[y10] at h;rw[y48 (hms o List.mem_cons_self) (K:=fun S'=>y10 E ops.toList os S' K)] at h;obtain⟨S',h1,h2⟩:=Option.bind_eq_some_iff.1 h;simp only[List.length_cons,List.range'_succ,y1s,h0];exact Option.bind_eq_some_iff.2 ⟨S',h1,y84 os (k+1) S' (fun j=>by have:=hk (j+1);simpa[Nat.add_assoc,Nat.add_comm 1 j] using this) (fun x hx=>hms x (List.mem_cons_of_mem _ hx)) h2⟩
/-- a region that draws its order, a call that writes among its operations, checked -/
theorem k0i(hE:ym1 P E)(hF:FnsOk P E)(hm:P.p.follows .mixedOrders=true){id:Nat}(hB:drawX E n ops=true):DrawOk0 P E id ops:=by
 intro R K r Wr0 w0 S h I a w hS Q hQ;refine wp_region_any hm ?_;have hall:∀o∈ops.toList,okX E n o=true:=by
  intro o ho;obtain⟨i,hi,rfl⟩:=List.mem_iff_getElem.1 ho;have hi':i<ops.size:=by simpa using hi
  have:=List.all_eq_true.1 hB i (List.mem_range.2 hi');rw[Bool.and_eq_true] at this;have h2:=this.2;rw[Array.getElem?_eq_getElem hi'] at h2;have h2:=Bool.and_eq_true_iff.1 h2;simpa using h2.1
 have h1:=y84 (n:=n) ops.toList 0 S (by simp) hall h;rw[Array.length_toList,←List.range_eq_range'] at h1;refine kh0 hE hF hB hQ ops.size (List.range ops.size) _ (by simp) (by simp) List.pairwise_lt_range ?_ ?_ ?_ h1 (hS.grow (BelowD.refl _ _).drew)
 ·intro j hj;simp[hj]
 ·intro j hj;exact List.mem_range.1 hj
 ·intro j o ho hl;have:j<ops.size:=(Array.getElem?_eq_some_iff.1 ho).1;simp[this] at hl
end
end Go.Proofs.YtafognnoibjjeaaGreatDoor.Am
/- A region that draws its order in which a load and a store stand in an order that is left open. -/
namespace Go.Proofs.YtafognnoibjjeaaGreatDoor.Am
open Go Go.RowKit
def ze2(E:Env)(b:Bool)(o:Oper):Bool:=match yt4 E o with|some q=>ifT b q.1 (!q.1)|none=>false
def isSl(E:Env)(o:Oper):Bool:=match y3c E o with|some _=>true|none=>false
/-- the store's address stands where it is looked for -/
def toIn(B:Bas)(o:Oper):Bool:=match B.s with
 |none=>true
 |some c=>match o.op with|.store _ (.tmp p) _=>memN p c|_=>false
def commL(E:Env)(n:Nat)(B:Bas)(ops:Array Oper)(x i:Oper):Bool:=
 x.apart ops i&&(commX E n ops x i||((yk6 E x.dst x.op&&(yk6 E i.dst i.op&&(ze2 E true x&&(ze2 E false i&&toIn B i))))||((yk6 E x.dst x.op&&(msB n E i&&(isSl E x&&z0c B.b)))||((msB n E x&&(yk6 E i.dst i.op&&(isSl E i&&z0c B.b)))||(yk6 E x.dst x.op&&(yk6 E i.dst i.op&&(isSl E x&&(appB i.op&&z0c B.b))))))))
def pairL(E:Env)(n:Nat)(B:Bas)(ops:Array Oper)(x i:Nat):Bool:=zd9 ops ops.size i x||match ops[x]?,ops[i]? with
 |some ox,some oi=>commL E n B ops ox oi
 |_,_=>false
def z2x:Option (List Nat)→List Nat
 |some c=>c
 |none=>[]
def zn0(B:Bas)(o:Oper):Bool:=match o.dst with|some d=>ifT (memN d B.b) false (ifT (memN d (z2x B.s)) false true)|none=>true
def drawL(E:Env)(n:Nat)(B:Bas)(ops:Array Oper):Bool:=
 (List.range ops.size).all fun i=>((List.range i).all fun x=>pairL E n B ops x i)&&match ops[i]? with
  |none=>true
  |some o=>(okX E n o&&zn0 B o)&&o.after.toList.all fun e=> !Region.binds .any e||Nat.blt e.on i
section
variable {R α : Type} {E : Env} {S S' : St} {ops : Array Oper} {P : Pg} {Wr0 : Base} {w0 : World} {I : Info} {a : Act} {w : World} {Q : Exit → Act → World → Prop} {n : Nat} {H : Nat → Option Row} {B : Bas}
theorem ifT_bad{b:Bool}{y:Option R}{r:R}(h:ifT b none y=some r):b=false∧y=some r:=by
 cases b with
 |true=>cases h
 |false=>exact⟨rfl,h⟩
noncomputable def opL(E:Env)(B:Bas)(ops:List Oper)(o:Oper)(S:St):Option St:=ifT (badB E B o S) none (opX E ops o S)
theorem opL_some{l:List Oper}{o:Oper}{T:St}:opL E B l o S=some T↔badB E B o S=false∧opX E l o S=some T:=by
 unfold opL;cases badB E B o S with
 |true=>exact⟨fun h=>(by cases h),fun h=>(by cases h.1)⟩
 |false=>exact⟨fun h=>⟨rfl,h⟩,fun h=>h.2⟩
def EffL(E:Env)(B:Bas)(ops:Array Oper)(x:Oper):Prop:=∀S S',opL E B ops.toList x S=some S'→Eff S x.dst S'
theorem kh1{x:Oper}(h:okX E n x=true):EffX E ops x:=by
 unfold okX at h;cases hp:yk6 E x.dst x.op with
 |true=>exact y68 hp
 |false=>
  rw[hp,zg5] at h;cases hm:mkB E x with
  |true=>exact fun S S' hh=>k0g hm hh
  |false=>
   rw[hm,zg5] at h;cases hc:cloB E x with
   |true=>exact fun S S' hh=>opC_eff hc hh
   |false=>
    rw[hc,zg5] at h;exact fun S S' hh=>z5f h hh
def z7p(E:Env)(B:Bas)(ops:Array Oper)(x i:Oper):Prop:=∀S S1 S2,Ready i S→opL E B ops.toList x S=some S1→opL E B ops.toList i S1=some S2→∃S1',opL E B ops.toList i S=some S1'∧opL E B ops.toList x S1'=some S2
/-- the swap, where neither is barred -/
def z2y(E:Env)(B:Bas)(ops:Array Oper)(x i:Oper):Prop:=∀S S1 S2,Ready i S→badB E B x S=false→badB E B i S1=false→opX E ops.toList x S=some S1→opX E ops.toList i S1=some S2→∃S1',opX E ops.toList i S=some S1'∧opX E ops.toList x S1'=some S2
theorem z2z{o:Oper}{q:Bool×Operand}(h:yt4 E o=some q):q.2∈o.op.operands:=by
 unfold yt4 at h;split at h
 ·cases h
 split at h
 ·rename_i t x ho;split at h
  ·cases hg:hasGc o.after.toList<;>rw[hg] at h
   ·cases h
   ·obtain rfl:=Option.some.inj h;rw[ho];simp[Op.operands]
  ·cases h
 ·rename_i t x y ho;split at h
  ·split at h
   ·cases hg:hasTx o.after.toList<;>rw[hg] at h
    ·cases h
    ·obtain rfl:=Option.some.inj h;rw[ho];simp[Op.operands]
   ·cases h
  ·cases h
 ·cases h
theorem z5h{t:Nat}{l:List Nat}(h:t∈l):memN t l=true:=by
 cases hm:memN t l with
 |true=>rfl
 |false=>exact absurd h (zj9 hm)
theorem y6a{T:St}:∀{l:List Nat},(∀b∈l,getA .undef T.slots b=getA .undef S.slots b)→tokB T l=tokB S l
 |[],_=>rfl
 |b::l,h=>by
  simp only[tokB,h b List.mem_cons_self,y6a fun c hc=>h c (List.mem_cons_of_mem _ hc)]
theorem kh2{t:Nat}:∀{l:List Nat},memN t l=true→t∈l
 |[],h=>by cases h
 |b::l,h=>by
  by_cases e:t=b
  ·rw[e];exact List.mem_cons_self
  ·have h:ifEq t b true (memN t l)=true:=h;rw[ya4 e] at h;exact List.mem_cons_of_mem _ (kh2 h)
theorem kh3{p t c:Nat}:∀{l:List Nat},p∈l→S.eval (.tmp p)=.ptr t c→t∈tokB S l
 |b::l,h,hp=>by
  have hp:getA .undef S.slots p=.ptr t c:=hp;simp only[tokB]
  rcases List.mem_cons.1 h with rfl|h
  ·rw[hp];exact List.mem_cons_self
  ·have:=kh3 h hp;split
   ·exact List.mem_cons_of_mem _ this
   ·exact this
theorem z23{C:Option (List Nat)}{o:Oper}{T:St}(h:SameAt ops o S T)(hC:∀b∈z2x C,getA .undef T.slots b=getA .undef S.slots b):y5z E C o T=y5z E C o S:=by
 unfold y5z;cases hq:yt4 E o with
 |none=>rfl
 |some q=>
  simp only[h.eval q.2 (z2z hq)];cases C with
  |none=>rfl
  |some c=>
   have e:tokB T c=tokB S c:=y6a hC;dsimp only
   rw[e]
theorem y01{o:Oper}{x:Operand}(h:y3c E o=some x):o.guard=none∧∃t,o.op=.load t x:=by
 unfold y3c at h;split at h
 ·cases h
 rename_i hg;refine⟨hg, ?_⟩;split at h
 ·rename_i t x' ho;split at h
  ·obtain rfl:=Option.some.inj h;exact⟨t,ho⟩
  ·obtain rfl:=Option.some.inj h;exact⟨t,ho⟩
  ·cases h
 ·cases h
theorem y85{op:Op}{x:Operand}{f:FnM}(hf:msOf E op=some f)(h:x∈yh7 f op):x∈op.operands:=zb2 hf h
theorem z24{o:Oper}{T:St}(h:SameAt ops o S T)(hB:∀b,b∈B.b∨b∈z2x B.s→getA .undef T.slots b=getA .undef S.slots b):badB E B o T=badB E B o S:=by
 unfold badB;rw[z23 h fun b hb=>hB b (.inr hb)];congr 1;unfold zd3;have hB:=fun b (hb:b∈B.b)=>hB b (.inl hb);cases hBb:B.b with
 |nil=>rfl
 |cons b l=>
  dsimp only
  rw[hBb] at hB;rw[y6a hB];cases hs:y3c E o with
  |some x=>
   obtain⟨_,t,ho⟩:=y01 hs;simp only[h.eval x (by rw[ho];simp[Op.operands])]
  |none=>
   dsimp only
   cases hf:msOf E o.op with
   |none=>rfl
   |some f=>
    dsimp only
    rw[yp0 fun x hx=>h.eval x (y85 hf hx)]
theorem y86{o:Oper}{T:St}(h:zn0 B o=true)(he:Eff S o.dst T):∀b,b∈B.b∨b∈z2x B.s→getA .undef T.slots b=getA .undef S.slots b:=by
 intro b hb;obtain⟨⟨v,hv⟩,_⟩:=he;rw[hv];unfold zn0 at h;cases hd:o.dst with
 |none=>rfl
 |some d=>
  rw[hd] at h;dsimp only at h;have hne:d≠b:=by
   rintro rfl
   rcases hb with hb|hb
   ·have:memN d B.b=true:=z5h hb;rw[this] at h;cases h
   ·have:memN d (z2x B.s)=true:=z5h hb;rw[this] at h;cases h2:memN d B.b<;>rw[h2] at h<;>cases h
  exact y8z S (x:=.tmp b) fun e=>hne (Operand.tmp.inj e).symm
theorem kh4{x i:Oper}(hs:z2y E B ops x i)(ha:x.apart ops i=true)(ex:EffX E ops x)(ei:EffX E ops i)(fx:zn0 B x=true)(fi:zn0 B i=true):z7p E B ops x i:=by
 intro S S1 S2 hr h1 h2;obtain⟨a1,a2,a3⟩:=Oper.apart_spec ha;obtain⟨b1,h1⟩:=opL_some.1 h1;obtain⟨b2,h2⟩:=opL_some.1 h2;obtain⟨T,h3,h4⟩:=hs S S1 S2 hr b1 b2 h1 h2;have s1:SameAt ops i S S1:=SameAt.eff (ex _ _ h1) a1;have s2:SameAt ops x S T:=SameAt.eff (ei _ _ h3) a3;exact⟨T,opL_some.2 ⟨by rw[←z24 s1 (y86 fx (ex _ _ h1))];exact b2,h3⟩,opL_some.2 ⟨by rw[z24 s2 (y86 fi (ei _ _ h3))];exact b1,h4⟩⟩
theorem kh5{o:Oper}(h:ze2 E true o=true):o.guard=none∧∃t x,o.op=.load t x∧yt4 E o=some (true,x):=by
 unfold ze2 at h;cases hq:yt4 E o with
 |none=>rw[hq] at h;cases h
 |some q=>
  rw[hq] at h;have h:q.1=true:=h;unfold yt4 at hq;split at hq
  ·cases hq
  rename_i hg;refine⟨hg, ?_⟩;split at hq
  ·rename_i t x ho;split at hq
   ·cases hgc:hasGc o.after.toList<;>rw[hgc] at hq
    ·cases hq
    ·obtain rfl:=Option.some.inj hq;exact⟨t,x,ho,rfl⟩
   ·cases hq
  ·split at hq
   ·split at hq
    ·cases hgc:hasTx o.after.toList<;>rw[hgc] at hq
     ·cases hq
     ·obtain rfl:=Option.some.inj hq;cases h
    ·cases hq
   ·cases hq
  ·cases hq
theorem z9j{o:Oper}(h:ze2 E false o=true):o.guard=none∧o.dst=none∧∃t x y,o.op=.store t x y∧yt4 E o=some (false,x):=by
 unfold ze2 at h;cases hq:yt4 E o with
 |none=>rw[hq] at h;cases h
 |some q=>
  rw[hq] at h;have h:(!q.1)=true:=h;unfold yt4 at hq;split at hq
  ·cases hq
  rename_i hg;refine⟨hg, ?_⟩;split at hq
  ·split at hq
   ·cases hgc:hasGc o.after.toList<;>rw[hgc] at hq
    ·cases hq
    ·obtain rfl:=Option.some.inj hq;cases h
   ·cases hq
  ·rename_i t x y ho;split at hq
   ·split at hq
    ·rename_i hd;cases hgc:hasTx o.after.toList<;>rw[hgc] at hq
     ·cases hq
     ·obtain rfl:=Option.some.inj hq;exact⟨hd,t,x,y,ho,rfl⟩
    ·cases hq
   ·cases hq
  ·cases hq
theorem z7q{o:Oper}{l:List Oper}(hg:o.guard=none):opS E l o S=step E o S some:=by
 unfold opS gd;rw[hg];rfl
/-- a store into a box -/
theorem kh6{o:Oper}{t:TypeId}{x y:Operand}(ho:o.op=.store t x y)(hd:o.dst=none){tk c:Nat}(hx:S.eval x=.ptr tk c){T:St}(h:step E o S some=some T):
  ∃cs cs',S.heap tk=some (.box cs)∧T=S.setH tk (.box cs')∧∀U:St,U.eval x=S.eval x→U.eval y=S.eval y→U.heap tk=S.heap tk→step E o U some=some (U.setH tk (.box cs')):=by
 have key:∀U:St,step E o U some=match kdOf E t with
  |none=>none
  |some k'=>match U.eval x with
   |.ptr t c=>match U.heap t with
    |some (.box cs)=>let ys:=(U.eval y).cells
     ifT (okV (U.eval y)) (ifT (y8j ys) (ifEq (lenA ys) k'.size (ifT (Nat.ble (c+lenA ys) (lenA cs)) (some ((U.setH t (.box (appA (ys6 c cs) (appA ys (yu1 (c+lenA ys) cs))))).put o.dst .undef)) none) none) none) none
    |_=>none
   |.ep t i c=>match sealV U.heap (U.eval y) t with
    |some (.arr k xs false)=>match Kd.at k' k c,toT true (sealV U.heap (U.eval y)) k' (U.eval y) with
     |some gs,some y'=>some (({U with heap:=sealV U.heap (U.eval y)}.setH t (.arr k (List.set (α:=k.T) xs i (gs.2 (List.getD (α:=k.T) xs i k.dflt) y')) false)).put o.dst .undef)
     |_,_=>none
    |_=>none
   |.pi t n i=>match U.heap t with
    |some (.box cs)=>ifT (ifT k'.isAgg false (Nat.ble n (lenA cs))) (match U.eval y with
     |.v ky y0=>match yy4 (k:=ky) (k':=k') y0,y5y k' (ys6 n cs) with
      |some y',some xs=>some ((U.setH t (.box (appA (zs8 k' y' i 0 xs) (yu1 n cs)))).put o.dst .undef)
      |_,_=>none
     |_=>none) none
    |_=>none
   |_=>none:=by
  intro U;unfold step;rw[ho];rfl
 rw[key] at h;cases hk:kdOf E t with
 |none=>rw[hk] at h;cases h
 |some k'=>
  rw[hk] at h;dsimp only at h;rw[hx] at h;dsimp only at h;cases hr:S.heap tk with
  |none=>rw[hr] at h;cases h
  |some r=>
   rw[hr] at h;cases r with
   |dead=>cases h
   |arr k xs ao=>cases h
   |box cs=>
    dsimp only at h;refine⟨cs,appA (ys6 c cs) (appA (S.eval y).cells (yu1 (c+lenA (S.eval y).cells) cs)),rfl, ?_,fun U h1 h2 h3=> ?_⟩
    rotate_left
    ·rw[key,hk];dsimp only
     rw[h1,hx];dsimp only
     rw[h3,h2];dsimp only
     obtain⟨g1,h⟩:=ya1 h;obtain⟨g2,h⟩:=ya1 h
     by_cases g3:lenA (S.eval y).cells=k'.size
     ·rw[yb1 g3] at h;obtain⟨g4,h⟩:=ya1 h;rw[g1,y81,g2,y81,yb1 g3,g4,y81,hd];rfl
     ·rw[ya4 g3] at h;cases h
    ·obtain⟨g1,h⟩:=ya1 h;obtain⟨g2,h⟩:=ya1 h
     by_cases g3:lenA (S.eval y).cells=k'.size
     ·rw[yb1 g3] at h;obtain⟨g4,h⟩:=ya1 h;have h:=Option.some.inj h;rw[hd] at h;exact h.symm
     ·rw[ya4 g3] at h;cases h
theorem ldV_ep{t:TypeId}{q i c:Nat}{y:AVal}(h:ldV E t (.ep q i c) H=some y):∃k xs ao,H q=some (.arr k xs ao):=by
 unfold ldV at h;split at h
 ·have:=y80 h;cases this
 ·dsimp only at h;split at h
  ·rename_i k xs ao hr;exact⟨k,xs,ao,hr⟩
  ·cases h
theorem zn1{o:Oper}(h:badB E B o S=false):y5z E B.s o S=false:=by
 unfold badB at h;cases hl:y5z E B.s o S with
 |false=>rfl
 |true=>rw[hl] at h;cases h
theorem y87{o:Oper}(h:badB E B o S=false):zd3 E B.b o S=false:=by
 have hl:=zn1 h;unfold badB at h;rw[hl] at h;exact h
theorem y88{ts:List Nat}:∀{l:List AVal},z1x ts l=true→∀t c,AVal.ptr t c∈l→memN t ts=true
 |[],_,_,_,h=>by cases h
 |a::l,h,t,c,hm=>by
  cases a with
  |ptr t' c'=>
   obtain⟨h1,h2⟩:=yb8 h
   rcases List.mem_cons.1 hm with e|hm
   ·obtain⟨rfl,rfl⟩:=AVal.ptr.inj e;exact h1
   ·exact y88 h2 t c hm
  |_=>
   rcases List.mem_cons.1 hm with e|hm
   ·cases e
   ·exact y88 (l:=l) h t c hm
theorem z9k{x i:Oper}(hx:yk6 E x.dst x.op=true)(hi:msB n E i=true)(ha:x.apart ops i=true)(hsl:isSl E x=true)(hB:z0c B.b=true)(fx:zn0 B x=true):z2y E B ops x i:=by
 intro S S1 S2 _ b1 b2 h1 h2;have b1:=y87 b1;have b2:=y87 b2;obtain⟨a1,a2,a3⟩:=Oper.apart_spec ha;have htok:∀b∈B.b,getA .undef S1.slots b=getA .undef S.slots b:=fun b hb=>y86 fx (y68 hx _ _ h1) b (.inl hb);generalize B.b=Bb at hB htok b1 b2;rw[yf4 hx] at h1;obtain⟨f,hf,_,_⟩:=y3e hi;unfold isSl at hsl;cases hz:y3c E x with
 |none=>rw[hz] at hsl;cases hsl
 |some z=>
  obtain⟨gx,t,ox⟩:=y01 hz;obtain⟨y,rfl,hy⟩:=y0c ox h1;obtain⟨T,h3,rfl⟩:=zm9 hi a2 a1 h2;refine⟨T,h3, ?_⟩;rw[yf4 hx];refine hy T (SameAt.slots (y83 hi h3).1 a3) fun p hp hn=> ?_;cases Bb with
  |nil=>cases hB
  |cons b l=>
   unfold zd3 at b1 b2;rw[hz] at b1;dsimp only at b1 b2;have hni:y3c E i=none:=by
    cases hq:y3c E i with
    |none=>rfl
    |some q=>
     obtain⟨_,t',oi⟩:=y01 hq;rw[oi] at hf;cases hf
   rw[hni,hf] at b2;dsimp only at b2;rw[y6a htok] at b2;have hs:SameAt ops i S (S.put x.dst y):=SameAt.put a1;have hev:mapA (S.put x.dst y).eval (yh7 f i.op)=mapA S.eval (yh7 f i.op):=yp0 fun q hq=>hs.eval q (y85 hf hq);rw[hev] at b2;have hin:z1x (tokB S (b::l)) (mapA S.eval (yh7 f i.op))=true:=by
    cases hh:z1x (tokB S (b::l)) (mapA S.eval (yh7 f i.op)) with
    |true=>rfl
    |false=>rw[hh] at b2;cases b2
   have hno:∀c,AVal.ptr p c∉mapA S.eval (yh7 f i.op):=by
    intro c hc;have h5:=y88 hin p c hc;cases he:S.eval z<;>rw[he] at hp b1<;>try (simp[yf8] at hp;done)
    ·simp only[yf8,List.mem_singleton] at hp;subst hp;dsimp only at b1;rw[h5] at b1;cases b1
    ·cases b1
    ·cases b1
   cases hr:S.heap p with
   |none=>exact absurd hr hn
   |some r=>
    obtain⟨r',h6,h7⟩:=z2v hf hi h3 hr hno;exact⟨r,r',rfl,h6,.inl h7⟩
/-- the load's address is that of a box that the calls are not handed -/
theorem zn2{Bb:List Nat}{o:Oper}{z:Operand}(hB:z0c Bb=true)(hz:y3c E o=some z)(h:zd3 E Bb o S=false):∃t c,S.eval z=.ptr t c∧memN t (tokB S Bb)=false:=by
 cases Bb with
 |nil=>cases hB
 |cons b l=>
  unfold zd3 at h;rw[hz] at h;dsimp only at h;cases he:S.eval z<;>rw[he] at h<;>try (cases h;done)
  exact⟨_,_,rfl,h⟩
theorem z5i{Bb:List Nat}{o:Oper}{f:FnM}(hB:z0c Bb=true)(hf:msOf E o.op=some f)(h:zd3 E Bb o S=false):z1x (tokB S Bb) (mapA S.eval (yh7 f o.op))=true:=by
 cases Bb with
 |nil=>cases hB
 |cons b l=>
  unfold zd3 at h;have hni:y3c E o=none:=by
   cases hq:y3c E o with
   |none=>rfl
   |some q=>
    obtain⟨_,t',oi⟩:=y01 hq;rw[oi] at hf;cases hf
  rw[hni,hf] at h;dsimp only at h;cases hh:z1x (tokB S (b::l)) (mapA S.eval (yh7 f o.op)) with
  |true=>rfl
  |false=>rw[hh] at h;cases h
theorem z26{o:Oper}(h:isSl E o=true):∃z,y3c E o=some z:=by
 unfold isSl at h;cases hz:y3c E o with
 |none=>rw[hz] at h;cases h
 |some z=>exact⟨z,rfl⟩
theorem z5j{x i:Oper}(hx:msB n E x=true)(hi:yk6 E i.dst i.op=true)(ha:x.apart ops i=true)(hsl:isSl E i=true)(hB:z0c B.b=true)(fx:zn0 B x=true):z2y E B ops x i:=by
 intro S S1 S2 hr b1 b2 h1 h2;have b1:=y87 b1;have b2:=y87 b2;obtain⟨a1,a2,a3⟩:=Oper.apart_spec ha;have hee:=z5f hx h1;have htok:∀b∈B.b,getA .undef S1.slots b=getA .undef S.slots b:=fun b hb=>y86 fx hee b (.inl hb);obtain⟨f,hf,_,_⟩:=y3e hx;obtain⟨z,hz⟩:=z26 hsl;obtain⟨_,t,oi⟩:=y01 hz;have k1:=z5i hB hf b1;obtain⟨p,c,k2,k3⟩:=zn2 hB hz b2;rw[y6a htok] at k3;rw[yf4 hi] at h2;have hs:SameAt ops i S S1:=SameAt.eff hee a1;have hev:S1.eval z=S.eval z:=hs.eval z (by rw[oi];simp[Op.operands]);obtain⟨y,rfl,hy⟩:=y0c oi h2;refine⟨S.put i.dst y, ?_,kg3 hx (fun e he hx'=>a2 e hx' he) a3 h1⟩;rw[yf4 hi];refine hy S (fun q hq=>(hs q hq).symm) fun q hq _=> ?_;have hq':=hq;rw[hev] at hq';have hne:=hr t z oi q hq';rw[k2] at hq;simp only[yf8,List.mem_singleton] at hq;subst hq;obtain⟨r,hr1⟩:=Option.ne_none_iff_exists'.1 hne;obtain⟨r',h6,h7⟩:=z2v hf hx h1 hr1 fun c hc=>by
  have:=y88 k1 q c hc;rw[k3] at this;cases this
 exact⟨r',r,h6,hr1,.inr h7⟩
theorem app_box{o:Oper}(ho:appB o.op=true){l:List Oper}(h:opS E l o S=some S'){p:Nat}{cs:List AVal}(hp:S.heap p=some (.box cs)):S'.heap p=some (.box cs):=by
 rcases z7m ho h p (by rw[hp];exact fun h=>by cases h) with e|e
 ·rw[e,hp]
 ·exact absurd e (z5d ho h hp)
theorem z5k{x i:Oper}(hx:yk6 E x.dst x.op=true)(hi:yk6 E i.dst i.op=true)(ha:x.apart ops i=true)(hsl:isSl E x=true)(hap:appB i.op=true)(hB:z0c B.b=true):z2y E B ops x i:=by
 intro S S1 S2 _ b1 b2 h1 h2;have b1:=y87 b1;obtain⟨a1,a2,a3⟩:=Oper.apart_spec ha;rw[yf4 hx] at h1;rw[yf4 hi] at h2;obtain⟨z,hz⟩:=z26 hsl;obtain⟨gx,t,ox⟩:=y01 hz;obtain⟨p,c,k2,_⟩:=zn2 hB hz b1;have hld:=h1;obtain⟨y,rfl,hy⟩:=y0c ox h1;obtain⟨T,h3,rfl⟩:=y59 a2 a1 h2;refine⟨T,by rw[yf4 hi];exact h3, ?_⟩;rw[yf4 hx];refine hy T (SameAt.eff (y1r h3) a3) fun q hq _=> ?_;rw[k2] at hq;simp only[yf8,List.mem_singleton] at hq;subst hq;obtain⟨cs,hcs⟩:∃cs,S.heap q=some (.box cs):=by
  rw[z7q gx,y4b ox] at hld;obtain⟨u,hu,_⟩:=Option.bind_eq_some_iff.1 hld;rw[k2] at hu;exact ldV_ptr hu
 exact⟨_,_,hcs,app_box hap h3 hcs,.inl (.inl rfl)⟩
theorem z5l{x i:Oper}(hx:yk6 E x.dst x.op=true)(hi:yk6 E i.dst i.op=true)(ha:x.apart ops i=true)(lx:ze2 E true x=true)(li:ze2 E false i=true)(hin:toIn B i=true):z2y E B ops x i:=by
 intro S S1 S2 _ b1 b2 h1 h2;have b1:=zn1 b1;have b2:=zn1 b2;obtain⟨a1,a2,a3⟩:=Oper.apart_spec ha;obtain⟨gx,t,z,ox,qx⟩:=kh5 lx;obtain⟨gi,di,t',p,v,oi,qi⟩:=z9j li;rw[yf4 hx] at h1;rw[yf4 hi] at h2;have hld:=h1;rw[z7q gx,y4b ox] at hld;obtain⟨y0,hld0,_⟩:=Option.bind_eq_some_iff.1 hld;obtain⟨y,rfl,hy⟩:=y0c ox h1;rw[z7q gi] at h2;have hs:SameAt ops i S (S.put x.dst y):=SameAt.put a1;have ep:(S.put x.dst y).eval p=S.eval p:=hs.eval p (by rw[oi];simp[Op.operands]);have ev:(S.put x.dst y).eval v=S.eval v:=hs.eval v (by rw[oi];simp[Op.operands]);have hp:∃tk c,(S.put x.dst y).eval p=.ptr tk c:=by
  unfold y5z at b2;rw[qi] at b2;dsimp only at b2;split at b2
  ·rename_i tk c e;exact⟨tk,c,e⟩
  ·cases b2
  ·cases b2
 obtain⟨tk,c,hp⟩:=hp;obtain⟨cs,cs',r1,rfl,r2⟩:=kh6 oi di hp h2;have hheap:(S.put x.dst y).heap=S.heap:=yc2 ..;rw[hheap] at r1;have hT:=r2 S ep.symm ev.symm (by rw[hheap]);refine⟨S.setH tk (.box cs'),by rw[yf4 hi,z7q gi];exact hT, ?_⟩;rw[yf4 hx];have hfin:(S.put x.dst y).setH tk (.box cs')=(S.setH tk (.box cs')).put x.dst y:=by
  cases x.dst<;>rfl
 rw[hfin];refine hy _ (fun q hq=>rfl) fun q hq hn=> ?_;have hne:q≠tk:=by
  rintro rfl;unfold y5z at b1;rw[qx] at b1;dsimp only at b1;cases hz:S.eval z<;>rw[hz] at hq b1 hld0<;>try (simp[yf8] at hq;done)
  ·simp only[yf8,List.mem_singleton] at hq;subst hq;unfold toIn at hin;rw[oi] at hin;cases hs2:B.s with
   |none=>rw[hs2] at b1;cases b1
   |some l=>
    rw[hs2] at b1 hin;have b1:memN q (tokB S l)=false:=b1;rw[ep] at hp;cases p with
    |tmp pp=>
     have h5:=z5h (kh3 (kh2 hin) hp);rw[b1] at h5;cases h5
    |_=>cases hin
  ·simp only[yf8,List.mem_singleton] at hq;subst hq;obtain⟨k,xs,ao,e⟩:=ldV_ep hld0;rw[r1] at e;cases e
  ·cases b1
 cases hr:S.heap q with
 |none=>exact absurd hr hn
 |some r=>
  refine⟨r,r,rfl, ?_,.inl (.inl rfl)⟩;simp only[St.setH,ya4 hne];exact hr
theorem z9l{x i:Oper}(ox:okX E n x=true)(oi:okX E n i=true)(fx:zn0 B x=true)(fi:zn0 B i=true)(h:commL E n B ops x i=true):EffL E B ops x∧z7p E B ops x i∧∀e,x.dst=some e→e∉i.looksAt ops:=by
 obtain⟨ha,h⟩:=Bool.and_eq_true_iff.1 h;have ex:EffX E ops x:=kh1 ox;have ei:EffX E ops i:=kh1 oi;refine⟨fun S S' hh=>ex S S' (opL_some.1 hh).2,kh4 ?_ ha ex ei fx fi,(Oper.apart_spec ha).1⟩
 rcases Bool.or_eq_true_iff.1 h with h|h
 ·exact fun S S1 S2 hr _ _ h1 h2=>(zw8 h).2.1 S S1 S2 hr h1 h2
 ·rcases Bool.or_eq_true_iff.1 h with h|h
  ·obtain⟨h1,h⟩:=Bool.and_eq_true_iff.1 h;obtain⟨h2,h⟩:=Bool.and_eq_true_iff.1 h;obtain⟨h3,h⟩:=Bool.and_eq_true_iff.1 h;obtain⟨h4,h5⟩:=Bool.and_eq_true_iff.1 h;exact z5l h1 h2 ha h3 h4 h5
  rcases Bool.or_eq_true_iff.1 h with h|h
  ·obtain⟨h1,h⟩:=Bool.and_eq_true_iff.1 h;obtain⟨h2,h⟩:=Bool.and_eq_true_iff.1 h;obtain⟨h3,h4⟩:=Bool.and_eq_true_iff.1 h;exact z9k h1 h2 ha h3 h4 fx
  rcases Bool.or_eq_true_iff.1 h with h|h
  ·obtain⟨h1,h⟩:=Bool.and_eq_true_iff.1 h;obtain⟨h2,h⟩:=Bool.and_eq_true_iff.1 h;obtain⟨h3,h4⟩:=Bool.and_eq_true_iff.1 h;exact z5j h1 h2 ha h3 h4 fx
  ·obtain⟨h1,h⟩:=Bool.and_eq_true_iff.1 h;obtain⟨h2,h⟩:=Bool.and_eq_true_iff.1 h;obtain⟨h3,h⟩:=Bool.and_eq_true_iff.1 h;obtain⟨h4,h5⟩:=Bool.and_eq_true_iff.1 h;exact z5k h1 h2 ha h3 h4 h5
noncomputable def y1t(E:Env)(B:Bas)(ops:Array Oper):List Nat→St→(St→Option R)→Option R
 |[],S,K=>K S
 |i::l,S,K=>match ops[i]? with
  |none=>none
  |some o=>(opL E B ops.toList o S).bind fun S'=>y1t E B ops l S' K
theorem kh7{i:Nat}{o:Oper}(hi:ops[i]?=some o){post:List Nat}{K:St→Option R}{r:R}:∀{pre:List Nat} {S:St},Ready o S→(∀x∈pre,∀ox,ops[x]?=some ox→EffL E B ops ox∧z7p E B ops ox o∧∀e,ox.dst=some e→e∉o.looksAt ops)→
  y1t E B ops (pre++i::post) S K=some r→∃S1,opL E B ops.toList o S=some S1∧y1t E B ops (pre++post) S1 K=some r
 |[],S,_,_,h=>by
  simp only[List.nil_append,y1t,hi] at h;exact Option.bind_eq_some_iff.1 h
 |x::pre,S,hr,hc,h=>by
  simp only[List.cons_append,y1t] at h;split at h
  ·cases h
  ·rename_i ox hox;obtain⟨S',h1,h2⟩:=Option.bind_eq_some_iff.1 h;obtain⟨c0,c1,c2⟩:=hc x List.mem_cons_self ox hox;obtain⟨S1,h3,h4⟩:=kh7 hi (hr.eff (c0 _ _ h1) c2) (fun y hy=>hc y (List.mem_cons_of_mem _ hy)) h2;obtain⟨T,h5,h6⟩:=c1 S S' S1 hr h1 h3;refine⟨T,h5, ?_⟩;simp only[List.cons_append,y1t,hox];exact Option.bind_eq_some_iff.2 ⟨S1,h6,h4⟩
theorem kh8(hE:ym1 P E)(hF:FnsOk P E)(hB:drawL E n B ops=true){K:St→Option R}{r:R}(hQ:∀S' I' a' w',K S'=some r→Sim P Wr0 w0 S' I' a' w'→Q .normal a' w'):
  ∀(fuel:Nat) (rem:List Nat) (listed:Array Bool) {S:St} {I:Info} {a:Act} {w:World},rem.length=fuel→listed.size=ops.size→rem.Pairwise (·<·)→(∀j,j<ops.size→(j∈rem↔listed.getD j true=false))→(∀j∈rem,j<ops.size)→
  (∀(j:Nat) o,ops[j]?=some o→listed.getD j false=true→∀e∈o.after,Region.binds .any e=true→listed.getD e.on false=true)→
  y1t E B ops rem S K=some r→Sim P Wr0 w0 S I a w→wpAny P .any ops Q fuel listed a w:=by
 have hB':∀i,i<ops.size→(∀x,x<i→pairL E n B ops x i=true)∧∀o,ops[i]?=some o→(okX E n o=true∧zn0 B o=true)∧∀e∈o.after,Region.binds .any e=true→e.on<i:=by
  intro i hi;have:=List.all_eq_true.1 hB i (List.mem_range.2 hi);rw[Bool.and_eq_true] at this;refine⟨fun x hx=>List.all_eq_true.1 this.1 x (List.mem_range.2 hx),fun o ho=> ?_⟩;have h2:=this.2;rw[ho] at h2;have h2:=Bool.and_eq_true_iff.1 h2;refine⟨Bool.and_eq_true_iff.1 h2.1,fun e he hb=> ?_⟩;have h3:=List.all_eq_true.1 h2.2 e (by simpa using he);rw[hb] at h3;simpa using h3
 intro fuel
 induction fuel with
 |zero=>
  intro rem listed S I a w hlen hsz hs hm hlt hcl h hS;have:rem=[]:=List.length_eq_zero_iff.1 hlen;subst this;refine⟨?_,hQ _ _ _ _ h hS⟩;cases hr:Region.ready .any ops listed with
  |nil=>rfl
  |cons x l=>
   have hx:x∈Region.ready .any ops listed:=by rw[hr];exact List.mem_cons_self
   obtain⟨h0,o,ho,_⟩:=mem_ready.1 hx;have hxl:x<ops.size:=(Array.getElem?_eq_some_iff.1 ho).1;exact absurd ((hm x hxl).2 h0) (by simp)
 |succ fuel ih=>
  intro rem listed S I a w hlen hsz hs hm hlt hcl h hS;refine⟨fun hr=> ?_,fun i hi=> ?_⟩
  ·exfalso
   match rem,hlen,hs,hm,hlt,h with
   |i::rem,_,hs,hm,hlt,h=>
    have hi:=hlt i List.mem_cons_self;have:i∈Region.ready .any ops listed:=by
     refine mem_ready.2 ⟨(hm i hi).1 List.mem_cons_self,_,Array.getElem?_eq_getElem hi,fun e he hb=> ?_⟩;have hlt2:=((hB' i hi).2 _ (Array.getElem?_eq_getElem hi)).2 e he hb;have hnot:e.on∉i::rem:=by
      intro hmem
      rcases List.mem_cons.1 hmem with e1|e1
      ·omega
      ·have:=(List.pairwise_cons.1 hs).1 _ e1;omega
     have hb2:¬listed.getD e.on true=false:=fun hh=>hnot ((hm e.on (by omega)).2 hh);rw[y47 (by omega)] at hb2;simpa using hb2
    rw[hr] at this;cases this
  ·obtain⟨h0,o,ho,hdep⟩:=mem_ready.1 hi;have hil:i<ops.size:=(Array.getElem?_eq_some_iff.1 ho).1;have hmem:=(hm i hil).2 h0;obtain⟨pre,post,rfl⟩:=List.append_of_mem hmem;have hpre:∀x∈pre,x<i:=by
    intro x hx;have:=List.pairwise_append.1 hs;exact this.2.2 x hx i List.mem_cons_self
   have hpost:∀x∈post,i<x:=by
    have:=(List.pairwise_append.1 hs).2.1;exact(List.pairwise_cons.1 this).1
   have hcomm:∀x∈pre,∀ox,ops[x]?=some ox→EffL E B ops ox∧z7p E B ops ox o∧∀e,ox.dst=some e→e∉o.looksAt ops:=by
    intro x hx ox hox;have hxl:x<ops.size:=(Array.getElem?_eq_some_iff.1 hox).1;have hp:=(hB' i hil).1 x (hpre x hx);unfold pairL at hp;rw[Bool.or_eq_true] at hp
    rcases hp with hp|hp
    ·exfalso;have h1:=y00 hcl (fun o' ho'=>by rw[ho] at ho';obtain rfl:=Option.some.inj ho';exact hdep) hp;have h2:=(hm x hxl).1 (List.mem_append_left _ hx);rw[y47 (by omega),h1] at h2;cases h2
    ·rw[hox,ho] at hp;exact z9l ((hB' x hxl).2 ox hox).1.1 ((hB' i hil).2 o ho).1.1 ((hB' x hxl).2 ox hox).1.2 ((hB' i hil).2 o ho).1.2 hp
   obtain⟨S1,h1,h2⟩:=kh7 ho (hS.ready o) hcomm h;have hok:=((hB' i hil).2 o ho).1.1;have hg:yy7 ops.toList o S (fun S=>y2k E o S fun S'=>y1t E B ops (pre++post) S' K) (fun S=>y1t E B ops (pre++post) (S.put o.dst (.tup [])) K)=some r:=by
    rw[y48 hok];exact Option.bind_eq_some_iff.2 ⟨S1,(opL_some.1 h1).2,h2⟩
   have next:∀{S2:St} {I':Info} {a':Act} {w':World},y1t E B ops (pre++post) S2 K=some r→Sim P Wr0 w0 S2 I' a' w'→wpAny P .any ops Q fuel (listed.setIfInBounds i true) a' w':=by
    intro S2 I' a' w' h3 hS2;refine ih (pre++post) _ ?_ (by simp[hsz]) ?_ ?_ ?_ ?_ h3 hS2
    ·simp only[List.length_append,List.length_cons] at hlen⊢;omega
    ·have:=List.pairwise_append.1 hs;exact List.pairwise_append.2 ⟨this.1,(List.pairwise_cons.1 this.2.1).2,fun x hx y hy=>this.2.2 x hx y (List.mem_cons_of_mem _ hy)⟩
    ·intro j hj
     by_cases e:j=i
     ·subst e;constructor
      ·intro hmm;exfalso
       rcases List.mem_append.1 hmm with hmm|hmm
       ·have:=hpre j hmm;omega
       ·have:=hpost j hmm;omega
      ·intro hh;have:j<listed.size:=by omega
       simp[this] at hh
     ·rw[getD_set_ne true (Ne.symm e),←hm j hj];simp only[List.mem_append,List.mem_cons];constructor
      ·rintro(hh|hh)
       ·exact .inl hh
       ·exact .inr (.inr hh)
      ·rintro(hh|hh|hh)
       ·exact .inl hh
       ·exact absurd hh e
       ·exact .inr hh
    ·intro j hj;refine hlt j ?_;simp only[List.mem_append,List.mem_cons] at hj⊢;exact hj.imp id .inr
    ·intro j oj hoj hl e he hb
     by_cases ej:j=i
     ·subst ej;rw[ho] at hoj;obtain rfl:=Option.some.inj hoj;exact getD_set_true (hdep e he hb)
     ·rw[getD_set_ne false (Ne.symm ej)] at hl;exact getD_set_true (hcl j oj hoj hl e he hb)
   unfold wpOp;simp only[ho]
   rcases y2d hS hg with⟨hw,S3,e3,h3⟩|⟨hw,S3,e3,h3⟩<;>subst e3
   ·rw[if_pos hw];refine .inl ?_;obtain⟨S2,h4,h5⟩:=zh3 hE hF h3 I a w hS;exact h5 _ _ fun I' a' w' hS'=>next h4 hS'
   ·rw[if_neg (by rw[hw];simp)];exact next h3 (hS.undef o.dst)
theorem y89{K:St→Option R}{r:R}:∀(os:List Oper) (k:Nat) (S:St),(∀j,os[j]?=ops[k+j]?)→(∀o∈os,okX E n o=true)→y4s E B ops.toList os S K=some r→y1t E B ops (List.range' k os.length) S K=some r
 |[],_,_,_,_,h=>h
 |o::os,k,S,hk,hms,h=>by
  have h0:ops[k]?=some o:=by simpa using(hk 0).symm
  simp only[y4s] at h;obtain⟨hb,h⟩:=ifT_bad h;rw[y48 (hms o List.mem_cons_self) (K:=fun S'=>y4s E B ops.toList os S' K)] at h;obtain⟨S',h1,h2⟩:=Option.bind_eq_some_iff.1 h;have h1:opL E B ops.toList o S=some S':=opL_some.2 ⟨hb,h1⟩;simp only[List.length_cons,List.range'_succ,y1t,h0];exact Option.bind_eq_some_iff.2 ⟨S',h1,y89 os (k+1) S' (fun j=>by have:=hk (j+1);simpa[Nat.add_assoc,Nat.add_comm 1 j] using this) (fun x hx=>hms x (List.mem_cons_of_mem _ hx)) h2⟩
/-- a region that draws its order, a call that writes among its operations, checked -/
theorem k0j(hE:ym1 P E)(hF:FnsOk P E)(hm:P.p.follows .mixedOrders=true){id:Nat}(hB:drawL E n (y74 E ops.toList) ops=true):z4u E ops.toList=true→zv7 P E id ops:=by
 intro hl R K r Wr0 w0 S h I a w hS Q hQ;have h:ifT (z4u E ops.toList) (y4s E (y74 E ops.toList) ops.toList ops.toList S K) (y10 E ops.toList ops.toList S K)=some r:=h;rw[hl] at h;have h:y4s E (y74 E ops.toList) ops.toList ops.toList S K=some r:=h;refine wp_region_any hm ?_;have hall:∀o∈ops.toList,okX E n o=true:=by
  intro o ho;obtain⟨i,hi,rfl⟩:=List.mem_iff_getElem.1 ho;have hi':i<ops.size:=by simpa using hi
  have:=List.all_eq_true.1 hB i (List.mem_range.2 hi');rw[Bool.and_eq_true] at this;have h2:=this.2;rw[Array.getElem?_eq_getElem hi'] at h2;have h2:=Bool.and_eq_true_iff.1 h2;exact(Bool.and_eq_true_iff.1 (by simpa using h2.1:(okX E n ops[i]&&zn0 _ ops[i])=true)).1
 have h1:=y89 (n:=n) ops.toList 0 S (by simp) hall h;rw[Array.length_toList,←List.range_eq_range'] at h1;refine kh8 hE hF hB hQ ops.size (List.range ops.size) _ (by simp) (by simp) List.pairwise_lt_range ?_ ?_ ?_ h1 (hS.grow (BelowD.refl _ _).drew)
 ·intro j hj;simp[hj]
 ·intro j hj;exact List.mem_range.1 hj
 ·intro j o ho hl;have:j<ops.size:=(Array.getElem?_eq_some_iff.1 ho).1;simp[this] at hl
end
end Go.Proofs.YtafognnoibjjeaaGreatDoor.Am
/- What a printed text leans on. -/
namespace Go.Proofs.YtafognnoibjjeaaGreatDoor.Am
open Go
section
variable {P : Pg} {E : Env} {L : Nat → Option LoopD}
theorem noFnsS{P:Pg}{ty:Nat→Option TyD}{sp:Nat→Nat}(h:∀t,sp t=1→FtOk P t):FnsOk P ⟨ty,fun _=>none,fun _=>none,fun _=>none,fun _=>none,sp⟩:=⟨fun g f h=>(by cases h),fun g f h=>(by cases h),fun d f h=>(by cases h),h,fun g f h=>(by cases h)⟩
theorem yc7(P:Pg)(ty:Nat→Option TyD):FnsOk P ⟨ty,fun _=>none,fun _=>none,fun _=>none,fun _=>none,fun _=>0⟩:=noFnsS fun t h=>by cases h
/-- a table with one more function -/
theorem oneFn{ty:Nat→Option TyD}{g0:Nat}{f0:FnA}{fn:Func}(h:FnOk P g0 f0)(hf:P.p.funcs[g0]?=some fn)(hn:(fn.name== "runtime.NumGoroutine")=false)(hb:fn.body.isSome=true)
  {rest:Nat→Option FnA} {ms:Nat→Option FnM} {bs:Nat→Option FnB} {il:Nat→Option (Nat×CallD)} {sp:Nat→Nat} (hr:FnsOk P ⟨ty,rest,ms,bs,il,sp⟩):FnsOk P ⟨ty,fun g=>ifEq g g0 (some f0) (rest g),ms,bs,il,sp⟩:=by
 refine⟨fun g f hg=> ?_,fun g f hg=>hr.bs g f hg,fun d gc hi=>hr.il d gc hi,hr.sp,fun g f hg=>hr.ms g f hg⟩;have hg:ifEq g g0 (some f0) (rest g)=some f:=hg
 by_cases e:g=g0
 ·rw[yb1 e] at hg;obtain rfl:=Option.some.inj hg;subst e;exact⟨h,fn,hf,hn,hb⟩
 ·rw[ya4 e] at hg;exact hr.fn g f hg
/-- and with one that writes into what is handed in -/
theorem y1u{ty:Nat→Option TyD}{g0:Nat}{f0:FnM}{fn:Func}(h:y5t P g0 f0)(hd:yt3 (y77 12500 f0.ps)=true)(hf:P.p.funcs[g0]?=some fn)(hn:(fn.name== "runtime.NumGoroutine")=false)(hb:fn.body.isSome=true)
  {rest:Nat→Option FnA} {ms:Nat→Option FnM} {bs:Nat→Option FnB} {il:Nat→Option (Nat×CallD)} {sp:Nat→Nat} (hr:FnsOk P ⟨ty,rest,ms,bs,il,sp⟩):FnsOk P ⟨ty,rest,fun g=>ifEq g g0 (some f0) (ms g),bs,il,sp⟩:=by
 refine⟨fun g f hg=>hr.fn g f hg,fun g f hg=>hr.bs g f hg,fun d gc hi=>hr.il d gc hi,hr.sp,fun g f hg=> ?_⟩;have hg:ifEq g g0 (some f0) (ms g)=some f:=hg
 by_cases e:g=g0
 ·rw[yb1 e] at hg;obtain rfl:=Option.some.inj hg;subst e;exact⟨h,hd,fn,hf,hn,hb⟩
 ·rw[ya4 e] at hg;exact hr.ms g f hg
/-- and with one that hands back a new box -/
theorem oneBs{ty:Nat→Option TyD}{g0:Nat}{f0:FnB}{fn:Func}(h:FnBOk P g0 f0)(hf:P.p.funcs[g0]?=some fn)(hn:(fn.name== "runtime.NumGoroutine")=false)(hb:fn.body.isSome=true)
  {rest:Nat→Option FnA} {ms:Nat→Option FnM} {bs:Nat→Option FnB} {il:Nat→Option (Nat×CallD)} {sp:Nat→Nat} (hr:FnsOk P ⟨ty,rest,ms,bs,il,sp⟩):FnsOk P ⟨ty,rest,ms,fun g=>ifEq g g0 (some f0) (bs g),il,sp⟩:=by
 refine⟨fun g f hg=>hr.fn g f hg,fun g f hg=> ?_,fun d gc hi=>hr.il d gc hi,hr.sp,fun g f hg=>hr.ms g f hg⟩;have hg:ifEq g g0 (some f0) (bs g)=some f:=hg
 by_cases e:g=g0
 ·rw[yb1 e] at hg;obtain rfl:=Option.some.inj hg;subst e;exact⟨h,fn,hf,hn,hb⟩
 ·rw[ya4 e] at hg;exact hr.bs g f hg
theorem zg6{ty:Nat→Option TyD}{rest:Nat→Option FnA}{ms:Nat→Option FnM}{bs:Nat→Option FnB}{il:Nat→Option (Nat×CallD)}{sp:Nat→Nat}{d0 g0:Nat}{i0:CallD}
  (h:y5u P d0 g0 i0) (hr:FnsOk P ⟨ty,rest,ms,bs,il,sp⟩):FnsOk P ⟨ty,rest,ms,bs,fun d=>ifI (Nat.beq d d0) (some (g0,i0)) (il d),sp⟩:=by
 refine⟨fun g f hg=>hr.fn g f hg,fun g f hg=>hr.bs g f hg,fun d gc hg=> ?_,hr.sp,fun g f hg=>hr.ms g f hg⟩;have hg:ifI (Nat.beq d d0) (some (g0,i0)) (il d)=some gc:=hg;cases e:Nat.beq d d0 with
 |true=>
  rw[e] at hg;obtain rfl:=Option.some.inj (show some (g0,i0)=some gc from hg);rw[Nat.eq_of_beq_eq_true e];exact h
 |false=>
  rw[e] at hg;exact hr.il d gc hg
def z5m(E:Env):List Oper→Bool
 |[]=>true
 |o::l=>ifT (yk6 E o.dst o.op) (z5m E l) false
theorem zb3:∀{l:List Oper},z5m E l=true→∀o∈l,yk6 E o.dst o.op=true
 |[],_,o,h=>by cases h
 |x::l,h,o,ho=>by
  obtain⟨h1,h2⟩:=yb8 h
  rcases List.mem_cons.1 ho with rfl|ho
  ·exact h1
  ·exact zb3 h2 o ho
def y8d(n:Nat):Code→Option Code
 |.seq a b=>match y8d n a with|some c=>some c|none=>y8d n b
 |.cond _ a b=>match y8d n a with|some c=>some c|none=>y8d n b
 |.block _ b=>y8d n b
 |.loop b=>ifEq (y0t b) n (some b) (y8d n b)
 |_=>none
def yc9(f:Func):Code:=match f.body with|some c=>c|none=>.skip
def ya9(f:Func)(n:Nat):Code:=match y8d n (yc9 f) with|some c=>c|none=>.skip
def z5n(E:Env)(ops:Array Oper):Bool:=ifT (ifT (drawB ops) (ifT (z5m E ops.toList) true (ifT (lastB ops) (z5m E ops.toList.dropLast) false)) false) true (drawX E 3 ops)
def kh9(E:Env)(ops:Array Oper):Bool:=ifT (z4u E ops.toList) (drawL E 3 (y74 E ops.toList) ops) (z5n E ops)
theorem z9m(hE:ym1 P E)(hF:FnsOk P E)(hm:P.p.follows .mixedOrders=true){id:Nat}{ops:Array Oper}(h:z5n E ops=true):DrawOk0 P E id ops:=by
 unfold z5n at h;cases hb:ifT (drawB ops) (ifT (z5m E ops.toList) true (ifT (lastB ops) (z5m E ops.toList.dropLast) false)) false with
 |true=>
  obtain⟨h3,h4⟩:=yb8 hb;cases e:z5m E ops.toList with
  |true=>exact kg1 hE hF hm h3 (zb3 e)
  |false=>
   rw[e] at h4;obtain⟨h5,h6⟩:=yb8 h4;have hne:ops.toList≠[]:=by
    intro hh;rw[hh] at e;cases e
   exact z5e hE hF hm h3 h5 (os:=ops.toList.dropLast) (ol:=ops.toList.getLast hne) (List.dropLast_concat_getLast hne).symm (zb3 h6)
 |false=>
  rw[hb] at h;exact k0i hE hF hm h
theorem ki0(hE:ym1 P E)(hF:FnsOk P E)(hm:P.p.follows .mixedOrders=true){id:Nat}{ops:Array Oper}(h:kh9 E ops=true):zv7 P E id ops:=by
 unfold kh9 at h;cases hl:z4u E ops.toList with
 |true=>
  rw[hl] at h;exact k0j hE hF hm h hl
 |false=>
  rw[hl] at h;exact(z9m hE hF hm h).to hl
def zw9(E:Env):List (Nat×Array Oper)→Bool
 |[]=>true
 |p::l=>ifT (kh9 E p.2) (zw9 E l) false
theorem z27(hE:ym1 P E)(hF:FnsOk P E)(hm:P.p.follows .mixedOrders=true):∀{l:List (Nat×Array Oper)},zw9 E l=true→∀p∈l,zv7 P E p.1 p.2
 |[],_,p,h=>by cases h
 |q::l,h,p,hp=>by
  obtain⟨h1,h2⟩:=yb8 h
  rcases List.mem_cons.1 hp with rfl|hp
  ·exact ki0 hE hF hm h1
  ·exact z27 hE hF hm h2 p hp
/-- a code: its loops are told, its drawn regions checked -/
theorem yf0(hE:ym1 P E)(hF:FnsOk P E)(hm:P.p.follows .mixedOrders=true){c:Code}{bs:List Code}(hl:y0w c=bs)(hb:∀b∈bs,yb7 P L b)(hd:zw9 E (y0x c)=true):y37 P E L c:=
 y39 (fun b h=>hb b (by rw[←hl];exact h)) (fun p h=>z27 hE hF hm hd p h)
theorem ya0{α:Type}{p:α→Prop}:∀b∈([]:List α),p b:=fun b h=>by cases h
theorem ya8{α:Type}{p:α→Prop}{x:α}{l:List α}(h:p x)(k:∀b∈l,p b):∀b∈x::l,p b:=List.forall_mem_cons.2 ⟨h,k⟩
end
end Go.Proofs.YtafognnoibjjeaaGreatDoor.Am
/- What a claim hands in stands for data. -/
namespace Go.Proofs.YtafognnoibjjeaaGreatDoor.Am
open Go Go.RowKit
/-- sizes and ranges of what is handed in -/
def Fits:(k:Kd)→k.T→Prop
 |.int ik,n=>(Lit.int ik n).wf=true
 |.str,s=>ByteArray.size s≤maxLen
 |.sl k,xs=>List.length (α:=k.T) xs≤maxLen∧∀x,List.Mem (α:=k.T) x xs→Fits k x
 |.pair a b,x=>Fits a x.1∧Fits b x.2
 |_,_=>True
def fldB(f:TypeId→Kd→Bool)(P:Pg):Nat→List Field→Kd→Bool
 |o,[],.unit=>true
 |o,[x],.pair a .unit=>Nat.beq x.offset o&&(Nat.beq (P.p.cellsOf x.type) a.size&&f x.type a)
 |o,[x],k=>Nat.beq x.offset o&&(Nat.beq (P.p.cellsOf x.type) k.size&&f x.type k)
 |o,x::y::xs,.pair a b=>Nat.beq x.offset o&&(Nat.beq (P.p.cellsOf x.type) a.size&&(f x.type a&&fldB f P (o+a.size) (y::xs) b))
 |_,_,_=>false
/-- a type reads as a kind -/
def zt5(P:Pg):Nat→TypeId→Kd→Bool
 |0,_,_=>false
 |n+1,t,k=>match P.p.underlying t with
  |some .bool=>kdB k .bool
  |some (.int ik)=>kdB k (.int ik)
  |some .string=>kdB k .str
  |some (.slice e)=>match k with
   |.sl k'=>Nat.beq (P.p.cellsOf e) k'.size&&(Nat.blt 0 k'.size&&zt5 P n e k')
   |_=>false
  |some (.struct fs)=>k.isAgg&&(Nat.beq (P.p.cellsOf t) k.size&&fldB (zt5 P n) P 0 fs.toList k)
  |_=>false
section
variable {H : Type} {enc : TypeId × Value → H} {P : Pg} {w : World} {base : Nat} {spare : Nat → Bool} {held : Bool}
theorem ki1{a:Addr}{v:Value}(h:w.cell? a=some v):a=⟨a.block,a.off,none⟩:=by
 obtain⟨b,o,s⟩:=a;cases s with
 |none=>rfl
 |some x=>
  unfold World.cell? at h;simp only at h;split at h
  ·simp at h
  ·cases h
theorem k0k{n:Nat}(ih:∀(fuel:Nat) (t:TypeId) (k:Kd) (cs:List Value) (x:DataW H×List MemPlace),zt5 P n t k=true→DataW.trod enc P w base spare held fuel t cs=some x→∃d,RepC w noWr k cs d∧Fits k d)
  (m:Nat) (cs:List Value):∀(fs:List Field) (o:Nat) (k:Kd),fldB (zt5 P n) P o fs k=true→o+k.size=cs.length→
   (∀f∈fs,∃y,DataW.trod enc P w base spare held m f.type ((cs.drop f.offset).take (P.p.cellsOf f.type))=some y)→∃d,RepC w noWr k (cs.drop o) d∧Fits k d:=by
 intro fs
 induction fs with
 |nil=>
  intro o k h hl _;cases k<;>try (cases h;done)
  refine⟨(), ?_,trivial⟩;simp only[RepC];rw[List.drop_eq_nil_iff];simp only[Kd.size] at hl;omega
 |cons f fs ihf=>
  intro o k h hl hf;obtain⟨y,hy⟩:=hf f List.mem_cons_self;have last:∀k':Kd,f.offset=o→P.p.cellsOf f.type=k'.size→o+k'.size=cs.length→zt5 P n f.type k'=true→∃d,RepC w noWr k' (cs.drop o) d∧Fits k' d:=by
   intro k' h1 h2 h3 h4;have:=ih m f.type k' _ y h4 hy;rw[h1,h2,List.take_of_length_le (by rw[List.length_drop];omega)] at this;exact this
  cases fs with
  |nil=>
   unfold fldB at h;split at h
   ·simp_all
   ·rename_i fld a e1;injection e1 with e1 _;subst e1;simp only[Bool.and_eq_true] at h;obtain⟨h1,h2,h3⟩:=h;obtain⟨d,g1,g2⟩:=last a (Nat.eq_of_beq_eq_true h1) (Nat.eq_of_beq_eq_true h2) (by simpa[Kd.size] using hl) h3;refine⟨(d,()), ?_,g2,trivial⟩;simp only[RepC];exact⟨_,[],by simp,g1,rfl⟩
   ·rename_i fld e1 hne;injection e1 with e1 _;subst e1;simp only[Bool.and_eq_true] at h;obtain⟨h1,h2,h3⟩:=h;exact last _ (Nat.eq_of_beq_eq_true h1) (Nat.eq_of_beq_eq_true h2) hl h3
   ·rename_i e1;simp at e1
   ·cases h
  |cons g fs=>
   cases k<;>try (simp[fldB] at h;done)
   rename_i a b;simp only[fldB,Bool.and_eq_true] at h;obtain⟨h1,h2,h3,h4⟩:=h;have h1:=Nat.eq_of_beq_eq_true h1;have h2:=Nat.eq_of_beq_eq_true h2;simp only[Kd.size] at hl;obtain⟨d2,g1,g2⟩:=ihf (o+a.size) b h4 (by omega) (fun f hf'=>hf f (List.mem_cons_of_mem _ hf'));obtain⟨d1,g3,g4⟩:=ih m f.type a _ y h3 hy;rw[h1,h2] at g3;refine⟨(d1,d2), ?_,g4,g2⟩;simp only[RepC];refine⟨_,_, ?_,g3,g1⟩;rw[←List.drop_drop,List.take_append_drop]
theorem k0l:∀(n:Nat) (fuel:Nat) (t:TypeId) (k:Kd) (cs:List Value) (x:DataW H×List MemPlace),zt5 P n t k=true→DataW.trod enc P w base spare held fuel t cs=some x→∃d,RepC w noWr k cs d∧Fits k d:=by
 intro n
 induction n with
 |zero=>intro fuel t k cs x h;cases h
 |succ n ih=>
  intro fuel t k cs x h hx;unfold zt5 at h;split at h
  ·rename_i hu;obtain rfl:=of_decide_eq_true h;obtain⟨b,rfl,_⟩:=DataW.trod_bool hu hx;exact⟨b,rfl,trivial⟩
  ·rename_i ik hu;obtain rfl:=of_decide_eq_true h;obtain⟨m,rfl,_,hw⟩:=DataW.trod_int hu hx;exact⟨m,rfl,hw⟩
  ·rename_i hu;obtain rfl:=of_decide_eq_true h;obtain⟨s,rfl,_,hs⟩:=DataW.trod_string hu hx;exact⟨s,rfl,hs⟩
  ·rename_i e hu;split at h
   ·rename_i k';simp only[Bool.and_eq_true] at h;obtain⟨h1,h2,h3⟩:=h;have h1:=Nat.eq_of_beq_eq_true h1;have h2:0<k'.size:=by rw[Nat.blt_eq] at h2;exact h2
    rcases DataW.trod_slice hu hx with⟨rfl,_⟩|⟨a,len,cap,elems,rest,m,_,rfl,_,hb,hl,hm,hlen,hel,_⟩
    ·refine⟨[], ?_,Nat.zero_le _,fun x hx=>by cases hx⟩;simp only[RepC];exact⟨none,0,rfl,Nat.le_refl _,.inl trivial⟩
    ·have hall:∀i,i<len→∃d:k'.T,(∃cs',w.cells? base (a.add (i*k'.size)) k'.size=some cs'∧RepC w noWr k' cs' d)∧Fits k' d:=by
      intro i hi;have:=hel i hi;rw[h1] at this;have hlt:i<elems.length:=by omega
      rw[List.getElem?_eq_getElem hlt] at this;obtain⟨cs',g1,g2⟩:=Option.bind_eq_some_iff.1 this;obtain⟨d,g3,g4⟩:=ih m e k' cs' _ h3 g2;exact⟨d,⟨cs',g1,g3⟩,g4⟩
     obtain⟨xs,hxl,hxs⟩:=y41 len hall;refine⟨xs, ?_, ?_, ?_⟩
     ·simp only[RepC];refine⟨some a,cap,by rw[show List.length (α:=k'.T) xs=len from hxl],by rw[show List.length (α:=k'.T) xs=len from hxl];exact hl, ?_⟩
      by_cases h0:len=0
      ·left;exact List.length_eq_zero_iff.1 (by rw[hxl];exact h0)
      ·right;have hspot:a=⟨a.block,a.off,none⟩:=by
        obtain⟨⟨cs',g1,g2c⟩,_⟩:=hxs 0 (by omega);rw[Nat.zero_mul] at g1;have:=(World.cells?_some g1).2.2 0 h2;have e0:(a.add 0).add 0=a:=by simp[Addr.add]
        rw[e0] at this;have hc0:0<cs'.length:=by rw[g2c.length];exact h2
        rw[List.getElem?_eq_getElem hc0] at this;exact ki1 this
       have hadd:∀i,a.add i=⟨a.block,a.off+i,none⟩:=by
        intro i;rw[hspot];exact yz6 _ _ _
       refine⟨a.block,a.off,by rw[←hspot],fun i hi=> ?_⟩;have hi':i<xs.length:=hi;obtain⟨⟨cs',g1,g2⟩,_⟩:=hxs i hi';refine⟨cs',g2,fun j hj=>⟨?_,fun hh=>hh⟩⟩;have hcl:=(World.cells?_some g1);have hj':j<k'.size:=by rw[←g2.length];exact hj
       have:=hcl.2.2 j hj';rw[hadd] at this;rw[yz6] at this;rw[this];simp[hj]
     ·show xs.length≤maxLen;omega
     ·intro d hd;have hd:d∈xs:=hd;obtain⟨i,hi,rfl⟩:=List.getElem_of_mem hd;exact(hxs i hi).2
   ·cases h
  ·rename_i fs hu;simp only[Bool.and_eq_true] at h;obtain⟨h1,h2,h3⟩:=h;have h2:=Nat.eq_of_beq_eq_true h2;obtain⟨xs,m,_,_,hcl,hxl,hf⟩:=DataW.trod_struct hu hx;have:=k0k ih m cs fs.toList 0 k h3 (by omega) (fun f hf'=>by
    obtain⟨i,hi⟩:=List.getElem?_of_mem hf';rw[Array.getElem?_toList] at hi;have hlt:=(Array.getElem?_eq_some_iff.1 hi).1;exact⟨xs[i]'(by omega),by rw[hf i f hi,List.getElem?_eq_getElem (by omega)]⟩)
   rw[List.drop_zero] at this;exact this
  ·cases h
/-- an argument -/
theorem ki2{n:Nat}{t:TypeId}{k:Kd}(hB:zt5 P n t k=true){r:Reach}{b0:Nat}{v:Value}(hv:Value.okWide P w r b0 t v){d:DataW H}{ps:List MemPlace}(h:DataW.Trod enc P w base spare held t v d ps):
  ∃x,RepV w noWr k x v∧Fits k x:=by
 obtain⟨fuel,hf⟩:=h;obtain⟨x,h1,h2⟩:=k0l n fuel t k _ _ hB hf;refine⟨x,⟨_,h1, ?_⟩,h2⟩;have hlen:=h1.length;cases n with
 |zero=>cases hB
 |succ n=>
  unfold mkV;cases hk:k.isAgg with
  |true=>
   simp only[if_true];unfold zt5 at hB;unfold Value.okWide at hv;split at hB
   ·obtain rfl:=of_decide_eq_true hB;cases hk
   ·obtain rfl:=of_decide_eq_true hB;cases hk
   ·obtain rfl:=of_decide_eq_true hB;cases hk
   ·split at hB
    ·cases hk
    ·cases hB
   ·rename_i fs hu;rw[hu] at hv;obtain⟨cs,rfl,_⟩:=hv;rfl
   ·cases hB
  |false=>
   simp only[Bool.false_eq_true,if_false];have hsz:k.size=1:=by cases k<;>first|rfl|cases hk
   cases v<;>try rfl
   rename_i cs;exfalso;unfold zt5 at hB;unfold Value.okWide at hv;split at hB
   ·rename_i hu;rw[hu] at hv;simp[Cell.okWide,Cell.ok,hu] at hv
   ·rename_i hu;rw[hu] at hv;simp[Cell.okWide,Cell.ok,hu] at hv
   ·rename_i hu;rw[hu] at hv;simp[Cell.okWide,Cell.ok,hu] at hv
   ·rename_i hu;rw[hu] at hv;simp[Cell.okWide,Cell.ok,hu] at hv
   ·simp only[Bool.and_eq_true] at hB;rw[hk] at hB;simp at hB
   ·cases hB
end
end Go.Proofs.YtafognnoibjjeaaGreatDoor.Am
