/- Operations that may change places: regions that draw their order; what a printed text leans on; what a claim hands in. -/
import Derived.Test.YthkflageghfbgaaGreatDoorAm2
import Derived.Carry
import Derived.ChangeArms
import Derived.Orders
set_option linter.unusedVariables false
set_option linter.unusedSimpArgs false
/- What an operation does does not hang on what follows it. -/
namespace Go.Proofs.YthkflageghfbgaaGreatDoor.Am
open Go Go.RowKit
section
variable {α R : Type} {E : Env} {S : St}
theorem ifT_bind(b:Bool)(x y:Option α)(K:α→Option R):(ifT b x y).bind K=ifT b (x.bind K) (y.bind K):=by cases b<;>rfl
theorem ifEq_bind(a b:Nat)(x y:Option α)(K:α→Option R):(ifEq a b x y).bind K=ifEq a b (x.bind K) (y.bind K):=ifT_bind _ _ _ _
theorem ite_bind{p:Prop}[Decidable p](x y:Option α)(K:α→Option R):(if p then x else y).bind K=if p then x.bind K else y.bind K:=by split<;>rfl
theorem cond_bind(b:Bool)(x y:Option α)(K:α→Option R):(bif b then x else y).bind K=bif b then x.bind K else y.bind K:=by cases b<;>rfl
theorem binInt_nat(op:BinOp)(k:IntKind)(a b:Int)(F:AVal→Option α)(K:α→Option R):(binInt op k a b F).bind K=binInt op k a b fun x=>(F x).bind K:=by
 cases op<;>simp only[binInt,ite_bind,Option.bind_none]
theorem binStr_nat(op:BinOp)(a b:ByteArray)(F:AVal→Option α)(K:α→Option R):(binStr op a b F).bind K=binStr op a b fun x=>(F x).bind K:=by
 cases op<;>simp only[binStr,ite_bind,Option.bind_none]
theorem binAct_nat(op:BinOp)(x y:AVal)(F:AVal→Option α)(K:α→Option R):(binAct op x y F).bind K=binAct op x y fun x=>(F x).bind K:=by
 unfold binAct;split<;>simp only[ifT_bind,binInt_nat,binStr_nat,Option.bind_none]
 split<;>simp only[Option.bind_none]
theorem aggAct_nat(fs:List (Nat×Kd))(op:BinOp)(cs ds:List AVal)(F:AVal→Option α)(K:α→Option R):(aggAct fs op cs ds F).bind K=aggAct fs op cs ds fun x=>(F x).bind K:=by
 unfold aggAct;split<;>simp only[Option.bind_none]
 split<;>simp only[Option.bind_none]
theorem errAct_nat(op:BinOp)(x:AVal)(F:AVal→Option α)(K:α→Option R):(errAct op x F).bind K=errAct op x fun x=>(F x).bind K:=by
 unfold errAct;split<;>simp only[Option.bind_none]
 split<;>simp only[Option.bind_none]
theorem bounds_nat(n:Nat)(l h:Option AVal)(F:Nat→Nat→Option α)(K:α→Option R):(bounds n l h F).bind K=bounds n l h fun x y=>(F x y).bind K:=by
 unfold bounds;split<;>simp only[ite_bind,Option.bind_none]
theorem vact_nat(op:Op)(ρ:Operand→AVal)(F:AVal→Option α)(K:α→Option R):(vact E op ρ F).bind K=vact E op ρ fun x=>(F x).bind K:=by
 unfold vact;split<;>(repeat' (first|rfl|(simp only[ifT_bind,ifEq_bind,ite_bind,cond_bind,Option.bind_none,binAct_nat,aggAct_nat,errAct_nat,bounds_nat];done)|split))
theorem new_nat(d:Option Nat)(r:Row)(f:Nat→AVal)(F:St→Option α)(K:α→Option R):(S.new d r f F).bind K=S.new d r f fun x=>(F x).bind K:=by
 unfold St.new;split<;>simp only[ifT_bind,Option.bind_none]
theorem got_nat(d:Option Nat)(own:Bool)(ks:List Kd)(x:OutsT ks)(F:St→Option α)(K:α→Option R):(S.got d own ks x F).bind K=S.got d own ks x fun x=>(F x).bind K:=by
 unfold St.got;rw[ifT_bind];split<;>simp only[ifT_bind,Option.bind_none]
theorem callV_nat(d:Option Nat)(a:AVal)(vs:List AVal)(F:St→Option α)(K:α→Option R):(callV d S a vs F).bind K=callV d S a vs fun x=>(F x).bind K:=by
 unfold callV;split<;>simp only[ifT_bind,Option.bind_none]
 split<;>simp only[Option.bind_assoc,Option.bind_none]
theorem step_nat(o:Oper)(F:St→Option α)(K:α→Option R):(step E o S F).bind K=step E o S fun x=>(F x).bind K:=by
 unfold step;split<;>(repeat' (first|rfl|(simp only[ifT_bind,ifEq_bind,ite_bind,cond_bind,Option.bind_none,vact_nat,new_nat,got_nat,callV_nat,Option.bind_assoc];done)|split|(dsimp only;split)))
end
end Go.Proofs.YthkflageghfbgaaGreatDoor.Am
/- An operation does not look at slots that are none of its operands. -/
namespace Go.Proofs.YthkflageghfbgaaGreatDoor.Am
open Go Go.RowKit
section
variable {α R : Type} {E : Env} {S : St}
theorem mapA_map{β:Type}(f:α→β):∀l:List α,mapA f l=l.map f
 |[]=>rfl
 |x::l=>by simp only[mapA,List.map_cons,mapA_map f l]
theorem mapA_congr{β:Type}{f g:α→β}{l:List α}(h:∀x∈l,f x=g x):mapA f l=mapA g l:=by
 rw[mapA_map,mapA_map];exact List.map_congr_left h
theorem optmap_congr{β:Type}{f g:α→β}{x:Option α}(h:∀y,x=some y→f y=g y):x.map f=x.map g:=by
 cases x with
 |none=>rfl
 |some y=>exact congrArg some (h y rfl)
theorem vact_congr{op:Op}{ρ ρ':Operand→AVal}{K:AVal→Option R}(h:∀x∈op.operands,ρ x=ρ' x):vact E op ρ K=vact E op ρ' K:=by
 cases op<;>simp only[Op.operands,Call.operands] at h
 case move x=>simp only[vact,h x (by simp)]
 case assign x=>simp only[vact,h x (by simp)]
 case build t ps=>
  have e:mapA (fun p:Nat×Operand=>(p.1,ρ p.2)) ps.toList=mapA (fun p=>(p.1,ρ' p.2)) ps.toList:=mapA_congr fun p hp=>by
   rw[h p.2 (by simp only[List.mem_toArray,List.mem_map];exact⟨p,hp,rfl⟩)]
  simp only[vact,e]
 case pick c a b=>simp only[vact,h c (by simp),h a (by simp),h b (by simp)]
 case binOp op t x y u=>simp only[vact,h x (by simp),h y (by simp)]
 case unOp op t x=>simp only[vact,h x (by simp)]
 case convert s d x=>simp only[vact,h x (by simp)]
 case extract x i=>simp only[vact,h x (by simp)]
 case nilCheck x=>simp only[vact,h x (by simp)]
 case fieldAddr s x f=>simp only[vact,h x (by simp)]
 case field s x f=>simp only[vact,h x (by simp)]
 case indexAddr t x i=>simp only[vact,h x (by simp),h i (by simp)]
 case index t x i=>simp only[vact,h x (by simp),h i (by simp)]
 case slice t x l hh m=>
  cases m with
  |some m=>
   cases l with
   |some l=>rfl
   |none=>
    cases hh with
    |none=>rfl
    |some hh=>simp only[vact,h x (by simp),h hh (by simp),h m (by simp)]
  |none=>
   have e1:l.map ρ=l.map ρ':=optmap_congr fun y hy=>h y (by simp[hy]);have e2:hh.map ρ=hh.map ρ':=optmap_congr fun y hy=>h y (by simp[hy]);simp only[vact,h x (by simp),e1,e2]
 case call c=>
  obtain⟨callee,args,tys⟩:=c;cases callee with
  |value f=>rfl
  |invoke r m=>rfl
  |builtin b=>
   have h':∀x∈args.toList,ρ x=ρ' x:=fun x hx=>h x (by simpa using hx);generalize hl:args.toList=l at h';cases b
   case len=>
    simp only[vact,hl];generalize tys.toList=ts
    match l,ts,h' with
    |[],_,_=>rfl
    |[x],[],_=>rfl
    |[x],t::ts,h'=>simp only[h' x (by simp)]
    |_::_::_,_,_=>rfl
   case min=>
    simp only[vact,hl]
    match l,h' with
    |[],_=>rfl
    |[x],_=>rfl
    |[x,y],h'=>simp only[h' x (by simp),h' y (by simp)]
    |[x,y,z],h'=>simp only[h' x (by simp),h' y (by simp),h' z (by simp)]
    |_::_::_::_::_,_=>rfl
   case max=>
    simp only[vact,hl]
    match l,h' with
    |[],_=>rfl
    |[x],_=>rfl
    |[x,y],h'=>simp only[h' x (by simp),h' y (by simp)]
    |[x,y,z],h'=>simp only[h' x (by simp),h' y (by simp),h' z (by simp)]
    |_::_::_::_::_,_=>rfl
   all_goals rfl
 all_goals rfl
theorem setA_comm{l:List α}:∀{i j:Nat} {x y:α},i≠j→setA (setA l i x) j y=setA (setA l j y) i x:=by
 induction l with
 |nil=>intro i j x y _;rfl
 |cons z l ih=>
  intro i j x y h;cases i with
  |zero=>cases j with
   |zero=>exact absurd rfl h
   |succ j=>rfl
  |succ i=>cases j with
   |zero=>rfl
   |succ j=>simp only[setA];rw[ih (by omega)]
theorem getA_setA_ne{d:α}{l:List α}:∀{i j:Nat} {x:α},i≠j→getA d (setA l i x) j=getA d l j:=by
 induction l with
 |nil=>intro i j x _;rfl
 |cons z l ih=>
  intro i j x h;cases i with
  |zero=>cases j with
   |zero=>exact absurd rfl h
   |succ j=>rfl
  |succ i=>cases j with
   |zero=>rfl
   |succ j=>simp only[setA,getA];exact ih (by omega)
/-- a slot that is put, and another one -/
theorem put_put(S:St){d:Nat}{y:AVal}{e:Option Nat}{v:AVal}(h:e≠some d):(S.put (some d) y).put e v=(S.put e v).put (some d) y:=by
 cases e with
 |none=>rfl
 |some e=>
  have hne:d≠e:=fun e'=>h (by rw[e']);simp only[St.put];rw[setA_comm hne]
theorem put_eval(S:St){d:Nat}{y:AVal}{x:Operand}(h:x≠ .tmp d):(S.put (some d) y).eval x=S.eval x:=by
 cases x with
 |tmp p=>
  have hne:d≠p:=fun e=>h (by rw[e]);simp only[St.eval,St.put];exact getA_setA_ne hne
 |const c=>rfl
 |func f=>rfl
 |«global» g=>rfl
theorem new_put{d:Nat}{y:AVal}{e:Option Nat}{r:Row}{f:Nat→AVal}{F:St→Option R}(h:e≠some d):(S.put (some d) y).new e r f F=S.new e r f fun S'=>F (S'.put (some d) y):=by
 unfold St.new;cases e with
 |none=>rfl
 |some e=>
  simp only
  have:((S.put (some d) y).setH (e*16) r).put (some e) (f (e*16))=((S.setH (e*16) r).put (some e) (f (e*16))).put (some d) y:=by
   rw[←put_put _ h];rfl
  rw[this];rfl
theorem setHs_put{d:Option Nat}{y:AVal}:∀{l:List (Nat×Row)} {S:St},(S.put d y).setHs l=(S.setHs l).put d y
 |[],_=>rfl
 |x::l,S=>by
  simp only[St.setHs];rw[←setHs_put];cases d<;>rfl
theorem got_put{d:Nat}{y:AVal}{e:Option Nat}{own:Bool}{ks:List Kd}{x:OutsT ks}{F:St→Option R}(h:e≠some d):(S.put (some d) y).got e own ks x F=S.got e own ks x fun S'=>F (S'.put (some d) y):=by
 unfold St.got;cases own with
 |false=>simp only[ifT];rw[put_put _ h]
 |true=>
  simp only[ifT];cases e with
  |none=>rfl
  |some e=>
   simp only[put_heap];rw[setHs_put,put_put _ h]
end
end Go.Proofs.YthkflageghfbgaaGreatDoor.Am
/- An operation beside a slot that is put. -/
namespace Go.Proofs.YthkflageghfbgaaGreatDoor.Am
open Go Go.RowKit
section
variable {α R : Type} {E : Env} {S : St}
theorem setH_put{d:Option Nat}{y:AVal}{t:Nat}{r:Row}:(S.put d y).setH t r=(S.setH t r).put d y:=by cases d<;>rfl
theorem withH_put{d:Nat}{y:AVal}{H:Nat→Option Row}:({S.put (some d) y with heap:=H}:St)=({S with heap:=H}:St).put (some d) y:=rfl
theorem step_put{o:Oper}{d:Nat}{y:AVal}{F:St→Option R}(hd:o.dst≠some d)(hop:∀x∈o.op.operands,x≠ .tmp d):
  step E o (S.put (some d) y) F=step E o S fun S'=>F (S'.put (some d) y):=by
 have hev:∀x∈o.op.operands,(S.put (some d) y).eval x=S.eval x:=fun x hx=>put_eval S (hop x hx);have hheap:(S.put (some d) y).heap=S.heap:=rfl;have hpp:∀(T:St) (v:AVal),(T.put (some d) y).put o.dst v=(T.put o.dst v).put (some d) y:=fun T v=>put_put T hd;have hvact:vact E o.op (S.put (some d) y).eval (fun x=>F ((S.put (some d) y).put o.dst x))=vact E o.op S.eval fun x=>F ((S.put o.dst x).put (some d) y):=by
  rw[vact_congr hev];simp only[hpp]
 obtain⟨dst,op,type,pos,after,guard⟩:=o;simp only at hd hev hpp hvact;cases op
 case box t x=>
  have h1:=hev x (by simp[Op.operands]);simp only[step,h1,new_put hd]
 case alloc t=>simp only[step,new_put hd]
 case load t x=>
  have h1:=hev x (by simp[Op.operands]);simp only[step,h1,hheap,hpp]
 case store t x z=>
  have h1:=hev x (by simp[Op.operands]);have h2:=hev z (by simp[Op.operands]);simp only[step,h1,h2,hheap,setH_put,withH_put,hpp]
 case makeSlice t l c=>
  have h1:=hev l (by simp[Op.operands]);have h2:=hev c (by simp[Op.operands]);simp only[step,h1,h2,new_put hd]
 case buildSlice t n ps=>
  have h1:mapA (fun p:Nat×Operand=>(S.put (some d) y).eval p.2) ps.toList=mapA (fun p=>S.eval p.2) ps.toList:=mapA_congr fun p hp=>hev p.2 (by
   simp only[Op.operands,List.mem_toArray,List.mem_map];exact⟨p,hp,rfl⟩)
  simp only[step,h1,hheap,withH_put,new_put hd]
 case call c=>
  obtain⟨callee,args,tys⟩:=c;have hargs:∀x∈args.toList,(S.put (some d) y).eval x=S.eval x:=fun x hx=>hev x (by simp only[Op.operands,Call.operands,Array.mem_append];exact .inr (by simpa using hx));cases callee with
  |value f=>
   cases f with
   |func g=>
    have h1:mapA (S.put (some d) y).eval args.toList=mapA S.eval args.toList:=mapA_congr hargs;simp only[step,h1,hheap,withH_put,got_put hd]
   |tmp p=>
    have h1:mapA (S.put (some d) y).eval args.toList=mapA S.eval args.toList:=mapA_congr hargs;have h2:=hev (.tmp p) (by simp only[Op.operands,Call.operands,Array.mem_append];exact .inl (by simp));simp only[step,h1,h2,callV,hheap,hpp]
   |const c=>exact hvact
   |«global» g=>exact hvact
  |invoke r m=>exact hvact
  |builtin b=>
   cases b
   case append=>
    simp only[step];generalize args.toList=l at hargs;generalize tys.toList=ts
    match l,ts,hargs with
    |[],_,_=>rfl
    |[x],_,_=>rfl
    |[s,x],[],_=>rfl
    |[s,x],[t],_=>rfl
    |[s,x],t::t2::ts,hargs=>
     have h1:=hargs s (by simp);have h2:=hargs x (by simp);simp only[h1,h2,hheap,setH_put,new_put hd]
    |_::_::_::_,_,_=>rfl
   case copy=>
    simp only[step];generalize args.toList=l at hargs;generalize tys.toList=ts
    match l,ts,hargs with
    |[],_,_=>rfl
    |[x],_,_=>rfl
    |[s,x],[],_=>rfl
    |[s,x],[t],_=>rfl
    |[s,x],t::t2::ts,hargs=>
     have h1:=hargs s (by simp);have h2:=hargs x (by simp);simp only[h1,h2,hheap,setH_put,hpp]
    |_::_::_::_,_,_=>rfl
   all_goals exact hvact
 all_goals exact hvact
end
end Go.Proofs.YthkflageghfbgaaGreatDoor.Am
/- What an operation leaves as it was. -/
namespace Go.Proofs.YthkflageghfbgaaGreatDoor.Am
open Go Go.RowKit
section
variable {α R : Type} {E : Env} {S S' : St}
def Eff(S:St)(d:Option Nat)(S':St):Prop:=(∃v,S'.slots=(S.put d v).slots)∧∀t,S.heap t≠none→S'.heap t≠none
theorem sealR_mono{H:Nat→Option Row}{t p:Nat}(h:H p≠none):Am.sealR H t p≠none:=by
 rcases sealR_cases H t with e|⟨k,xs,e1,e2⟩
 ·rw[e];exact h
 ·rw[e2];show ifEq p t _ _≠none
  by_cases e:p=t
  ·rw[ifEq_pos e];simp
  ·rw[ifEq_neg e];exact h
theorem sealL_mono{p:Nat}:∀{l:List AVal} {H:Nat→Option Row},H p≠none→Am.sealL H l p≠none
 |[],_,h=>h
 |x::l,H,h=>by
  unfold Am.sealL;split
  ·exact sealL_mono (sealR_mono h)
  ·exact sealL_mono h
theorem sealVs_mono{p:Nat}:∀{l:List AVal} {H:Nat→Option Row},H p≠none→Am.sealVs H l p≠none
 |[],_,h=>h
 |x::l,H,h=>by
  unfold Am.sealVs;exact sealVs_mono (sealL_mono h)
theorem setH_mono{t p:Nat}{r:Row}(h:S.heap p≠none):(S.setH t r).heap p≠none:=by
 show ifEq p t _ _≠none
 by_cases e:p=t
 ·rw[ifEq_pos e];simp
 ·rw[ifEq_neg e];exact h
theorem setHs_mono{p:Nat}:∀{l:List (Nat×Row)} {S:St},S.heap p≠none→(S.setHs l).heap p≠none
 |[],_,h=>h
 |x::l,S,h=>by simp only[St.setHs];exact setHs_mono (setH_mono h)
theorem put_slots{S T:St}{d:Option Nat}{v:AVal}(h:T.slots=S.slots):(T.put d v).slots=(S.put d v).slots:=by
 cases d with
 |none=>exact h
 |some d=>simp only[St.put,h]
theorem Eff.put{d:Option Nat}{T:St}{v:AVal}(hs:T.slots=S.slots)(hm:∀t,S.heap t≠none→T.heap t≠none):Eff S d (T.put d v):=
 ⟨⟨v,put_slots hs⟩,fun t ht=>by rw[put_heap];exact hm t ht⟩
theorem vact_some{op:Op}{ρ:Operand→AVal}{K:AVal→Option R}{r:R}(h:vact E op ρ K=some r):∃x,vact E op ρ some=some x∧K x=some r:=by
 have:=vact_nat (E:=E) op ρ some K;simp only[Option.bind_some] at this;rw[←this] at h;exact Option.bind_eq_some_iff.1 h
theorem step_some{o:Oper}{K:St→Option R}{r:R}(h:step E o S K=some r):∃S',step E o S some=some S'∧K S'=some r:=by
 have:=step_nat (E:=E) (S:=S) o some K;simp only[Option.bind_some] at this;rw[←this] at h;exact Option.bind_eq_some_iff.1 h
theorem new_eff{T:St}{d:Option Nat}{rw_:Row}{f:Nat→AVal}(hs:T.slots=S.slots)(hm:∀t,S.heap t≠none→T.heap t≠none)(h:T.new d rw_ f some=some S'):Eff S d S':=by
 obtain⟨d',rfl,⟨h1,_⟩,h2⟩:=St.new_spec h;obtain rfl:=Option.some.inj h2;exact Eff.put (T:=T.setH (d'*16) rw_) hs fun t ht=>setH_mono (hm t ht)
theorem callV_put{d:Option Nat}{a:AVal}{vs:List AVal}(h:callV d S a vs some=some S'):∃x,S'=S.put d x:=by
 unfold callV at h;split at h
 ·obtain⟨_,h⟩:=ifT_some h;split at h
  ·obtain⟨y,_,h⟩:=Option.bind_eq_some_iff.1 h;exact⟨_,(Option.some.inj h).symm⟩
  ·cases h
 ·cases h
theorem step_eff{o:Oper}(h:step E o S some=some S'):Eff S o.dst S':=by
 unfold step at h;split at h
 ·obtain⟨_,h⟩:=ifT_some h;exact new_eff rfl (fun _ h=>h) h
 ·split at h
  ·exact new_eff rfl (fun _ h=>h) h
  ·cases h
 ·split at h
  ·split at h
   ·obtain rfl:=Option.some.inj h;exact Eff.put rfl fun _ h=>h
   ·cases h
  ·split at h
   ·split at h
    ·split at h
     ·obtain⟨_,h⟩:=ifT_some h;obtain rfl:=Option.some.inj h;exact Eff.put rfl fun _ h=>h
     ·cases h
     ·split at h
      ·obtain rfl:=Option.some.inj h;exact Eff.put rfl fun _ h=>h
      ·cases h
    ·cases h
   ·split at h
    ·split at h
     ·obtain rfl:=Option.some.inj h;exact Eff.put rfl fun _ h=>h
     ·cases h
    ·cases h
   ·split at h
    ·obtain⟨_,h⟩:=ifT_some h;split at h
     ·obtain rfl:=Option.some.inj h;exact Eff.put rfl fun _ h=>h
     ·cases h
    ·cases h
   ·split at h
    ·obtain rfl:=Option.some.inj h;exact Eff.put rfl fun _ h=>h
    ·cases h
   ·cases h
 ·split at h
  ·cases h
  ·split at h
   ·split at h
    ·obtain⟨_,h⟩:=ifT_some h;obtain⟨_,h⟩:=ifT_some h;obtain⟨_,h⟩:=ifEq_some h;obtain⟨_,h⟩:=ifT_some h;obtain rfl:=Option.some.inj h;exact Eff.put (T:=S.setH _ _) rfl fun _ h=>setH_mono h
    ·cases h
   ·split at h
    ·split at h
     ·obtain rfl:=Option.some.inj h;exact Eff.put (T:=({S with heap:=Am.sealV S.heap (S.eval _)}:St).setH _ _) rfl fun _ h=>setH_mono (S:={S with heap:=Am.sealV S.heap (S.eval _)}) (sealL_mono h)
     ·cases h
    ·cases h
   ·split at h
    ·obtain⟨_,h⟩:=ifT_some h;split at h
     ·split at h
      ·obtain rfl:=Option.some.inj h;exact Eff.put (T:=S.setH _ _) rfl fun _ h=>setH_mono h
      ·cases h
     ·cases h
    ·cases h
   ·cases h
 ·split at h
  ·obtain⟨_,h⟩:=ifT_some h;split at h
   ·exact new_eff rfl (fun _ h=>h) h
   ·cases h
  ·cases h
 ·split at h
  ·dsimp only at h;split at h
   ·obtain⟨_,h⟩:=ifT_some h;obtain⟨_,h⟩:=ifT_some h;obtain⟨_,h⟩:=ifT_some h;obtain⟨_,h⟩:=ifEq_some h;exact new_eff (T:={S with heap:=Am.sealVs S.heap _}) rfl (fun _ h=>sealVs_mono h) h
   ·cases h
  ·cases h
 ·split at h
  ·split at h
   ·cases h
   ·obtain⟨_,h⟩:=ifT_some h;split at h
    ·split at h
     ·exact new_eff rfl (fun _ h=>h) h
     ·cases h
    ·split at h
     ·split at h
      ·split at h
       ·exact new_eff (T:=S.setH _ .dead) rfl (fun _ h=>setH_mono h) h
       ·cases h
      ·cases h
     ·cases h
    ·cases h
  ·cases h
 ·split at h
  ·split at h
   ·cases h
   ·obtain⟨_,h⟩:=ifT_some h;split at h
    ·split at h
     ·split at h
      ·obtain rfl:=Option.some.inj h;exact Eff.put (T:=S.setH _ _) rfl fun _ h=>setH_mono h
      ·cases h
     ·cases h
    ·cases h
  ·cases h
 ·split at h
  ·cases h
  ·rename_i f hf;dsimp only at h;generalize hH:ifT (ifT f.own (flats f.outs) false) S.heap (Am.sealVs S.heap (mapA S.eval _))=H at h;have hm:∀t,S.heap t≠none→H t≠none:=by
    intro t ht;rw[←hH];cases ifT f.own (flats f.outs) false with
    |true=>exact ht
    |false=>exact sealVs_mono ht
   split at h
   ·cases h
   ·obtain⟨y,hy,h⟩:=Option.bind_eq_some_iff.1 h;obtain⟨h1,h2⟩:=got_some h;obtain rfl:=Option.some.inj h1;unfold St.gotS;split
    ·exact Eff.put (T:=({S with heap:=H}:St).setHs _) (setHs_slots _ _) fun t ht=>setHs_mono (S:={S with heap:=H}) (hm t ht)
    ·rename_i hd;exact⟨⟨.undef,by rw[hd];rfl⟩,hm⟩
    ·exact Eff.put (T:={S with heap:=H}) rfl hm
 ·obtain⟨x,rfl⟩:=callV_put h;exact Eff.put rfl fun _ h=>h
 ·obtain⟨x,_,h⟩:=vact_some h;obtain rfl:=Option.some.inj h;exact Eff.put rfl fun _ h=>h
end
end Go.Proofs.YthkflageghfbgaaGreatDoor.Am
/- One operation with its guard; two that may change places. -/
namespace Go.Proofs.YthkflageghfbgaaGreatDoor.Am
open Go Go.RowKit
section
variable {α R : Type} {E : Env} {S S' : St} {ops : Array Oper}
def gd(ops:List Oper)(o:Oper)(S:St):Option Bool:=
 match o.guard with
 |none=>some true
 |some jw=>match dstOf ops jw.1 with
  |some d=>match getA .undef S.slots d with
   |.v .bool b=>some (eqB b jw.2)
   |.tup []=>some false
   |_=>none
  |none=>none
theorem reput{d:Nat}{y:AVal}(h:getA .undef S.slots d=y):S.put (some d) y=S:=by
 subst h;unfold St.put;simp only[setA_getA]
theorem guarded_gd{l:List Oper}{o:Oper}{yes no:St→Option R}:guarded l o S yes no=(gd l o S).bind fun t=>bif t then yes S else no S:=by
 unfold guarded gd;cases o.guard with
 |none=>rfl
 |some jw=>
  obtain⟨j,want⟩:=jw;simp only
  cases dstOf l j with
  |none=>rfl
  |some d=>
   simp only
   split
   ·rename_i b hb;cases b with
    |true=>
     rw[show S.put (some d) (.v .bool true)=S from reput hb];simp only[hb];cases want<;>rfl
    |false=>
     rw[show S.put (some d) (.v .bool false)=S from reput hb];simp only[hb];cases want<;>rfl
   ·rename_i hb;simp only[hb];rfl
   ·rename_i h1 h2;split
    ·rename_i b hb;exact(h1 b hb).elim
    ·rename_i hb;exact(h2 hb).elim
    ·rfl
def opS(E:Env)(ops:List Oper)(o:Oper)(S:St):Option St:=(gd ops o S).bind fun t=>bif t then step E o S some else some (S.put o.dst (.tup []))
theorem runOps_opS{l:List Oper}{o:Oper}{os:List Oper}{K:St→Option R}(hms:plainB E o.dst o.op=true):runOps E l (o::os) S K=(opS E l o S).bind fun S'=>runOps E l os S' K:=by
 have hst:∀{R:Type} (S:St) (K:St→Option R),stepM E o S K=step E o S K:=fun S K=>plainB_spec hms S K;simp only[runOps,hst];rw[guarded_gd];unfold opS;rw[Option.bind_assoc];congr 1;funext t;cases t with
 |true=>
  simp only[cond_true];rw[step_nat];simp only[Option.bind_some]
 |false=>rfl
theorem opS_eff{l:List Oper}{o:Oper}(h:opS E l o S=some S'):Eff S o.dst S':=by
 unfold opS at h;obtain⟨t,_,h⟩:=Option.bind_eq_some_iff.1 h;cases t with
 |true=>exact step_eff h
 |false=>
  obtain rfl:=Option.some.inj h;exact Eff.put rfl fun _ h=>h
/-- the slots that an operation looks at -/
def SameAt(ops:Array Oper)(o:Oper)(S T:St):Prop:=∀p∈o.looksAt ops,getA .undef T.slots p=getA .undef S.slots p
theorem operand_looks{o:Oper}{p:Nat}(h:Operand.tmp p∈o.op.operands):p∈o.looksAt ops:=
 List.mem_append_left _ (List.mem_filterMap.2 ⟨.tmp p,by simpa using h,rfl⟩)
theorem dstOf_get{j d:Nat}(h:dstOf ops.toList j=some d):(ops[j]?).bind (·.dst)=some d:=by
 unfold dstOf at h;split at h
 ·rename_i oj hoj;have h1:=getA_map hoj;rw[Array.getElem?_toList] at h1;rw[h1];exact h
 ·cases h
theorem SameAt.gd{o:Oper}{T:St}(h:SameAt ops o S T):Am.gd ops.toList o T=Am.gd ops.toList o S:=by
 unfold Am.gd;cases hg:o.guard with
 |none=>rfl
 |some jw=>
  obtain⟨j,want⟩:=jw;simp only
  cases hd:dstOf ops.toList j with
  |none=>rfl
  |some d=>
   simp only
   rw[h d (List.mem_append_right _ (by rw[hg];simp only;rw[dstOf_get hd];exact List.mem_singleton.2 rfl))]
theorem SameAt.eval{o:Oper}{T:St}(h:SameAt ops o S T):∀x∈o.op.operands,T.eval x=S.eval x:=by
 intro x hx;cases x with
 |tmp p=>exact h p (operand_looks hx)
 |const c=>rfl
 |func f=>rfl
 |«global» g=>rfl
theorem SameAt.put{o:Oper}{d:Option Nat}{y:AVal}(h:∀e,d=some e→e∉o.looksAt ops):SameAt ops o S (S.put d y):=by
 intro p hp;cases d with
 |none=>rfl
 |some e=>exact getA_setA_ne fun e'=>h e rfl (by rw[e'];exact hp)
theorem SameAt.eff{o:Oper}{d:Option Nat}(he:Eff S d S')(h:∀e,d=some e→e∉o.looksAt ops):SameAt ops o S S':=by
 obtain⟨⟨v,hv⟩,_⟩:=he;intro p hp;rw[hv];exact SameAt.put (y:=v) h p hp
/-- an operation beside a slot that is put -/
theorem opS_put{o:Oper}{d:Option Nat}{y:AVal}(hd:∀e,d=some e→o.dst≠some e)(hl:∀e,d=some e→e∉o.looksAt ops)(h:opS E ops.toList o S=some S'):opS E ops.toList o (S.put d y)=some (S'.put d y):=by
 cases d with
 |none=>
  exact h
 |some d=>
  unfold opS at h⊢;rw[(SameAt.put hl).gd];obtain⟨t,ht,h⟩:=Option.bind_eq_some_iff.1 h;rw[ht];simp only[Option.bind_some];cases t with
  |true=>
   simp only[cond_true] at h⊢;rw[step_put (hd d rfl) (fun x hx e=>hl d rfl (operand_looks (by rw[←e];exact hx)))];have:=step_nat (E:=E) (S:=S) o some (fun S'=>some (S'.put (some d) y));simp only[Option.bind_some] at this;rw[←this,h];rfl
  |false=>
   simp only[cond_false] at h⊢;obtain rfl:=Option.some.inj h;rw[put_put _ (hd d rfl)]
def vopB:Op→Bool
 |.box ..=>false
 |.alloc _=>false
 |.load ..=>false
 |.store ..=>false
 |.makeSlice ..=>false
 |.buildSlice ..=>false
 |.call {callee:=.builtin .append,..}=>false
 |.call {callee:=.builtin .copy,..}=>false
 |.call {callee:=.value (.func _),..}=>false
 |.call {callee:=.value (.tmp _),..}=>false
 |_=>true
theorem step_vop{o:Oper}{K:St→Option R}(h:vopB o.op=true):step E o S K=vact E o.op S.eval fun x=>K (S.put o.dst x):=by
 unfold step;split<;>first|rfl|(rename_i e;rw[e] at h;cases h)|(rename_i e _;rw[e] at h;cases h)
/-- an operation that only puts, and what it puts hangs on what it looks at alone -/
def PutLike(E:Env)(ops:Array Oper)(o:Oper):Prop:=∀S S',opS E ops.toList o S=some S'→∃y,S'=S.put o.dst y∧∀T,SameAt ops o S T→opS E ops.toList o T=some (T.put o.dst y)
theorem putLike_vop{o:Oper}(h:vopB o.op=true):PutLike E ops o:=by
 intro S S' hs;unfold opS at hs;obtain⟨t,ht,hs⟩:=Option.bind_eq_some_iff.1 hs;cases t with
 |true=>
  simp only[cond_true] at hs;rw[step_vop h] at hs;obtain⟨x,h1,h2⟩:=vact_some hs;obtain rfl:=Option.some.inj h2;refine⟨x,rfl,fun T hT=> ?_⟩;unfold opS;rw[hT.gd,ht];simp only[Option.bind_some,cond_true];rw[step_vop h,vact_congr hT.eval];have:=vact_nat (E:=E) o.op S.eval some (fun x=>some (T.put o.dst x));simp only[Option.bind_some] at this;rw[←this,h1];rfl
 |false=>
  obtain rfl:=Option.some.inj hs;refine⟨.tup [],rfl,fun T hT=> ?_⟩;unfold opS;rw[hT.gd,ht];rfl
/-- x, then i: as well i, then x -/
def Swaps(E:Env)(ops:Array Oper)(x i:Oper):Prop:=∀S S1 S2,opS E ops.toList x S=some S1→opS E ops.toList i S1=some S2→∃S1',opS E ops.toList i S=some S1'∧opS E ops.toList x S1'=some S2
theorem swaps_right{x i:Oper}(ha:x.apart ops i=true)(hv:PutLike E ops i):Swaps E ops x i:=by
 intro S S1 S2 h1 h2;obtain⟨a1,a2,a3⟩:=Oper.apart_spec ha;obtain⟨y,rfl,hy⟩:=hv _ _ h2;have he:=opS_eff h1;have hsame:SameAt ops i S1 S:=fun p hp=>(SameAt.eff he a1 p hp).symm;refine⟨_,hy S hsame, ?_⟩;exact opS_put (fun e he'=>by intro hx;exact a2 e hx he') a3 h1
theorem swaps_left{x i:Oper}(ha:x.apart ops i=true)(hv:PutLike E ops x)(h0:∀S S1 S2 y,S1=S.put x.dst y→opS E ops.toList i S1=some S2→∃S1',opS E ops.toList i S=some S1'∧S2=S1'.put x.dst y):Swaps E ops x i:=by
 intro S S1 S2 h1 h2;obtain⟨a1,a2,a3⟩:=Oper.apart_spec ha;obtain⟨y,rfl,hy⟩:=hv _ _ h1;obtain⟨S1',h3,rfl⟩:=h0 _ _ _ _ rfl h2;exact⟨S1',h3,hy S1' (SameAt.eff (opS_eff h3) a3)⟩
end
end Go.Proofs.YthkflageghfbgaaGreatDoor.Am
/- Which operations may change places. -/
namespace Go.Proofs.YthkflageghfbgaaGreatDoor.Am
open Go Go.RowKit
section
variable {α R : Type} {E : Env} {S S' : St} {ops : Array Oper}
theorem opS_unput{o:Oper}{d:Option Nat}{y:AVal}(hd:∀e,d=some e→o.dst≠some e)(hl:∀e,d=some e→e∉o.looksAt ops)(h:opS E ops.toList o (S.put d y)=some S'):
  ∃T,opS E ops.toList o S=some T∧S'=T.put d y:=by
 cases d with
 |none=>exact⟨S',h,rfl⟩
 |some d=>
  unfold opS at h⊢;rw[(SameAt.put hl).gd] at h;obtain⟨t,ht,h⟩:=Option.bind_eq_some_iff.1 h;rw[ht];simp only[Option.bind_some];cases t with
  |true=>
   simp only[cond_true] at h⊢;rw[step_put (hd d rfl) (fun x hx e=>hl d rfl (operand_looks (by rw[←e];exact hx)))] at h;obtain⟨T,h1,h2⟩:=step_some h;exact⟨T,h1,(Option.some.inj h2).symm⟩
  |false=>
   simp only[cond_false] at h⊢;obtain rfl:=Option.some.inj h;exact⟨_,rfl,put_put _ (hd d rfl)⟩
theorem swaps_V{x i:Oper}(ha:x.apart ops i=true)(hv:vopB x.op=true∨vopB i.op=true):Swaps E ops x i:=by
 rcases hv with hv|hv
 ·refine swaps_left ha (putLike_vop hv) ?_;rintro S S1 S2 y rfl h;obtain⟨a1,a2,a3⟩:=Oper.apart_spec ha;exact opS_unput a2 a1 h
 ·exact swaps_right ha (putLike_vop hv)

/-! ### loads -/
def SameD(r r':Row):Prop:=r=r'∨∃k xs,r=.arr k xs false∧r'=.arr k xs true
def HeapExt(H H':Nat→Option Row):Prop:=∀t r,H t=some r→∃r',H' t=some r'∧SameD r r'
theorem HeapExt.refl(H:Nat→Option Row):HeapExt H H:=fun t r h=>⟨r,h,.inl rfl⟩
theorem HeapExt.trans{H H' H'':Nat→Option Row}(h:HeapExt H H')(k:HeapExt H' H''):HeapExt H H'':=by
 intro t r hr;obtain⟨r1,h1,h2⟩:=h t r hr;obtain⟨r2,h3,h4⟩:=k t r1 h1;refine⟨r2,h3, ?_⟩
 rcases h2 with rfl|⟨kk,xs,rfl,rfl⟩
 ·exact h4
 ·rcases h4 with rfl|⟨kk',xs',e1,_⟩
  ·exact .inr ⟨kk,xs,rfl,rfl⟩
  ·cases e1
theorem sealR_ext(H:Nat→Option Row)(t:Nat):HeapExt H (Am.sealR H t):=by
 intro p r hr
 rcases sealR_cases H t with e|⟨k,xs,e1,e2⟩
 ·rw[e];exact⟨r,hr,.inl rfl⟩
 ·rw[e2]
  by_cases e:p=t
  ·subst e;rw[hr] at e1;obtain rfl:=Option.some.inj e1;exact⟨.arr k xs true,ifEq_pos rfl _ _,.inr ⟨k,xs,rfl,rfl⟩⟩
  ·exact⟨r,by show ifEq p t _ _=_;rw[ifEq_neg e];exact hr,.inl rfl⟩
theorem sealL_ext:∀(l:List AVal) (H:Nat→Option Row),HeapExt H (Am.sealL H l)
 |[],H=>HeapExt.refl H
 |x::l,H=>by
  unfold Am.sealL;split
  ·exact(sealR_ext H _).trans (sealL_ext l _)
  ·exact sealL_ext l H
theorem sealVs_ext:∀(l:List AVal) (H:Nat→Option Row),HeapExt H (Am.sealVs H l)
 |[],H=>HeapExt.refl H
 |x::l,H=>by
  unfold Am.sealVs;exact(sealL_ext x.cells H).trans (sealVs_ext l _)
theorem setH_ext{t:Nat}{r:Row}(h:S.heap t=none):HeapExt S.heap (S.setH t r).heap:=by
 intro p q hq;refine⟨q, ?_,.inl rfl⟩;show ifEq p t _ _=_;rw[ifEq_neg (by rintro rfl;rw[h] at hq;cases hq)];exact hq
theorem new_ext{T:St}{d:Option Nat}{rw_:Row}{f:Nat→AVal}(h:T.new d rw_ f some=some S'):HeapExt T.heap S'.heap:=by
 obtain⟨d',rfl,⟨h1,_⟩,h2⟩:=St.new_spec h;obtain rfl:=Option.some.inj h2;rw[put_heap];exact setH_ext h1
def extB:Op→Bool
 |.box ..=>true
 |.alloc _=>true
 |.makeSlice ..=>true
 |.buildSlice ..=>true
 |.load ..=>true
 |.call {callee:=.value (.func _),..}=>true
 |.call {callee:=.value (.tmp _),..}=>true
 |_=>false
theorem setHs_ext{rows:List (Nat×Row)}(h:allFree S.heap rows=true):HeapExt S.heap (S.setHs rows).heap:=by
 intro p q hq;refine⟨q, ?_,.inl rfl⟩;rw[setHs_out]
 ·exact hq
 ·intro hm;rw[allFree_mem h p hm] at hq;cases hq
theorem step_ext{o:Oper}(he:extB o.op=true)(h:step E o S some=some S'):HeapExt S.heap S'.heap:=by
 unfold step at h;split at h
 ·obtain⟨_,h⟩:=ifT_some h;exact new_ext h
 ·split at h
  ·exact new_ext h
  ·cases h
 ·split at h
  ·split at h
   ·obtain rfl:=Option.some.inj h;rw[put_heap];exact HeapExt.refl _
   ·cases h
  ·split at h
   ·split at h
    ·split at h
     ·obtain⟨_,h⟩:=ifT_some h;obtain rfl:=Option.some.inj h;rw[put_heap];exact HeapExt.refl _
     ·cases h
     ·split at h
      ·obtain rfl:=Option.some.inj h;rw[put_heap];exact HeapExt.refl _
      ·cases h
    ·cases h
   ·split at h
    ·split at h
     ·obtain rfl:=Option.some.inj h;rw[put_heap];exact HeapExt.refl _
     ·cases h
    ·cases h
   ·split at h
    ·obtain⟨_,h⟩:=ifT_some h;split at h
     ·obtain rfl:=Option.some.inj h;rw[put_heap];exact HeapExt.refl _
     ·cases h
    ·cases h
   ·split at h
    ·obtain rfl:=Option.some.inj h;rw[put_heap];exact HeapExt.refl _
    ·cases h
   ·cases h
 ·rename_i e;rw[e] at he;cases he
 ·split at h
  ·obtain⟨_,h⟩:=ifT_some h;split at h
   ·exact new_ext h
   ·cases h
  ·cases h
 ·split at h
  ·dsimp only at h;split at h
   ·obtain⟨_,h⟩:=ifT_some h;obtain⟨_,h⟩:=ifT_some h;obtain⟨_,h⟩:=ifT_some h;obtain⟨_,h⟩:=ifEq_some h;exact(sealVs_ext _ S.heap).trans (new_ext (T:={S with heap:=Am.sealVs S.heap _}) h)
   ·cases h
  ·cases h
 ·rename_i e;rw[e] at he;cases he
 ·rename_i e;rw[e] at he;cases he
 ·split at h
  ·cases h
  ·rename_i f hf;dsimp only at h;generalize hH:ifT (ifT f.own (flats f.outs) false) S.heap (Am.sealVs S.heap (mapA S.eval _))=H at h;have hm:HeapExt S.heap H:=by
    rw[←hH];cases ifT f.own (flats f.outs) false with
    |true=>exact HeapExt.refl _
    |false=>exact sealVs_ext _ _
   split at h
   ·cases h
   ·obtain⟨y,hy,h⟩:=Option.bind_eq_some_iff.1 h;obtain⟨h1,h2⟩:=got_some h;obtain rfl:=Option.some.inj h1;refine hm.trans ?_;unfold St.gotS;split
    ·rename_i d' ho hd;rw[put_heap];exact setHs_ext (S:={S with heap:=H}) (h2 d' ho hd)
    ·exact HeapExt.refl _
    ·rw[put_heap];exact HeapExt.refl _
 ·obtain⟨x,rfl⟩:=callV_put h;rw[put_heap];exact HeapExt.refl _
 ·rename_i h1 h2 h3 h4 h5 h6 h7 h9 h8 h10;exfalso;generalize o.op=op at*
  cases op<;>first|cases he|skip
  all_goals first|exact h1 _ _ rfl|exact h2 _ rfl|exact h3 _ _ rfl|exact h5 _ _ _ rfl|exact h6 _ _ _ rfl|skip
  rename_i c;obtain⟨callee,args,tys⟩:=c;cases callee with
  |value f=>cases f with
   |func g=>exact h8 _ _ _ rfl
   |tmp p=>exact h10 _ _ _ rfl
   |_=>cases he
  |_=>cases he
end
end Go.Proofs.YthkflageghfbgaaGreatDoor.Am
/- A load may change places with a load, and with what makes new rows. -/
namespace Go.Proofs.YthkflageghfbgaaGreatDoor.Am
open Go Go.RowKit
section
variable {α R : Type} {E : Env} {S S' : St} {ops : Array Oper}
def ldV(E:Env)(t:TypeId)(x:AVal)(H:Nat→Option Row):Option AVal:=
 match kdOf E t with
 |none=>ldClo E t x
 |some k'=>match x with
  |.ptr t c=>match H t with
   |some (.box cs)=>match k' with
    |.pair a b=>ifT (Nat.ble (c+(Kd.pair a b).size) (lenA cs)) (some (.agg (takeA (Kd.pair a b).size (dropA c cs)))) none
    |.unit=>none
    |_=>getA none (mapA some cs) c
   |_=>none
  |.ep t i c=>match H t with
   |some (.arr k xs _)=>match Kd.at k' k c with|some gs=>some (.v k' (gs.1 (List.getD (α:=k.T) xs i k.dflt)))|none=>none
   |_=>none
  |.pi t n i=>match H t with
   |some (.box cs)=>ifT (ifT k'.isAgg false (Nat.ble n (lenA cs))) (match cellsT k' (takeA n cs) with
    |some xs=>some (.v k' (List.getD (α:=k'.T) xs i k'.dflt))
    |none=>none) none
   |_=>none
  |.fp k y=>match Kd.at k' k 0 with|some gs=>some (.v k' (gs.1 y))|none=>none
  |_=>none
theorem step_load{o:Oper}{t:TypeId}{x:Operand}(ho:o.op=.load t x){K:St→Option R}:step E o S K=(ldV E t (S.eval x) S.heap).bind fun y=>K (S.put o.dst y):=by
 unfold step ldV;rw[ho];dsimp only
 cases kdOf E t with
 |none=>
  dsimp only
  cases ldClo E t (S.eval x)<;>rfl
 |some k'=>
  dsimp only
  cases S.eval x<;>try rfl
  case ptr t' c=>
   dsimp only
   cases S.heap t' with
   |none=>rfl
   |some r=>
    cases r<;>try rfl
    case box cs=>
     dsimp only
     cases k'<;>dsimp only<;>first|rfl|(rw[ifT_bind];rfl)|(cases getA none (mapA some cs) c<;>rfl)
  case ep t' i c=>
   dsimp only
   cases S.heap t' with
   |none=>rfl
   |some r=>
    cases r<;>try rfl
    case arr k xs ao=>
     dsimp only
     cases Kd.at k' k c<;>rfl
  case pi t' n i=>
   dsimp only
   cases S.heap t' with
   |none=>rfl
   |some r=>
    cases r<;>try rfl
    case box cs=>
     dsimp only
     rw[ifT_bind];cases cellsT k' (takeA n cs)<;>rfl
  case fp k y=>
   dsimp only
   cases Kd.at k' k 0<;>rfl
def addrTok:AVal→List Nat
 |.ptr t _=>[t]
 |.ep t _ _=>[t]
 |.pi t _ _=>[t]
 |_=>[]
theorem ldClo_tok{t:TypeId}{x y:AVal}(h:ldClo E t x=some y):addrTok x=[]:=by
 unfold ldClo at h;split at h
 ·rfl
 ·cases h
theorem ldV_same{t:TypeId}{x:AVal}{H H':Nat→Option Row}(h:∀p∈addrTok x,∃r r',H p=some r∧H' p=some r'∧SameD r r'):ldV E t x H'=ldV E t x H:=by
 unfold ldV;cases kdOf E t with
 |none=>rfl
 |some k'=>
  dsimp only
  cases x<;>try rfl
  case ptr p c=>
   obtain⟨r,r',h1,h2,h3⟩:=h p (by simp[addrTok]);dsimp only
   rw[h1,h2]
   rcases h3 with rfl|⟨k,xs,rfl,rfl⟩<;>rfl
  case ep p i c=>
   obtain⟨r,r',h1,h2,h3⟩:=h p (by simp[addrTok]);dsimp only
   rw[h1,h2]
   rcases h3 with rfl|⟨k,xs,rfl,rfl⟩<;>rfl
  case pi p n i=>
   obtain⟨r,r',h1,h2,h3⟩:=h p (by simp[addrTok]);dsimp only
   rw[h1,h2]
   rcases h3 with rfl|⟨k,xs,rfl,rfl⟩<;>rfl
theorem ldV_tok{t:TypeId}{x:AVal}{H:Nat→Option Row}{y:AVal}(h:ldV E t x H=some y):∀p∈addrTok x,H p≠none:=by
 intro p hp hn;unfold ldV at h;cases hk:kdOf E t with
 |none=>
  rw[hk] at h;rw[ldClo_tok h] at hp;cases hp
 |some k'=>
  rw[hk] at h;dsimp only at h;cases x<;>try (simp[addrTok] at hp;done)
  case ptr q c=>
   simp only[addrTok,List.mem_singleton] at hp;subst hp;dsimp only at h;rw[hn] at h;cases h
  case ep q i c=>
   simp only[addrTok,List.mem_singleton] at hp;subst hp;dsimp only at h;rw[hn] at h;cases h
  case pi q n i=>
   simp only[addrTok,List.mem_singleton] at hp;subst hp;dsimp only at h;rw[hn] at h;cases h
def Ready(o:Oper)(S:St):Prop:=∀t x,o.op=.load t x→∀p∈addrTok (S.eval x),S.heap p≠none
theorem Ready.eff{o:Oper}{d:Option Nat}(h:Ready o S)(he:Eff S d S')(hl:∀e,d=some e→e∉o.looksAt ops):Ready o S':=by
 intro t x ho p hp;have hs:SameAt ops o S S':=SameAt.eff he hl;rw[hs.eval x (by rw[ho];simp[Op.operands])] at hp;exact he.2 p (h t x ho p hp)
theorem Sim.ready{P:Pg}{Wr0:Base}{w0:World}{I:Info}{a:Act}{w:World}(hS:Sim P Wr0 w0 S I a w)(o:Oper):Ready o S:=by
 intro t x _ p hp hn;have hv:=hS.eval x;have hI:=hS.free p hn;cases he:S.eval x<;>rw[he] at hp hv<;>try (simp[addrTok] at hp;done)
 case ptr q c=>
  simp only[addrTok,List.mem_singleton] at hp;subst hp;simp only[Rep,hI] at hv
 case ep q i c=>
  simp only[addrTok,List.mem_singleton] at hp;subst hp;simp only[Rep,hI] at hv
 case pi q n i=>
  simp only[addrTok,List.mem_singleton] at hp;subst hp;simp only[Rep,hI] at hv
/-- x, then i: as well i, then x, where what i loads stands -/
def Swaps'(E:Env)(ops:Array Oper)(x i:Oper):Prop:=∀S S1 S2,Ready i S→opS E ops.toList x S=some S1→opS E ops.toList i S1=some S2→∃S1',opS E ops.toList i S=some S1'∧opS E ops.toList x S1'=some S2
theorem opS_ext{o:Oper}(he:extB o.op=true)(h:opS E ops.toList o S=some S'):HeapExt S.heap S'.heap:=by
 unfold opS at h;obtain⟨t,_,h⟩:=Option.bind_eq_some_iff.1 h;cases t with
 |true=>exact step_ext he h
 |false=>
  obtain rfl:=Option.some.inj h;rw[put_heap];exact HeapExt.refl _
/-- a load reads the same where the rows that it reads are the same -/
theorem load_like{o:Oper}{t:TypeId}{x:Operand}(ho:o.op=.load t x)(h:opS E ops.toList o S=some S'):
  ∃y,S'=S.put o.dst y∧∀T,SameAt ops o S T→(∀p∈addrTok (S.eval x),S.heap p≠none→∃r r',S.heap p=some r∧T.heap p=some r'∧(SameD r r'∨SameD r' r))→opS E ops.toList o T=some (T.put o.dst y):=by
 unfold opS at h;obtain⟨b,hb,h⟩:=Option.bind_eq_some_iff.1 h;cases b with
 |true=>
  simp only[cond_true] at h;rw[step_load ho] at h;obtain⟨y,h1,h2⟩:=Option.bind_eq_some_iff.1 h;obtain rfl:=Option.some.inj h2;refine⟨y,rfl,fun T hT hh=> ?_⟩;unfold opS;rw[hT.gd,hb];simp only[Option.bind_some,cond_true];rw[step_load ho,hT.eval x (by rw[ho];simp[Op.operands])];have:ldV E t (S.eval x) T.heap=ldV E t (S.eval x) S.heap:=by
   have htok:=ldV_tok h1;have key:∀p∈addrTok (S.eval x),∃r r',S.heap p=some r∧T.heap p=some r'∧(SameD r r'∨SameD r' r):=fun p hp=>hh p hp (htok p hp)
   by_cases hall:∀p∈addrTok (S.eval x),∃r r',S.heap p=some r∧T.heap p=some r'∧SameD r r'
   ·exact ldV_same hall
   ·refine(ldV_same (H:=T.heap) (H':=S.heap) fun p hp=> ?_).symm;obtain⟨r,r',e1,e2,e3⟩:=key p hp
    rcases e3 with e3|e3
    ·exfalso;refine hall fun q hq=> ?_;have:q=p:=by
      cases he:S.eval x<;>rw[he] at hp hq<;>simp[addrTok] at hp hq
      ·rw[hp,hq]
      ·rw[hp,hq]
      ·rw[hp,hq]
     subst this;exact⟨r,r',e1,e2,e3⟩
    ·exact⟨r',r,e2,e1,e3⟩
  rw[this,h1];rfl
 |false=>
  obtain rfl:=Option.some.inj h;refine⟨.tup [],rfl,fun T hT _=> ?_⟩;unfold opS;rw[hT.gd,hb];rfl
theorem swaps_load_left{x i:Oper}(ha:x.apart ops i=true){t:TypeId}{z:Operand}(hx:x.op=.load t z)(hi:extB i.op=true):Swaps' E ops x i:=by
 intro S S1 S2 _ h1 h2;obtain⟨a1,a2,a3⟩:=Oper.apart_spec ha;obtain⟨y,rfl,hy⟩:=load_like hx h1;obtain⟨T,h3,rfl⟩:=opS_unput a2 a1 h2;refine⟨T,h3,hy T (SameAt.eff (opS_eff h3) a3) fun p hp hn=> ?_⟩;cases hr:S.heap p with
 |none=>exact absurd hr hn
 |some r=>
  obtain⟨r',h4,h5⟩:=opS_ext hi h3 p r hr;exact⟨r,r',rfl,h4,.inl h5⟩
theorem swaps_load_right{x i:Oper}(ha:x.apart ops i=true){t:TypeId}{z:Operand}(hi:i.op=.load t z)(hx:extB x.op=true):Swaps' E ops x i:=by
 intro S S1 S2 hr h1 h2;obtain⟨a1,a2,a3⟩:=Oper.apart_spec ha;have he:=opS_eff h1;have hs:SameAt ops i S S1:=SameAt.eff he a1;obtain⟨y,rfl,hy⟩:=load_like hi h2;have hev:S1.eval z=S.eval z:=hs.eval z (by rw[hi];simp[Op.operands]);refine⟨_,hy S (fun p hp=>(hs p hp).symm) fun p hp hn=> ?_, ?_⟩
 ·rw[hev] at hp;cases hq:S.heap p with
  |none=>exact absurd hq (hr t z hi p hp)
  |some r=>
   obtain⟨r',h4,h5⟩:=opS_ext hx h1 p r hq;exact⟨r',r,h4,rfl,.inr h5⟩
 ·exact opS_put (fun e he' hxe=>a2 e hxe he') a3 h1
end
end Go.Proofs.YthkflageghfbgaaGreatDoor.Am
/- A new box may change places with a call, and with a new box. -/
namespace Go.Proofs.YthkflageghfbgaaGreatDoor.Am
open Go Go.RowKit
section
variable {α R : Type} {E : Env} {S S' : St} {ops : Array Oper} {tok : Nat} {z : List AVal}
def put1(H:Nat→Option Row)(tok:Nat)(z:List AVal):Nat→Option Row:=fun p=>ifEq p tok (some (.box z)) (H p)
theorem put1_at(H:Nat→Option Row):put1 H tok z tok=some (.box z):=ifEq_pos rfl _ _
theorem put1_ne{H:Nat→Option Row}{p:Nat}(h:p≠tok):put1 H tok z p=H p:=ifEq_neg h _ _
theorem sealR_none{H:Nat→Option Row}{t:Nat}(h:H tok=none):Am.sealR H t tok=none:=by
 rcases sealR_cases H t with e|⟨k,xs,e1,e2⟩
 ·rw[e];exact h
 ·rw[e2];show ifEq tok t _ _=none;rw[ifEq_neg (by rintro rfl;rw[h] at e1;cases e1)];exact h
theorem sealR_box1{H:Nat→Option Row}{t:Nat}(h:H tok=none):Am.sealR (put1 H tok z) t=put1 (Am.sealR H t) tok z:=by
 by_cases e:t=tok
 ·subst e;unfold Am.sealR;rw[put1_at,h]
 ·unfold Am.sealR;rw[put1_ne e];cases ht:H t with
  |none=>rfl
  |some r=>
   cases r with
   |dead=>rfl
   |box cs=>rfl
   |arr k xs ao=>
    cases ao with
    |true=>rfl
    |false=>
     funext p
     by_cases e1:p=tok
     ·subst e1;rw[put1_at];show ifEq p t _ (put1 H p z p)=_;rw[ifEq_neg (Ne.symm e),put1_at]
     ·rw[put1_ne e1];show ifEq p t _ (put1 H tok z p)=ifEq p t _ _;rw[put1_ne e1]
theorem sealL_none:∀{l:List AVal} {H:Nat→Option Row},H tok=none→Am.sealL H l tok=none
 |[],_,h=>h
 |x::l,H,h=>by
  unfold Am.sealL;split
  ·exact sealL_none (sealR_none h)
  ·exact sealL_none h
theorem sealL_box1:∀{l:List AVal} {H:Nat→Option Row},H tok=none→Am.sealL (put1 H tok z) l=put1 (Am.sealL H l) tok z
 |[],_,_=>rfl
 |x::l,H,h=>by
  unfold Am.sealL;split
  ·rw[sealR_box1 h];exact sealL_box1 (sealR_none h)
  ·exact sealL_box1 h
theorem sealVs_none:∀{l:List AVal} {H:Nat→Option Row},H tok=none→Am.sealVs H l tok=none
 |[],_,h=>h
 |x::l,H,h=>by
  unfold Am.sealVs;exact sealVs_none (sealL_none h)
theorem sealVs_box1:∀{l:List AVal} {H:Nat→Option Row},H tok=none→Am.sealVs (put1 H tok z) l=put1 (Am.sealVs H l) tok z
 |[],_,_=>rfl
 |x::l,H,h=>by
  unfold Am.sealVs Am.sealV;rw[sealL_box1 h];exact sealVs_box1 (sealL_none h)
theorem leafT0_box1{st:Bool}{H:Nat→Option Row}(h:H tok=none)(k:Kd)(x:AVal):leafT0 st (put1 H tok z) k x=leafT0 st H k x:=by
 cases k<;>cases x<;>try rfl
 rename_i k k' t off len;simp only[leafT0]
 by_cases e:t=tok
 ·subst e;rw[put1_at,h]
 ·rw[put1_ne e]
theorem leafT_box1{st:Bool}{H:Nat→Option Row}(h:H tok=none)(k:Kd)(x:AVal):leafT st (put1 H tok z) k x=leafT st H k x:=by
 unfold leafT;split<;>first|rfl|rw[leafT0_box1 h]
theorem toTs_box1{st:Bool}{H:Nat→Option Row}(h:H tok=none):∀(k:Kd) (cs:List AVal),toTs st (put1 H tok z) k cs=toTs st H k cs
 |.unit,_=>by unfold toTs;rfl
 |.pair a b,cs=>by
  unfold toTs;rw[toTs_box1 h a cs];cases toTs st H a cs with
  |none=>rfl
  |some r=>
   dsimp only
   rw[toTs_box1 h b r.2]
 |.int _,cs=>by cases cs<;>(unfold toTs;first|rfl|rw[leafT_box1 h])
 |.bool,cs=>by cases cs<;>(unfold toTs;first|rfl|rw[leafT_box1 h])
 |.str,cs=>by cases cs<;>(unfold toTs;first|rfl|rw[leafT_box1 h])
 |.err,cs=>by cases cs<;>(unfold toTs;first|rfl|rw[leafT_box1 h])
 |.pt,cs=>by cases cs<;>(unfold toTs;first|rfl|rw[leafT_box1 h])
 |.sl _,cs=>by cases cs<;>(unfold toTs;first|rfl|rw[leafT_box1 h])
theorem toT_box1{st:Bool}{H:Nat→Option Row}(h:H tok=none)(k:Kd)(x:AVal):toT st (put1 H tok z) k x=toT st H k x:=by
 unfold toT;cases x<;>dsimp only<;>first|rw[toTs_box1 h]|exact leafT_box1 h k _
theorem gather_box1{st:Bool}{H:Nat→Option Row}(h:H tok=none):∀(ps:List Prm) (xs:List AVal),gather st (put1 H tok z) ps xs=gather st H ps xs
 |[],[]=>rfl
 |[],_::_=>rfl
 |.v k::ps,[]=>rfl
 |.v k::ps,x::xs=>by
  simp only[gather];rw[toT_box1 h k x,gather_box1 h ps xs]
 |.clo _ _::ps,_=>rfl
 |.cap _::ps,_=>rfl
theorem setH_setH{t u:Nat}{r q:Row}(h:t≠u):(S.setH t r).setH u q=(S.setH u q).setH t r:=by
 unfold St.setH;simp only[St.mk.injEq,true_and];refine⟨?_,trivial⟩;funext p
 by_cases e:p=u
 ·subst e;rw[ifEq_pos rfl,ifEq_neg (Ne.symm h),ifEq_pos rfl]
 ·rw[ifEq_neg e,ifEq_neg e]
theorem setHs_setH:∀{rows:List (Nat×Row)} {S:St} {q:Row},tok∉rows.map (·.1)→(S.setH tok q).setHs rows=(S.setHs rows).setH tok q
 |[],_,_,_=>rfl
 |x::rows,S,q,h=>by
  simp only[List.map_cons,List.mem_cons,not_or] at h;simp only[St.setHs];rw[setH_setH h.1,setHs_setH h.2]
theorem setHs_some:∀{rows:List (Nat×Row)} {S:St},tok∈rows.map (·.1)→(S.setHs rows).heap tok≠none
 |[],_,h=>by cases h
 |x::rows,S,h=>by
  simp only[St.setHs];simp only[List.map_cons,List.mem_cons] at h
  rcases h with rfl|h
  ·refine setHs_mono ?_;show ifEq _ _ _ _≠none;rw[ifEq_pos rfl];simp
  ·exact setHs_some h
theorem allFree_box1{H:Nat→Option Row}:∀{rows:List (Nat×Row)},tok∉rows.map (·.1)→allFree (put1 H tok z) rows=allFree H rows
 |[],_=>rfl
 |x::rows,h=>by
  simp only[List.map_cons,List.mem_cons,not_or] at h;unfold allFree;rw[allFree_box1 h.2];unfold isFree;rw[put1_ne (Ne.symm h.1)]
def noneB(H:Nat→Option Row)(t:Nat):Bool:=match H t with|none=>true|some _=>false
def after1(tok:Nat)(z:List AVal)(S':St):Option St:=ifT (noneB S'.heap tok) (some (S'.setH tok (.box z))) none
theorem noneB_iff{H:Nat→Option Row}{t:Nat}:noneB H t=true↔H t=none:=by
 unfold noneB;cases H t<;>simp
theorem isFree_is{H:Nat→Option Row}{t:Nat}(h:H t=none)(hl:t<200000):isFree H t=true:=by
 unfold isFree;rw[h];show Nat.blt t 200000=true;rw[Nat.blt_eq];exact hl
theorem after1_free(h:S'.heap tok=none):after1 tok z S'=some (S'.setH tok (.box z)):=by
 unfold after1;rw[noneB_iff.2 h];rfl
theorem after1_some{T:St}(h:after1 tok z S'=some T):S'.heap tok=none∧T=S'.setH tok (.box z):=by
 unfold after1 at h;obtain⟨h1,h2⟩:=ifT_some h;exact⟨noneB_iff.1 h1,(Option.some.inj h2).symm⟩
theorem ifT_t(x y:α):ifT true x y=x:=rfl
theorem ifT_f(x y:α):ifT false x y=y:=rfl
theorem new_box1(h:S.heap tok=none)(d:Option Nat)(r:Row)(f:Nat→AVal):(S.setH tok (.box z)).new d r f some=(S.new d r f some).bind (after1 tok z):=by
 unfold St.new;cases d with
 |none=>rfl
 |some d=>
  dsimp only
  rw[ifT_bind]
  by_cases e:d*16=tok
  ·have h1:isFree (S.setH tok (.box z)).heap (d*16)=false:=by
    rw[e];show isFree (put1 S.heap tok z) tok=false;unfold isFree;rw[put1_at]
   rw[h1];have h2:after1 tok z ((S.setH (d*16) r).put (some d) (f (d*16)))=none:=by
    unfold after1;have:noneB ((S.setH (d*16) r).put (some d) (f (d*16))).heap tok=false:=by
     rw[put_heap,←e];show(match ifEq (d*16) (d*16) (some r) (S.heap (d*16)) with|none=>true|some _=>false)=false;rw[ifEq_pos rfl]
    rw[this];rfl
   rw[Option.bind_some,h2];cases isFree S.heap (d*16)<;>rfl
  ·have h1:isFree (S.setH tok (.box z)).heap (d*16)=isFree S.heap (d*16):=by
    show isFree (put1 S.heap tok z) (d*16)=_;unfold isFree;rw[put1_ne e]
   have h2:((S.setH (d*16) r).put (some d) (f (d*16))).heap tok=none:=by
    rw[put_heap];show ifEq tok (d*16) _ _=none;rw[ifEq_neg (Ne.symm e)];exact h
   rw[h1,Option.bind_some,after1_free h2];congr 2;rw[setH_setH (Ne.symm e)];rfl
theorem got_box1(h:S.heap tok=none)(d:Option Nat)(own:Bool)(ks:List Kd)(x:OutsT ks):(S.setH tok (.box z)).got d own ks x some=(S.got d own ks x some).bind (after1 tok z):=by
 unfold St.got;cases own with
 |false=>
  rw[ifT_f,ifT_f,Option.bind_some];rw[after1_free (by rw[put_heap];exact h),setH_put]
 |true=>
  rw[ifT_t,ifT_t];cases d with
  |none=>
   dsimp only
   rw[Option.bind_some,after1_free h]
  |some d=>
   dsimp only
   rw[ifT_bind,Option.bind_some,Option.bind_none];generalize thaws d ks x 0=rr
   by_cases e:tok∈rr.2.map (·.1)
   ·have h1:allFree (S.setH tok (.box z)).heap rr.2=false:=by
     cases hh:allFree (S.setH tok (.box z)).heap rr.2 with
     |false=>rfl
     |true=>
      have:=allFree_mem hh tok e;rw[show(S.setH tok (.box z)).heap tok=some (.box z) from put1_at S.heap] at this;cases this
    have h2:after1 tok z ((S.setHs rr.2).put (some d) (one rr.1))=none:=by
     unfold after1;have:noneB ((S.setHs rr.2).put (some d) (one rr.1)).heap tok=false:=by
      rw[put_heap];have:=setHs_some (S:=S) e;unfold noneB;cases hh:(S.setHs rr.2).heap tok with
      |none=>exact absurd hh this
      |some r=>rfl
     rw[this];rfl
    rw[h1,h2];cases allFree S.heap rr.2<;>rfl
   ·rw[show allFree (S.setH tok (.box z)).heap rr.2=allFree S.heap rr.2 from allFree_box1 (H:=S.heap) e];rw[after1_free (by rw[put_heap,setHs_out e];exact h),setHs_setH e,←setH_put]
def newB:Op→Bool
 |.alloc _=>true
 |.box ..=>true
 |_=>false
def callB:Op→Bool
 |.call {callee:=.value (.func _),..}=>true
 |_=>false
theorem step_box1{o:Oper}(ho:newB o.op=true∨callB o.op=true)(h:S.heap tok=none):step E o (S.setH tok (.box z)) some=(step E o S some).bind (after1 tok z):=by
 obtain⟨dst,op,type,pos,after,guard⟩:=o;cases op<;>try (rcases ho with ho|ho<;>cases ho;done)
 case box t x=>
  simp only[step];rw[show(S.setH tok (.box z)).eval x=S.eval x from by cases x<;>rfl];cases okV (S.eval x) with
  |true=>rw[ifT_t,ifT_t];exact new_box1 h _ _ _
  |false=>rfl
 case alloc t=>
  simp only[step];cases kdOf E t with
  |none=>rfl
  |some k=>exact new_box1 h _ _ _
 case call c=>
  obtain⟨callee,args,tys⟩:=c;have hc:∃g,callee=.value (.func g):=by
   rcases ho with ho|ho
   ·cases ho
   ·cases callee with
    |value f=>cases f with
     |func g=>exact⟨g,rfl⟩
     |_=>cases ho
    |_=>cases ho
  obtain⟨g,rfl⟩:=hc;simp only[step];cases E.fn g with
  |none=>rfl
  |some f=>
   dsimp only
   have he:mapA (S.setH tok (.box z)).eval args.toList=mapA S.eval args.toList:=mapA_congr fun x _=>by cases x<;>rfl
   rw[he];generalize hl:ifT f.own (flats f.outs) false=loose;have hH:∃H,ifT loose S.heap (Am.sealVs S.heap (mapA S.eval args.toList))=H∧H tok=none∧ifT loose (S.setH tok (.box z)).heap (Am.sealVs (S.setH tok (.box z)).heap (mapA S.eval args.toList))=put1 H tok z:=by
    cases loose with
    |true=>exact⟨_,rfl,h,rfl⟩
    |false=>exact⟨_,rfl,sealVs_none h,sealVs_box1 h⟩
   obtain⟨H,h1,h2,h3⟩:=hH;rw[h1,h3,gather_box1 h2];cases gather (ifT loose false true) H f.ps (mapA S.eval args.toList) with
   |none=>rfl
   |some xs=>
    dsimp only
    rw[Option.bind_assoc];congr 1;funext y;exact got_box1 (S:={S with heap:=H}) h2 _ _ _ _
theorem opS_box1{o:Oper}(ho:newB o.op=true∨callB o.op=true)(h:S.heap tok=none){l:List Oper}:opS E l o (S.setH tok (.box z))=(opS E l o S).bind (after1 tok z):=by
 unfold opS;rw[Option.bind_assoc];rw[show gd l o (S.setH tok (.box z))=gd l o S from rfl];congr 1;funext t;cases t with
 |true=>exact step_box1 ho h
 |false=>
  simp only[cond_false,Option.bind_some];rw[after1_free (by rw[put_heap];exact h),setH_put]
/-- what a new box does -/
theorem new_like{o:Oper}(ho:newB o.op=true)(h:opS E ops.toList o S=some S'):
  (S'=S.put o.dst (.tup [])∧∀T,SameAt ops o S T→opS E ops.toList o T=some (T.put o.dst (.tup [])))∨
  ∃d z,o.dst=some d∧S.heap (d*16)=none∧S'=(S.setH (d*16) (.box z)).put o.dst (.ptr (d*16) 0)∧
   ∀T,SameAt ops o S T→T.heap (d*16)=none→opS E ops.toList o T=some ((T.setH (d*16) (.box z)).put o.dst (.ptr (d*16) 0)):=by
 unfold opS at h;obtain⟨t,ht,h⟩:=Option.bind_eq_some_iff.1 h;cases t with
 |false=>
  obtain rfl:=Option.some.inj h;refine .inl ⟨rfl,fun T hT=> ?_⟩;unfold opS;rw[hT.gd,ht];rfl
 |true=>
  simp only[cond_true] at h;have key:∀zz,S.new o.dst (.box zz) (.ptr · 0) some=some S'→(∀T,SameAt ops o S T→step E o T some=T.new o.dst (.box zz) (.ptr · 0) some)→
   ∃d z,o.dst=some d∧S.heap (d*16)=none∧S'=(S.setH (d*16) (.box z)).put o.dst (.ptr (d*16) 0)∧
   ∀T,SameAt ops o S T→T.heap (d*16)=none→opS E ops.toList o T=some ((T.setH (d*16) (.box z)).put o.dst (.ptr (d*16) 0)):=by
   intro zz h1 h2;obtain⟨d,hd,⟨h3,hdl⟩,h4⟩:=St.new_spec h1;refine⟨d,zz,hd,h3,(Option.some.inj h4).symm,fun T hT hf=> ?_⟩;unfold opS;rw[hT.gd,ht];simp only[Option.bind_some,cond_true];rw[h2 T hT,hd];unfold St.new;dsimp only
   rw[isFree_is hf hdl];rfl
  right;obtain⟨dst,op,type,pos,after,guard⟩:=o;cases op<;>try (cases ho;done)
  case box=>
   rename_i ty x h0;simp only[step] at h;obtain⟨hk,h⟩:=ifT_some h;refine key _ h fun T hT=> ?_;have he:=hT.eval x (by simp[Op.operands]);simp only[step];rw[he,hk];rfl
  case alloc=>
   rename_i t h0;simp only[step] at h;cases hk:kdOf E t with
   |none=>rw[hk] at h;cases h
   |some k=>
    rw[hk] at h;refine key _ h fun T hT=> ?_;simp only[step];rw[hk]
theorem swaps_new_left{x i:Oper}(ha:x.apart ops i=true)(hx:newB x.op=true)(hi:newB i.op=true∨callB i.op=true):Swaps E ops x i:=by
 intro S S1 S2 h1 h2;obtain⟨a1,a2,a3⟩:=Oper.apart_spec ha
 rcases new_like hx h1 with⟨rfl,hy⟩|⟨d,z,hd,hf,rfl,hy⟩
 ·obtain⟨T,h3,rfl⟩:=opS_unput a2 a1 h2;exact⟨T,h3,hy T (SameAt.eff (opS_eff h3) a3)⟩
 ·obtain⟨T,h3,rfl⟩:=opS_unput a2 a1 h2;rw[opS_box1 hi hf] at h3;obtain⟨S',h4,h5⟩:=Option.bind_eq_some_iff.1 h3;obtain⟨h6,rfl⟩:=after1_some h5;exact⟨S',h4,hy S' (SameAt.eff (opS_eff h4) a3) h6⟩
theorem swaps_new_right{x i:Oper}(ha:x.apart ops i=true)(hi:newB i.op=true)(hx:newB x.op=true∨callB x.op=true):Swaps E ops x i:=by
 intro S S1 S2 h1 h2;obtain⟨a1,a2,a3⟩:=Oper.apart_spec ha;have he:=opS_eff h1;have hs:SameAt ops i S1 S:=fun p hp=>(SameAt.eff he a1 p hp).symm
 rcases new_like hi h2 with⟨rfl,hy⟩|⟨d,z,hd,hf,rfl,hy⟩
 ·exact⟨_,hy S hs,opS_put (fun e he' hxe=>a2 e hxe he') a3 h1⟩
 ·have hf':S.heap (d*16)=none:=by
   cases hh:S.heap (d*16) with
   |none=>rfl
   |some r=>exact absurd hf (he.2 _ (by rw[hh];simp))
  refine⟨_,hy S hs hf', ?_⟩;refine opS_put (fun e he' hxe=>a2 e hxe he') a3 ?_;rw[opS_box1 hx hf',h1,Option.bind_some,after1_free hf]
end
end Go.Proofs.YthkflageghfbgaaGreatDoor.Am
/- Slices that are built or appended to, beside loads and slices that are built. -/
namespace Go.Proofs.YthkflageghfbgaaGreatDoor.Am
open Go Go.RowKit
def appB:Op→Bool
 |.call {callee:=.builtin .append,..}=>true
 |_=>false
def bldB(E:Env):Op→Bool
 |.buildSlice t _ _=>match E.ty t with
  |some d=>d.elt.flat
  |none=>false
 |_=>false
def isLoad0(o:Oper):Bool:=match o.guard with
 |some _=>false
 |none=>match o.op with
  |.load ..=>true
  |_=>false
def commE(E:Env)(ops:Array Oper)(x i:Oper):Bool:=x.apart ops i&&((appB x.op&&isLoad0 i)||((appB x.op||bldB E x.op)&&bldB E i.op))
section
variable {R : Type} {E : Env} {S S' : St} {ops : Array Oper} {H H' : Nat → Option Row} {st : Bool} {tok : Nat} {row : Row}
def isV(c:AVal):Prop:=∃k z,c=.v k z
theorem leaves_v:∀(k:Kd) (x:k.T),∀c∈k.leaves x,isV c
 |.unit,_,c,h=>by cases h
 |.pair a b,x,c,h=>by
  simp only[Kd.leaves,appA_eq] at h
  rcases List.mem_append.1 h with h|h
  ·exact leaves_v a x.1 c h
  ·exact leaves_v b x.2 c h
 |.int k,x,c,h=>⟨_,_,List.mem_singleton.1 h⟩
 |.bool,x,c,h=>⟨_,_,List.mem_singleton.1 h⟩
 |.str,x,c,h=>⟨_,_,List.mem_singleton.1 h⟩
 |.err,x,c,h=>⟨_,_,List.mem_singleton.1 h⟩
 |.pt,x,c,h=>⟨_,_,List.mem_singleton.1 h⟩
 |.sl k,x,c,h=>⟨_,_,List.mem_singleton.1 h⟩
theorem sealL_v:∀{l:List AVal},(∀c∈l,isV c)→Am.sealL H l=H
 |[],_=>rfl
 |c::l,h=>by
  obtain⟨k,z,rfl⟩:=h c List.mem_cons_self;unfold Am.sealL;exact sealL_v fun x hx=>h x (List.mem_cons_of_mem _ hx)
theorem flat_leafT{k:Kd}(hk:k.flat=true)(x:AVal):leafT st H k x=leafT st H' k x:=by
 cases k<;>first|(cases hk;done)|(cases x<;>rfl)
theorem flat_leafV{k:Kd}(hk:k.flat=true){x:AVal}{y:k.T}(h:leafT st H k x=some y):isV x:=by
 cases k<;>first|(cases hk;done)|(cases x<;>first|exact⟨_,_,rfl⟩|(cases h;done))
theorem flat_toTs:∀{k:Kd},k.flat=true→∀cs:List AVal,toTs st H k cs=toTs st H' k cs
 |.unit,_,cs=>by unfold toTs;rfl
 |.pair a b,hk,cs=>by
  obtain⟨h1,h2⟩:=ifT_both hk;have e1:toTs st H a cs=toTs st H' a cs:=flat_toTs h1 cs;unfold toTs;rw[e1];cases toTs st H' a cs with
  |none=>rfl
  |some r=>
   have e2:toTs st H b r.2=toTs st H' b r.2:=flat_toTs h2 r.2;dsimp only
   rw[e2]
 |.int k,hk,cs=>by cases cs<;>(unfold toTs;first|rfl|rw[flat_leafT (H:=H) (H':=H') hk])
 |.bool,hk,cs=>by cases cs<;>(unfold toTs;first|rfl|rw[flat_leafT (H:=H) (H':=H') hk])
 |.str,hk,cs=>by cases cs<;>(unfold toTs;first|rfl|rw[flat_leafT (H:=H) (H':=H') hk])
 |.err,hk,cs=>by cases cs<;>(unfold toTs;first|rfl|rw[flat_leafT (H:=H) (H':=H') hk])
 |.pt,hk,cs=>by cases hk
 |.sl _,hk,cs=>by cases hk
theorem flat_toTsV1{k:Kd}(hk:k.flat=true)(h1:∀c cs,toTs st H k (c::cs)=match leafT st H k c with|some x=>some (x,cs)|none=>none)(h0:toTs st H k []=none){cs:List AVal}{x:k.T}{rest:List AVal}(h:toTs st H k cs=some (x,rest)):∀c∈cs,isV c∨c∈rest:=by
 cases cs with
 |nil=>rw[h0] at h;cases h
 |cons c cs=>
  rw[h1] at h;split at h
  ·rename_i y hy;obtain⟨_,rfl⟩:=Prod.mk.inj (Option.some.inj h);intro z hz
   rcases List.mem_cons.1 hz with rfl|hz
   ·exact .inl (flat_leafV hk hy)
   ·exact .inr hz
  ·cases h
theorem flat_toTsV:∀{k:Kd},k.flat=true→∀{cs:List AVal} {x:k.T} {rest:List AVal},toTs st H k cs=some (x,rest)→∀c∈cs,isV c∨c∈rest
 |.unit,_,cs,x,rest,h=>by
  unfold toTs at h;obtain⟨_,rfl⟩:=Prod.mk.inj (Option.some.inj h);exact fun c hc=>.inr hc
 |.pair a b,hk,cs,x,rest,h=>by
  obtain⟨k1,k2⟩:=ifT_both hk;unfold toTs at h;split at h
  ·rename_i r hr;split at h
   ·rename_i q hq;obtain⟨_,rfl⟩:=Prod.mk.inj (Option.some.inj h);intro c hc
    rcases flat_toTsV (x:=r.1) (rest:=r.2) k1 hr c hc with h1|h1
    ·exact .inl h1
    ·exact flat_toTsV (x:=q.1) (rest:=q.2) k2 hq c h1
   ·cases h
  ·cases h
 |.int _,hk,cs,x,rest,h=>flat_toTsV1 hk (by intro c cs;unfold toTs;rfl) (by unfold toTs;rfl) h
 |.bool,hk,cs,x,rest,h=>flat_toTsV1 hk (by intro c cs;unfold toTs;rfl) (by unfold toTs;rfl) h
 |.str,hk,cs,x,rest,h=>flat_toTsV1 hk (by intro c cs;unfold toTs;rfl) (by unfold toTs;rfl) h
 |.err,hk,cs,x,rest,h=>flat_toTsV1 hk (by intro c cs;unfold toTs;rfl) (by unfold toTs;rfl) h
 |.pt,hk,_,_,_,_=>by cases hk
 |.sl _,hk,_,_,_,_=>by cases hk
theorem flat_toT{k:Kd}(hk:k.flat=true)(x:AVal):toT st H k x=toT st H' k x:=by
 unfold toT;cases x<;>dsimp only<;>first|rw[flat_toTs (H:=H) (H':=H') hk]|exact flat_leafT hk _
theorem flat_toTV{k:Kd}(hk:k.flat=true){x:AVal}{y:k.T}(h:toT st H k x=some y):∀c∈x.cells,isV c:=by
 unfold toT at h;split at h
 ·rename_i cs;obtain⟨_,h⟩:=ifT_some h;split at h
  ·rename_i z hz;intro c hc
   rcases flat_toTsV hk hz c hc with h1|h1
   ·exact h1
   ·cases h1
  ·cases h
 ·obtain⟨k',z,rfl⟩:=flat_leafV hk h;exact leaves_v k' z
theorem flat_elems{k:Kd}(hk:k.flat=true):∀vs:List AVal,elems H k vs=elems H' k vs
 |[]=>rfl
 |x::l=>by
  unfold elems;rw[flat_toT (H:=H) (H':=H') hk,flat_elems hk l]
theorem flat_elemsV{k:Kd}(hk:k.flat=true):∀{vs:List AVal} {xs:List k.T},elems H' k vs=some xs→Am.sealVs H vs=H
 |[],_,_=>rfl
 |x::l,xs,h=>by
  unfold elems at h;split at h
  ·rename_i y hy;split at h
   ·rename_i ys hys;unfold Am.sealVs Am.sealV;rw[sealL_v (flat_toTV hk hy)];exact flat_elemsV hk hys
   ·cases h
  ·cases h
theorem new_at{d:Option Nat}{r:Row}{f:Nat→AVal}(h:S.new d r f some=some S'):∃e,d=some e∧(S.heap (e*16)=none∧e*16<200000)∧S'=(S.setH (e*16) r).put d (f (e*16)):=by
 obtain⟨e,h1,h2,h3⟩:=St.new_spec h;exact⟨e,h1,h2,(Option.some.inj h3).symm⟩
theorem new_mk{e:Nat}{r:Row}{f:Nat→AVal}(h:S.heap (e*16)=none)(hl:e*16<200000):S.new (some e) r f some=some ((S.setH (e*16) r).put (some e) (f (e*16))):=by
 unfold St.new;dsimp only
 rw[isFree_is h hl];rfl
theorem bld_like{o:Oper}(ho:bldB E o.op=true)(h:opS E ops.toList o S=some S'):
  (S'=S.put o.dst (.tup [])∧∀T,SameAt ops o S T→opS E ops.toList o T=some (T.put o.dst (.tup [])))∨
  ∃d r v,o.dst=some d∧S.heap (d*16)=none∧S'=(S.setH (d*16) r).put o.dst v∧
   ∀T,SameAt ops o S T→T.heap (d*16)=none→opS E ops.toList o T=some ((T.setH (d*16) r).put o.dst v):=by
 unfold opS at h;obtain⟨t,ht,h⟩:=Option.bind_eq_some_iff.1 h;cases t with
 |false=>
  obtain rfl:=Option.some.inj h;refine .inl ⟨rfl,fun T hT=> ?_⟩;unfold opS;rw[hT.gd,ht];rfl
 |true=>
  simp only[cond_true] at h;right;obtain⟨dst,op,type,pos,after,guard⟩:=o;cases op<;>try (cases ho;done)
  rename_i t n ps h0;simp only[bldB] at ho;split at ho
  ·rename_i d hd;simp only[step] at h;rw[hd] at h;dsimp only at h;split at h
   ·rename_i xs hxs;obtain⟨k1,h⟩:=ifT_some h;obtain⟨k2,h⟩:=ifT_some h;obtain⟨k3,h⟩:=ifT_some h;obtain⟨k4,h⟩:=ifEq_yes h;rw[flat_elemsV (H:=S.heap) ho hxs] at h;obtain⟨e,rfl,⟨h1,h1'⟩,h2⟩:=new_at h;refine⟨e,_,_,rfl,h1,h2,fun T hT hf=> ?_⟩;have hev:mapA (fun p:Nat×Operand=>T.eval p.2) ps.toList=mapA (fun p=>S.eval p.2) ps.toList:=mapA_congr fun p hp=>hT.eval p.2 (by simp only[Op.operands,List.mem_toArray,List.mem_map];exact⟨p,hp,rfl⟩);unfold opS;rw[hT.gd,ht];simp only[Option.bind_some,cond_true,step];rw[hd];dsimp only
    rw[hev];have hx2:elems T.heap d.elt (mapA (fun p=>S.eval p.2) ps.toList)=some xs:=by
     rw[flat_elems (H':=Am.sealVs S.heap (mapA (fun p=>S.eval p.2) ps.toList)) ho];exact hxs
    rw[flat_elemsV (H:=T.heap) ho hxs,hx2];dsimp only
    rw[k1,k2,k3,ifT_t,ifT_t,ifT_t,ifEq_pos k4];exact new_mk hf h1'
   ·cases h
  ·cases ho
theorem srcT_put{k:Kd}{a:AVal}{ys:List k.T}(ht:H tok=none)(h:srcT H k a=some ys):srcT (fun p=>ifEq p tok (some row) (H p)) k a=some ys:=by
 unfold srcT at h⊢;split at h
 ·exact h
 ·exact h
 ·rename_i k' t off len;split at h
  ·rename_i k2 xs ao hr;have hne:t≠tok:=by rintro rfl;rw[ht] at hr;cases hr
   dsimp only
   rw[ifEq_neg hne,hr];exact h
  ·cases h
 ·cases h
theorem app_spec{o:Oper}(ho:appB o.op=true)(hs:step E o S some=some S'):∃e r v,o.dst=some e∧S.heap (e*16)=none∧
  ((S'=(S.setH (e*16) r).put o.dst v∧∀tok row,S.heap tok=none→tok≠e*16→step E o (S.setH tok row) some=some (((S.setH tok row).setH (e*16) r).put o.dst v))∨
  ∃t q,(S.heap t=some q∧∀cs,q≠ .box cs)∧S'=((S.setH t .dead).setH (e*16) r).put o.dst v∧∀tok row,S.heap tok=none→tok≠e*16→step E o (S.setH tok row) some=some ((((S.setH tok row).setH t .dead).setH (e*16) r).put o.dst v)):=by
 obtain⟨dst,op,type,pos,after,guard⟩:=o;cases op<;>try (cases ho;done)
 rename_i c;obtain⟨callee,args,tys⟩:=c;cases callee with
 |value f=>cases ho
 |invoke r m=>cases ho
 |builtin b=>
  cases b<;>try (cases ho;done)
  simp only[step] at hs⊢;split at hs
  ·rename_i s x t t2 ts hargs htys;split at hs
   ·cases hs
   ·rename_i d hd;obtain⟨k1,hs⟩:=ifT_some hs;split at hs
    ·rename_i ys e1 e2;split at hs
     ·rename_i hlen;obtain⟨e,rfl,⟨h1,h1'⟩,h2⟩:=new_at hs;refine⟨e,_,_,rfl,h1,.inl ⟨h2,fun tok row hn hne=> ?_⟩⟩;have e3:srcT (S.setH tok row).heap d.elt ((S.setH tok row).eval x)=some ys:=by
       rw[show(S.setH tok row).eval x=S.eval x from by cases x<;>rfl];exact srcT_put hn e2
      rw[k1,ifT_t,show(S.setH tok row).eval s=S.eval s from by cases s<;>rfl,e1,e3];dsimp only
      rw[if_pos hlen];exact new_mk (by show ifEq _ _ _ _=none;rw[ifEq_neg (Ne.symm hne)];exact h1) h1'
     ·cases hs
    ·rename_i k0 t0 off len ys e1 e2;split at hs
     ·rename_i k xs ao hr;split at hs
      ·rename_i xs' hc;split at hs
       ·rename_i hlen;obtain⟨e,rfl,⟨h1,h1'⟩,h2⟩:=new_at hs;have hte:t0≠e*16:=by
         intro e';have:ifEq (e*16) t0 (some Row.dead) (S.heap (e*16))=none:=h1;rw[ifEq_pos e'.symm] at this;cases this
        have hfree:S.heap (e*16)=none:=by
         have:ifEq (e*16) t0 (some Row.dead) (S.heap (e*16))=none:=h1;rw[ifEq_neg (Ne.symm hte)] at this;exact this
        refine⟨e,_,_,rfl,hfree,.inr ⟨t0,_,⟨hr,fun _ h=>by cases h⟩,h2,fun tok row hn hne=> ?_⟩⟩;have e3:srcT (S.setH tok row).heap d.elt ((S.setH tok row).eval x)=some ys:=by
         rw[show(S.setH tok row).eval x=S.eval x from by cases x<;>rfl];exact srcT_put hn e2
        have hnt:t0≠tok:=by rintro rfl;rw[hn] at hr;cases hr
        have e4:(S.setH tok row).heap t0=some (.arr k xs ao):=by
         show ifEq t0 tok _ _=_;rw[ifEq_neg hnt];exact hr
        rw[k1,ifT_t,show(S.setH tok row).eval s=S.eval s from by cases s<;>rfl,e1,e3];dsimp only
        rw[e4];dsimp only
        rw[hc];dsimp only
        rw[if_pos hlen];refine new_mk ?_ h1';show ifEq (e*16) t0 _ (ifEq (e*16) tok _ _)=none;rw[ifEq_neg (Ne.symm hte),ifEq_neg (Ne.symm hne)];exact hfree
       ·cases hs
      ·cases hs
     ·cases hs
    ·cases hs
  ·cases hs
theorem app_put{o:Oper}(ho:appB o.op=true){l:List Oper}(hn:S.heap tok=none)(h:opS E l o S=some S')(hn':S'.heap tok=none):opS E l o (S.setH tok row)=some (S'.setH tok row):=by
 unfold opS at h⊢;rw[show gd l o (S.setH tok row)=gd l o S from rfl];obtain⟨t,ht,h⟩:=Option.bind_eq_some_iff.1 h;rw[ht];cases t with
 |false=>
  obtain rfl:=Option.some.inj h;exact congrArg some (setH_put ..).symm
 |true=>
  simp only[Option.bind_some,cond_true] at h⊢;obtain⟨e,r,v,h1,h2,h3⟩:=app_spec ho h
  rcases h3 with⟨rfl,h4⟩|⟨t,q,⟨h5,_⟩,rfl,h4⟩
  ·have hne:tok≠e*16:=by
    rintro rfl;rw[put_heap] at hn';have:ifEq (e*16) (e*16) (some r) (S.heap (e*16))=none:=hn';rw[ifEq_pos rfl] at this;cases this
   rw[h4 tok row hn hne,setH_setH hne,setH_put]
  ·have hne:tok≠e*16:=by
    rintro rfl;rw[put_heap] at hn';have:ifEq (e*16) (e*16) (some r) _=none:=hn';rw[ifEq_pos rfl] at this;cases this
   have hnt:tok≠t:=by rintro rfl;rw[hn] at h5;cases h5
   rw[h4 tok row hn hne,setH_setH hnt,setH_setH hne,setH_put]
theorem app_heap{o:Oper}(ho:appB o.op=true){l:List Oper}(h:opS E l o S=some S'):∀p,S.heap p≠none→S'.heap p=S.heap p∨S'.heap p=some .dead:=by
 intro p hp;unfold opS at h;obtain⟨t,ht,h⟩:=Option.bind_eq_some_iff.1 h;cases t with
 |false=>
  obtain rfl:=Option.some.inj h;exact .inl (by rw[put_heap])
 |true=>
  simp only[cond_true] at h;obtain⟨e,r,v,h1,h2,h3⟩:=app_spec ho h;have hne:p≠e*16:=by rintro rfl;exact hp h2
  rcases h3 with⟨rfl,_⟩|⟨t,q,⟨h5,_⟩,rfl,_⟩
  ·left;rw[put_heap];show ifEq p (e*16) _ _=_;rw[ifEq_neg hne]
  ·rw[put_heap];show ifEq p (e*16) _ (ifEq p t _ _)=_∨ifEq p (e*16) _ (ifEq p t _ _)=_;rw[ifEq_neg hne]
   by_cases hpt:p=t
   ·right;rw[ifEq_pos hpt]
   ·left;rw[ifEq_neg hpt]
theorem app_notdead{o:Oper}(ho:appB o.op=true){l:List Oper}(h:opS E l o S=some S'){p:Nat}{cs:List AVal}(hp:S.heap p=some (.box cs)):S'.heap p≠some .dead:=by
 unfold opS at h;obtain⟨t,ht,h⟩:=Option.bind_eq_some_iff.1 h;cases t with
 |false=>
  obtain rfl:=Option.some.inj h;rw[put_heap,hp];exact fun h=>by cases h
 |true=>
  simp only[cond_true] at h;obtain⟨e,r,v,h1,h2,h3⟩:=app_spec ho h;have hne:p≠e*16:=by
   rintro rfl;rw[hp] at h2;cases h2
  rcases h3 with⟨rfl,_⟩|⟨t,q,⟨h5,h6⟩,rfl,_⟩
  ·rw[put_heap];show ifEq p (e*16) _ _≠_;rw[ifEq_neg hne,hp];exact fun h=>by cases h
  ·have hpt:p≠t:=by
    rintro rfl;rw[hp] at h5;exact h6 _ (Option.some.inj h5).symm
   rw[put_heap];show ifEq p (e*16) _ (ifEq p t _ _)≠_;rw[ifEq_neg hne,ifEq_neg hpt,hp];exact fun h=>by cases h
theorem ldV_ptr{t:TypeId}{p c:Nat}{y:AVal}(h:ldV E t (.ptr p c) H=some y):∃cs,H p=some (.box cs):=by
 unfold ldV at h;split at h
 ·have:=ldClo_tok h;cases this
 ·dsimp only at h;split at h
  ·rename_i cs hr;exact⟨cs,hr⟩
  ·cases h
theorem ldV_dead{t:TypeId}{x:AVal}{y:AVal}(h:ldV E t x H=some y):∀p∈addrTok x,H p≠some .dead:=by
 intro p hp hn;unfold ldV at h;cases hk:kdOf E t with
 |none=>
  rw[hk] at h;rw[ldClo_tok h] at hp;cases hp
 |some k'=>
  rw[hk] at h;dsimp only at h;cases x<;>try (simp[addrTok] at hp;done)
  case ptr q c=>
   simp only[addrTok,List.mem_singleton] at hp;subst hp;dsimp only at h;rw[hn] at h;cases h
  case ep q i c=>
   simp only[addrTok,List.mem_singleton] at hp;subst hp;dsimp only at h;rw[hn] at h;cases h
  case pi q n i=>
   simp only[addrTok,List.mem_singleton] at hp;subst hp;dsimp only at h;rw[hn] at h;cases h
theorem swaps_app_load{x i:Oper}(ha:x.apart ops i=true)(hx:appB x.op=true)(hi:isLoad0 i=true):Swaps' E ops x i:=by
 intro S S1 S2 hr h1 h2;obtain⟨a1,a2,a3⟩:=Oper.apart_spec ha;have hl:i.guard=none∧∃t z,i.op=.load t z:=by
  unfold isLoad0 at hi;split at hi
  ·cases hi
  ·rename_i hg;split at hi
   ·rename_i t z e;exact⟨hg,_,_,e⟩
   ·cases hi
 obtain⟨hg,t,z,ho⟩:=hl;have he:=opS_eff h1;have hs:SameAt ops i S S1:=SameAt.eff he a1;have hev:S1.eval z=S.eval z:=hs.eval z (by rw[ho];simp[Op.operands]);obtain⟨y,rfl,hy⟩:=load_like ho h2;have hdead:∀p∈addrTok (S1.eval z),S1.heap p≠some .dead:=by
  unfold opS gd at h2;rw[hg] at h2;simp only[Option.bind_some,cond_true] at h2;rw[step_load ho] at h2;obtain⟨u,hu,_⟩:=Option.bind_eq_some_iff.1 h2;exact ldV_dead hu
 refine⟨_,hy S (fun p hp=>(hs p hp).symm) fun p hp hn=> ?_, ?_⟩
 ·have hp':=hp;rw[hev] at hp';have hSp:=hr t z ho p hp'
  rcases app_heap hx h1 p hSp with e|e
  ·cases hq:S.heap p with
   |none=>exact absurd hq hSp
   |some r=>exact⟨r,r,by rw[e,hq],rfl,.inl (.inl rfl)⟩
  ·exact absurd e (hdead p hp)
 ·exact opS_put (fun e he' hxe=>a2 e hxe he') a3 h1
theorem swaps_bld{x i:Oper}(ha:x.apart ops i=true)(hx:appB x.op=true∨bldB E x.op=true)(hi:bldB E i.op=true):Swaps' E ops x i:=by
 intro S S1 S2 _ h1 h2;obtain⟨a1,a2,a3⟩:=Oper.apart_spec ha;have he:=opS_eff h1;have hs:SameAt ops i S1 S:=fun p hp=>(SameAt.eff he a1 p hp).symm
 rcases bld_like hi h2 with⟨rfl,hy⟩|⟨d,r,v,hd,hf,rfl,hy⟩
 ·exact⟨_,hy S hs,opS_put (fun e he' hxe=>a2 e hxe he') a3 h1⟩
 ·have hf':S.heap (d*16)=none:=by
   cases hh:S.heap (d*16) with
   |none=>rfl
   |some r=>exact absurd hf (he.2 _ (by rw[hh];simp))
  refine⟨_,hy S hs hf', ?_⟩;refine opS_put (fun e he' hxe=>a2 e hxe he') a3 ?_
  rcases hx with hx|hx
  ·exact app_put hx hf' h1 hf
  ·rcases bld_like hx h1 with⟨rfl,hz⟩|⟨d2,r2,v2,hd2,hf2,rfl,hz⟩
   ·rw[hz (S.setH (d*16) r) (fun p hp=>rfl)];exact congrArg some (setH_put ..).symm
   ·have hne:d*16≠d2*16:=by
     intro e';rw[put_heap] at hf;have:ifEq (d*16) (d2*16) (some r2) _=none:=hf;rw[ifEq_pos e'] at this;cases this
    rw[hz (S.setH (d*16) r) (fun p hp=>rfl) (by show ifEq (d2*16) (d*16) _ _=none;rw[ifEq_neg (Ne.symm hne)];exact hf2),setH_setH hne,setH_put]
theorem commE_spec{x i:Oper}(h:commE E ops x i=true):Swaps' E ops x i∧∀e,x.dst=some e→e∉i.looksAt ops:=by
 obtain⟨ha,h⟩:=Bool.and_eq_true_iff.1 h;refine⟨?_,(Oper.apart_spec ha).1⟩
 rcases Bool.or_eq_true_iff.1 h with h|h
 ·obtain⟨h1,h2⟩:=Bool.and_eq_true_iff.1 h;exact swaps_app_load ha h1 h2
 ·obtain⟨h1,h2⟩:=Bool.and_eq_true_iff.1 h;exact swaps_bld ha (Bool.or_eq_true_iff.1 h1) h2
end
end Go.Proofs.YthkflageghfbgaaGreatDoor.Am
/- A region that draws its order does what its text's order does. -/
namespace Go.Proofs.YthkflageghfbgaaGreatDoor.Am
open Go Go.RowKit
def isLoad:Op→Bool
 |.load ..=>true
 |_=>false
def commB(ops:Array Oper)(x i:Oper):Bool:=x.apart ops i&&(vopB x.op||vopB i.op||(isLoad x.op&&extB i.op)||(isLoad i.op&&extB x.op)||(newB x.op&&(newB i.op||callB i.op))||(newB i.op&&(newB x.op||callB x.op)))
def reachB(ops:Array Oper):Nat→Nat→Nat→Bool
 |0,_,_=>false
 |f+1,j,x=>match ops[j]? with
  |none=>false
  |some o=>o.after.toList.any fun e=>Region.binds .any e&&(Nat.beq e.on x||reachB ops f e.on x)
def pairB(ops:Array Oper)(x i:Nat):Bool:=reachB ops ops.size i x||match ops[x]?,ops[i]? with
 |some ox,some oi=>commB ops ox oi
 |_,_=>false
def drawB(ops:Array Oper):Bool:=
 (List.range ops.size).all fun i=>((List.range i).all fun x=>pairB ops x i)&&match ops[i]? with
  |none=>true
  |some o=>o.after.toList.all fun e=> !Region.binds .any e||Nat.blt e.on i
section
variable {R : Type} {E : Env} {S S' : St} {ops : Array Oper} {P : Pg} {Wr0 : Base} {w0 : World} {I : Info} {a : Act} {w : World} {Q : Exit → Act → World → Prop}
theorem commB_spec{x i:Oper}(h:commB ops x i=true):Swaps' E ops x i∧∀e,x.dst=some e→e∉i.looksAt ops:=by
 unfold commB at h;rw[Bool.and_eq_true] at h;obtain⟨ha,h⟩:=h;refine⟨?_,(Oper.apart_spec ha).1⟩;simp only[Bool.or_eq_true,Bool.and_eq_true] at h;have ld:∀{op:Op},isLoad op=true→∃t z,op=.load t z:=by
  intro op ho;cases op<;>first|exact⟨_,_,rfl⟩|cases ho
 rcases h with((((h|h)|h)|h)|h)|h
 ·exact fun S S1 S2 _=>swaps_V ha (.inl h) S S1 S2
 ·exact fun S S1 S2 _=>swaps_V ha (.inr h) S S1 S2
 ·obtain⟨t,z,e⟩:=ld h.1;exact swaps_load_left ha e h.2
 ·obtain⟨t,z,e⟩:=ld h.1;exact swaps_load_right ha e h.2
 ·exact fun S S1 S2 _=>swaps_new_left ha h.1 h.2 S S1 S2
 ·exact fun S S1 S2 _=>swaps_new_right ha h.1 h.2 S S1 S2
def runIdx(E:Env)(ops:Array Oper):List Nat→St→(St→Option R)→Option R
 |[],S,K=>K S
 |i::l,S,K=>match ops[i]? with
  |none=>none
  |some o=>(opS E ops.toList o S).bind fun S'=>runIdx E ops l S' K
theorem bubble{i:Nat}{o:Oper}(hi:ops[i]?=some o){post:List Nat}{K:St→Option R}{r:R}:∀{pre:List Nat} {S:St},Ready o S→(∀x∈pre,∀ox,ops[x]?=some ox→Swaps' E ops ox o∧∀e,ox.dst=some e→e∉o.looksAt ops)→
  runIdx E ops (pre++i::post) S K=some r→∃S1,opS E ops.toList o S=some S1∧runIdx E ops (pre++post) S1 K=some r
 |[],S,_,_,h=>by
  simp only[List.nil_append,runIdx,hi] at h;exact Option.bind_eq_some_iff.1 h
 |x::pre,S,hr,hc,h=>by
  simp only[List.cons_append,runIdx] at h;split at h
  ·cases h
  ·rename_i ox hox;obtain⟨S',h1,h2⟩:=Option.bind_eq_some_iff.1 h;obtain⟨c1,c2⟩:=hc x List.mem_cons_self ox hox;obtain⟨S1,h3,h4⟩:=bubble hi (hr.eff (opS_eff h1) c2) (fun y hy=>hc y (List.mem_cons_of_mem _ hy)) h2;obtain⟨T,h5,h6⟩:=c1 S S' S1 hr h1 h3;refine⟨T,h5, ?_⟩;simp only[List.cons_append,runIdx,hox];exact Option.bind_eq_some_iff.2 ⟨S1,h6,h4⟩
theorem reachB_spec{listed:Array Bool}(hcl:∀(j:Nat) o,ops[j]?=some o→listed.getD j false=true→∀e∈o.after,Region.binds .any e=true→listed.getD e.on false=true):
  ∀{f j x:Nat},(∀o,ops[j]?=some o→∀e∈o.after,Region.binds .any e=true→listed.getD e.on false=true)→reachB ops f j x=true→listed.getD x false=true
 |0,_,_,_,h=>by cases h
 |f+1,j,x,hj,h=>by
  unfold reachB at h;split at h
  ·cases h
  ·rename_i o ho;obtain⟨e,he,h⟩:=List.any_eq_true.1 h;rw[Bool.and_eq_true,Bool.or_eq_true] at h;have h1:=hj o ho e (by simpa using he) h.1
   rcases h.2 with h2|h2
   ·rw[←Nat.eq_of_beq_eq_true h2];exact h1
   ·exact reachB_spec hcl (fun o' ho'=>hcl _ o' ho' h1) h2
theorem getD_tf{listed:Array Bool}{j:Nat}(hj:j<listed.size):listed.getD j true=listed.getD j false:=by
 simp[Array.getD,hj]
theorem wpAny_ok(hE:TysOk P E)(hF:FnsOk P E)(hB:drawB ops=true){K:St→Option R}{r:R}(hQ:∀S' I' a' w',K S'=some r→Sim P Wr0 w0 S' I' a' w'→Q .normal a' w'):
  ∀(fuel:Nat) (rem:List Nat) (listed:Array Bool) {S:St} {I:Info} {a:Act} {w:World},rem.length=fuel→listed.size=ops.size→rem.Pairwise (·<·)→(∀j,j<ops.size→(j∈rem↔listed.getD j true=false))→(∀j∈rem,j<ops.size)→
  (∀(j:Nat) o,ops[j]?=some o→listed.getD j false=true→∀e∈o.after,Region.binds .any e=true→listed.getD e.on false=true)→
  runIdx E ops rem S K=some r→Sim P Wr0 w0 S I a w→wpAny P .any ops Q fuel listed a w:=by
 have hB':∀i,i<ops.size→(∀x,x<i→pairB ops x i=true)∧∀o,ops[i]?=some o→∀e∈o.after,Region.binds .any e=true→e.on<i:=by
  intro i hi;have:=List.all_eq_true.1 hB i (List.mem_range.2 hi);rw[Bool.and_eq_true] at this;refine⟨fun x hx=>List.all_eq_true.1 this.1 x (List.mem_range.2 hx),fun o ho e he hb=> ?_⟩;have h2:=this.2;rw[ho] at h2;have h3:=List.all_eq_true.1 h2 e (by simpa using he);rw[hb] at h3;simpa using h3
 intro fuel
 induction fuel with
 |zero=>
  intro rem listed S I a w hlen hsz hs hm hlt hcl h hS;have:rem=[]:=List.length_eq_zero_iff.1 hlen;subst this;refine⟨?_,hQ _ _ _ _ h hS⟩;cases hr:Region.ready .any ops listed with
  |nil=>rfl
  |cons x l=>
   have hx:x∈Region.ready .any ops listed:=by rw[hr];exact List.mem_cons_self
   obtain⟨h0,o,ho,_⟩:=mem_ready.1 hx;have hxl:x<ops.size:=(Array.getElem?_eq_some_iff.1 ho).1;exact absurd ((hm x hxl).2 h0) (by simp)
 |succ fuel ih=>
  intro rem listed S I a w hlen hsz hs hm hlt hcl h hS;refine⟨fun hr=> ?_,fun i hi=> ?_⟩
  ·exfalso
   match rem,hlen,hs,hm,hlt,h with
   |i::rem,_,hs,hm,hlt,h=>
    have hi:=hlt i List.mem_cons_self;have:i∈Region.ready .any ops listed:=by
     refine mem_ready.2 ⟨(hm i hi).1 List.mem_cons_self,_,Array.getElem?_eq_getElem hi,fun e he hb=> ?_⟩;have hlt2:=(hB' i hi).2 _ (Array.getElem?_eq_getElem hi) e he hb;have hnot:e.on∉i::rem:=by
      intro hmem
      rcases List.mem_cons.1 hmem with e1|e1
      ·omega
      ·have:=(List.pairwise_cons.1 hs).1 _ e1;omega
     have hb2:¬listed.getD e.on true=false:=fun hh=>hnot ((hm e.on (by omega)).2 hh);rw[getD_tf (by omega)] at hb2;simpa using hb2
    rw[hr] at this;cases this
  ·obtain⟨h0,o,ho,hdep⟩:=mem_ready.1 hi;have hil:i<ops.size:=(Array.getElem?_eq_some_iff.1 ho).1;have hmem:=(hm i hil).2 h0;obtain⟨pre,post,rfl⟩:=List.append_of_mem hmem;have hpre:∀x∈pre,x<i:=by
    intro x hx;have:=List.pairwise_append.1 hs;exact this.2.2 x hx i List.mem_cons_self
   have hpost:∀x∈post,i<x:=by
    have:=(List.pairwise_append.1 hs).2.1;exact(List.pairwise_cons.1 this).1
   have hcomm:∀x∈pre,∀ox,ops[x]?=some ox→Swaps' E ops ox o∧∀e,ox.dst=some e→e∉o.looksAt ops:=by
    intro x hx ox hox;have hxl:x<ops.size:=(Array.getElem?_eq_some_iff.1 hox).1;have hp:=(hB' i hil).1 x (hpre x hx);unfold pairB at hp;rw[Bool.or_eq_true] at hp
    rcases hp with hp|hp
    ·exfalso;have h1:=reachB_spec hcl (fun o' ho'=>by rw[ho] at ho';obtain rfl:=Option.some.inj ho';exact hdep) hp;have h2:=(hm x hxl).1 (List.mem_append_left _ hx);rw[getD_tf (by omega),h1] at h2;cases h2
    ·rw[hox,ho] at hp;exact commB_spec hp
   obtain⟨S1,h1,h2⟩:=bubble ho (hS.ready o) hcomm h;have hg:guarded ops.toList o S (fun S=>step E o S fun S'=>runIdx E ops (pre++post) S' K) (fun S=>runIdx E ops (pre++post) (S.put o.dst (.tup [])) K)=some r:=by
    have e1:(opS E ops.toList o S).bind (fun S'=>runIdx E ops (pre++post) S' K)=some r:=Option.bind_eq_some_iff.2 ⟨S1,h1,h2⟩;rw[guarded_gd];unfold opS at e1;rw[Option.bind_assoc] at e1;rw[←e1];congr 1;funext t;cases t with
    |true=>
     simp only[cond_true];rw[step_nat];simp only[Option.bind_some]
    |false=>rfl
   have next:∀{S2:St} {I':Info} {a':Act} {w':World},runIdx E ops (pre++post) S2 K=some r→Sim P Wr0 w0 S2 I' a' w'→wpAny P .any ops Q fuel (listed.setIfInBounds i true) a' w':=by
    intro S2 I' a' w' h3 hS2;refine ih (pre++post) _ ?_ (by simp[hsz]) ?_ ?_ ?_ ?_ h3 hS2
    ·simp only[List.length_append,List.length_cons] at hlen⊢;omega
    ·have:=List.pairwise_append.1 hs;exact List.pairwise_append.2 ⟨this.1,(List.pairwise_cons.1 this.2.1).2,fun x hx y hy=>this.2.2 x hx y (List.mem_cons_of_mem _ hy)⟩
    ·intro j hj
     by_cases e:j=i
     ·subst e;constructor
      ·intro hmm;exfalso
       rcases List.mem_append.1 hmm with hmm|hmm
       ·have:=hpre j hmm;omega
       ·have:=hpost j hmm;omega
      ·intro hh;have:j<listed.size:=by omega
       simp[this] at hh
     ·rw[getD_set_ne true (Ne.symm e),←hm j hj];simp only[List.mem_append,List.mem_cons];constructor
      ·rintro(hh|hh)
       ·exact .inl hh
       ·exact .inr (.inr hh)
      ·rintro(hh|hh|hh)
       ·exact .inl hh
       ·exact absurd hh e
       ·exact .inr hh
    ·intro j hj;refine hlt j ?_;simp only[List.mem_append,List.mem_cons] at hj⊢;exact hj.imp id .inr
    ·intro j oj hoj hl e he hb
     by_cases ej:j=i
     ·subst ej;rw[ho] at hoj;obtain rfl:=Option.some.inj hoj;exact getD_set_true (hdep e he hb)
     ·rw[getD_set_ne false (Ne.symm ej)] at hl;exact getD_set_true (hcl j oj hoj hl e he hb)
   unfold wpOp;simp only[ho]
   rcases guarded_ok hS hg with⟨hw,S3,e3,h3⟩|⟨hw,S3,e3,h3⟩<;>subst e3
   ·rw[if_pos hw];refine .inl ?_;obtain⟨S2,h4,h5⟩:=step_ok hE hF h3 I a w hS;exact h5 _ _ fun I' a' w' hS'=>next h4 hS'
   ·rw[if_neg (by rw[hw];simp)];exact next h3 (hS.undef o.dst)
theorem runIdx_range{K:St→Option R}{r:R}:∀(os:List Oper) (k:Nat) (S:St),(∀j,os[j]?=ops[k+j]?)→(∀o∈os,plainB E o.dst o.op=true)→runOps E ops.toList os S K=some r→runIdx E ops (List.range' k os.length) S K=some r
 |[],_,_,_,_,h=>h
 |o::os,k,S,hk,hms,h=>by
  have h0:ops[k]?=some o:=by simpa using(hk 0).symm
  rw[runOps_opS (hms o List.mem_cons_self)] at h;obtain⟨S',h1,h2⟩:=Option.bind_eq_some_iff.1 h;simp only[List.length_cons,List.range'_succ,runIdx,h0];exact Option.bind_eq_some_iff.2 ⟨S',h1,runIdx_range os (k+1) S' (fun j=>by have:=hk (j+1);simpa[Nat.add_assoc,Nat.add_comm 1 j] using this) (fun x hx=>hms x (List.mem_cons_of_mem _ hx)) h2⟩
/-- A REGION THAT DRAWS ITS ORDER, CHECKED -/
theorem drawOk_of(hE:TysOk P E)(hF:FnsOk P E)(hm:P.p.follows .mixedOrders=true){id:Nat}(hB:drawB ops=true)(hms:∀o∈ops.toList,plainB E o.dst o.op=true):DrawOk0 P E id ops:=by
 intro R K r Wr0 w0 S h I a w hS Q hQ;refine wp_region_any hm ?_;have h1:=runIdx_range ops.toList 0 S (by simp) hms h;rw[Array.length_toList,←List.range_eq_range'] at h1;refine wpAny_ok hE hF hB hQ ops.size (List.range ops.size) _ (by simp) (by simp) List.pairwise_lt_range ?_ ?_ ?_ h1 (hS.grow (BelowD.refl _ _).drew)
 ·intro j hj;simp[hj]
 ·intro j hj;exact List.mem_range.1 hj
 ·intro j o ho hl;have:j<ops.size:=(Array.getElem?_eq_some_iff.1 ho).1;simp[this] at hl
/-- the same, where the last operation hangs on all the others -/
theorem wpAny_last(hE:TysOk P E)(hF:FnsOk P E)(hB:drawB ops=true){n:Nat}{ol:Oper}(hol:ops[n]?=some ol)(hall:∀x,x<n→reachB ops ops.size n x=true){K:St→Option R}{r:R}(hQ:∀S' I' a' w',K S'=some r→Sim P Wr0 w0 S' I' a' w'→Q .normal a' w'):
  ∀(fuel:Nat) (rem:List Nat) (listed:Array Bool) {S:St} {I:Info} {a:Act} {w:World},(rem++[n]).length=fuel→listed.size=ops.size→(rem++[n]).Pairwise (·<·)→(∀j,j<ops.size→(j∈rem++[n]↔listed.getD j true=false))→(∀j∈rem++[n],j<ops.size)→
  (∀(j:Nat) o,ops[j]?=some o→listed.getD j false=true→∀e∈o.after,Region.binds .any e=true→listed.getD e.on false=true)→
  runIdx E ops rem S (fun S'=>guarded ops.toList ol S' (fun S=>stepM E ol S K) (fun S=>K (S.put ol.dst (.tup []))))=some r→Sim P Wr0 w0 S I a w→wpAny P .any ops Q fuel listed a w:=by
 have hB':∀i,i<ops.size→(∀x,x<i→pairB ops x i=true)∧∀o,ops[i]?=some o→∀e∈o.after,Region.binds .any e=true→e.on<i:=by
  intro i hi;have:=List.all_eq_true.1 hB i (List.mem_range.2 hi);rw[Bool.and_eq_true] at this;refine⟨fun x hx=>List.all_eq_true.1 this.1 x (List.mem_range.2 hx),fun o ho e he hb=> ?_⟩;have h2:=this.2;rw[ho] at h2;have h3:=List.all_eq_true.1 h2 e (by simpa using he);rw[hb] at h3;simpa using h3
 intro fuel
 induction fuel with
 |zero=>
  intro rem listed S I a w hlen hsz hs hm hlt hcl h hS;simp at hlen
 |succ fuel ih=>
  intro rem listed S I a w hlen hsz hs hm hlt hcl h hS;refine⟨fun hr=> ?_,fun i hi=> ?_⟩
  ·exfalso;clear h
   match rem++[n],hlen,hs,hm,hlt with
   |i::rem,_,hs,hm,hlt=>
    have hi:=hlt i List.mem_cons_self;have:i∈Region.ready .any ops listed:=by
     refine mem_ready.2 ⟨(hm i hi).1 List.mem_cons_self,_,Array.getElem?_eq_getElem hi,fun e he hb=> ?_⟩;have hlt2:=(hB' i hi).2 _ (Array.getElem?_eq_getElem hi) e he hb;have hnot:e.on∉i::rem:=by
      intro hmem
      rcases List.mem_cons.1 hmem with e1|e1
      ·omega
      ·have:=(List.pairwise_cons.1 hs).1 _ e1;omega
     have hb2:¬listed.getD e.on true=false:=fun hh=>hnot ((hm e.on (by omega)).2 hh);rw[getD_tf (by omega)] at hb2;simpa using hb2
    rw[hr] at this;cases this
  ·obtain⟨h0,o,ho,hdep⟩:=mem_ready.1 hi;have hil:i<ops.size:=(Array.getElem?_eq_some_iff.1 ho).1;have hmem0:=(hm i hil).2 h0
   by_cases hin:i=n
   ·subst hin;rw[hol] at ho;obtain rfl:=Option.some.inj ho;have hrem:rem=[]:=by
     cases rem with
     |nil=>rfl
     |cons x l=>
      exfalso;have hx:x<i:=(List.pairwise_cons.1 hs).1 i (by simp);have h1:=reachB_spec hcl (fun o' ho'=>by rw[hol] at ho';obtain rfl:=Option.some.inj ho';exact hdep) (hall x hx);have h2:=(hm x (by omega)).1 (by simp);rw[getD_tf (by omega),h1] at h2;cases h2
    subst hrem;have hf0:fuel=0:=by simpa using hlen.symm
    subst hf0;have h:guarded ops.toList ol S (fun S=>stepM E ol S K) (fun S=>K (S.put ol.dst (.tup [])))=some r:=h;have done:∀{S2:St} {I':Info} {a':Act} {w':World},K S2=some r→Sim P Wr0 w0 S2 I' a' w'→wpAny P .any ops Q 0 (listed.setIfInBounds i true) a' w':=by
     intro S2 I' a' w' h3 hS2;refine⟨?_,hQ _ _ _ _ h3 hS2⟩;cases hr:Region.ready .any ops (listed.setIfInBounds i true) with
     |nil=>rfl
     |cons x l=>
      exfalso;have hx:x∈Region.ready .any ops (listed.setIfInBounds i true):=by rw[hr];exact List.mem_cons_self
      obtain⟨h5,o,ho,_⟩:=mem_ready.1 hx;have hxl:x<ops.size:=(Array.getElem?_eq_some_iff.1 ho).1
      by_cases e:x=i
      ·subst e;have:x<listed.size:=by omega
       simp[this] at h5
      ·rw[getD_set_ne true (Ne.symm e)] at h5;have:=(hm x hxl).2 h5;simp at this;exact e this
    unfold wpOp;simp only[hol]
    rcases guarded_ok hS h with⟨hw,S3,e3,h3⟩|⟨hw,S3,e3,h3⟩<;>subst e3
    ·rw[if_pos hw];refine .inl ?_;obtain⟨S2,h4,h5⟩:=stepM_ok hE hF h3 I a w hS;exact h5 _ _ fun I' a' w' hS'=>done h4 hS'
    ·rw[if_neg (by rw[hw];simp)];exact done h3 (hS.undef ol.dst)
   have hmem:i∈rem:=by
    rcases List.mem_append.1 hmem0 with h5|h5
    ·exact h5
    ·exact absurd (List.mem_singleton.1 h5) hin
   obtain⟨pre,post,rfl⟩:=List.append_of_mem hmem;have hpre:∀x∈pre,x<i:=by
    intro x hx;have:=List.pairwise_append.1 (List.pairwise_append.1 hs).1;exact this.2.2 x hx i List.mem_cons_self
   have hpost:∀x∈post,i<x:=by
    have:=(List.pairwise_append.1 (List.pairwise_append.1 hs).1).2.1;exact(List.pairwise_cons.1 this).1
   have hcomm:∀x∈pre,∀ox,ops[x]?=some ox→Swaps' E ops ox o∧∀e,ox.dst=some e→e∉o.looksAt ops:=by
    intro x hx ox hox;have hxl:x<ops.size:=(Array.getElem?_eq_some_iff.1 hox).1;have hp:=(hB' i hil).1 x (hpre x hx);unfold pairB at hp;rw[Bool.or_eq_true] at hp
    rcases hp with hp|hp
    ·exfalso;have h1:=reachB_spec hcl (fun o' ho'=>by rw[ho] at ho';obtain rfl:=Option.some.inj ho';exact hdep) hp;have h2:=(hm x hxl).1 (List.mem_append_left _ (List.mem_append_left _ hx));rw[getD_tf (by omega),h1] at h2;cases h2
    ·rw[hox,ho] at hp;exact commB_spec hp
   let KL:St→Option R:=fun S'=>guarded ops.toList ol S' (fun S=>stepM E ol S K) (fun S=>K (S.put ol.dst (.tup [])))
   obtain⟨S1,h1,h2⟩:=bubble ho (hS.ready o) hcomm h;have hg:guarded ops.toList o S (fun S=>step E o S fun S'=>runIdx E ops (pre++post) S' KL) (fun S=>runIdx E ops (pre++post) (S.put o.dst (.tup [])) KL)=some r:=by
    have e1:(opS E ops.toList o S).bind (fun S'=>runIdx E ops (pre++post) S' KL)=some r:=Option.bind_eq_some_iff.2 ⟨S1,h1,h2⟩;rw[guarded_gd];unfold opS at e1;rw[Option.bind_assoc] at e1;rw[←e1];congr 1;funext t;cases t with
    |true=>
     simp only[cond_true];rw[step_nat];simp only[Option.bind_some]
    |false=>rfl
   have next:∀{S2:St} {I':Info} {a':Act} {w':World},runIdx E ops (pre++post) S2 KL=some r→Sim P Wr0 w0 S2 I' a' w'→wpAny P .any ops Q fuel (listed.setIfInBounds i true) a' w':=by
    intro S2 I' a' w' h3 hS2;refine ih (pre++post) _ ?_ (by simp[hsz]) ?_ ?_ ?_ ?_ h3 hS2
    ·simp only[List.length_append,List.length_cons] at hlen⊢;omega
    ·have h9:=List.pairwise_append.1 hs;have:=List.pairwise_append.1 h9.1;exact List.pairwise_append.2 ⟨List.pairwise_append.2 ⟨this.1,(List.pairwise_cons.1 this.2.1).2,fun x hx y hy=>this.2.2 x hx y (List.mem_cons_of_mem _ hy)⟩,h9.2.1,fun x hx y hy=>h9.2.2 x (by
      rcases List.mem_append.1 hx with hx|hx
      ·exact List.mem_append_left _ hx
      ·exact List.mem_append_right _ (List.mem_cons_of_mem _ hx)) y hy⟩
    ·intro j hj
     by_cases e:j=i
     ·subst e;constructor
      ·intro hmm;exfalso
       rcases List.mem_append.1 hmm with hmm|hmm
       ·rcases List.mem_append.1 hmm with hmm|hmm
        ·have:=hpre j hmm;omega
        ·have:=hpost j hmm;omega
       ·exact hin (List.mem_singleton.1 hmm)
      ·intro hh;have:j<listed.size:=by omega
       simp[this] at hh
     ·rw[getD_set_ne true (Ne.symm e),←hm j hj];simp only[List.mem_append,List.mem_cons];constructor
      ·rintro((hh|hh)|hh)
       ·exact .inl (.inl hh)
       ·exact .inl (.inr (.inr hh))
       ·exact .inr hh
      ·rintro((hh|hh|hh)|hh)
       ·exact .inl (.inl hh)
       ·exact absurd hh e
       ·exact .inl (.inr hh)
       ·exact .inr hh
    ·intro j hj;refine hlt j ?_;simp only[List.mem_append,List.mem_cons] at hj⊢
     rcases hj with(hj|hj)|hj
     ·exact .inl (.inl hj)
     ·exact .inl (.inr (.inr hj))
     ·exact .inr hj
    ·intro j oj hoj hl e he hb
     by_cases ej:j=i
     ·subst ej;rw[ho] at hoj;obtain rfl:=Option.some.inj hoj;exact getD_set_true (hdep e he hb)
     ·rw[getD_set_ne false (Ne.symm ej)] at hl;exact getD_set_true (hcl j oj hoj hl e he hb)
   unfold wpOp;simp only[ho]
   rcases guarded_ok hS hg with⟨hw,S3,e3,h3⟩|⟨hw,S3,e3,h3⟩<;>subst e3
   ·rw[if_pos hw];refine .inl ?_;obtain⟨S2,h4,h5⟩:=step_ok hE hF h3 I a w hS;exact h5 _ _ fun I' a' w' hS'=>next h4 hS'
   ·rw[if_neg (by rw[hw];simp)];exact next h3 (hS.undef o.dst)
theorem runIdx_init{ol:Oper}{K:St→Option R}{r:R}:∀(os:List Oper) (k:Nat) (S:St),(∀j,j<os.length→os[j]?=ops[k+j]?)→(∀o∈os,plainB E o.dst o.op=true)→runOps E ops.toList (os++[ol]) S K=some r→
  runIdx E ops (List.range' k os.length) S (fun S'=>guarded ops.toList ol S' (fun S=>stepM E ol S K) (fun S=>K (S.put ol.dst (.tup []))))=some r
 |[],_,_,_,_,h=>h
 |o::os,k,S,hk,hms,h=>by
  have h0:ops[k]?=some o:=by simpa using(hk 0 (by simp)).symm
  rw[List.cons_append,runOps_opS (hms o List.mem_cons_self)] at h;obtain⟨S',h1,h2⟩:=Option.bind_eq_some_iff.1 h;simp only[List.length_cons,List.range'_succ,runIdx,h0];exact Option.bind_eq_some_iff.2 ⟨S',h1,runIdx_init os (k+1) S' (fun j hj=>by have:=hk (j+1) (by simp;omega);simpa[Nat.add_assoc,Nat.add_comm 1 j] using this) (fun x hx=>hms x (List.mem_cons_of_mem _ hx)) h2⟩
def lastB(ops:Array Oper):Bool:=(List.range (ops.size-1)).all fun x=>reachB ops ops.size (ops.size-1) x
/-- a region that draws its order, whose last operation hangs on all the others -/
theorem drawOk_last(hE:TysOk P E)(hF:FnsOk P E)(hm:P.p.follows .mixedOrders=true){id:Nat}(hB:drawB ops=true)(hL:lastB ops=true){os:List Oper}{ol:Oper}(ho:ops.toList=os++[ol])(hms:∀o∈os,plainB E o.dst o.op=true):DrawOk0 P E id ops:=by
 intro R K r Wr0 w0 S h I a w hS Q hQ;refine wp_region_any hm ?_;have hsz:ops.size=os.length+1:=by rw[←Array.length_toList,ho];simp
 have hget:∀j,ops[j]?=(os++[ol])[j]?:=fun j=>by rw[←ho,Array.getElem?_toList]
 rw[show ops.toList=os++[ol] from ho] at h;have h1:=runIdx_init (ops:=ops) os 0 S (fun j hj=>by rw[Nat.zero_add,hget,List.getElem?_append_left hj]) hms (by rw[ho];exact h);rw[←List.range_eq_range'] at h1;have e0:List.range os.length++[os.length]=List.range ops.size:=by rw[hsz,List.range_succ]
 refine wpAny_last hE hF hB (n:=os.length) (ol:=ol) (by rw[hget];simp) ?_ hQ ops.size (List.range os.length) _ (by rw[e0];simp) (by simp) (by rw[e0];exact List.pairwise_lt_range) ?_ ?_ ?_ h1 (hS.grow (BelowD.refl _ _).drew)
 ·intro x hx;unfold lastB at hL;have:=List.all_eq_true.1 hL x (List.mem_range.2 (by omega));rw[show ops.size-1=os.length by omega] at this;exact this
 ·rw[e0];intro j hj;simp[hj]
 ·rw[e0];intro j hj;exact List.mem_range.1 hj
 ·intro j o ho hl;have:j<ops.size:=(Array.getElem?_eq_some_iff.1 ho).1;simp[this] at hl
end
end Go.Proofs.YthkflageghfbgaaGreatDoor.Am
/- A region that draws its order in which a call writes into what is handed in. -/
namespace Go.Proofs.YthkflageghfbgaaGreatDoor.Am
open Go Go.RowKit
def smallM(n:Nat):List Ar→Bool
 |[]=>true
 |.v _::ps=>smallM n ps
 |.io _::_=>false
 |.bx k::ps=>ifT (Nat.blt k.size n) (smallM n ps) false
def msB(n:Nat)(E:Env)(o:Oper):Bool:=
 match ilOf E o.dst with
 |some _=>false
 |none=>match msOf E o.op with
  |some f=>smallM n f.ps
  |none=>false
def bigLoad(E:Env)(n:Nat)(o:Oper):Bool:=
 match o.guard with
 |some _=>false
 |none=>match o.op with
  |.load t _=>match kdOf E t with
   |some (.pair a b)=>Nat.ble n (Kd.pair a b).size
   |_=>false
  |_=>false
/-- a function value is made -/
def mkB(E:Env)(o:Oper):Bool:=
 match ilOf E o.dst with
 |some _=>false
 |none=>match msOf E o.op with
  |some _=>false
  |none=>match bsOf E o.op with
   |some _=>false
   |none=>match cloOf E o.op with
    |some _=>false
    |none=>match mkOf o.op with
     |some _=>true
     |none=>false
/-- a function is called that is handed a function value -/
def cloB(E:Env)(o:Oper):Bool:=
 match ilOf E o.dst with
 |some _=>false
 |none=>match msOf E o.op with
  |some _=>false
  |none=>match bsOf E o.op with
   |some _=>false
   |none=>match cloOf E o.op with
    |some _=>true
    |none=>false
def okX(E:Env)(n:Nat)(o:Oper):Bool:=ifT (plainB E o.dst o.op) true (ifT (mkB E o) true (ifT (cloB E o) true (msB n E o)))
def commX(E:Env)(n:Nat)(ops:Array Oper)(x i:Oper):Bool:=
 ifT (plainB E x.dst x.op) (ifT (plainB E i.dst i.op) (commB ops x i||commE E ops x i) (ifT (msB n E i) (x.apart ops i&&(vopB x.op||bigLoad E n x)) false)) (ifT (msB n E x) (ifT (plainB E i.dst i.op) (x.apart ops i&&vopB i.op) false) false)||(plainB E x.dst x.op&&(x.apart ops i&&((vopB x.op||isLoad x.op)&&(mkB E i||cloB E i))))
def pairX(E:Env)(n:Nat)(ops:Array Oper)(x i:Nat):Bool:=reachB ops ops.size i x||match ops[x]?,ops[i]? with
 |some ox,some oi=>commX E n ops ox oi
 |_,_=>false
def drawX(E:Env)(n:Nat)(ops:Array Oper):Bool:=
 (List.range ops.size).all fun i=>((List.range i).all fun x=>pairX E n ops x i)&&match ops[i]? with
  |none=>true
  |some o=>okX E n o&&o.after.toList.all fun e=> !Region.binds .any e||Nat.blt e.on i
section
variable {R α : Type} {E : Env} {S S' : St} {ops : Array Oper} {P : Pg} {Wr0 : Base} {w0 : World} {I : Info} {a : Act} {w : World} {Q : Exit → Act → World → Prop} {n : Nat} {H : Nat → Option Row}
theorem toTs_size{st:Bool}:∀{k:Kd} {cs:List AVal} {x:k.T} {rest:List AVal},toTs st H k cs=some (x,rest)→cs.length=k.size+rest.length
 |.unit,cs,x,rest,h=>by
  unfold toTs at h;obtain⟨_,rfl⟩:=Prod.mk.inj (Option.some.inj h);simp[Kd.size]
 |.pair a b,cs,x,rest,h=>by
  unfold toTs at h;split at h
  ·rename_i r hr;split at h
   ·rename_i q hq;have h1:=toTs_size (x:=r.1) (rest:=r.2) hr;have h2:=toTs_size (x:=q.1) (rest:=q.2) hq;obtain⟨_,e⟩:=Prod.mk.inj (Option.some.inj h);rw[h1,h2,e];simp only[Kd.size];omega
   ·cases h
  ·cases h
 |.int _,cs,x,rest,h=>toTs_size1 (by intro c cs;unfold toTs;rfl) (by unfold toTs;rfl) h
 |.bool,cs,x,rest,h=>toTs_size1 (by intro c cs;unfold toTs;rfl) (by unfold toTs;rfl) h
 |.str,cs,x,rest,h=>toTs_size1 (by intro c cs;unfold toTs;rfl) (by unfold toTs;rfl) h
 |.err,cs,x,rest,h=>toTs_size1 (by intro c cs;unfold toTs;rfl) (by unfold toTs;rfl) h
 |.pt,cs,x,rest,h=>toTs_size1 (by intro c cs;unfold toTs;rfl) (by unfold toTs;rfl) h
 |.sl _,cs,x,rest,h=>toTs_size1 (by intro c cs;unfold toTs;rfl) (by unfold toTs;rfl) h
where
 toTs_size1 {st:Bool} {k:Kd} {cs:List AVal} {x:k.T} {rest:List AVal} (h1:∀c cs,toTs st H k (c::cs)=match leafT st H k c with|some x=>some (x,cs)|none=>none) (h0:toTs st H k []=none) (h:toTs st H k cs=some (x,rest)):cs.length=1+rest.length:=by
  cases cs with
  |nil=>rw[h0] at h;cases h
  |cons c cs=>
   rw[h1] at h;split at h
   ·obtain⟨_,rfl⟩:=Prod.mk.inj (Option.some.inj h);simp only[List.length_cons];omega
   ·cases h
theorem gatherM_nat:∀{ps:List Ar},smallM n ps=true→∀(vs:List AVal) (ts:List Nat) (F:ArsT ps→List Nat→Option α) (K:α→Option R),(gatherM H ps vs ts F).bind K=gatherM H ps vs ts fun x ts=>(F x ts).bind K
 |[],_,[],_,_,_=>rfl
 |[],_,_::_,_,_,_=>rfl
 |.v k::ps,hs,[],_,_,_=>rfl
 |.v k::ps,hs,a::rest,ts,F,K=>by
  simp only[gatherM];cases toT true H k a with
  |none=>rfl
  |some x=>exact gatherM_nat (ps:=ps) hs rest ts _ K
 |.io k::ps,hs,_,_,_,_=>by cases hs
 |.bx k::ps,hs,[],_,_,_=>rfl
 |.bx k::ps,hs,a::rest,ts,F,K=>by
  obtain⟨_,hs⟩:=ifT_both hs;simp only[gatherM];cases a<;>try rfl
  rename_i t c;dsimp only
  rw[ifEq_bind,ifT_bind];cases H t with
  |none=>rfl
  |some row=>
   cases row<;>try rfl
   rename_i cs;dsimp only
   cases toTs true H k cs with
   |none=>rfl
   |some q=>
    obtain⟨x,l⟩:=q;cases l with
    |nil=>
     dsimp only
     rw[gatherM_nat (ps:=ps) hs rest _ _ K];rfl
    |cons _ _=>rfl
theorem gatherM_small:∀{ps:List Ar},smallM n ps=true→∀{vs:List AVal} {ts:List Nat} {K:ArsT ps→List Nat→Option R} {r:R},gatherM H ps vs ts K=some r→
  ∃x us,K x us=some r∧(∀t∈us,t∈ts∨((∃cs,H t=some (.box cs)∧cs.length<n)∧∃c,AVal.ptr t c∈vs))∧∀K':ArsT ps→List Nat→Option R,gatherM H ps vs ts K'=K' x us
 |[],_,[],ts,K,r,h=>⟨(),ts,h,fun t ht=>.inl ht,fun _=>rfl⟩
 |[],_,_::_,_,_,_,h=>by cases h
 |.v k::ps,hs,[],_,_,_,h=>by cases h
 |.v k::ps,hs,a::rest,ts,K,r,h=>by
  simp only[gatherM] at h⊢;split at h
  ·rename_i x hx;obtain⟨y,us,h1,h2,h3⟩:=gatherM_small (ps:=ps) hs h;exact⟨(x,y),us,h1,fun u hu=>(h2 u hu).imp id fun h4=>⟨h4.1,h4.2.imp fun c hc=>List.mem_cons_of_mem _ hc⟩,fun K'=>h3 _⟩
  ·cases h
 |.io k::ps,hs,_,_,_,_,_=>by cases hs
 |.bx k::ps,hs,[],_,_,_,h=>by cases h
 |.bx k::ps,hs,a::rest,ts,K,r,h=>by
  obtain⟨hk,hs⟩:=ifT_both hs;simp only[gatherM] at h⊢;cases a<;>try (cases h;done)
  rename_i t c;dsimp only at h⊢;obtain⟨hc,h⟩:=ifEq_yes h;simp only[ifEq_pos hc];cases hm:memN t ts with
  |true=>rw[hm] at h;cases h
  |false=>
   rw[hm,ifT_f] at h;simp only[ifT_f];cases hH:H t with
   |none=>rw[hH] at h;cases h
   |some row=>
    rw[hH] at h;cases row<;>try (cases h;done)
    rename_i cs;dsimp only at h⊢;cases hT:toTs true H k cs with
    |none=>rw[hT] at h;cases h
    |some q=>
     obtain⟨x,l⟩:=q;rw[hT] at h;cases l with
     |cons _ _=>cases h
     |nil=>
      dsimp only at h⊢;obtain⟨y,us,h1,h2,h3⟩:=gatherM_small (ps:=ps) hs h;refine⟨(x,y),us,h1,fun u hu=> ?_,fun K'=>h3 _⟩
      rcases h2 u hu with h4|h4
      ·rw[appA_eq] at h4
       rcases List.mem_append.1 h4 with h4|h4
       ·exact .inl h4
       ·obtain rfl:=List.mem_singleton.1 h4;have:=toTs_size hT;have hk:=Nat.le_of_ble_eq_true hk;exact .inr ⟨⟨cs,hH,by simp only[List.length_nil] at this;omega⟩,c,List.mem_cons_self⟩
      ·exact .inr ⟨h4.1,h4.2.imp fun c hc=>List.mem_cons_of_mem _ hc⟩
theorem callM_nat{f:FnM}(hs:smallM n f.ps=true)(d:Option Nat)(vs:List AVal)(F:St→Option α)(K:α→Option R):(callM f d S vs F).bind K=callM f d S vs fun x=>(F x).bind K:=by
 unfold callM;dsimp only
 rw[gatherM_nat hs];congr 1;funext xs ts;rw[Option.bind_assoc];congr 1;funext r;exact got_nat ..
theorem callM_put{f:FnM}{d:Option Nat}{e:Nat}{y:AVal}(h:d≠some e)(vs:List AVal)(K:St→Option R):callM f d (S.put (some e) y) vs K=callM f d S vs fun S'=>K (S'.put (some e) y):=by
 unfold callM;dsimp only
 rw[put_heap];congr 1;funext xs ts;congr 1;funext r;exact got_put (S:={S with heap:=_}) h
noncomputable def opX(E:Env)(ops:List Oper)(o:Oper)(S:St):Option St:=(gd ops o S).bind fun t=>bif t then stepM E o S some else some (S.put o.dst (.tup []))
theorem msB_spec{o:Oper}(h:msB n E o=true):∃f,msOf E o.op=some f∧smallM n f.ps=true∧∀{R:Type} (S:St) (K:St→Option R),stepM E o S K=callM f o.dst S (mapA S.eval (margsOf f o.op)) K:=by
 unfold msB at h;split at h
 ·cases h
 ·rename_i hil;split at h
  ·rename_i f hf;refine⟨f,hf,h,fun S K=> ?_⟩;unfold stepM inlOf;rw[hil];dsimp only
   unfold stepM0;rw[hf]
  ·cases h
theorem mkB_spec{o:Oper}(h:mkB E o=true):∃gc,mkOf o.op=some gc∧∀{R:Type} (S:St) (K:St→Option R),stepM E o S K=K (S.put o.dst (mkClo E gc.1 (mapA S.eval gc.2))):=by
 unfold mkB at h;split at h
 ·cases h
 rename_i e0;split at h
 ·cases h
 rename_i e1;split at h
 ·cases h
 rename_i e2;split at h
 ·cases h
 rename_i e3;split at h
 ·rename_i gc e4;refine⟨gc,e4,fun S K=> ?_⟩;unfold stepM inlOf;rw[e0];dsimp only
  unfold stepM0;rw[e1,e2,e3,e4]
 ·cases h
theorem cloB_spec{o:Oper}(h:cloB E o=true):∃f,cloOf E o.op=some f∧∀{R:Type} (S:St) (K:St→Option R),stepM E o S K=callC E f o.dst S (mapA S.eval (argsOf o.op)) K:=by
 unfold cloB at h;split at h
 ·cases h
 rename_i e0;split at h
 ·cases h
 rename_i e1;split at h
 ·cases h
 rename_i e2;split at h
 ·rename_i f e3;refine⟨f,e3,fun S K=> ?_⟩;unfold stepM inlOf;rw[e0];dsimp only
  unfold stepM0;rw[e1,e2,e3]
 ·cases h
theorem callC_nat{f:FnA}(d:Option Nat)(vs:List AVal)(F:St→Option α)(K:α→Option R):(callC E f d S vs F).bind K=callC E f d S vs fun x=>(F x).bind K:=by
 unfold callC;rw[ifT_bind];congr 1;cases gatherC E S.heap f.ps vs with
 |none=>rfl
 |some xs=>
  dsimp only
  rw[Option.bind_assoc];congr 1;funext r;exact got_nat ..
theorem callC_put{f:FnA}{d:Option Nat}{e:Nat}{y:AVal}(h:d≠some e)(vs:List AVal)(K:St→Option R):callC E f d (S.put (some e) y) vs K=callC E f d S vs fun S'=>K (S'.put (some e) y):=by
 unfold callC;rw[put_heap];congr 1;cases gatherC E S.heap f.ps vs with
 |none=>rfl
 |some xs=>
  dsimp only
  congr 1;funext r;exact got_put h
theorem opX_plain{o:Oper}(h:plainB E o.dst o.op=true)(l:List Oper)(S:St):opX E l o S=opS E l o S:=by
 unfold opX opS;congr 1;funext t;rw[plainB_spec h]
theorem stepM_natX{o:Oper}(h:okX E n o=true)(F:St→Option α)(K:α→Option R):(stepM E o S F).bind K=stepM E o S fun x=>(F x).bind K:=by
 unfold okX at h;cases hp:plainB E o.dst o.op with
 |true=>
  rw[plainB_spec hp,plainB_spec hp];exact step_nat ..
 |false=>
  rw[hp,ifT_f] at h;cases hm:mkB E o with
  |true=>
   obtain⟨gc,_,h3⟩:=mkB_spec hm;rw[h3,h3]
  |false=>
   rw[hm,ifT_f] at h;cases hc:cloB E o with
   |true=>
    obtain⟨f,_,h3⟩:=cloB_spec hc;rw[h3,h3];exact callC_nat ..
   |false=>
    rw[hc,ifT_f] at h;obtain⟨f,_,h2,h3⟩:=msB_spec h;rw[h3,h3];exact callM_nat h2 ..
theorem guarded_opX{o:Oper}(h:okX E n o=true){l:List Oper}{K:St→Option R}:guarded l o S (fun S=>stepM E o S fun S'=>K S') (fun S=>K (S.put o.dst (.tup [])))=(opX E l o S).bind K:=by
 rw[guarded_gd];unfold opX;rw[Option.bind_assoc];congr 1;funext t;cases t with
 |true=>
  simp only[cond_true];rw[stepM_natX h];simp only[Option.bind_some]
 |false=>rfl
theorem argsOf_sub{op:Op}{x:Operand}{f:FnM}(hf:msOf E op=some f)(h:x∈margsOf f op):x∈op.operands:=by
 unfold msOf at hf;split at hf
 ·rename_i g args tys;have hi:∀{l:List Operand},x∈initA l→x∈l:=by
   intro l
   induction l with
   |nil=>exact id
   |cons y l ih=>
    cases l with
    |nil=>intro h;cases h
    |cons z l=>
     intro h
     rcases List.mem_cons.1 h with rfl|h
     ·exact List.mem_cons_self
     ·exact List.mem_cons_of_mem _ (ih h)
  have h:x∈args.toList:=by
   unfold margsOf at h;split at h
   ·exact h
   ·exact hi h
  have h:x∈args:=by simpa only[Array.mem_toList_iff] using h
  simp only[Op.operands,Call.operands];simp[h]
 ·cases hf
theorem opM_unput{o:Oper}(hm:msB n E o=true){d:Option Nat}{y:AVal}(hd:∀e,d=some e→o.dst≠some e)(hl:∀e,d=some e→e∉o.looksAt ops)(h:opX E ops.toList o (S.put d y)=some S'):
  ∃T,opX E ops.toList o S=some T∧S'=T.put d y:=by
 cases d with
 |none=>exact⟨S',h,rfl⟩
 |some d=>
  unfold opX at h⊢;rw[(SameAt.put hl).gd] at h;obtain⟨t,ht,h⟩:=Option.bind_eq_some_iff.1 h;rw[ht];simp only[Option.bind_some];cases t with
  |true=>
   obtain⟨f,hf,h2,h3⟩:=msB_spec hm;simp only[cond_true] at h⊢;rw[h3] at h⊢;have hev:mapA (S.put (some d) y).eval (margsOf f o.op)=mapA S.eval (margsOf f o.op):=mapA_congr fun x hx=>put_eval S fun e=>hl d rfl (operand_looks (by rw[←e];exact argsOf_sub hf hx));rw[hev,callM_put (hd d rfl)] at h;have h4:=callM_nat (S:=S) h2 o.dst (mapA S.eval (margsOf f o.op)) some (fun S'=>some (S'.put (some d) y));simp only[Option.bind_some] at h4;rw[←h4] at h;obtain⟨T,h5,h6⟩:=Option.bind_eq_some_iff.1 h;exact⟨T,h5,(Option.some.inj h6).symm⟩
  |false=>
   simp only[cond_false] at h⊢;obtain rfl:=Option.some.inj h;exact⟨_,rfl,put_put _ (hd d rfl)⟩
theorem gotS_slots{T:St}{d:Option Nat}{own:Bool}{ks:List Kd}{x:OutsT ks}(h:T.slots=S.slots):∃v,(T.gotS d own ks x).slots=(S.put d v).slots:=by
 cases own with
 |false=>exact⟨_,put_slots h⟩
 |true=>
  cases d with
  |none=>exact⟨.undef,h⟩
  |some d=>exact⟨_,put_slots ((setHs_slots _ _).trans h)⟩
theorem gotS_heap{T:St}{d:Option Nat}{own:Bool}{ks:List Kd}{x:OutsT ks}{p:Nat}{r:Row}(hf:∀d',own=true→d=some d'→allFree T.heap (thaws d' ks x 0).2=true)(h:T.heap p=some r):(T.gotS d own ks x).heap p=some r:=by
 cases own with
 |false=>exact(congrFun (put_heap ..) p).trans h
 |true=>
  cases d with
  |none=>exact h
  |some d=>
   show(((T.setHs (thaws d ks x 0).2).put (some d) (one (thaws d ks x 0).1)).heap) p=some r;rw[put_heap,setHs_out]
   ·exact h
   ·intro hm;have:=allFree_mem (hf d rfl rfl) p hm;rw[h] at this;cases this
theorem opM_spec{o:Oper}(hm:msB n E o=true){l:List Oper}{T:St}(h:opX E l o S=some T):(∃v,T.slots=(S.put o.dst v).slots)∧∀p r,S.heap p=some r→(∀cs,r=.box cs→n≤cs.length)→∃r',T.heap p=some r'∧SameD r r':=by
 unfold opX at h;obtain⟨t,_,h⟩:=Option.bind_eq_some_iff.1 h;cases t with
 |false=>
  obtain rfl:=Option.some.inj h;exact⟨⟨_,rfl⟩,fun p r hp _=>⟨r,by rw[put_heap];exact hp,.inl rfl⟩⟩
 |true=>
  obtain⟨f,hf,h2,h3⟩:=msB_spec hm;simp only[cond_true] at h;rw[h3] at h;unfold callM at h;dsimp only at h;obtain⟨x,us,h4,h5,_⟩:=gatherM_small h2 h;obtain⟨q,_,h4⟩:=Option.bind_eq_some_iff.1 h4;obtain⟨h6,h7⟩:=got_some h4;obtain rfl:=Option.some.inj h6;refine⟨gotS_slots rfl,fun p r hp hr=> ?_⟩
  ·obtain⟨r1,e1,e2⟩:=sealVs_ext (sealsM S.heap f.ps (mapA S.eval (margsOf f o.op))) S.heap p r hp;have hnot:p∉us:=by
    intro hmem
    rcases h5 p hmem with h8|⟨⟨cs,h8,h9⟩,_⟩
    ·cases h8
    ·rw[e1] at h8;obtain rfl:=Option.some.inj h8
     rcases e2 with rfl|⟨k,xs,_,e⟩
     ·have:=hr cs rfl;omega
     ·cases e
   have e3:=setRows_out (rs:=rowsM 12500 f.ps (mergeM f.ps x q.2)) (H:=Am.sealVs S.heap (sealsM S.heap f.ps (mapA S.eval (margsOf f o.op)))) hnot;rw[e1] at e3;exact⟨r1,gotS_heap h7 e3,e2⟩
theorem opM_spec2{o:Oper}{f:FnM}(hf:msOf E o.op=some f)(hm:msB n E o=true){l:List Oper}{T:St}(h:opX E l o S=some T){p:Nat}{r:Row}(hp:S.heap p=some r)(hn:∀c,AVal.ptr p c∉mapA S.eval (margsOf f o.op)):∃r',T.heap p=some r'∧SameD r r':=by
 unfold opX at h;obtain⟨t,_,h⟩:=Option.bind_eq_some_iff.1 h;cases t with
 |false=>
  obtain rfl:=Option.some.inj h;exact⟨r,by rw[put_heap];exact hp,.inl rfl⟩
 |true=>
  obtain⟨f',hf',h2,h3⟩:=msB_spec hm;rw[hf] at hf';obtain rfl:=Option.some.inj hf';simp only[cond_true] at h;rw[h3] at h;unfold callM at h;dsimp only at h;obtain⟨x,us,h4,h5,_⟩:=gatherM_small h2 h;obtain⟨q,_,h4⟩:=Option.bind_eq_some_iff.1 h4;obtain⟨h6,h7⟩:=got_some h4;obtain rfl:=Option.some.inj h6;obtain⟨r1,e1,e2⟩:=sealVs_ext (sealsM S.heap f.ps (mapA S.eval (margsOf f o.op))) S.heap p r hp;have hnot:p∉us:=by
   intro hmem
   rcases h5 p hmem with h8|⟨_,c,hc⟩
   ·cases h8
   ·exact hn c hc
  have e3:=setRows_out (rs:=rowsM 12500 f.ps (mergeM f.ps x q.2)) (H:=Am.sealVs S.heap (sealsM S.heap f.ps (mapA S.eval (margsOf f o.op)))) hnot;rw[e1] at e3;exact⟨r1,gotS_heap h7 e3,e2⟩
theorem setRows_mono:∀{ts:List Nat} {rs:List (Nat×Row)} {H:Nat→Option Row} {p:Nat},H p≠none→setRows H ts rs p≠none
 |[],_,_,_,h=>h
 |_::_,[],_,_,h=>h
 |t::ts,r::rs,H,p,h=>by
  simp only[setRows];refine setRows_mono ?_
  by_cases e:p=t
  ·rw[ifEq_pos e];exact fun h=>by cases h
  ·rw[ifEq_neg e];exact h
theorem opM_eff{o:Oper}(hm:msB n E o=true){l:List Oper}{T:St}(h:opX E l o S=some T):Eff S o.dst T:=by
 refine⟨(opM_spec hm h).1,fun p hp=> ?_⟩;unfold opX at h;obtain⟨t,_,h⟩:=Option.bind_eq_some_iff.1 h;cases t with
 |false=>
  obtain rfl:=Option.some.inj h;rw[put_heap];exact hp
 |true=>
  obtain⟨f,hf,h2,h3⟩:=msB_spec hm;simp only[cond_true] at h;rw[h3] at h;unfold callM at h;dsimp only at h;obtain⟨x,us,h4,h5,_⟩:=gatherM_small h2 h;obtain⟨q,_,h4⟩:=Option.bind_eq_some_iff.1 h4;obtain⟨h6,h7⟩:=got_some h4;obtain rfl:=Option.some.inj h6;have hs:=sealVs_mono (l:=sealsM S.heap f.ps (mapA S.eval (margsOf f o.op))) hp;have hr:=setRows_mono (ts:=us) (rs:=rowsM 12500 f.ps (mergeM f.ps x q.2)) hs;obtain⟨r,hr⟩:=Option.ne_none_iff_exists'.1 hr;rw[gotS_heap h7 hr];exact fun h=>by cases h
theorem opM_put{o:Oper}(hm:msB n E o=true){d:Option Nat}{y:AVal}(hd:∀e,d=some e→o.dst≠some e)(hl:∀e,d=some e→e∉o.looksAt ops){T:St}(h:opX E ops.toList o S=some T):
  opX E ops.toList o (S.put d y)=some (T.put d y):=by
 cases d with
 |none=>exact h
 |some d=>
  unfold opX at h⊢;rw[(SameAt.put hl).gd];obtain⟨t,ht,h⟩:=Option.bind_eq_some_iff.1 h;rw[ht];simp only[Option.bind_some];cases t with
  |true=>
   obtain⟨f,hf,h2,h3⟩:=msB_spec hm;simp only[cond_true] at h⊢;rw[h3] at h⊢;have hev:mapA (S.put (some d) y).eval (margsOf f o.op)=mapA S.eval (margsOf f o.op):=mapA_congr fun x hx=>put_eval S fun e=>hl d rfl (operand_looks (by rw[←e];exact argsOf_sub hf hx));rw[hev,callM_put (hd d rfl)];have h4:=callM_nat (S:=S) h2 o.dst (mapA S.eval (margsOf f o.op)) some (fun S'=>some (S'.put (some d) y));simp only[Option.bind_some] at h4;rw[←h4,h];rfl
  |false=>
   simp only[cond_false] at h⊢;obtain rfl:=Option.some.inj h;exact congrArg some (put_put _ (hd d rfl))
def SwapsX(E:Env)(ops:Array Oper)(x i:Oper):Prop:=∀S S1 S2,Ready i S→opX E ops.toList x S=some S1→opX E ops.toList i S1=some S2→∃S1',opX E ops.toList i S=some S1'∧opX E ops.toList x S1'=some S2
theorem SameAt.slots{o:Oper}{d:Option Nat}{T:St}(he:∃v,T.slots=(S.put d v).slots)(h:∀e,d=some e→e∉o.looksAt ops):SameAt ops o S T:=by
 obtain⟨v,hv⟩:=he;intro p hp;rw[hv];exact SameAt.put (y:=v) h p hp
theorem bigLoad_row{o:Oper}{t:TypeId}{x:Operand}(ho:o.op=.load t x)(hb:bigLoad E n o=true)(h:opS E ops.toList o S=some S'):∀p∈addrTok (S.eval x),∀cs,S.heap p=some (.box cs)→n≤cs.length:=by
 intro p hp cs hcs;unfold bigLoad at hb;split at hb
 ·cases hb
 rename_i hg;rw[ho] at hb;dsimp only at hb;split at hb
 ·rename_i a b hk;unfold opS gd at h;rw[hg] at h;simp only[Option.bind_some,cond_true] at h;rw[step_load ho] at h;obtain⟨y,h1,_⟩:=Option.bind_eq_some_iff.1 h;unfold ldV at h1;rw[hk] at h1;dsimp only at h1;cases he:S.eval x<;>rw[he] at hp h1<;>try (simp[addrTok] at hp;done)
  ·simp only[addrTok,List.mem_singleton] at hp;subst hp;dsimp only at h1;rw[hcs] at h1;dsimp only at h1;obtain⟨h2,_⟩:=ifT_some h1;have h2:=Nat.le_of_ble_eq_true h2;have hb:=Nat.le_of_ble_eq_true hb;rw[lenA_eq] at h2;omega
  ·simp only[addrTok,List.mem_singleton] at hp;subst hp;dsimp only at h1;rw[hcs] at h1;cases h1
  ·simp only[addrTok,List.mem_singleton] at hp;subst hp;dsimp only at h1;rw[hcs] at h1;obtain⟨hh,_⟩:=ifT_some h1;cases hh
 ·cases hb
theorem swapsX_ms{x i:Oper}(hp:plainB E x.dst x.op=true)(hi:msB n E i=true)(ha:x.apart ops i=true)(hx:vopB x.op=true∨bigLoad E n x=true):SwapsX E ops x i:=by
 intro S S1 S2 _ h1 h2;obtain⟨a1,a2,a3⟩:=Oper.apart_spec ha;rw[opX_plain hp] at h1
 rcases hx with hx|hx
 ·obtain⟨y,rfl,hy⟩:=putLike_vop hx _ _ h1;obtain⟨T,h3,rfl⟩:=opM_unput hi a2 a1 h2;refine⟨T,h3, ?_⟩;rw[opX_plain hp];exact hy T (SameAt.slots (opM_spec hi h3).1 a3)
 ·have hl:∃t z,x.op=.load t z:=by
   have hx':=hx;unfold bigLoad at hx';split at hx'
   ·cases hx'
   ·split at hx'
    ·rename_i t z e;exact⟨_,_,e⟩
    ·cases hx'
  obtain⟨t,z,ho⟩:=hl;have hrow:=bigLoad_row ho hx h1;obtain⟨y,rfl,hy⟩:=load_like ho h1;obtain⟨T,h3,rfl⟩:=opM_unput hi a2 a1 h2;obtain⟨g1,g2⟩:=opM_spec hi h3;refine⟨T,h3, ?_⟩;rw[opX_plain hp];refine hy T (SameAt.slots g1 a3) fun p hp hn=> ?_;cases hr:S.heap p with
  |none=>exact absurd hr hn
  |some r=>
   obtain⟨r',h4,h5⟩:=g2 p r hr (fun cs e=>hrow p hp cs (by rw[hr,e]));exact⟨r,r',rfl,h4,.inl h5⟩
/-! a function value is made; a function is called that is handed one -/
theorem mk_operand{op:Op}{gc:Nat×List Operand}(h:mkOf op=some gc){x:Operand}(hx:x∈gc.2):x∈op.operands:=by
 unfold mkOf at h;split at h
 ·split at h
  ·obtain rfl:=Option.some.inj h;simp only[Op.operands];simp at hx⊢;exact .inr hx
  ·cases h
 ·cases h
theorem args_operand{op:Op}{f:FnA}(hf:cloOf E op=some f){x:Operand}(h:x∈argsOf op):x∈op.operands:=by
 unfold cloOf at hf;split at hf
 ·rename_i g args tys;have h:x∈args:=by simpa only[argsOf,Array.mem_toList_iff] using h
  simp only[Op.operands,Call.operands];simp[h]
 ·cases hf
theorem mk_like{o:Oper}(hm:mkB E o=true){T:St}(h:opX E ops.toList o S=some T):∃v,T=S.put o.dst v∧∀U,SameAt ops o S U→opX E ops.toList o U=some (U.put o.dst v):=by
 unfold opX at h;obtain⟨t,ht,h⟩:=Option.bind_eq_some_iff.1 h;obtain⟨gc,hgc,h3⟩:=mkB_spec hm;cases t with
 |true=>
  simp only[cond_true] at h;rw[h3] at h;refine⟨_,(Option.some.inj h).symm,fun U hU=> ?_⟩;unfold opX;rw[hU.gd,ht];simp only[Option.bind_some,cond_true];rw[h3,mapA_congr fun x hx=>hU.eval x (mk_operand hgc hx)]
 |false=>
  simp only[cond_false] at h;refine⟨_,(Option.some.inj h).symm,fun U hU=> ?_⟩;unfold opX;rw[hU.gd,ht];rfl
theorem opC_unput{o:Oper}(hm:cloB E o=true){d:Option Nat}{y:AVal}(hd:∀e,d=some e→o.dst≠some e)(hl:∀e,d=some e→e∉o.looksAt ops)(h:opX E ops.toList o (S.put d y)=some S'):
  ∃T,opX E ops.toList o S=some T∧S'=T.put d y:=by
 cases d with
 |none=>exact⟨S',h,rfl⟩
 |some d=>
  unfold opX at h⊢;rw[(SameAt.put hl).gd] at h;obtain⟨t,ht,h⟩:=Option.bind_eq_some_iff.1 h;rw[ht];simp only[Option.bind_some];cases t with
  |true=>
   obtain⟨f,hf,h3⟩:=cloB_spec hm;simp only[cond_true] at h⊢;rw[h3] at h⊢;have hev:mapA (S.put (some d) y).eval (argsOf o.op)=mapA S.eval (argsOf o.op):=mapA_congr fun x hx=>put_eval S fun e=>hl d rfl (operand_looks (by rw[←e];exact args_operand hf hx));rw[hev,callC_put (hd d rfl)] at h;have h4:=callC_nat (E:=E) (S:=S) (f:=f) o.dst (mapA S.eval (argsOf o.op)) some (fun S'=>some (S'.put (some d) y));simp only[Option.bind_some] at h4;rw[←h4] at h;obtain⟨T,h5,h6⟩:=Option.bind_eq_some_iff.1 h;exact⟨T,h5,(Option.some.inj h6).symm⟩
  |false=>
   simp only[cond_false] at h⊢;obtain rfl:=Option.some.inj h;exact⟨_,rfl,put_put _ (hd d rfl)⟩
theorem opC_spec{o:Oper}(hm:cloB E o=true){l:List Oper}{T:St}(h:opX E l o S=some T):(∃v,T.slots=(S.put o.dst v).slots)∧∀p r,S.heap p=some r→T.heap p=some r:=by
 unfold opX at h;obtain⟨t,_,h⟩:=Option.bind_eq_some_iff.1 h;cases t with
 |false=>
  obtain rfl:=Option.some.inj h;exact⟨⟨_,rfl⟩,fun p r hp=>by rw[put_heap];exact hp⟩
 |true=>
  obtain⟨f,hf,h3⟩:=cloB_spec hm;simp only[cond_true] at h;rw[h3] at h;unfold callC at h;obtain⟨_,h⟩:=ifT_some h;split at h
  ·cases h
  ·obtain⟨q,_,h⟩:=Option.bind_eq_some_iff.1 h;obtain⟨h6,h7⟩:=got_some h;obtain rfl:=Option.some.inj h6;exact⟨gotS_slots rfl,fun p r hp=>gotS_heap h7 hp⟩
theorem opC_eff{o:Oper}(hm:cloB E o=true){l:List Oper}{T:St}(h:opX E l o S=some T):Eff S o.dst T:=by
 obtain⟨h1,h2⟩:=opC_spec hm h;refine⟨h1,fun p hp=> ?_⟩;obtain⟨r,hr⟩:=Option.ne_none_iff_exists'.1 hp;rw[h2 p r hr];exact fun h=>by cases h
theorem opMk_eff{o:Oper}(hm:mkB E o=true){T:St}(h:opX E ops.toList o S=some T):Eff S o.dst T:=by
 obtain⟨v,rfl,_⟩:=mk_like hm h;exact⟨⟨v,rfl⟩,fun p hp=>by rw[put_heap];exact hp⟩
/-- what an operation on values or a load gives, it gives wherever the rows stand as they stood -/
theorem val_like{x:Oper}(hx:vopB x.op=true∨isLoad x.op=true){T:St}(h:opS E ops.toList x S=some T):∃y,T=S.put x.dst y∧∀U,SameAt ops x S U→(∀p r,S.heap p=some r→U.heap p=some r)→opS E ops.toList x U=some (U.put x.dst y):=by
 rcases hx with hx|hx
 ·obtain⟨y,h1,h2⟩:=putLike_vop hx _ _ h;exact⟨y,h1,fun U hU _=>h2 U hU⟩
 ·have hl:∃t z,x.op=.load t z:=by
   unfold isLoad at hx;split at hx
   ·rename_i t z e;exact⟨_,_,e⟩
   ·cases hx
  obtain⟨t,z,ho⟩:=hl;obtain⟨y,h1,h2⟩:=load_like ho h;refine⟨y,h1,fun U hU hh=>h2 U hU fun p _ hn=> ?_⟩;obtain⟨r,hr⟩:=Option.ne_none_iff_exists'.1 hn;exact⟨r,r,hr,hh p r hr,.inl (.inl rfl)⟩
theorem swapsX_mc{x i:Oper}(hp:plainB E x.dst x.op=true)(ha:x.apart ops i=true)(hx:vopB x.op=true∨isLoad x.op=true)(hi:mkB E i=true∨cloB E i=true):SwapsX E ops x i:=by
 intro S S1 S2 _ h1 h2;obtain⟨a1,a2,a3⟩:=Oper.apart_spec ha;rw[opX_plain hp] at h1;obtain⟨y,rfl,hy⟩:=val_like hx h1
 rcases hi with hi|hi
 ·obtain⟨v,rfl,hv⟩:=mk_like hi h2;have hs:SameAt ops i (S.put x.dst y) S:=fun p hp=>(SameAt.put (S:=S) (y:=y) a1 p hp).symm;refine⟨S.put i.dst v,hv S hs, ?_⟩;rw[opX_plain hp,hy _ (SameAt.put a3) (fun p r hr=>by rw[put_heap];exact hr)];cases hd:x.dst with
  |none=>rfl
  |some d=>rw[put_put _ (a2 d hd)]
 ·obtain⟨T,h3,rfl⟩:=opC_unput hi a2 a1 h2;obtain⟨g1,g2⟩:=opC_spec hi h3;refine⟨T,h3, ?_⟩;rw[opX_plain hp];exact hy T (SameAt.slots g1 a3) g2
theorem swapsX_sm{x i:Oper}(hx:msB n E x=true)(hi:plainB E i.dst i.op=true)(ha:x.apart ops i=true)(hv:vopB i.op=true):SwapsX E ops x i:=by
 intro S S1 S2 _ h1 h2;obtain⟨a1,a2,a3⟩:=Oper.apart_spec ha;rw[opX_plain hi] at h2;obtain⟨y,rfl,hy⟩:=putLike_vop hv _ _ h2;have hs:SameAt ops i S S1:=SameAt.slots (opM_spec hx h1).1 a1;refine⟨S.put i.dst y, ?_,opM_put hx (fun e he hx'=>a2 e hx' he) a3 h1⟩;rw[opX_plain hi];exact hy S fun p hp=>(hs p hp).symm
/-- what an operation leaves: its slot is written, no row is lost -/
def EffX(E:Env)(ops:Array Oper)(x:Oper):Prop:=∀S S',opX E ops.toList x S=some S'→Eff S x.dst S'
theorem effX_plain{x:Oper}(hp:plainB E x.dst x.op=true):EffX E ops x:=fun S S' h=>opS_eff (by rw[←opX_plain hp];exact h)
theorem commX_spec{x i:Oper}(h:commX E n ops x i=true):EffX E ops x∧SwapsX E ops x i∧∀e,x.dst=some e→e∉i.looksAt ops:=by
 unfold commX at h
 rcases Bool.or_eq_true_iff.1 h with h|h
 rotate_left
 ·obtain⟨h1,h⟩:=Bool.and_eq_true_iff.1 h;obtain⟨h2,h⟩:=Bool.and_eq_true_iff.1 h;obtain⟨h3,h4⟩:=Bool.and_eq_true_iff.1 h;exact⟨effX_plain h1,swapsX_mc h1 h2 (Bool.or_eq_true_iff.1 h3) (Bool.or_eq_true_iff.1 h4),(Oper.apart_spec h2).1⟩
 cases hp:plainB E x.dst x.op with
 |false=>
  rw[hp,ifT_f] at h;obtain⟨h1,h⟩:=ifT_both h;obtain⟨h2,h⟩:=ifT_both h;obtain⟨h3,h4⟩:=Bool.and_eq_true_iff.1 h;exact⟨fun S S' hh=>opM_eff h1 hh,swapsX_sm h1 h2 h3 h4,(Oper.apart_spec h3).1⟩
 |true=>
 rw[hp,ifT_t] at h;refine⟨effX_plain hp, ?_⟩;cases hq:plainB E i.dst i.op with
 |true=>
  rw[hq,ifT_t] at h;have hh:Swaps' E ops x i∧∀e,x.dst=some e→e∉i.looksAt ops:=by
   rcases Bool.or_eq_true_iff.1 h with h|h
   ·exact commB_spec (E:=E) h
   ·exact commE_spec h
  obtain⟨h1,h2⟩:=hh;refine⟨fun S S1 S2 hr h3 h4=> ?_,h2⟩;rw[opX_plain hp] at h3;rw[opX_plain hq] at h4;obtain⟨T,h5,h6⟩:=h1 S S1 S2 hr h3 h4;exact⟨T,by rw[opX_plain hq];exact h5,by rw[opX_plain hp];exact h6⟩
 |false=>
  rw[hq,ifT_f] at h;obtain⟨h1,h2⟩:=ifT_both h;obtain⟨h3,h4⟩:=Bool.and_eq_true_iff.1 h2;exact⟨swapsX_ms hp h1 h3 (Bool.or_eq_true_iff.1 h4),(Oper.apart_spec h3).1⟩
noncomputable def runIdxX(E:Env)(ops:Array Oper):List Nat→St→(St→Option R)→Option R
 |[],S,K=>K S
 |i::l,S,K=>match ops[i]? with
  |none=>none
  |some o=>(opX E ops.toList o S).bind fun S'=>runIdxX E ops l S' K
theorem bubbleX{i:Nat}{o:Oper}(hi:ops[i]?=some o){post:List Nat}{K:St→Option R}{r:R}:∀{pre:List Nat} {S:St},Ready o S→(∀x∈pre,∀ox,ops[x]?=some ox→EffX E ops ox∧SwapsX E ops ox o∧∀e,ox.dst=some e→e∉o.looksAt ops)→
  runIdxX E ops (pre++i::post) S K=some r→∃S1,opX E ops.toList o S=some S1∧runIdxX E ops (pre++post) S1 K=some r
 |[],S,_,_,h=>by
  simp only[List.nil_append,runIdxX,hi] at h;exact Option.bind_eq_some_iff.1 h
 |x::pre,S,hr,hc,h=>by
  simp only[List.cons_append,runIdxX] at h;split at h
  ·cases h
  ·rename_i ox hox;obtain⟨S',h1,h2⟩:=Option.bind_eq_some_iff.1 h;obtain⟨c0,c1,c2⟩:=hc x List.mem_cons_self ox hox;obtain⟨S1,h3,h4⟩:=bubbleX hi (hr.eff (c0 _ _ h1) c2) (fun y hy=>hc y (List.mem_cons_of_mem _ hy)) h2;obtain⟨T,h5,h6⟩:=c1 S S' S1 hr h1 h3;refine⟨T,h5, ?_⟩;simp only[List.cons_append,runIdxX,hox];exact Option.bind_eq_some_iff.2 ⟨S1,h6,h4⟩
theorem wpAnyX_ok(hE:TysOk P E)(hF:FnsOk P E)(hB:drawX E n ops=true){K:St→Option R}{r:R}(hQ:∀S' I' a' w',K S'=some r→Sim P Wr0 w0 S' I' a' w'→Q .normal a' w'):
  ∀(fuel:Nat) (rem:List Nat) (listed:Array Bool) {S:St} {I:Info} {a:Act} {w:World},rem.length=fuel→listed.size=ops.size→rem.Pairwise (·<·)→(∀j,j<ops.size→(j∈rem↔listed.getD j true=false))→(∀j∈rem,j<ops.size)→
  (∀(j:Nat) o,ops[j]?=some o→listed.getD j false=true→∀e∈o.after,Region.binds .any e=true→listed.getD e.on false=true)→
  runIdxX E ops rem S K=some r→Sim P Wr0 w0 S I a w→wpAny P .any ops Q fuel listed a w:=by
 have hB':∀i,i<ops.size→(∀x,x<i→pairX E n ops x i=true)∧∀o,ops[i]?=some o→okX E n o=true∧∀e∈o.after,Region.binds .any e=true→e.on<i:=by
  intro i hi;have:=List.all_eq_true.1 hB i (List.mem_range.2 hi);rw[Bool.and_eq_true] at this;refine⟨fun x hx=>List.all_eq_true.1 this.1 x (List.mem_range.2 hx),fun o ho=> ?_⟩;have h2:=this.2;rw[ho] at h2;have h2:=Bool.and_eq_true_iff.1 h2;refine⟨h2.1,fun e he hb=> ?_⟩;have h3:=List.all_eq_true.1 h2.2 e (by simpa using he);rw[hb] at h3;simpa using h3
 intro fuel
 induction fuel with
 |zero=>
  intro rem listed S I a w hlen hsz hs hm hlt hcl h hS;have:rem=[]:=List.length_eq_zero_iff.1 hlen;subst this;refine⟨?_,hQ _ _ _ _ h hS⟩;cases hr:Region.ready .any ops listed with
  |nil=>rfl
  |cons x l=>
   have hx:x∈Region.ready .any ops listed:=by rw[hr];exact List.mem_cons_self
   obtain⟨h0,o,ho,_⟩:=mem_ready.1 hx;have hxl:x<ops.size:=(Array.getElem?_eq_some_iff.1 ho).1;exact absurd ((hm x hxl).2 h0) (by simp)
 |succ fuel ih=>
  intro rem listed S I a w hlen hsz hs hm hlt hcl h hS;refine⟨fun hr=> ?_,fun i hi=> ?_⟩
  ·exfalso
   match rem,hlen,hs,hm,hlt,h with
   |i::rem,_,hs,hm,hlt,h=>
    have hi:=hlt i List.mem_cons_self;have:i∈Region.ready .any ops listed:=by
     refine mem_ready.2 ⟨(hm i hi).1 List.mem_cons_self,_,Array.getElem?_eq_getElem hi,fun e he hb=> ?_⟩;have hlt2:=((hB' i hi).2 _ (Array.getElem?_eq_getElem hi)).2 e he hb;have hnot:e.on∉i::rem:=by
      intro hmem
      rcases List.mem_cons.1 hmem with e1|e1
      ·omega
      ·have:=(List.pairwise_cons.1 hs).1 _ e1;omega
     have hb2:¬listed.getD e.on true=false:=fun hh=>hnot ((hm e.on (by omega)).2 hh);rw[getD_tf (by omega)] at hb2;simpa using hb2
    rw[hr] at this;cases this
  ·obtain⟨h0,o,ho,hdep⟩:=mem_ready.1 hi;have hil:i<ops.size:=(Array.getElem?_eq_some_iff.1 ho).1;have hmem:=(hm i hil).2 h0;obtain⟨pre,post,rfl⟩:=List.append_of_mem hmem;have hpre:∀x∈pre,x<i:=by
    intro x hx;have:=List.pairwise_append.1 hs;exact this.2.2 x hx i List.mem_cons_self
   have hpost:∀x∈post,i<x:=by
    have:=(List.pairwise_append.1 hs).2.1;exact(List.pairwise_cons.1 this).1
   have hcomm:∀x∈pre,∀ox,ops[x]?=some ox→EffX E ops ox∧SwapsX E ops ox o∧∀e,ox.dst=some e→e∉o.looksAt ops:=by
    intro x hx ox hox;have hxl:x<ops.size:=(Array.getElem?_eq_some_iff.1 hox).1;have hp:=(hB' i hil).1 x (hpre x hx);unfold pairX at hp;rw[Bool.or_eq_true] at hp
    rcases hp with hp|hp
    ·exfalso;have h1:=reachB_spec hcl (fun o' ho'=>by rw[ho] at ho';obtain rfl:=Option.some.inj ho';exact hdep) hp;have h2:=(hm x hxl).1 (List.mem_append_left _ hx);rw[getD_tf (by omega),h1] at h2;cases h2
    ·rw[hox,ho] at hp;exact commX_spec hp
   obtain⟨S1,h1,h2⟩:=bubbleX ho (hS.ready o) hcomm h;have hok:=((hB' i hil).2 o ho).1;have hg:guarded ops.toList o S (fun S=>stepM E o S fun S'=>runIdxX E ops (pre++post) S' K) (fun S=>runIdxX E ops (pre++post) (S.put o.dst (.tup [])) K)=some r:=by
    rw[guarded_opX hok];exact Option.bind_eq_some_iff.2 ⟨S1,h1,h2⟩
   have next:∀{S2:St} {I':Info} {a':Act} {w':World},runIdxX E ops (pre++post) S2 K=some r→Sim P Wr0 w0 S2 I' a' w'→wpAny P .any ops Q fuel (listed.setIfInBounds i true) a' w':=by
    intro S2 I' a' w' h3 hS2;refine ih (pre++post) _ ?_ (by simp[hsz]) ?_ ?_ ?_ ?_ h3 hS2
    ·simp only[List.length_append,List.length_cons] at hlen⊢;omega
    ·have:=List.pairwise_append.1 hs;exact List.pairwise_append.2 ⟨this.1,(List.pairwise_cons.1 this.2.1).2,fun x hx y hy=>this.2.2 x hx y (List.mem_cons_of_mem _ hy)⟩
    ·intro j hj
     by_cases e:j=i
     ·subst e;constructor
      ·intro hmm;exfalso
       rcases List.mem_append.1 hmm with hmm|hmm
       ·have:=hpre j hmm;omega
       ·have:=hpost j hmm;omega
      ·intro hh;have:j<listed.size:=by omega
       simp[this] at hh
     ·rw[getD_set_ne true (Ne.symm e),←hm j hj];simp only[List.mem_append,List.mem_cons];constructor
      ·rintro(hh|hh)
       ·exact .inl hh
       ·exact .inr (.inr hh)
      ·rintro(hh|hh|hh)
       ·exact .inl hh
       ·exact absurd hh e
       ·exact .inr hh
    ·intro j hj;refine hlt j ?_;simp only[List.mem_append,List.mem_cons] at hj⊢;exact hj.imp id .inr
    ·intro j oj hoj hl e he hb
     by_cases ej:j=i
     ·subst ej;rw[ho] at hoj;obtain rfl:=Option.some.inj hoj;exact getD_set_true (hdep e he hb)
     ·rw[getD_set_ne false (Ne.symm ej)] at hl;exact getD_set_true (hcl j oj hoj hl e he hb)
   unfold wpOp;simp only[ho]
   rcases guarded_ok hS hg with⟨hw,S3,e3,h3⟩|⟨hw,S3,e3,h3⟩<;>subst e3
   ·rw[if_pos hw];refine .inl ?_;obtain⟨S2,h4,h5⟩:=stepM_ok hE hF h3 I a w hS;exact h5 _ _ fun I' a' w' hS'=>next h4 hS'
   ·rw[if_neg (by rw[hw];simp)];exact next h3 (hS.undef o.dst)
theorem runIdxX_range{K:St→Option R}{r:R}:∀(os:List Oper) (k:Nat) (S:St),(∀j,os[j]?=ops[k+j]?)→(∀o∈os,okX E n o=true)→runOps E ops.toList os S K=some r→runIdxX E ops (List.range' k os.length) S K=some r
 |[],_,_,_,_,h=>h
 |o::os,k,S,hk,hms,h=>by
  have h0:ops[k]?=some o:=by simpa using(hk 0).symm
  simp only[runOps] at h;rw[guarded_opX (hms o List.mem_cons_self) (K:=fun S'=>runOps E ops.toList os S' K)] at h;obtain⟨S',h1,h2⟩:=Option.bind_eq_some_iff.1 h;simp only[List.length_cons,List.range'_succ,runIdxX,h0];exact Option.bind_eq_some_iff.2 ⟨S',h1,runIdxX_range os (k+1) S' (fun j=>by have:=hk (j+1);simpa[Nat.add_assoc,Nat.add_comm 1 j] using this) (fun x hx=>hms x (List.mem_cons_of_mem _ hx)) h2⟩
/-- a region that draws its order, a call that writes among its operations, checked -/
theorem drawOk_X(hE:TysOk P E)(hF:FnsOk P E)(hm:P.p.follows .mixedOrders=true){id:Nat}(hB:drawX E n ops=true):DrawOk0 P E id ops:=by
 intro R K r Wr0 w0 S h I a w hS Q hQ;refine wp_region_any hm ?_;have hall:∀o∈ops.toList,okX E n o=true:=by
  intro o ho;obtain⟨i,hi,rfl⟩:=List.mem_iff_getElem.1 ho;have hi':i<ops.size:=by simpa using hi
  have:=List.all_eq_true.1 hB i (List.mem_range.2 hi');rw[Bool.and_eq_true] at this;have h2:=this.2;rw[Array.getElem?_eq_getElem hi'] at h2;have h2:=Bool.and_eq_true_iff.1 h2;simpa using h2.1
 have h1:=runIdxX_range (n:=n) ops.toList 0 S (by simp) hall h;rw[Array.length_toList,←List.range_eq_range'] at h1;refine wpAnyX_ok hE hF hB hQ ops.size (List.range ops.size) _ (by simp) (by simp) List.pairwise_lt_range ?_ ?_ ?_ h1 (hS.grow (BelowD.refl _ _).drew)
 ·intro j hj;simp[hj]
 ·intro j hj;exact List.mem_range.1 hj
 ·intro j o ho hl;have:j<ops.size:=(Array.getElem?_eq_some_iff.1 ho).1;simp[this] at hl
end
end Go.Proofs.YthkflageghfbgaaGreatDoor.Am
/- A region that draws its order in which a load and a store stand in an order that is left open. -/
namespace Go.Proofs.YthkflageghfbgaaGreatDoor.Am
open Go Go.RowKit
def isLate(E:Env)(b:Bool)(o:Oper):Bool:=match lateAddr E o with|some q=>ifT b q.1 (!q.1)|none=>false
def isSl(E:Env)(o:Oper):Bool:=match slLoad E o with|some _=>true|none=>false
/-- the store's address stands where it is looked for -/
def toIn(B:Bas)(o:Oper):Bool:=match B.s with
 |none=>true
 |some c=>match o.op with|.store _ (.tmp p) _=>memN p c|_=>false
def commL(E:Env)(n:Nat)(B:Bas)(ops:Array Oper)(x i:Oper):Bool:=
 x.apart ops i&&(commX E n ops x i||((plainB E x.dst x.op&&(plainB E i.dst i.op&&(isLate E true x&&(isLate E false i&&toIn B i))))||((plainB E x.dst x.op&&(msB n E i&&(isSl E x&&someB B.b)))||((msB n E x&&(plainB E i.dst i.op&&(isSl E i&&someB B.b)))||(plainB E x.dst x.op&&(plainB E i.dst i.op&&(isSl E x&&(appB i.op&&someB B.b))))))))
def pairL(E:Env)(n:Nat)(B:Bas)(ops:Array Oper)(x i:Nat):Bool:=reachB ops ops.size i x||match ops[x]?,ops[i]? with
 |some ox,some oi=>commL E n B ops ox oi
 |_,_=>false
def lateL0:Option (List Nat)→List Nat
 |some c=>c
 |none=>[]
def freeB(B:Bas)(o:Oper):Bool:=match o.dst with|some d=>ifT (memN d B.b) false (ifT (memN d (lateL0 B.s)) false true)|none=>true
def drawL(E:Env)(n:Nat)(B:Bas)(ops:Array Oper):Bool:=
 (List.range ops.size).all fun i=>((List.range i).all fun x=>pairL E n B ops x i)&&match ops[i]? with
  |none=>true
  |some o=>(okX E n o&&freeB B o)&&o.after.toList.all fun e=> !Region.binds .any e||Nat.blt e.on i
section
variable {R α : Type} {E : Env} {S S' : St} {ops : Array Oper} {P : Pg} {Wr0 : Base} {w0 : World} {I : Info} {a : Act} {w : World} {Q : Exit → Act → World → Prop} {n : Nat} {H : Nat → Option Row} {B : Bas}
theorem ifT_bad{b:Bool}{y:Option R}{r:R}(h:ifT b none y=some r):b=false∧y=some r:=by
 cases b with
 |true=>cases h
 |false=>exact⟨rfl,h⟩
noncomputable def opL(E:Env)(B:Bas)(ops:List Oper)(o:Oper)(S:St):Option St:=ifT (badB E B o S) none (opX E ops o S)
theorem opL_some{l:List Oper}{o:Oper}{T:St}:opL E B l o S=some T↔badB E B o S=false∧opX E l o S=some T:=by
 unfold opL;cases badB E B o S with
 |true=>exact⟨fun h=>(by cases h),fun h=>(by cases h.1)⟩
 |false=>exact⟨fun h=>⟨rfl,h⟩,fun h=>h.2⟩
def EffL(E:Env)(B:Bas)(ops:Array Oper)(x:Oper):Prop:=∀S S',opL E B ops.toList x S=some S'→Eff S x.dst S'
theorem effX_ok{x:Oper}(h:okX E n x=true):EffX E ops x:=by
 unfold okX at h;cases hp:plainB E x.dst x.op with
 |true=>exact effX_plain hp
 |false=>
  rw[hp,ifT_f] at h;cases hm:mkB E x with
  |true=>exact fun S S' hh=>opMk_eff hm hh
  |false=>
   rw[hm,ifT_f] at h;cases hc:cloB E x with
   |true=>exact fun S S' hh=>opC_eff hc hh
   |false=>
    rw[hc,ifT_f] at h;exact fun S S' hh=>opM_eff h hh
def SwapsL(E:Env)(B:Bas)(ops:Array Oper)(x i:Oper):Prop:=∀S S1 S2,Ready i S→opL E B ops.toList x S=some S1→opL E B ops.toList i S1=some S2→∃S1',opL E B ops.toList i S=some S1'∧opL E B ops.toList x S1'=some S2
/-- the swap, where neither is barred -/
def SwapsC(E:Env)(B:Bas)(ops:Array Oper)(x i:Oper):Prop:=∀S S1 S2,Ready i S→badB E B x S=false→badB E B i S1=false→opX E ops.toList x S=some S1→opX E ops.toList i S1=some S2→∃S1',opX E ops.toList i S=some S1'∧opX E ops.toList x S1'=some S2
theorem late_operand{o:Oper}{q:Bool×Operand}(h:lateAddr E o=some q):q.2∈o.op.operands:=by
 unfold lateAddr at h;split at h
 ·cases h
 split at h
 ·rename_i t x ho;split at h
  ·cases hg:hasGc o.after.toList<;>rw[hg] at h
   ·cases h
   ·obtain rfl:=Option.some.inj h;rw[ho];simp[Op.operands]
  ·cases h
 ·rename_i t x y ho;split at h
  ·split at h
   ·cases hg:hasTx o.after.toList<;>rw[hg] at h
    ·cases h
    ·obtain rfl:=Option.some.inj h;rw[ho];simp[Op.operands]
   ·cases h
  ·cases h
 ·cases h
theorem memN_in{t:Nat}{l:List Nat}(h:t∈l):memN t l=true:=by
 cases hm:memN t l with
 |true=>rfl
 |false=>exact absurd h (memN_no hm)
theorem tokB_same{T:St}:∀{l:List Nat},(∀b∈l,getA .undef T.slots b=getA .undef S.slots b)→tokB T l=tokB S l
 |[],_=>rfl
 |b::l,h=>by
  simp only[tokB,h b List.mem_cons_self,tokB_same fun c hc=>h c (List.mem_cons_of_mem _ hc)]
theorem memN_of{t:Nat}:∀{l:List Nat},memN t l=true→t∈l
 |[],h=>by cases h
 |b::l,h=>by
  by_cases e:t=b
  ·rw[e];exact List.mem_cons_self
  ·have h:ifEq t b true (memN t l)=true:=h;rw[ifEq_neg e] at h;exact List.mem_cons_of_mem _ (memN_of h)
theorem tokB_in{p t c:Nat}:∀{l:List Nat},p∈l→S.eval (.tmp p)=.ptr t c→t∈tokB S l
 |b::l,h,hp=>by
  have hp:getA .undef S.slots p=.ptr t c:=hp;simp only[tokB]
  rcases List.mem_cons.1 h with rfl|h
  ·rw[hp];exact List.mem_cons_self
  ·have:=tokB_in h hp;split
   ·exact List.mem_cons_of_mem _ this
   ·exact this
theorem lateBad_same{C:Option (List Nat)}{o:Oper}{T:St}(h:SameAt ops o S T)(hC:∀b∈lateL0 C,getA .undef T.slots b=getA .undef S.slots b):lateBad E C o T=lateBad E C o S:=by
 unfold lateBad;cases hq:lateAddr E o with
 |none=>rfl
 |some q=>
  simp only[h.eval q.2 (late_operand hq)];cases C with
  |none=>rfl
  |some c=>
   have e:tokB T c=tokB S c:=tokB_same hC;dsimp only
   rw[e]
theorem slLoad_spec{o:Oper}{x:Operand}(h:slLoad E o=some x):o.guard=none∧∃t,o.op=.load t x:=by
 unfold slLoad at h;split at h
 ·cases h
 rename_i hg;refine⟨hg, ?_⟩;split at h
 ·rename_i t x' ho;split at h
  ·obtain rfl:=Option.some.inj h;exact⟨t,ho⟩
  ·obtain rfl:=Option.some.inj h;exact⟨t,ho⟩
  ·cases h
 ·cases h
theorem margs_operand{op:Op}{x:Operand}{f:FnM}(hf:msOf E op=some f)(h:x∈margsOf f op):x∈op.operands:=argsOf_sub hf h
theorem badB_same{o:Oper}{T:St}(h:SameAt ops o S T)(hB:∀b,b∈B.b∨b∈lateL0 B.s→getA .undef T.slots b=getA .undef S.slots b):badB E B o T=badB E B o S:=by
 unfold badB;rw[lateBad_same h fun b hb=>hB b (.inr hb)];congr 1;unfold refBad;have hB:=fun b (hb:b∈B.b)=>hB b (.inl hb);cases hBb:B.b with
 |nil=>rfl
 |cons b l=>
  dsimp only
  rw[hBb] at hB;rw[tokB_same hB];cases hs:slLoad E o with
  |some x=>
   obtain⟨_,t,ho⟩:=slLoad_spec hs;simp only[h.eval x (by rw[ho];simp[Op.operands])]
  |none=>
   dsimp only
   cases hf:msOf E o.op with
   |none=>rfl
   |some f=>
    dsimp only
    rw[mapA_congr fun x hx=>h.eval x (margs_operand hf hx)]
theorem free_slot{o:Oper}{T:St}(h:freeB B o=true)(he:Eff S o.dst T):∀b,b∈B.b∨b∈lateL0 B.s→getA .undef T.slots b=getA .undef S.slots b:=by
 intro b hb;obtain⟨⟨v,hv⟩,_⟩:=he;rw[hv];unfold freeB at h;cases hd:o.dst with
 |none=>rfl
 |some d=>
  rw[hd] at h;dsimp only at h;have hne:d≠b:=by
   rintro rfl
   rcases hb with hb|hb
   ·have:memN d B.b=true:=memN_in hb;rw[this] at h;cases h
   ·have:memN d (lateL0 B.s)=true:=memN_in hb;rw[this] at h;cases h2:memN d B.b<;>rw[h2] at h<;>cases h
  exact put_eval S (x:=.tmp b) fun e=>hne (Operand.tmp.inj e).symm
theorem swapsL_of{x i:Oper}(hs:SwapsC E B ops x i)(ha:x.apart ops i=true)(ex:EffX E ops x)(ei:EffX E ops i)(fx:freeB B x=true)(fi:freeB B i=true):SwapsL E B ops x i:=by
 intro S S1 S2 hr h1 h2;obtain⟨a1,a2,a3⟩:=Oper.apart_spec ha;obtain⟨b1,h1⟩:=opL_some.1 h1;obtain⟨b2,h2⟩:=opL_some.1 h2;obtain⟨T,h3,h4⟩:=hs S S1 S2 hr b1 b2 h1 h2;have s1:SameAt ops i S S1:=SameAt.eff (ex _ _ h1) a1;have s2:SameAt ops x S T:=SameAt.eff (ei _ _ h3) a3;exact⟨T,opL_some.2 ⟨by rw[←badB_same s1 (free_slot fx (ex _ _ h1))];exact b2,h3⟩,opL_some.2 ⟨by rw[badB_same s2 (free_slot fi (ei _ _ h3))];exact b1,h4⟩⟩
theorem late_load{o:Oper}(h:isLate E true o=true):o.guard=none∧∃t x,o.op=.load t x∧lateAddr E o=some (true,x):=by
 unfold isLate at h;cases hq:lateAddr E o with
 |none=>rw[hq] at h;cases h
 |some q=>
  rw[hq] at h;have h:q.1=true:=h;unfold lateAddr at hq;split at hq
  ·cases hq
  rename_i hg;refine⟨hg, ?_⟩;split at hq
  ·rename_i t x ho;split at hq
   ·cases hgc:hasGc o.after.toList<;>rw[hgc] at hq
    ·cases hq
    ·obtain rfl:=Option.some.inj hq;exact⟨t,x,ho,rfl⟩
   ·cases hq
  ·split at hq
   ·split at hq
    ·cases hgc:hasTx o.after.toList<;>rw[hgc] at hq
     ·cases hq
     ·obtain rfl:=Option.some.inj hq;cases h
    ·cases hq
   ·cases hq
  ·cases hq
theorem late_store{o:Oper}(h:isLate E false o=true):o.guard=none∧o.dst=none∧∃t x y,o.op=.store t x y∧lateAddr E o=some (false,x):=by
 unfold isLate at h;cases hq:lateAddr E o with
 |none=>rw[hq] at h;cases h
 |some q=>
  rw[hq] at h;have h:(!q.1)=true:=h;unfold lateAddr at hq;split at hq
  ·cases hq
  rename_i hg;refine⟨hg, ?_⟩;split at hq
  ·split at hq
   ·cases hgc:hasGc o.after.toList<;>rw[hgc] at hq
    ·cases hq
    ·obtain rfl:=Option.some.inj hq;cases h
   ·cases hq
  ·rename_i t x y ho;split at hq
   ·split at hq
    ·rename_i hd;cases hgc:hasTx o.after.toList<;>rw[hgc] at hq
     ·cases hq
     ·obtain rfl:=Option.some.inj hq;exact⟨hd,t,x,y,ho,rfl⟩
    ·cases hq
   ·cases hq
  ·cases hq
theorem opS_un{o:Oper}{l:List Oper}(hg:o.guard=none):opS E l o S=step E o S some:=by
 unfold opS gd;rw[hg];rfl
/-- a store into a box -/
theorem store_box{o:Oper}{t:TypeId}{x y:Operand}(ho:o.op=.store t x y)(hd:o.dst=none){tk c:Nat}(hx:S.eval x=.ptr tk c){T:St}(h:step E o S some=some T):
  ∃cs cs',S.heap tk=some (.box cs)∧T=S.setH tk (.box cs')∧∀U:St,U.eval x=S.eval x→U.eval y=S.eval y→U.heap tk=S.heap tk→step E o U some=some (U.setH tk (.box cs')):=by
 have key:∀U:St,step E o U some=match kdOf E t with
  |none=>none
  |some k'=>match U.eval x with
   |.ptr t c=>match U.heap t with
    |some (.box cs)=>let ys:=(U.eval y).cells
     ifT (okV (U.eval y)) (ifT (leafVs ys) (ifEq (lenA ys) k'.size (ifT (Nat.ble (c+lenA ys) (lenA cs)) (some ((U.setH t (.box (appA (takeA c cs) (appA ys (dropA (c+lenA ys) cs))))).put o.dst .undef)) none) none) none) none
    |_=>none
   |.ep t i c=>match sealV U.heap (U.eval y) t with
    |some (.arr k xs false)=>match Kd.at k' k c,toT true (sealV U.heap (U.eval y)) k' (U.eval y) with
     |some gs,some y'=>some (({U with heap:=sealV U.heap (U.eval y)}.setH t (.arr k (List.set (α:=k.T) xs i (gs.2 (List.getD (α:=k.T) xs i k.dflt) y')) false)).put o.dst .undef)
     |_,_=>none
    |_=>none
   |.pi t n i=>match U.heap t with
    |some (.box cs)=>ifT (ifT k'.isAgg false (Nat.ble n (lenA cs))) (match U.eval y with
     |.v ky y0=>match castK (k:=ky) (k':=k') y0,cellsT k' (takeA n cs) with
      |some y',some xs=>some ((U.setH t (.box (appA (putAt k' y' i 0 xs) (dropA n cs)))).put o.dst .undef)
      |_,_=>none
     |_=>none) none
    |_=>none
   |_=>none:=by
  intro U;unfold step;rw[ho];rfl
 rw[key] at h;cases hk:kdOf E t with
 |none=>rw[hk] at h;cases h
 |some k'=>
  rw[hk] at h;dsimp only at h;rw[hx] at h;dsimp only at h;cases hr:S.heap tk with
  |none=>rw[hr] at h;cases h
  |some r=>
   rw[hr] at h;cases r with
   |dead=>cases h
   |arr k xs ao=>cases h
   |box cs=>
    dsimp only at h;refine⟨cs,appA (takeA c cs) (appA (S.eval y).cells (dropA (c+lenA (S.eval y).cells) cs)),rfl, ?_,fun U h1 h2 h3=> ?_⟩
    rotate_left
    ·rw[key,hk];dsimp only
     rw[h1,hx];dsimp only
     rw[h3,h2];dsimp only
     obtain⟨g1,h⟩:=ifT_some h;obtain⟨g2,h⟩:=ifT_some h
     by_cases g3:lenA (S.eval y).cells=k'.size
     ·rw[ifEq_pos g3] at h;obtain⟨g4,h⟩:=ifT_some h;rw[g1,ifT_t,g2,ifT_t,ifEq_pos g3,g4,ifT_t,hd];rfl
     ·rw[ifEq_neg g3] at h;cases h
    ·obtain⟨g1,h⟩:=ifT_some h;obtain⟨g2,h⟩:=ifT_some h
     by_cases g3:lenA (S.eval y).cells=k'.size
     ·rw[ifEq_pos g3] at h;obtain⟨g4,h⟩:=ifT_some h;have h:=Option.some.inj h;rw[hd] at h;exact h.symm
     ·rw[ifEq_neg g3] at h;cases h
theorem ldV_ep{t:TypeId}{q i c:Nat}{y:AVal}(h:ldV E t (.ep q i c) H=some y):∃k xs ao,H q=some (.arr k xs ao):=by
 unfold ldV at h;split at h
 ·have:=ldClo_tok h;cases this
 ·dsimp only at h;split at h
  ·rename_i k xs ao hr;exact⟨k,xs,ao,hr⟩
  ·cases h
theorem badB_late{o:Oper}(h:badB E B o S=false):lateBad E B.s o S=false:=by
 unfold badB at h;cases hl:lateBad E B.s o S with
 |false=>rfl
 |true=>rw[hl] at h;cases h
theorem badB_ref{o:Oper}(h:badB E B o S=false):refBad E B.b o S=false:=by
 have hl:=badB_late h;unfold badB at h;rw[hl] at h;exact h
theorem ptrIn_mem{ts:List Nat}:∀{l:List AVal},ptrIn ts l=true→∀t c,AVal.ptr t c∈l→memN t ts=true
 |[],_,_,_,h=>by cases h
 |a::l,h,t,c,hm=>by
  cases a with
  |ptr t' c'=>
   obtain⟨h1,h2⟩:=ifT_both h
   rcases List.mem_cons.1 hm with e|hm
   ·obtain⟨rfl,rfl⟩:=AVal.ptr.inj e;exact h1
   ·exact ptrIn_mem h2 t c hm
  |_=>
   rcases List.mem_cons.1 hm with e|hm
   ·cases e
   ·exact ptrIn_mem (l:=l) h t c hm
theorem swapsC_ref{x i:Oper}(hx:plainB E x.dst x.op=true)(hi:msB n E i=true)(ha:x.apart ops i=true)(hsl:isSl E x=true)(hB:someB B.b=true)(fx:freeB B x=true):SwapsC E B ops x i:=by
 intro S S1 S2 _ b1 b2 h1 h2;have b1:=badB_ref b1;have b2:=badB_ref b2;obtain⟨a1,a2,a3⟩:=Oper.apart_spec ha;have htok:∀b∈B.b,getA .undef S1.slots b=getA .undef S.slots b:=fun b hb=>free_slot fx (effX_plain hx _ _ h1) b (.inl hb);generalize B.b=Bb at hB htok b1 b2;rw[opX_plain hx] at h1;obtain⟨f,hf,_,_⟩:=msB_spec hi;unfold isSl at hsl;cases hz:slLoad E x with
 |none=>rw[hz] at hsl;cases hsl
 |some z=>
  obtain⟨gx,t,ox⟩:=slLoad_spec hz;obtain⟨y,rfl,hy⟩:=load_like ox h1;obtain⟨T,h3,rfl⟩:=opM_unput hi a2 a1 h2;refine⟨T,h3, ?_⟩;rw[opX_plain hx];refine hy T (SameAt.slots (opM_spec hi h3).1 a3) fun p hp hn=> ?_;cases Bb with
  |nil=>cases hB
  |cons b l=>
   unfold refBad at b1 b2;rw[hz] at b1;dsimp only at b1 b2;have hni:slLoad E i=none:=by
    cases hq:slLoad E i with
    |none=>rfl
    |some q=>
     obtain⟨_,t',oi⟩:=slLoad_spec hq;rw[oi] at hf;cases hf
   rw[hni,hf] at b2;dsimp only at b2;rw[tokB_same htok] at b2;have hs:SameAt ops i S (S.put x.dst y):=SameAt.put a1;have hev:mapA (S.put x.dst y).eval (margsOf f i.op)=mapA S.eval (margsOf f i.op):=mapA_congr fun q hq=>hs.eval q (margs_operand hf hq);rw[hev] at b2;have hin:ptrIn (tokB S (b::l)) (mapA S.eval (margsOf f i.op))=true:=by
    cases hh:ptrIn (tokB S (b::l)) (mapA S.eval (margsOf f i.op)) with
    |true=>rfl
    |false=>rw[hh] at b2;cases b2
   have hno:∀c,AVal.ptr p c∉mapA S.eval (margsOf f i.op):=by
    intro c hc;have h5:=ptrIn_mem hin p c hc;cases he:S.eval z<;>rw[he] at hp b1<;>try (simp[addrTok] at hp;done)
    ·simp only[addrTok,List.mem_singleton] at hp;subst hp;dsimp only at b1;rw[h5] at b1;cases b1
    ·cases b1
    ·cases b1
   cases hr:S.heap p with
   |none=>exact absurd hr hn
   |some r=>
    obtain⟨r',h6,h7⟩:=opM_spec2 hf hi h3 hr hno;exact⟨r,r',rfl,h6,.inl h7⟩
/-- the load's address is that of a box that the calls are not handed -/
theorem refBad_load{Bb:List Nat}{o:Oper}{z:Operand}(hB:someB Bb=true)(hz:slLoad E o=some z)(h:refBad E Bb o S=false):∃t c,S.eval z=.ptr t c∧memN t (tokB S Bb)=false:=by
 cases Bb with
 |nil=>cases hB
 |cons b l=>
  unfold refBad at h;rw[hz] at h;dsimp only at h;cases he:S.eval z<;>rw[he] at h<;>try (cases h;done)
  exact⟨_,_,rfl,h⟩
theorem refBad_call{Bb:List Nat}{o:Oper}{f:FnM}(hB:someB Bb=true)(hf:msOf E o.op=some f)(h:refBad E Bb o S=false):ptrIn (tokB S Bb) (mapA S.eval (margsOf f o.op))=true:=by
 cases Bb with
 |nil=>cases hB
 |cons b l=>
  unfold refBad at h;have hni:slLoad E o=none:=by
   cases hq:slLoad E o with
   |none=>rfl
   |some q=>
    obtain⟨_,t',oi⟩:=slLoad_spec hq;rw[oi] at hf;cases hf
  rw[hni,hf] at h;dsimp only at h;cases hh:ptrIn (tokB S (b::l)) (mapA S.eval (margsOf f o.op)) with
  |true=>rfl
  |false=>rw[hh] at h;cases h
theorem isSl_some{o:Oper}(h:isSl E o=true):∃z,slLoad E o=some z:=by
 unfold isSl at h;cases hz:slLoad E o with
 |none=>rw[hz] at h;cases h
 |some z=>exact⟨z,rfl⟩
theorem swapsC_ref2{x i:Oper}(hx:msB n E x=true)(hi:plainB E i.dst i.op=true)(ha:x.apart ops i=true)(hsl:isSl E i=true)(hB:someB B.b=true)(fx:freeB B x=true):SwapsC E B ops x i:=by
 intro S S1 S2 hr b1 b2 h1 h2;have b1:=badB_ref b1;have b2:=badB_ref b2;obtain⟨a1,a2,a3⟩:=Oper.apart_spec ha;have hee:=opM_eff hx h1;have htok:∀b∈B.b,getA .undef S1.slots b=getA .undef S.slots b:=fun b hb=>free_slot fx hee b (.inl hb);obtain⟨f,hf,_,_⟩:=msB_spec hx;obtain⟨z,hz⟩:=isSl_some hsl;obtain⟨_,t,oi⟩:=slLoad_spec hz;have k1:=refBad_call hB hf b1;obtain⟨p,c,k2,k3⟩:=refBad_load hB hz b2;rw[tokB_same htok] at k3;rw[opX_plain hi] at h2;have hs:SameAt ops i S S1:=SameAt.eff hee a1;have hev:S1.eval z=S.eval z:=hs.eval z (by rw[oi];simp[Op.operands]);obtain⟨y,rfl,hy⟩:=load_like oi h2;refine⟨S.put i.dst y, ?_,opM_put hx (fun e he hx'=>a2 e hx' he) a3 h1⟩;rw[opX_plain hi];refine hy S (fun q hq=>(hs q hq).symm) fun q hq _=> ?_;have hq':=hq;rw[hev] at hq';have hne:=hr t z oi q hq';rw[k2] at hq;simp only[addrTok,List.mem_singleton] at hq;subst hq;obtain⟨r,hr1⟩:=Option.ne_none_iff_exists'.1 hne;obtain⟨r',h6,h7⟩:=opM_spec2 hf hx h1 hr1 fun c hc=>by
  have:=ptrIn_mem k1 q c hc;rw[k3] at this;cases this
 exact⟨r',r,h6,hr1,.inr h7⟩
theorem app_box{o:Oper}(ho:appB o.op=true){l:List Oper}(h:opS E l o S=some S'){p:Nat}{cs:List AVal}(hp:S.heap p=some (.box cs)):S'.heap p=some (.box cs):=by
 rcases app_heap ho h p (by rw[hp];exact fun h=>by cases h) with e|e
 ·rw[e,hp]
 ·exact absurd e (app_notdead ho h hp)
theorem swapsC_refA{x i:Oper}(hx:plainB E x.dst x.op=true)(hi:plainB E i.dst i.op=true)(ha:x.apart ops i=true)(hsl:isSl E x=true)(hap:appB i.op=true)(hB:someB B.b=true):SwapsC E B ops x i:=by
 intro S S1 S2 _ b1 b2 h1 h2;have b1:=badB_ref b1;obtain⟨a1,a2,a3⟩:=Oper.apart_spec ha;rw[opX_plain hx] at h1;rw[opX_plain hi] at h2;obtain⟨z,hz⟩:=isSl_some hsl;obtain⟨gx,t,ox⟩:=slLoad_spec hz;obtain⟨p,c,k2,_⟩:=refBad_load hB hz b1;have hld:=h1;obtain⟨y,rfl,hy⟩:=load_like ox h1;obtain⟨T,h3,rfl⟩:=opS_unput a2 a1 h2;refine⟨T,by rw[opX_plain hi];exact h3, ?_⟩;rw[opX_plain hx];refine hy T (SameAt.eff (opS_eff h3) a3) fun q hq _=> ?_;rw[k2] at hq;simp only[addrTok,List.mem_singleton] at hq;subst hq;obtain⟨cs,hcs⟩:∃cs,S.heap q=some (.box cs):=by
  rw[opS_un gx,step_load ox] at hld;obtain⟨u,hu,_⟩:=Option.bind_eq_some_iff.1 hld;rw[k2] at hu;exact ldV_ptr hu
 exact⟨_,_,hcs,app_box hap h3 hcs,.inl (.inl rfl)⟩
theorem swapsC_late{x i:Oper}(hx:plainB E x.dst x.op=true)(hi:plainB E i.dst i.op=true)(ha:x.apart ops i=true)(lx:isLate E true x=true)(li:isLate E false i=true)(hin:toIn B i=true):SwapsC E B ops x i:=by
 intro S S1 S2 _ b1 b2 h1 h2;have b1:=badB_late b1;have b2:=badB_late b2;obtain⟨a1,a2,a3⟩:=Oper.apart_spec ha;obtain⟨gx,t,z,ox,qx⟩:=late_load lx;obtain⟨gi,di,t',p,v,oi,qi⟩:=late_store li;rw[opX_plain hx] at h1;rw[opX_plain hi] at h2;have hld:=h1;rw[opS_un gx,step_load ox] at hld;obtain⟨y0,hld0,_⟩:=Option.bind_eq_some_iff.1 hld;obtain⟨y,rfl,hy⟩:=load_like ox h1;rw[opS_un gi] at h2;have hs:SameAt ops i S (S.put x.dst y):=SameAt.put a1;have ep:(S.put x.dst y).eval p=S.eval p:=hs.eval p (by rw[oi];simp[Op.operands]);have ev:(S.put x.dst y).eval v=S.eval v:=hs.eval v (by rw[oi];simp[Op.operands]);have hp:∃tk c,(S.put x.dst y).eval p=.ptr tk c:=by
  unfold lateBad at b2;rw[qi] at b2;dsimp only at b2;split at b2
  ·rename_i tk c e;exact⟨tk,c,e⟩
  ·cases b2
  ·cases b2
 obtain⟨tk,c,hp⟩:=hp;obtain⟨cs,cs',r1,rfl,r2⟩:=store_box oi di hp h2;have hheap:(S.put x.dst y).heap=S.heap:=put_heap ..;rw[hheap] at r1;have hT:=r2 S ep.symm ev.symm (by rw[hheap]);refine⟨S.setH tk (.box cs'),by rw[opX_plain hi,opS_un gi];exact hT, ?_⟩;rw[opX_plain hx];have hfin:(S.put x.dst y).setH tk (.box cs')=(S.setH tk (.box cs')).put x.dst y:=by
  cases x.dst<;>rfl
 rw[hfin];refine hy _ (fun q hq=>rfl) fun q hq hn=> ?_;have hne:q≠tk:=by
  rintro rfl;unfold lateBad at b1;rw[qx] at b1;dsimp only at b1;cases hz:S.eval z<;>rw[hz] at hq b1 hld0<;>try (simp[addrTok] at hq;done)
  ·simp only[addrTok,List.mem_singleton] at hq;subst hq;unfold toIn at hin;rw[oi] at hin;cases hs2:B.s with
   |none=>rw[hs2] at b1;cases b1
   |some l=>
    rw[hs2] at b1 hin;have b1:memN q (tokB S l)=false:=b1;rw[ep] at hp;cases p with
    |tmp pp=>
     have h5:=memN_in (tokB_in (memN_of hin) hp);rw[b1] at h5;cases h5
    |_=>cases hin
  ·simp only[addrTok,List.mem_singleton] at hq;subst hq;obtain⟨k,xs,ao,e⟩:=ldV_ep hld0;rw[r1] at e;cases e
  ·cases b1
 cases hr:S.heap q with
 |none=>exact absurd hr hn
 |some r=>
  refine⟨r,r,rfl, ?_,.inl (.inl rfl)⟩;simp only[St.setH,ifEq_neg hne];exact hr
theorem commL_spec{x i:Oper}(ox:okX E n x=true)(oi:okX E n i=true)(fx:freeB B x=true)(fi:freeB B i=true)(h:commL E n B ops x i=true):EffL E B ops x∧SwapsL E B ops x i∧∀e,x.dst=some e→e∉i.looksAt ops:=by
 obtain⟨ha,h⟩:=Bool.and_eq_true_iff.1 h;have ex:EffX E ops x:=effX_ok ox;have ei:EffX E ops i:=effX_ok oi;refine⟨fun S S' hh=>ex S S' (opL_some.1 hh).2,swapsL_of ?_ ha ex ei fx fi,(Oper.apart_spec ha).1⟩
 rcases Bool.or_eq_true_iff.1 h with h|h
 ·exact fun S S1 S2 hr _ _ h1 h2=>(commX_spec h).2.1 S S1 S2 hr h1 h2
 ·rcases Bool.or_eq_true_iff.1 h with h|h
  ·obtain⟨h1,h⟩:=Bool.and_eq_true_iff.1 h;obtain⟨h2,h⟩:=Bool.and_eq_true_iff.1 h;obtain⟨h3,h⟩:=Bool.and_eq_true_iff.1 h;obtain⟨h4,h5⟩:=Bool.and_eq_true_iff.1 h;exact swapsC_late h1 h2 ha h3 h4 h5
  rcases Bool.or_eq_true_iff.1 h with h|h
  ·obtain⟨h1,h⟩:=Bool.and_eq_true_iff.1 h;obtain⟨h2,h⟩:=Bool.and_eq_true_iff.1 h;obtain⟨h3,h4⟩:=Bool.and_eq_true_iff.1 h;exact swapsC_ref h1 h2 ha h3 h4 fx
  rcases Bool.or_eq_true_iff.1 h with h|h
  ·obtain⟨h1,h⟩:=Bool.and_eq_true_iff.1 h;obtain⟨h2,h⟩:=Bool.and_eq_true_iff.1 h;obtain⟨h3,h4⟩:=Bool.and_eq_true_iff.1 h;exact swapsC_ref2 h1 h2 ha h3 h4 fx
  ·obtain⟨h1,h⟩:=Bool.and_eq_true_iff.1 h;obtain⟨h2,h⟩:=Bool.and_eq_true_iff.1 h;obtain⟨h3,h⟩:=Bool.and_eq_true_iff.1 h;obtain⟨h4,h5⟩:=Bool.and_eq_true_iff.1 h;exact swapsC_refA h1 h2 ha h3 h4 h5
noncomputable def runIdxL(E:Env)(B:Bas)(ops:Array Oper):List Nat→St→(St→Option R)→Option R
 |[],S,K=>K S
 |i::l,S,K=>match ops[i]? with
  |none=>none
  |some o=>(opL E B ops.toList o S).bind fun S'=>runIdxL E B ops l S' K
theorem bubbleL{i:Nat}{o:Oper}(hi:ops[i]?=some o){post:List Nat}{K:St→Option R}{r:R}:∀{pre:List Nat} {S:St},Ready o S→(∀x∈pre,∀ox,ops[x]?=some ox→EffL E B ops ox∧SwapsL E B ops ox o∧∀e,ox.dst=some e→e∉o.looksAt ops)→
  runIdxL E B ops (pre++i::post) S K=some r→∃S1,opL E B ops.toList o S=some S1∧runIdxL E B ops (pre++post) S1 K=some r
 |[],S,_,_,h=>by
  simp only[List.nil_append,runIdxL,hi] at h;exact Option.bind_eq_some_iff.1 h
 |x::pre,S,hr,hc,h=>by
  simp only[List.cons_append,runIdxL] at h;split at h
  ·cases h
  ·rename_i ox hox;obtain⟨S',h1,h2⟩:=Option.bind_eq_some_iff.1 h;obtain⟨c0,c1,c2⟩:=hc x List.mem_cons_self ox hox;obtain⟨S1,h3,h4⟩:=bubbleL hi (hr.eff (c0 _ _ h1) c2) (fun y hy=>hc y (List.mem_cons_of_mem _ hy)) h2;obtain⟨T,h5,h6⟩:=c1 S S' S1 hr h1 h3;refine⟨T,h5, ?_⟩;simp only[List.cons_append,runIdxL,hox];exact Option.bind_eq_some_iff.2 ⟨S1,h6,h4⟩
theorem wpAnyL_ok(hE:TysOk P E)(hF:FnsOk P E)(hB:drawL E n B ops=true){K:St→Option R}{r:R}(hQ:∀S' I' a' w',K S'=some r→Sim P Wr0 w0 S' I' a' w'→Q .normal a' w'):
  ∀(fuel:Nat) (rem:List Nat) (listed:Array Bool) {S:St} {I:Info} {a:Act} {w:World},rem.length=fuel→listed.size=ops.size→rem.Pairwise (·<·)→(∀j,j<ops.size→(j∈rem↔listed.getD j true=false))→(∀j∈rem,j<ops.size)→
  (∀(j:Nat) o,ops[j]?=some o→listed.getD j false=true→∀e∈o.after,Region.binds .any e=true→listed.getD e.on false=true)→
  runIdxL E B ops rem S K=some r→Sim P Wr0 w0 S I a w→wpAny P .any ops Q fuel listed a w:=by
 have hB':∀i,i<ops.size→(∀x,x<i→pairL E n B ops x i=true)∧∀o,ops[i]?=some o→(okX E n o=true∧freeB B o=true)∧∀e∈o.after,Region.binds .any e=true→e.on<i:=by
  intro i hi;have:=List.all_eq_true.1 hB i (List.mem_range.2 hi);rw[Bool.and_eq_true] at this;refine⟨fun x hx=>List.all_eq_true.1 this.1 x (List.mem_range.2 hx),fun o ho=> ?_⟩;have h2:=this.2;rw[ho] at h2;have h2:=Bool.and_eq_true_iff.1 h2;refine⟨Bool.and_eq_true_iff.1 h2.1,fun e he hb=> ?_⟩;have h3:=List.all_eq_true.1 h2.2 e (by simpa using he);rw[hb] at h3;simpa using h3
 intro fuel
 induction fuel with
 |zero=>
  intro rem listed S I a w hlen hsz hs hm hlt hcl h hS;have:rem=[]:=List.length_eq_zero_iff.1 hlen;subst this;refine⟨?_,hQ _ _ _ _ h hS⟩;cases hr:Region.ready .any ops listed with
  |nil=>rfl
  |cons x l=>
   have hx:x∈Region.ready .any ops listed:=by rw[hr];exact List.mem_cons_self
   obtain⟨h0,o,ho,_⟩:=mem_ready.1 hx;have hxl:x<ops.size:=(Array.getElem?_eq_some_iff.1 ho).1;exact absurd ((hm x hxl).2 h0) (by simp)
 |succ fuel ih=>
  intro rem listed S I a w hlen hsz hs hm hlt hcl h hS;refine⟨fun hr=> ?_,fun i hi=> ?_⟩
  ·exfalso
   match rem,hlen,hs,hm,hlt,h with
   |i::rem,_,hs,hm,hlt,h=>
    have hi:=hlt i List.mem_cons_self;have:i∈Region.ready .any ops listed:=by
     refine mem_ready.2 ⟨(hm i hi).1 List.mem_cons_self,_,Array.getElem?_eq_getElem hi,fun e he hb=> ?_⟩;have hlt2:=((hB' i hi).2 _ (Array.getElem?_eq_getElem hi)).2 e he hb;have hnot:e.on∉i::rem:=by
      intro hmem
      rcases List.mem_cons.1 hmem with e1|e1
      ·omega
      ·have:=(List.pairwise_cons.1 hs).1 _ e1;omega
     have hb2:¬listed.getD e.on true=false:=fun hh=>hnot ((hm e.on (by omega)).2 hh);rw[getD_tf (by omega)] at hb2;simpa using hb2
    rw[hr] at this;cases this
  ·obtain⟨h0,o,ho,hdep⟩:=mem_ready.1 hi;have hil:i<ops.size:=(Array.getElem?_eq_some_iff.1 ho).1;have hmem:=(hm i hil).2 h0;obtain⟨pre,post,rfl⟩:=List.append_of_mem hmem;have hpre:∀x∈pre,x<i:=by
    intro x hx;have:=List.pairwise_append.1 hs;exact this.2.2 x hx i List.mem_cons_self
   have hpost:∀x∈post,i<x:=by
    have:=(List.pairwise_append.1 hs).2.1;exact(List.pairwise_cons.1 this).1
   have hcomm:∀x∈pre,∀ox,ops[x]?=some ox→EffL E B ops ox∧SwapsL E B ops ox o∧∀e,ox.dst=some e→e∉o.looksAt ops:=by
    intro x hx ox hox;have hxl:x<ops.size:=(Array.getElem?_eq_some_iff.1 hox).1;have hp:=(hB' i hil).1 x (hpre x hx);unfold pairL at hp;rw[Bool.or_eq_true] at hp
    rcases hp with hp|hp
    ·exfalso;have h1:=reachB_spec hcl (fun o' ho'=>by rw[ho] at ho';obtain rfl:=Option.some.inj ho';exact hdep) hp;have h2:=(hm x hxl).1 (List.mem_append_left _ hx);rw[getD_tf (by omega),h1] at h2;cases h2
    ·rw[hox,ho] at hp;exact commL_spec ((hB' x hxl).2 ox hox).1.1 ((hB' i hil).2 o ho).1.1 ((hB' x hxl).2 ox hox).1.2 ((hB' i hil).2 o ho).1.2 hp
   obtain⟨S1,h1,h2⟩:=bubbleL ho (hS.ready o) hcomm h;have hok:=((hB' i hil).2 o ho).1.1;have hg:guarded ops.toList o S (fun S=>stepM E o S fun S'=>runIdxL E B ops (pre++post) S' K) (fun S=>runIdxL E B ops (pre++post) (S.put o.dst (.tup [])) K)=some r:=by
    rw[guarded_opX hok];exact Option.bind_eq_some_iff.2 ⟨S1,(opL_some.1 h1).2,h2⟩
   have next:∀{S2:St} {I':Info} {a':Act} {w':World},runIdxL E B ops (pre++post) S2 K=some r→Sim P Wr0 w0 S2 I' a' w'→wpAny P .any ops Q fuel (listed.setIfInBounds i true) a' w':=by
    intro S2 I' a' w' h3 hS2;refine ih (pre++post) _ ?_ (by simp[hsz]) ?_ ?_ ?_ ?_ h3 hS2
    ·simp only[List.length_append,List.length_cons] at hlen⊢;omega
    ·have:=List.pairwise_append.1 hs;exact List.pairwise_append.2 ⟨this.1,(List.pairwise_cons.1 this.2.1).2,fun x hx y hy=>this.2.2 x hx y (List.mem_cons_of_mem _ hy)⟩
    ·intro j hj
     by_cases e:j=i
     ·subst e;constructor
      ·intro hmm;exfalso
       rcases List.mem_append.1 hmm with hmm|hmm
       ·have:=hpre j hmm;omega
       ·have:=hpost j hmm;omega
      ·intro hh;have:j<listed.size:=by omega
       simp[this] at hh
     ·rw[getD_set_ne true (Ne.symm e),←hm j hj];simp only[List.mem_append,List.mem_cons];constructor
      ·rintro(hh|hh)
       ·exact .inl hh
       ·exact .inr (.inr hh)
      ·rintro(hh|hh|hh)
       ·exact .inl hh
       ·exact absurd hh e
       ·exact .inr hh
    ·intro j hj;refine hlt j ?_;simp only[List.mem_append,List.mem_cons] at hj⊢;exact hj.imp id .inr
    ·intro j oj hoj hl e he hb
     by_cases ej:j=i
     ·subst ej;rw[ho] at hoj;obtain rfl:=Option.some.inj hoj;exact getD_set_true (hdep e he hb)
     ·rw[getD_set_ne false (Ne.symm ej)] at hl;exact getD_set_true (hcl j oj hoj hl e he hb)
   unfold wpOp;simp only[ho]
   rcases guarded_ok hS hg with⟨hw,S3,e3,h3⟩|⟨hw,S3,e3,h3⟩<;>subst e3
   ·rw[if_pos hw];refine .inl ?_;obtain⟨S2,h4,h5⟩:=stepM_ok hE hF h3 I a w hS;exact h5 _ _ fun I' a' w' hS'=>next h4 hS'
   ·rw[if_neg (by rw[hw];simp)];exact next h3 (hS.undef o.dst)
theorem runIdxL_range{K:St→Option R}{r:R}:∀(os:List Oper) (k:Nat) (S:St),(∀j,os[j]?=ops[k+j]?)→(∀o∈os,okX E n o=true)→runOpsL E B ops.toList os S K=some r→runIdxL E B ops (List.range' k os.length) S K=some r
 |[],_,_,_,_,h=>h
 |o::os,k,S,hk,hms,h=>by
  have h0:ops[k]?=some o:=by simpa using(hk 0).symm
  simp only[runOpsL] at h;obtain⟨hb,h⟩:=ifT_bad h;rw[guarded_opX (hms o List.mem_cons_self) (K:=fun S'=>runOpsL E B ops.toList os S' K)] at h;obtain⟨S',h1,h2⟩:=Option.bind_eq_some_iff.1 h;have h1:opL E B ops.toList o S=some S':=opL_some.2 ⟨hb,h1⟩;simp only[List.length_cons,List.range'_succ,runIdxL,h0];exact Option.bind_eq_some_iff.2 ⟨S',h1,runIdxL_range os (k+1) S' (fun j=>by have:=hk (j+1);simpa[Nat.add_assoc,Nat.add_comm 1 j] using this) (fun x hx=>hms x (List.mem_cons_of_mem _ hx)) h2⟩
/-- a region that draws its order, a call that writes among its operations, checked -/
theorem drawOk_L(hE:TysOk P E)(hF:FnsOk P E)(hm:P.p.follows .mixedOrders=true){id:Nat}(hB:drawL E n (basesOf E ops.toList) ops=true):openR E ops.toList=true→DrawOk P E id ops:=by
 intro hl R K r Wr0 w0 S h I a w hS Q hQ;have h:ifT (openR E ops.toList) (runOpsL E (basesOf E ops.toList) ops.toList ops.toList S K) (runOps E ops.toList ops.toList S K)=some r:=h;rw[hl] at h;have h:runOpsL E (basesOf E ops.toList) ops.toList ops.toList S K=some r:=h;refine wp_region_any hm ?_;have hall:∀o∈ops.toList,okX E n o=true:=by
  intro o ho;obtain⟨i,hi,rfl⟩:=List.mem_iff_getElem.1 ho;have hi':i<ops.size:=by simpa using hi
  have:=List.all_eq_true.1 hB i (List.mem_range.2 hi');rw[Bool.and_eq_true] at this;have h2:=this.2;rw[Array.getElem?_eq_getElem hi'] at h2;have h2:=Bool.and_eq_true_iff.1 h2;exact(Bool.and_eq_true_iff.1 (by simpa using h2.1:(okX E n ops[i]&&freeB _ ops[i])=true)).1
 have h1:=runIdxL_range (n:=n) ops.toList 0 S (by simp) hall h;rw[Array.length_toList,←List.range_eq_range'] at h1;refine wpAnyL_ok hE hF hB hQ ops.size (List.range ops.size) _ (by simp) (by simp) List.pairwise_lt_range ?_ ?_ ?_ h1 (hS.grow (BelowD.refl _ _).drew)
 ·intro j hj;simp[hj]
 ·intro j hj;exact List.mem_range.1 hj
 ·intro j o ho hl;have:j<ops.size:=(Array.getElem?_eq_some_iff.1 ho).1;simp[this] at hl
end
end Go.Proofs.YthkflageghfbgaaGreatDoor.Am
/- What a printed text leans on. -/
namespace Go.Proofs.YthkflageghfbgaaGreatDoor.Am
open Go
section
variable {P : Pg} {E : Env} {L : Nat → Option LoopD}
theorem noFnsS{P:Pg}{ty:Nat→Option TyD}{sp:Nat→Nat}(h:∀t,sp t=1→FtOk P t):FnsOk P ⟨ty,fun _=>none,fun _=>none,fun _=>none,fun _=>none,sp⟩:=⟨fun g f h=>(by cases h),fun g f h=>(by cases h),fun d f h=>(by cases h),h,fun g f h=>(by cases h)⟩
theorem noFns(P:Pg)(ty:Nat→Option TyD):FnsOk P ⟨ty,fun _=>none,fun _=>none,fun _=>none,fun _=>none,fun _=>0⟩:=noFnsS fun t h=>by cases h
/-- a table with one more function -/
theorem oneFn{ty:Nat→Option TyD}{g0:Nat}{f0:FnA}{fn:Func}(h:FnOk P g0 f0)(hf:P.p.funcs[g0]?=some fn)(hn:(fn.name== "runtime.NumGoroutine")=false)(hb:fn.body.isSome=true)
  {rest:Nat→Option FnA} {ms:Nat→Option FnM} {bs:Nat→Option FnB} {il:Nat→Option (Nat×CallD)} {sp:Nat→Nat} (hr:FnsOk P ⟨ty,rest,ms,bs,il,sp⟩):FnsOk P ⟨ty,fun g=>ifEq g g0 (some f0) (rest g),ms,bs,il,sp⟩:=by
 refine⟨fun g f hg=> ?_,fun g f hg=>hr.bs g f hg,fun d gc hi=>hr.il d gc hi,hr.sp,fun g f hg=>hr.ms g f hg⟩;have hg:ifEq g g0 (some f0) (rest g)=some f:=hg
 by_cases e:g=g0
 ·rw[ifEq_pos e] at hg;obtain rfl:=Option.some.inj hg;subst e;exact⟨h,fn,hf,hn,hb⟩
 ·rw[ifEq_neg e] at hg;exact hr.fn g f hg
/-- and with one that writes into what is handed in -/
theorem oneMs{ty:Nat→Option TyD}{g0:Nat}{f0:FnM}{fn:Func}(h:FnMOk P g0 f0)(hd:nodupN (toksM 12500 f0.ps)=true)(hf:P.p.funcs[g0]?=some fn)(hn:(fn.name== "runtime.NumGoroutine")=false)(hb:fn.body.isSome=true)
  {rest:Nat→Option FnA} {ms:Nat→Option FnM} {bs:Nat→Option FnB} {il:Nat→Option (Nat×CallD)} {sp:Nat→Nat} (hr:FnsOk P ⟨ty,rest,ms,bs,il,sp⟩):FnsOk P ⟨ty,rest,fun g=>ifEq g g0 (some f0) (ms g),bs,il,sp⟩:=by
 refine⟨fun g f hg=>hr.fn g f hg,fun g f hg=>hr.bs g f hg,fun d gc hi=>hr.il d gc hi,hr.sp,fun g f hg=> ?_⟩;have hg:ifEq g g0 (some f0) (ms g)=some f:=hg
 by_cases e:g=g0
 ·rw[ifEq_pos e] at hg;obtain rfl:=Option.some.inj hg;subst e;exact⟨h,hd,fn,hf,hn,hb⟩
 ·rw[ifEq_neg e] at hg;exact hr.ms g f hg
/-- and with one that hands back a new box -/
theorem oneBs{ty:Nat→Option TyD}{g0:Nat}{f0:FnB}{fn:Func}(h:FnBOk P g0 f0)(hf:P.p.funcs[g0]?=some fn)(hn:(fn.name== "runtime.NumGoroutine")=false)(hb:fn.body.isSome=true)
  {rest:Nat→Option FnA} {ms:Nat→Option FnM} {bs:Nat→Option FnB} {il:Nat→Option (Nat×CallD)} {sp:Nat→Nat} (hr:FnsOk P ⟨ty,rest,ms,bs,il,sp⟩):FnsOk P ⟨ty,rest,ms,fun g=>ifEq g g0 (some f0) (bs g),il,sp⟩:=by
 refine⟨fun g f hg=>hr.fn g f hg,fun g f hg=> ?_,fun d gc hi=>hr.il d gc hi,hr.sp,fun g f hg=>hr.ms g f hg⟩;have hg:ifEq g g0 (some f0) (bs g)=some f:=hg
 by_cases e:g=g0
 ·rw[ifEq_pos e] at hg;obtain rfl:=Option.some.inj hg;subst e;exact⟨h,fn,hf,hn,hb⟩
 ·rw[ifEq_neg e] at hg;exact hr.bs g f hg
def noMsB(E:Env):List Oper→Bool
 |[]=>true
 |o::l=>ifT (plainB E o.dst o.op) (noMsB E l) false
theorem noMsB_spec:∀{l:List Oper},noMsB E l=true→∀o∈l,plainB E o.dst o.op=true
 |[],_,o,h=>by cases h
 |x::l,h,o,ho=>by
  obtain⟨h1,h2⟩:=ifT_both h
  rcases List.mem_cons.1 ho with rfl|ho
  ·exact h1
  ·exact noMsB_spec h2 o ho
def subLoop(n:Nat):Code→Option Code
 |.seq a b=>match subLoop n a with|some c=>some c|none=>subLoop n b
 |.cond _ a b=>match subLoop n a with|some c=>some c|none=>subLoop n b
 |.block _ b=>subLoop n b
 |.loop b=>ifEq (firstId b) n (some b) (subLoop n b)
 |_=>none
def codeOf(f:Func):Code:=match f.body with|some c=>c|none=>.skip
def loopOf(f:Func)(n:Nat):Code:=match subLoop n (codeOf f) with|some c=>c|none=>.skip
def drawnB0(E:Env)(ops:Array Oper):Bool:=ifT (ifT (drawB ops) (ifT (noMsB E ops.toList) true (ifT (lastB ops) (noMsB E ops.toList.dropLast) false)) false) true (drawX E 3 ops)
def drawnB(E:Env)(ops:Array Oper):Bool:=ifT (openR E ops.toList) (drawL E 3 (basesOf E ops.toList) ops) (drawnB0 E ops)
theorem drawnB0_ok(hE:TysOk P E)(hF:FnsOk P E)(hm:P.p.follows .mixedOrders=true){id:Nat}{ops:Array Oper}(h:drawnB0 E ops=true):DrawOk0 P E id ops:=by
 unfold drawnB0 at h;cases hb:ifT (drawB ops) (ifT (noMsB E ops.toList) true (ifT (lastB ops) (noMsB E ops.toList.dropLast) false)) false with
 |true=>
  obtain⟨h3,h4⟩:=ifT_both hb;cases e:noMsB E ops.toList with
  |true=>exact drawOk_of hE hF hm h3 (noMsB_spec e)
  |false=>
   rw[e] at h4;obtain⟨h5,h6⟩:=ifT_both h4;have hne:ops.toList≠[]:=by
    intro hh;rw[hh] at e;cases e
   exact drawOk_last hE hF hm h3 h5 (os:=ops.toList.dropLast) (ol:=ops.toList.getLast hne) (List.dropLast_concat_getLast hne).symm (noMsB_spec h6)
 |false=>
  rw[hb] at h;exact drawOk_X hE hF hm h
theorem drawnB_ok(hE:TysOk P E)(hF:FnsOk P E)(hm:P.p.follows .mixedOrders=true){id:Nat}{ops:Array Oper}(h:drawnB E ops=true):DrawOk P E id ops:=by
 unfold drawnB at h;cases hl:openR E ops.toList with
 |true=>
  rw[hl] at h;exact drawOk_L hE hF hm h hl
 |false=>
  rw[hl] at h;exact(drawnB0_ok hE hF hm h).to hl
def drawsB(E:Env):List (Nat×Array Oper)→Bool
 |[]=>true
 |p::l=>ifT (drawnB E p.2) (drawsB E l) false
theorem drawsB_ok(hE:TysOk P E)(hF:FnsOk P E)(hm:P.p.follows .mixedOrders=true):∀{l:List (Nat×Array Oper)},drawsB E l=true→∀p∈l,DrawOk P E p.1 p.2
 |[],_,p,h=>by cases h
 |q::l,h,p,hp=>by
  obtain⟨h1,h2⟩:=ifT_both h
  rcases List.mem_cons.1 hp with rfl|hp
  ·exact drawnB_ok hE hF hm h1
  ·exact drawsB_ok hE hF hm h2 p hp
/-- a code: its loops are told, its drawn regions checked -/
theorem codeOk_in(hE:TysOk P E)(hF:FnsOk P E)(hm:P.p.follows .mixedOrders=true){c:Code}{bs:List Code}(hl:loopsOf c=bs)(hb:∀b∈bs,LoopOk P L b)(hd:drawsB E (drawsOf c)=true):CodeOk P E L c:=
 codeOk_of (fun b h=>hb b (by rw[←hl];exact h)) (fun p h=>drawsB_ok hE hF hm hd p h)
theorem allNil{α:Type}{p:α→Prop}:∀b∈([]:List α),p b:=fun b h=>by cases h
theorem allCons{α:Type}{p:α→Prop}{x:α}{l:List α}(h:p x)(k:∀b∈l,p b):∀b∈x::l,p b:=List.forall_mem_cons.2 ⟨h,k⟩
end
end Go.Proofs.YthkflageghfbgaaGreatDoor.Am
/- What a claim hands in stands for data. -/
namespace Go.Proofs.YthkflageghfbgaaGreatDoor.Am
open Go Go.RowKit
/-- sizes and ranges of what is handed in -/
def Fits:(k:Kd)→k.T→Prop
 |.int ik,n=>(Lit.int ik n).wf=true
 |.str,s=>ByteArray.size s≤maxLen
 |.sl k,xs=>List.length (α:=k.T) xs≤maxLen∧∀x,List.Mem (α:=k.T) x xs→Fits k x
 |.pair a b,x=>Fits a x.1∧Fits b x.2
 |_,_=>True
def fldB(f:TypeId→Kd→Bool)(P:Pg):Nat→List Field→Kd→Bool
 |o,[],.unit=>true
 |o,[x],.pair a .unit=>Nat.beq x.offset o&&(Nat.beq (P.p.cellsOf x.type) a.size&&f x.type a)
 |o,[x],k=>Nat.beq x.offset o&&(Nat.beq (P.p.cellsOf x.type) k.size&&f x.type k)
 |o,x::y::xs,.pair a b=>Nat.beq x.offset o&&(Nat.beq (P.p.cellsOf x.type) a.size&&(f x.type a&&fldB f P (o+a.size) (y::xs) b))
 |_,_,_=>false
/-- a type reads as a kind -/
def trodB(P:Pg):Nat→TypeId→Kd→Bool
 |0,_,_=>false
 |n+1,t,k=>match P.p.underlying t with
  |some .bool=>kdB k .bool
  |some (.int ik)=>kdB k (.int ik)
  |some .string=>kdB k .str
  |some (.slice e)=>match k with
   |.sl k'=>Nat.beq (P.p.cellsOf e) k'.size&&(Nat.blt 0 k'.size&&trodB P n e k')
   |_=>false
  |some (.struct fs)=>k.isAgg&&(Nat.beq (P.p.cellsOf t) k.size&&fldB (trodB P n) P 0 fs.toList k)
  |_=>false
section
variable {H : Type} {enc : TypeId × Value → H} {P : Pg} {w : World} {base : Nat} {spare : Nat → Bool} {held : Bool}
theorem spot_none{a:Addr}{v:Value}(h:w.cell? a=some v):a=⟨a.block,a.off,none⟩:=by
 obtain⟨b,o,s⟩:=a;cases s with
 |none=>rfl
 |some x=>
  unfold World.cell? at h;simp only at h;split at h
  ·simp at h
  ·cases h
theorem flds_rep{n:Nat}(ih:∀(fuel:Nat) (t:TypeId) (k:Kd) (cs:List Value) (x:DataW H×List MemPlace),trodB P n t k=true→DataW.trod enc P w base spare held fuel t cs=some x→∃d,RepC w noWr k cs d∧Fits k d)
  (m:Nat) (cs:List Value):∀(fs:List Field) (o:Nat) (k:Kd),fldB (trodB P n) P o fs k=true→o+k.size=cs.length→
   (∀f∈fs,∃y,DataW.trod enc P w base spare held m f.type ((cs.drop f.offset).take (P.p.cellsOf f.type))=some y)→∃d,RepC w noWr k (cs.drop o) d∧Fits k d:=by
 intro fs
 induction fs with
 |nil=>
  intro o k h hl _;cases k<;>try (cases h;done)
  refine⟨(), ?_,trivial⟩;simp only[RepC];rw[List.drop_eq_nil_iff];simp only[Kd.size] at hl;omega
 |cons f fs ihf=>
  intro o k h hl hf;obtain⟨y,hy⟩:=hf f List.mem_cons_self;have last:∀k':Kd,f.offset=o→P.p.cellsOf f.type=k'.size→o+k'.size=cs.length→trodB P n f.type k'=true→∃d,RepC w noWr k' (cs.drop o) d∧Fits k' d:=by
   intro k' h1 h2 h3 h4;have:=ih m f.type k' _ y h4 hy;rw[h1,h2,List.take_of_length_le (by rw[List.length_drop];omega)] at this;exact this
  cases fs with
  |nil=>
   unfold fldB at h;split at h
   ·simp_all
   ·rename_i fld a e1;injection e1 with e1 _;subst e1;simp only[Bool.and_eq_true] at h;obtain⟨h1,h2,h3⟩:=h;obtain⟨d,g1,g2⟩:=last a (Nat.eq_of_beq_eq_true h1) (Nat.eq_of_beq_eq_true h2) (by simpa[Kd.size] using hl) h3;refine⟨(d,()), ?_,g2,trivial⟩;simp only[RepC];exact⟨_,[],by simp,g1,rfl⟩
   ·rename_i fld e1 hne;injection e1 with e1 _;subst e1;simp only[Bool.and_eq_true] at h;obtain⟨h1,h2,h3⟩:=h;exact last _ (Nat.eq_of_beq_eq_true h1) (Nat.eq_of_beq_eq_true h2) hl h3
   ·rename_i e1;simp at e1
   ·cases h
  |cons g fs=>
   cases k<;>try (simp[fldB] at h;done)
   rename_i a b;simp only[fldB,Bool.and_eq_true] at h;obtain⟨h1,h2,h3,h4⟩:=h;have h1:=Nat.eq_of_beq_eq_true h1;have h2:=Nat.eq_of_beq_eq_true h2;simp only[Kd.size] at hl;obtain⟨d2,g1,g2⟩:=ihf (o+a.size) b h4 (by omega) (fun f hf'=>hf f (List.mem_cons_of_mem _ hf'));obtain⟨d1,g3,g4⟩:=ih m f.type a _ y h3 hy;rw[h1,h2] at g3;refine⟨(d1,d2), ?_,g4,g2⟩;simp only[RepC];refine⟨_,_, ?_,g3,g1⟩;rw[←List.drop_drop,List.take_append_drop]
theorem trod_rep:∀(n:Nat) (fuel:Nat) (t:TypeId) (k:Kd) (cs:List Value) (x:DataW H×List MemPlace),trodB P n t k=true→DataW.trod enc P w base spare held fuel t cs=some x→∃d,RepC w noWr k cs d∧Fits k d:=by
 intro n
 induction n with
 |zero=>intro fuel t k cs x h;cases h
 |succ n ih=>
  intro fuel t k cs x h hx;unfold trodB at h;split at h
  ·rename_i hu;obtain rfl:=of_decide_eq_true h;obtain⟨b,rfl,_⟩:=DataW.trod_bool hu hx;exact⟨b,rfl,trivial⟩
  ·rename_i ik hu;obtain rfl:=of_decide_eq_true h;obtain⟨m,rfl,_,hw⟩:=DataW.trod_int hu hx;exact⟨m,rfl,hw⟩
  ·rename_i hu;obtain rfl:=of_decide_eq_true h;obtain⟨s,rfl,_,hs⟩:=DataW.trod_string hu hx;exact⟨s,rfl,hs⟩
  ·rename_i e hu;split at h
   ·rename_i k';simp only[Bool.and_eq_true] at h;obtain⟨h1,h2,h3⟩:=h;have h1:=Nat.eq_of_beq_eq_true h1;have h2:0<k'.size:=by rw[Nat.blt_eq] at h2;exact h2
    rcases DataW.trod_slice hu hx with⟨rfl,_⟩|⟨a,len,cap,elems,rest,m,_,rfl,_,hb,hl,hm,hlen,hel,_⟩
    ·refine⟨[], ?_,Nat.zero_le _,fun x hx=>by cases hx⟩;simp only[RepC];exact⟨none,0,rfl,Nat.le_refl _,.inl trivial⟩
    ·have hall:∀i,i<len→∃d:k'.T,(∃cs',w.cells? base (a.add (i*k'.size)) k'.size=some cs'∧RepC w noWr k' cs' d)∧Fits k' d:=by
      intro i hi;have:=hel i hi;rw[h1] at this;have hlt:i<elems.length:=by omega
      rw[List.getElem?_eq_getElem hlt] at this;obtain⟨cs',g1,g2⟩:=Option.bind_eq_some_iff.1 this;obtain⟨d,g3,g4⟩:=ih m e k' cs' _ h3 g2;exact⟨d,⟨cs',g1,g3⟩,g4⟩
     obtain⟨xs,hxl,hxs⟩:=exists_list len hall;refine⟨xs, ?_, ?_, ?_⟩
     ·simp only[RepC];refine⟨some a,cap,by rw[show List.length (α:=k'.T) xs=len from hxl],by rw[show List.length (α:=k'.T) xs=len from hxl];exact hl, ?_⟩
      by_cases h0:len=0
      ·left;exact List.length_eq_zero_iff.1 (by rw[hxl];exact h0)
      ·right;have hspot:a=⟨a.block,a.off,none⟩:=by
        obtain⟨⟨cs',g1,g2c⟩,_⟩:=hxs 0 (by omega);rw[Nat.zero_mul] at g1;have:=(World.cells?_some g1).2.2 0 h2;have e0:(a.add 0).add 0=a:=by simp[Addr.add]
        rw[e0] at this;have hc0:0<cs'.length:=by rw[g2c.length];exact h2
        rw[List.getElem?_eq_getElem hc0] at this;exact spot_none this
       have hadd:∀i,a.add i=⟨a.block,a.off+i,none⟩:=by
        intro i;rw[hspot];exact add_none _ _ _
       refine⟨a.block,a.off,by rw[←hspot],fun i hi=> ?_⟩;have hi':i<xs.length:=hi;obtain⟨⟨cs',g1,g2⟩,_⟩:=hxs i hi';refine⟨cs',g2,fun j hj=>⟨?_,fun hh=>hh⟩⟩;have hcl:=(World.cells?_some g1);have hj':j<k'.size:=by rw[←g2.length];exact hj
       have:=hcl.2.2 j hj';rw[hadd] at this;rw[add_none] at this;rw[this];simp[hj]
     ·show xs.length≤maxLen;omega
     ·intro d hd;have hd:d∈xs:=hd;obtain⟨i,hi,rfl⟩:=List.getElem_of_mem hd;exact(hxs i hi).2
   ·cases h
  ·rename_i fs hu;simp only[Bool.and_eq_true] at h;obtain⟨h1,h2,h3⟩:=h;have h2:=Nat.eq_of_beq_eq_true h2;obtain⟨xs,m,_,_,hcl,hxl,hf⟩:=DataW.trod_struct hu hx;have:=flds_rep ih m cs fs.toList 0 k h3 (by omega) (fun f hf'=>by
    obtain⟨i,hi⟩:=List.getElem?_of_mem hf';rw[Array.getElem?_toList] at hi;have hlt:=(Array.getElem?_eq_some_iff.1 hi).1;exact⟨xs[i]'(by omega),by rw[hf i f hi,List.getElem?_eq_getElem (by omega)]⟩)
   rw[List.drop_zero] at this;exact this
  ·cases h
/-- an argument -/
theorem trod_repV{n:Nat}{t:TypeId}{k:Kd}(hB:trodB P n t k=true){r:Reach}{b0:Nat}{v:Value}(hv:Value.okWide P w r b0 t v){d:DataW H}{ps:List MemPlace}(h:DataW.Trod enc P w base spare held t v d ps):
  ∃x,RepV w noWr k x v∧Fits k x:=by
 obtain⟨fuel,hf⟩:=h;obtain⟨x,h1,h2⟩:=trod_rep n fuel t k _ _ hB hf;refine⟨x,⟨_,h1, ?_⟩,h2⟩;have hlen:=h1.length;cases n with
 |zero=>cases hB
 |succ n=>
  unfold mkV;cases hk:k.isAgg with
  |true=>
   simp only[if_true];unfold trodB at hB;unfold Value.okWide at hv;split at hB
   ·obtain rfl:=of_decide_eq_true hB;cases hk
   ·obtain rfl:=of_decide_eq_true hB;cases hk
   ·obtain rfl:=of_decide_eq_true hB;cases hk
   ·split at hB
    ·cases hk
    ·cases hB
   ·rename_i fs hu;rw[hu] at hv;obtain⟨cs,rfl,_⟩:=hv;rfl
   ·cases hB
  |false=>
   simp only[Bool.false_eq_true,if_false];have hsz:k.size=1:=by cases k<;>first|rfl|cases hk
   cases v<;>try rfl
   rename_i cs;exfalso;unfold trodB at hB;unfold Value.okWide at hv;split at hB
   ·rename_i hu;rw[hu] at hv;simp[Cell.okWide,Cell.ok,hu] at hv
   ·rename_i hu;rw[hu] at hv;simp[Cell.okWide,Cell.ok,hu] at hv
   ·rename_i hu;rw[hu] at hv;simp[Cell.okWide,Cell.ok,hu] at hv
   ·rename_i hu;rw[hu] at hv;simp[Cell.okWide,Cell.ok,hu] at hv
   ·simp only[Bool.and_eq_true] at hB;rw[hk] at hB;simp at hB
   ·cases hB
end
end Go.Proofs.YthkflageghfbgaaGreatDoor.Am
