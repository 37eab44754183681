/- Expressions: their texts and their parts; where an expression ends. -/
import Derived.Test.YthkflageghfbgaaGreatDoorP30
set_option linter.unusedVariables false
set_option linter.unusedSimpArgs false
namespace Go.Proofs.YthkflageghfbgaaGreatDoor
open Go Go.Proofs.YthkflageghfbgaaGreatDoor.Am
/-! ### texts as lists of bytes -/
def B(l:List UInt8):ByteArray:=⟨⟨l⟩⟩
theorem B_size(l:List UInt8):(B l).size=l.length:=rfl
theorem B_toList(l:List UInt8):(B l).toList=l:=by rw[toList_bytes];rfl
theorem B_of(w:ByteArray):B w.data.toList=w:=by cases w;simp[B]
theorem B_extract(l:List UInt8)(i j:Nat):(B l).extract i j=B ((l.drop i).take (j-i)):=by
 have h:((B l).extract i j).data.toList=(l.drop i).take (j-i):=by
  rw[ByteArray.data_extract,Array.toList_extract,List.extract_eq_take_drop];rfl
 rw[←B_of ((B l).extract i j)];exact congrArg B h
theorem B_app(a b:List UInt8):B a++B b=B (a++b):=by
 rw[←B_of (B a++B b)];simp[B]
theorem B_at(l:List UInt8)(i:Nat):Array.getD (B l).data i 0=l.getD i 0:=by
 simp[B,Array.getD_eq_getD_getElem?,List.getD_eq_getElem?_getD]
theorem B_nil:(⟨#[]⟩:ByteArray).toList=[]:=by rw[toList_bytes]
theorem B_ne(c:UInt8)(l:List UInt8):((B (c::l)).toList==(⟨#[]⟩:ByteArray).toList)=false:=by rw[B_toList,B_nil];rfl
theorem B_eq:((B []).toList==(⟨#[]⟩:ByteArray).toList)=true:=by rw[B_toList,B_nil];rfl
abbrev Pts:=List (ByteArray×PT)
/-! ### forests -/
inductive Fo:List UInt8→Pts→Prop
 |nil:Fo [] []
 |lt {c:UInt8} {t:List UInt8} {l:Pts}:(c=97∨c=98)→Fo t l→Fo (c::t) ((B [c],PT.mk [])::l)
 |rp {t1 t2:List UInt8} {l1 l2:Pts}:Fo t1 l1→l1≠[]→Fo t2 l2→Fo (40::(t1++41::35::t2)) ((B [],PT.mk l1)::l2)
theorem Fo.app{t t':List UInt8}{l l':Pts}(h:Fo t l)(h':Fo t' l'):Fo (t++t') (l++l'):=by
 induction h with
 |nil=>exact h'
 |lt hc _ ih=>exact .lt hc ih
 |rp h1 hn _ _ ih=>
  have:=Fo.rp h1 hn ih;simpa using this
theorem Fo.ne{t:List UInt8}{l:Pts}(h:Fo t l)(hl:l≠[]):t≠[]:=by
 cases h with
 |nil=>exact absurd rfl hl
 |lt _ _=>simp
 |rp _ _ _=>simp
theorem Fo.len{t:List UInt8}{l:Pts}(h:Fo t l):l.length≤t.length:=by
 induction h with
 |nil=>simp
 |lt _ _ ih=>simp;omega
 |rp _ _ _ _ ih=>simp;omega
/-! ### the program's parts -/
def Stops(r:List UInt8):Prop:=r=[]∨∃r',r=41::r'
abbrev Rec:=ByteArray→Option (Pts×ByteArray)
section
variable (φ : Rec) (ac : Pts) (s : List UInt8)
theorem rp_put(ha:ac.length≤1000)(x:ByteArray×PT):0+ac.length=ac.length∧(ac.length+(List.take 1 (List.drop 0 [x])).length)*40≤140737488355328:=by
 refine⟨by omega, ?_⟩;have:(List.take 1 (List.drop 0 [x])).length=1:=rfl;omega
theorem rp_take(x:ByteArray×PT):List.take (ac.length+(List.take 1 (List.drop 0 [x])).length) (List.drop 0 (List.drop 0 ac++List.take 1 (List.drop 0 [x])))=ac++[x]:=List.take_of_length_le (by simp)
theorem rp_a(ha:ac.length≤1000):impl_readParts_l2 φ (B (97::s),ac,())=some (.inl (B s,ac++[(B [97],PT.mk [])],())):=by
 have h1:(0:Int)≤1∧(1:Int)≤(((B (97::s)).size:Nat):Int):=by rw[B_size,List.length_cons];omega
 have h0:(0:Int)≤0∧(0:Int)<(((B (97::s)).size:Nat):Int):=by rw[B_size,List.length_cons];omega
 simp only[impl_readParts_l2,B_ne,Bool.not_false,cond_true,if_pos h0,if_pos h1,B_at,show Int.toNat 0=0 from rfl,show Int.toNat 1=1 from rfl,List.getD_cons_zero,show((((97:UInt8).toNat:Nat):Int)==97)=true from rfl,B_extract];rw[if_pos (rp_put ac ha _),rp_take];simp[B_size]
theorem rp_b(ha:ac.length≤1000):impl_readParts_l2 φ (B (98::s),ac,())=some (.inl (B s,ac++[(B [98],PT.mk [])],())):=by
 have h1:(0:Int)≤1∧(1:Int)≤(((B (98::s)).size:Nat):Int):=by rw[B_size,List.length_cons];omega
 have h0:(0:Int)≤0∧(0:Int)<(((B (98::s)).size:Nat):Int):=by rw[B_size,List.length_cons];omega
 simp only[impl_readParts_l2,B_ne,Bool.not_false,cond_true,if_pos h0,if_pos h1,B_at,show Int.toNat 0=0 from rfl,show Int.toNat 1=1 from rfl,List.getD_cons_zero,show((((98:UInt8).toNat:Nat):Int)==97)=false from rfl,show((((98:UInt8).toNat:Nat):Int)==98)=true from rfl,cond_false,B_extract];rw[if_pos (rp_put ac ha _),rp_take];simp[B_size]
theorem hasPrefix_is:strings_HasPrefix (B (41::35::s)) (⟨#[(41:UInt8),(35:UInt8)]⟩:ByteArray)=some true:=by
 have e:(⟨#[(41:UInt8),(35:UInt8)]⟩:ByteArray)=B [41,35]:=rfl;rw[e];have h1:(((B (41::35::s)).size:Nat):Int)≥(((B [41,35]).size:Nat):Int):=by simp only[B_size,List.length_cons,List.length_nil];omega
 simp only[strings_HasPrefix,internal_stringslite_HasPrefix,decide_eq_true h1,cond_true];rw[if_pos ⟨by omega,by omega⟩,B_extract];simp only[Option.bind_some,B_toList];rfl
theorem rp_open(ha:ac.length≤1000){l1:Pts}{s2:List UInt8}(hl:l1≠[])(hφ:φ (B s)=some (l1,B (41::35::s2))):impl_readParts_l2 φ (B (40::s),ac,())=some (.inl (B s2,ac++[(B [],PT.mk l1)],())):=by
 have h1:(0:Int)≤1∧(1:Int)≤(((B (40::s)).size:Nat):Int):=by rw[B_size,List.length_cons];omega
 have h0:(0:Int)≤0∧(0:Int)<(((B (40::s)).size:Nat):Int):=by rw[B_size,List.length_cons];omega
 have h2:(0:Int)≤2∧(2:Int)≤(((B (41::35::s2)).size:Nat):Int):=by rw[B_size,List.length_cons,List.length_cons];omega
 have hl':0<l1.length:=List.length_pos_iff.2 hl;have e1:(B (40::s)).extract 1 (B (40::s)).size=B s:=by rw[B_extract];simp[B_size]
 have e2:(B (41::35::s2)).extract 2 (B (41::35::s2)).size=B s2:=by rw[B_extract];simp[B_size]
 simp only[impl_readParts_l2,B_ne,Bool.not_false,cond_true,if_pos h0,if_pos h1,B_at,show Int.toNat 0=0 from rfl,show Int.toNat 1=1 from rfl,show Int.toNat 2=2 from rfl,List.getD_cons_zero,show((((40:UInt8).toNat:Nat):Int)==97)=false from rfl,show((((40:UInt8).toNat:Nat):Int)==98)=false from rfl,show((((40:UInt8).toNat:Nat):Int)==40)=true from rfl,cond_false,e1,hφ,Option.bind_some,decide_eq_true (show((l1.length:Nat):Int)>0 by omega),hasPrefix_is,if_pos h2,e2];rw[if_pos (rp_put ac ha _),rp_take];simp only[List.drop_zero,List.take_length];rfl
theorem rp_close:impl_readParts_l2 φ (B (41::s),ac,())=some (.inr (.inl (ac,B (41::s),()))):=by
 have h0:(0:Int)≤0∧(0:Int)<(((B (41::s)).size:Nat):Int):=by rw[B_size,List.length_cons];omega
 simp only[impl_readParts_l2,B_ne,Bool.not_false,cond_true,if_pos h0,B_at,show Int.toNat 0=0 from rfl,List.getD_cons_zero,show((((41:UInt8).toNat:Nat):Int)==97)=false from rfl,show((((41:UInt8).toNat:Nat):Int)==98)=false from rfl,show((((41:UInt8).toNat:Nat):Int)==40)=false from rfl,cond_false,List.drop_zero,List.take_length]
theorem rp_nil:impl_readParts_l2 φ (B [],ac,())=some (.inr (.inr (B [],ac,()))):=by
 simp only[impl_readParts_l2,B_eq,Bool.not_true,cond_false,List.drop_zero,List.take_length]
end
theorem rp_loop{φ:Rec}{N:Nat}(hφ:∀{t1:List UInt8} {l1:Pts} (r:List UInt8),Fo t1 l1→t1.length<N→t1.length+r.length≤998→φ (B (t1++41::r))=some (l1,B (41::r))):
  ∀{t:List UInt8} {l:Pts},Fo t l→t.length≤N→∀(r:List UInt8) (ac:Pts),t.length+r.length≤999→ac.length+t.length≤1000→loopF (impl_readParts_l2 φ) (B (t++r),ac,())=loopF (impl_readParts_l2 φ) (B r,ac++l,()):=by
 intro t l h
 induction h with
 |nil=>intro _ r ac _ _;simp
 |@lt c t l hc _ ih=>
  intro hN r ac h1 h2;simp only[List.length_cons] at hN h1 h2;have ih:=ih (by omega) r (ac++[(B [c],PT.mk [])]) (by omega) (by simp;omega);rw[List.append_assoc] at ih;rw[show ac++(B [c],PT.mk [])::l=ac++([(B [c],PT.mk [])]++l) from rfl,←ih,loopF_eq]
  rcases hc with rfl|rfl
  ·rw[List.cons_append,rp_a φ ac _ (by omega)];rfl
  ·rw[List.cons_append,rp_b φ ac _ (by omega)];rfl
 |@rp t1 t2 l1 l2 g1 hn _ _ ih=>
  intro hN r ac h1 h2;simp only[List.length_cons,List.length_append] at hN h1 h2;have ih:=ih (by omega) r (ac++[(B [],PT.mk l1)]) (by omega) (by simp;omega);rw[List.append_assoc] at ih;rw[show ac++(B [],PT.mk l1)::l2=ac++([(B [],PT.mk l1)]++l2) from rfl,←ih,loopF_eq];have e:=hφ (35::(t2++r)) g1 (by omega) (by simp only[List.length_cons,List.length_append];omega);rw[show(40::(t1++41::35::t2))++r=40::(t1++41::35::(t2++r)) by simp,rp_open φ ac _ (by omega) hn e];rfl
theorem readParts_is:∀(N:Nat) {t:List UInt8} {l:Pts},Fo t l→t.length<N→∀r:List UInt8,Stops r→t.length+r.length≤999→impl_readParts_fuel N (B (t++r))=some (l,B r)
 |0,t,l,h,hN,_,_,_=>absurd hN (by omega)
 |N+1,t,l,h,hN,r,hr,hs=>by
  show impl_readParts_step (impl_readParts_fuel N) (B (t++r))=_;have e:=rp_loop (φ:=impl_readParts_fuel N) (N:=N) (fun{t1 l1} r h1 h2 h3=>readParts_is N h1 h2 (41::r) (.inr ⟨r,rfl⟩) (by simp only[List.length_cons];omega)) h (by omega) r [] hs (by simp;omega);unfold impl_readParts_step;rw[show List.take 0 (List.drop 0 [])=([]:Pts) from rfl,e,List.nil_append,loopF_eq]
  rcases hr with rfl|⟨r',rfl⟩
  ·rw[rp_nil];simp
  ·rw[rp_close];simp
theorem parts_is{t:List UInt8}{l:Pts}(h:Fo t l)(hl:l≠[])(h120:t.length≤120):impl_parts (B t)=some (l,true):=by
 have e:=readParts_is 200 h (by omega) [] (.inl rfl) (by simp;omega);rw[List.append_nil] at e;have e:impl_readParts (B t)=some (l,B []):=e;have hl':0<l.length:=List.length_pos_iff.2 hl;unfold impl_parts;rw[B_size,decide_eq_false (show ¬((t.length:Nat):Int)>120 by omega),cond_false,e];simp only[Option.bind_some,decide_eq_true (show((l.length:Nat):Int)>0 by omega),cond_true,B_eq,List.drop_zero,List.take_length]
end Go.Proofs.YthkflageghfbgaaGreatDoor
