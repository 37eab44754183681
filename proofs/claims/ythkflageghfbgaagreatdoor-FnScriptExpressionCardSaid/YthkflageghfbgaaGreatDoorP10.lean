import Derived.Test.YthkflageghfbgaaGreatDoorP0
set_option linter.unusedVariables false
set_option linter.unusedSimpArgs false
/- Comparisons of two automata over the short words: both sides tell the same. -/
namespace Go.Proofs.YthkflageghfbgaaGreatDoor
open Go Go.Proofs.YthkflageghfbgaaGreatDoor.Am
/-- the cost of a word -/
noncomputable def cst(a:Aut)(w:ByteArray):Int:=(impl_CostOf a w).getD (-1)
theorem small_len{a:Aut}(hs:Small a):a.2.1.length≤9223372036854775807∧a.2.2.1.length≤9223372036854775807:=⟨by have:=hs.1;omega,by have:=hs.2.1;omega⟩
def shortN(n:Int):Bool:=decide (0≤n∧n≤7)
/-- the words and whether they are asked rightly -/
noncomputable def words(n:Int):List ByteArray:=if shortN n=true then(gen n.toNat).1 else[]
/-- a loop that looks for an index -/
theorem loop_find{σ ρ:Type}{f:σ→Option (σ⊕ρ)}(st:Nat→σ)(n:Nat)(p:Nat→Bool)(out:Nat→ρ)(last:ρ)(hs:∀i,i<n→f (st i)=some (if p i=true then .inr (out i) else .inl (st (i+1))))(he:f (st n)=some (.inr last)):
  loopF f (st 0)=some (match(List.range n).find? p with|some i=>out i|none=>last):=by
 have key:∀k i,i+k=n→loopF f (st i)=some (match(List.range' i k).find? p with|some i=>out i|none=>last):=by
  intro k
  induction k with
  |zero=>
   intro i hi;rw[loopF_eq];obtain rfl:i=n:=by omega
   rw[he];rfl
  |succ k ih=>
   intro i hi;rw[loopF_eq,hs i (by omega)];rw[List.range'_succ,List.find?_cons];cases hp:p i with
   |true=>simp
   |false=>
    simp only[Bool.false_eq_true,if_false,Option.bind_some];exact ih (i+1) (by omega)
 rw[List.range_eq_range'];exact key n 0 (by omega)
section two
variable {a b : Aut} (sa : Small a) (sb : Small b) (n : Int)
noncomputable abbrev wd(n:Int)(i:Nat):ByteArray:=(words n).getD i be0
include sa sb
end two
end Go.Proofs.YthkflageghfbgaaGreatDoor

/- The first word that costs more, and the same costs. -/
namespace Go.Proofs.YthkflageghfbgaaGreatDoor
open Go Go.Proofs.YthkflageghfbgaaGreatDoor.Am
end Go.Proofs.YthkflageghfbgaaGreatDoor

/- Factors of words: how many a word is made of. -/
namespace Go.Proofs.YthkflageghfbgaaGreatDoor
open Go Go.Proofs.YthkflageghfbgaaGreatDoor.Am
/-- the cost of a list of letters -/
noncomputable def cl(a:Aut)(ws:List UInt8):Int:=cst a ⟨ws.toArray⟩
noncomputable def acc(a:Aut)(ws:List UInt8):Bool:=decide (cl a ws<Nv)
def Fac(a:Aut)(fs:List (List UInt8)):Prop:=∀f∈fs,f≠[]∧acc a f=true
/-- the least number of factors -/
def CntIs(a:Aut)(ws:List UInt8)(r:Int):Prop:=(0≤r∧r≤Nv)∧∀z,z≤r↔z≤Nv∧∀fs,Fac a fs→fs.flatten=ws→z≤(fs.length:Int)
theorem CntIs.same{a:Aut}{ws:List UInt8}{r r':Int}(h:CntIs a ws r)(h':CntIs a ws r'):r=r':=eq_of_le_iff fun z=>(h.2 z).trans (h'.2 z).symm
theorem Fac.nil{a:Aut}{fs:List (List UInt8)}(h:Fac a fs)(hf:fs.flatten=[]):fs=[]:=by
 cases fs with
 |nil=>rfl
 |cons f fs=>
  rw[List.flatten_cons,List.append_eq_nil_iff] at hf;exact absurd hf.1 (h f List.mem_cons_self).1
theorem CntIs.nil(a:Aut):CntIs a [] 0:=by
 refine⟨⟨by decide,by decide⟩,fun z=>⟨fun h=>⟨by simp only[Nv];omega,fun fs hf he=> ?_⟩,fun h=> ?_⟩⟩
 ·omega
 ·exact h.2 [] (fun f hf=>by cases hf) rfl
/-- a last factor -/
theorem CntIs.last{a:Aut}{ws:List UInt8}{e:Nat}(he:0<e)(hle:e≤ws.length){o:List Int}(ho:∀t,t<e→CntIs a (ws.take t) (o.getD t 0)){r:Int}(h0:0≤r∧r≤Nv)
  (hr:∀z,z≤r↔z≤Nv∧∀t,t<e→acc a ((ws.drop t).take (e-t))=true→z≤o.getD t 0+1):CntIs a (ws.take e) r:=by
 refine⟨h0,fun z=> ?_⟩;rw[hr z];refine and_congr_right fun hz=> ?_;constructor
 ·intro h fs hf hfl
  rcases List.eq_nil_or_concat fs with rfl|⟨gs,g,rfl⟩
  ·exfalso;rw[List.flatten_nil] at hfl;have:=congrArg List.length hfl;rw[List.length_nil,List.length_take] at this;omega
  ·rw[List.concat_eq_append] at*
   have hg:=hf g (List.mem_append_right _ (List.mem_singleton.2 rfl));have hfl':gs.flatten++g=ws.take e:=by rw[←hfl];simp
   have hlen:=congrArg List.length hfl';rw[List.length_append,List.length_take] at hlen;have hgp:0<g.length:=List.length_pos_iff.2 hg.1;have ht:gs.flatten.length<e:=by omega
   have e1:gs.flatten=ws.take gs.flatten.length:=by
    have:=congrArg (List.take gs.flatten.length) hfl';rw[List.take_left,List.take_take,Nat.min_eq_left (by omega)] at this;exact this
   have e2:g=(ws.drop gs.flatten.length).take (e-gs.flatten.length):=by
    have:=congrArg (List.drop gs.flatten.length) hfl';rw[List.drop_left,List.drop_take] at this;exact this
   have h1:=h _ ht (by rw[←e2];exact hg.2);have h2:=((ho _ ht).2 (z-1)).1 (by omega);have h3:=h2.2 gs (fun f hf'=>hf f (List.mem_append_left _ hf')) e1;rw[List.length_append,List.length_singleton];omega
 ·intro h t ht hacc;have:z-1≤o.getD t 0:=by
   rw[(ho t ht).2];refine⟨by omega,fun fs hf hfl=> ?_⟩;have:=h (fs++[(ws.drop t).take (e-t)]) (fun f hf'=> ?_) ?_
   ·rw[List.length_append,List.length_singleton] at this;omega
   ·rcases List.mem_append.1 hf' with hf'|hf'
    ·exact hf f hf'
    ·rw[List.mem_singleton] at hf';subst hf';refine⟨fun hn=> ?_,hacc⟩;have:=congrArg List.length hn;rw[List.length_take,List.length_drop,List.length_nil] at this;omega
   ·rw[List.flatten_append,hfl];simp only[List.flatten_cons,List.flatten_nil,List.append_nil];have:=List.take_append_drop t (ws.take e);rw[List.take_take,Nat.min_eq_left (by omega),List.drop_take] at this;exact this
  omega
/-- a first factor -/
theorem CntIs.first{a:Aut}{ws:List UInt8}(hne:ws≠[]){o:Nat→Int}(ho:∀t,0<t→t≤ws.length→CntIs a (ws.drop t) (o t)){r:Int}(h0:0≤r∧r≤Nv)
  (hr:∀z,z≤r↔z≤Nv∧∀t,0<t→t≤ws.length→acc a (ws.take t)=true→z≤o t+1):CntIs a ws r:=by
 refine⟨h0,fun z=> ?_⟩;rw[hr z];refine and_congr_right fun hz=> ?_;constructor
 ·intro h fs hf hfl;cases fs with
  |nil=>exact absurd hfl.symm hne
  |cons g gs=>
   have hg:=hf g List.mem_cons_self;rw[List.flatten_cons] at hfl;have hlen:=congrArg List.length hfl;rw[List.length_append] at hlen;have hgp:0<g.length:=List.length_pos_iff.2 hg.1;have e1:g=ws.take g.length:=by rw[←hfl,List.take_left]
   have e2:gs.flatten=ws.drop g.length:=by rw[←hfl,List.drop_left]
   have h1:=h g.length hgp (by omega) (by rw[←e1];exact hg.2);have h2:=((ho g.length hgp (by omega)).2 (z-1)).1 (by omega);have h3:=h2.2 gs (fun f hf'=>hf f (List.mem_cons_of_mem _ hf')) e2;rw[List.length_cons];omega
 ·intro h t ht hle hacc;have:z-1≤o t:=by
   rw[(ho t ht hle).2];refine⟨by omega,fun fs hf hfl=> ?_⟩;have:=h (ws.take t::fs) (fun f hf'=> ?_) ?_
   ·rw[List.length_cons] at this;omega
   ·rcases List.mem_cons.1 hf' with rfl|hf'
    ·refine⟨fun hn=> ?_,hacc⟩;have:=congrArg List.length hn;rw[List.length_take,List.length_nil] at this;omega
    ·exact hf f hf'
   ·rw[List.flatten_cons,hfl,List.take_append_drop]
  omega
end Go.Proofs.YthkflageghfbgaaGreatDoor

/- The number of factors: both sides tell the same; the hardest word. -/
namespace Go.Proofs.YthkflageghfbgaaGreatDoor
open Go Go.Proofs.YthkflageghfbgaaGreatDoor.Am
end Go.Proofs.YthkflageghfbgaaGreatDoor

/- Splits of words, the spec's way; the number of factors and the hardest word: both sides tell the same. -/
namespace Go.Proofs.YthkflageghfbgaaGreatDoor
open Go Go.Proofs.YthkflageghfbgaaGreatDoor.Am
end Go.Proofs.YthkflageghfbgaaGreatDoor

/- The hardest word and the most factors; the laws' frames. -/
namespace Go.Proofs.YthkflageghfbgaaGreatDoor
open Go Go.Proofs.YthkflageghfbgaaGreatDoor.Am
end Go.Proofs.YthkflageghfbgaaGreatDoor

/- Marks: what is written into lists and read back. -/
namespace Go.Proofs.YthkflageghfbgaaGreatDoor
open Go Go.Proofs.YthkflageghfbgaaGreatDoor.Am
end Go.Proofs.YthkflageghfbgaaGreatDoor

/- Tables of costs and what they count; their laws' frames. -/
namespace Go.Proofs.YthkflageghfbgaaGreatDoor
open Go Go.Proofs.YthkflageghfbgaaGreatDoor.Am
/-! ### counts -/
end Go.Proofs.YthkflageghfbgaaGreatDoor

/- The least costs of each number of letters. -/
namespace Go.Proofs.YthkflageghfbgaaGreatDoor
open Go Go.Proofs.YthkflageghfbgaaGreatDoor.Am
/-! ### all words are there -/
/-! ### runs of any word -/
/-! ### byLength -/
end Go.Proofs.YthkflageghfbgaaGreatDoor
