/- Texts put together by the library: what its own text does, told as the machine wants it. -/
import Derived.Test.YthkflageghfbgaaGreatDoorAm3
import Derived.Test.YthkflageghfbgaaGreatDoorProg
import Derived.Test.YthkflageghfbgaaGreatDoorShelf
import Derived.Shelf.Strings.Repeat
import Derived.Shelf.Strings.OnBuilder
import Derived.Shelf.Strconv.Itoa3
import Derived.Lib.AppendIntMem
import Derived.Shelf.Strings.SplitShaped
import Derived.Shelf.Strings.Cut
import Derived.Shelf.Strconv.Atoi
set_option linter.unusedVariables false
set_option linter.unusedSimpArgs false
namespace Go.Proofs.YthkflageghfbgaaGreatDoor
open Go Go.RowKit Go.Proofs.YthkflageghfbgaaGreatDoor.Am
theorem extra_105:Builder.Extra Tryz.prog Tryz.laysRepeat_ren where
 sizeBuilder:=by kernel_rfl
 liesBuilder:=by kernel_rfl
 t5:=Tryz.underlying5
 a5:=Tryz.isAgg5
 z5:=Tryz.sizeOf5
 v5:=Tryz.zeroValue5
 infoByte:=by kernel_rfl
 cellsByte:=by kernel_rfl
 sizeByte:=by kernel_rfl
 neB5:=by decide
def repS(a:ByteArray)(c:Int):Option ByteArray:=
 if 0≤c∧a.size*c.toNat≤140737488355328∧c≤9223372036854775807 then some ⟨(Lib.repeatL a.data.toList c.toNat).toArray⟩ else none
noncomputable def strings_Repeat(a:ByteArray)(c:Int):Option ByteArray:=repS a c
noncomputable def A67:FnA:=⟨[.v .str,.v (.int .i64)],true,[.str],fun x=>strings_Repeat x.1 x.2.1⟩
theorem A67_ok:FnOk Tryz.prog 67 A67:=by
 rintro⟨a,c,_⟩ r hr w Wr vs hW hp;simp only[A67,RepPs] at hp;obtain⟨v,us,rfl,⟨cs,h1,rfl⟩,v2,us2,rfl,⟨cs2,h2,rfl⟩,rfl⟩:=hp;simp only[RepC] at h1 h2;subst h1 h2;have hr:repS a c=some r:=hr;unfold repS at hr;split at hr
 case isFalse=>cases hr
 rename_i hc;obtain rfl:=Option.some.inj hr;have e:((c.toNat:Nat):Int)=c:=by omega
 have h:=Any.strings_Repeat Tryz.laysRepeat extra_105 a c.toNat w (by omega) hc.2.1;rw[e] at h;refine h.mono ?_;rintro e' w' ⟨rfl,hb⟩;refine⟨[.string ⟨(Lib.repeatL a.data.toList c.toNat).toArray⟩],rfl,BelowD.of hb (fun h=>by cases h), ?_⟩;show ∃bs,_;refine⟨[], ?_,List.nodup_nil,fun b hb=>by cases hb⟩;simp only[A67,OwnOuts];exact⟨_,rfl,[.string ⟨(Lib.repeatL a.data.toList c.toNat).toArray⟩],⟨rfl,rfl⟩,rfl⟩
theorem extra_156:Builder.Extra Tryz.prog Tryz.laysJoin_ren where
 sizeBuilder:=by kernel_rfl
 liesBuilder:=by kernel_rfl
 t5:=Tryz.underlying5
 a5:=Tryz.isAgg5
 z5:=Tryz.sizeOf5
 v5:=Tryz.zeroValue5
 infoByte:=by kernel_rfl
 cellsByte:=by kernel_rfl
 sizeByte:=by kernel_rfl
 neB5:=by decide
def joinS(xs:List ByteArray)(s:ByteArray):Option ByteArray:=
 if xs.length≤140737488355328∧(Lib.join (xs.map (·.data.toList)) s.data.toList).length≤140737488355328 then some ⟨(Lib.join (xs.map (·.data.toList)) s.data.toList).toArray⟩ else none
noncomputable def strings_Join(xs:List ByteArray)(s:ByteArray):Option ByteArray:=joinS xs s
noncomputable def A32:FnA:=⟨[.v (.sl .str),.v .str],true,[.str],fun x=>strings_Join x.1 x.2.1⟩
theorem A32_ok:FnOk Tryz.prog 32 A32:=by
 rintro⟨xs,s,_⟩ r hr w Wr vs hW hp;simp only[A32,RepPs] at hp;obtain⟨v,us,rfl,⟨cs,h1,rfl⟩,v2,us2,rfl,⟨cs2,h2,rfl⟩,rfl⟩:=hp;simp only[RepC] at h1 h2;obtain⟨A,cap,rfl,hcap,hA⟩:=h1;subst h2;have hr:joinS xs s=some r:=hr;unfold joinS at hr;split at hr
 case isFalse=>cases hr
 rename_i hc;obtain rfl:=Option.some.inj hr;have key:Calls Tryz.prog 32 #[.slice A (List.length (α:=ByteArray) xs) cap,.string s] w fun e w'=>e=.returned (.string ⟨(Lib.join (xs.map (·.data.toList)) s.data.toList).toArray⟩)∧Below w.heap.size w w':=by
  rcases hA with rfl|⟨b,off,rfl,hcells⟩
  ·exact(Any.strings_Join_none Tryz.laysJoin extra_156 A cap s w).mono fun e w' ⟨he,hw⟩=>⟨he,hw▸Below.refl _ _⟩
  ·cases xs with
   |nil=>exact(Any.strings_Join_none Tryz.laysJoin extra_156 _ cap s w).mono fun e w' ⟨he,hw⟩=>⟨he,hw▸Below.refl _ _⟩
   |cons x0 xs0=>
    have cell:∀(j:Nat) x,(x0::xs0)[j]?=some x→w.cell? ⟨b,off+j,none⟩=some (.string x):=by
     intro j x hj;obtain⟨hlt,hx⟩:=List.getElem?_eq_some_iff.1 hj;obtain⟨cs',h3,h4⟩:=hcells j hlt;have h3:cs'=[.string ((x0::xs0).get ⟨j,hlt⟩)]:=h3;subst h3;have h5:=(h4 0 (by simp)).1;rw[show off+j*Kd.str.size+0=off+j from by simp[Kd.size]] at h5;rw[h5];show some (Value.string ((x0::xs0)[j]))=_;rw[hx]
    exact Any.strings_Join Tryz.laysJoin extra_156 b off cap (x0::xs0) s w cell (World.block_lt_of_cell? w ⟨b,off+0,none⟩ (cell 0 x0 rfl)) hc.1 hcap hc.2
 refine key.mono ?_;rintro e' w' ⟨rfl,hb⟩;refine⟨[.string ⟨(Lib.join (xs.map (·.data.toList)) s.data.toList).toArray⟩],rfl,BelowD.of hb (fun h=>by cases h), ?_⟩;show ∃bs,_;refine⟨[], ?_,List.nodup_nil,fun b hb=>by cases hb⟩;simp only[A32,OwnOuts];exact⟨_,rfl,_,⟨rfl,rfl⟩,rfl⟩
def itoaS(n:Int):Option ByteArray:=
 if-9223372036854775808≤n∧n≤9223372036854775807 then some ⟨(Lib.itoa n).toArray⟩ else none
noncomputable def strconv_Itoa(n:Int):Option ByteArray:=itoaS n
noncomputable def A31:FnA:=⟨[.v (.int .i64)],true,[.str],fun x=>strconv_Itoa x.1⟩
theorem A31_ok:FnOk Tryz.prog 31 A31:=by
 rintro⟨n,_⟩ r hr w Wr vs hW hp;simp only[A31,RepPs] at hp;obtain⟨v,us,rfl,⟨cs,h1,rfl⟩,rfl⟩:=hp;simp only[RepC] at h1;subst h1;have hr:itoaS n=some r:=hr;unfold itoaS at hr;split at hr
 case isFalse=>cases hr
 rename_i hc;obtain rfl:=Option.some.inj hr;refine(Any.strconv_Itoa Tryz.laysItoa n hc.1 hc.2 w hW.2.1).mono ?_;rintro e' w' ⟨rfl,k,os,rfl⟩;refine⟨[.string ⟨(Lib.itoa n).toArray⟩],rfl,BelowD.of (Lib.below_grow _ w (Nat.le_refl _) k os) (fun h=>by cases h), ?_⟩;show ∃bs,_;refine⟨[], ?_,List.nodup_nil,fun b hb=>by cases hb⟩;simp only[A31,OwnOuts];exact⟨_,rfl,_,⟨rfl,rfl⟩,rfl⟩
/-- texts in a new row -/
theorem own_strs(w:World)(Wr:WrP)(xs:List ByteArray)(t:TypeId):OwnOuts (w.alloc (.cells (xs.map Value.string).toArray t)) Wr [.sl .str] [.slice (some ⟨w.heap.size,0,none⟩) xs.length xs.length] xs [w.heap.size]:=by
 simp only[OwnOuts];refine⟨_,rfl,[.slice (some ⟨w.heap.size,0,none⟩) xs.length xs.length],⟨_,_,rfl,Nat.le_refl _,.inr ⟨w.heap.size,0,xs.length,rfl,rfl,by simp[Kd.size], ?_,fun i hi=>⟨[.string (xs.get ⟨i,hi⟩)],rfl,fun j hj=> ?_⟩⟩⟩,rfl⟩
 ·have:=new_nofz w (xs.map Value.string).toArray t 0;simpa using this
 ·have h0:j=0:=by simp at hj;omega
  subst h0;rw[show 0+i*Kd.str.size+0=i from by simp[Kd.size],new_cell];have hi:i<xs.length:=hi;simp[hi]
def splitS(s p:ByteArray):Option (List ByteArray):=if s.size<4294967281∧1≤p.size then some (Lib.splitB p 0 (Lib.countB s p) s) else none
noncomputable def strings_Split(s p:ByteArray):Option (List ByteArray):=splitS s p
noncomputable def A41:FnA:=⟨[.v .str,.v .str],true,[.sl .str],fun x=>strings_Split x.1 x.2.1⟩
theorem A41_ok:FnOk Tryz.prog 41 A41:=by
 rintro⟨s,p,_⟩ r hr w Wr vs hW hp;simp only[A41,RepPs] at hp;obtain⟨v,us,rfl,⟨cs,h1,rfl⟩,v2,us2,rfl,⟨cs2,h2,rfl⟩,rfl⟩:=hp;simp only[RepC] at h1 h2;subst h1 h2;have hr:splitS s p=some r:=hr;unfold splitS at hr;split at hr
 case isFalse=>cases hr
 rename_i hc;obtain rfl:=Option.some.inj hr;obtain⟨g,m,hg,hm⟩:=hW.2.2.2;have hg:Tryz.prog.globalNamed "internal/bytealg.MaxLen" =some g:=hg;have he:Tryz.laysSplit_ren.g 1=g:=Option.some.inj ((show Tryz.prog.globalNamed "internal/bytealg.MaxLen" =some (Tryz.laysSplit_ren.g 1) from by kernel_rfl).symm.trans hg);refine(Any.strings_Split {Tryz.laysSplit with} Tryz.laysSplit.i9 s p m w hc.1 (by rw[he];exact hm) hc.2).mono ?_;rintro e' w' ⟨rfl,rfl⟩;have hl:=Lib.splitB_all p hc.2 0 _ s rfl;refine⟨[_],rfl,below_new w _,[w.heap.size], ?_,by simp,fun b hb=> ?_⟩
 ·rw[←hl];exact own_strs w _ _ _
 ·rw[List.mem_singleton.1 hb,size_new];omega
def cutS(s p:ByteArray):Option (ByteArray×ByteArray×Bool):=if s.size<4294967281 then some (⟨(Lib.cut s.data.toList p.data.toList).1.toArray⟩,⟨(Lib.cut s.data.toList p.data.toList).2.1.toArray⟩,(Lib.cut s.data.toList p.data.toList).2.2) else none
noncomputable def strings_Cut(s p:ByteArray):Option (ByteArray×ByteArray×Bool):=cutS s p
noncomputable def A42:FnA:=⟨[.v .str,.v .str],true,[.str,.str,.bool],fun x=>strings_Cut x.1 x.2.1⟩
theorem A42_ok:FnOk Tryz.prog 42 A42:=by
 rintro⟨s,p,_⟩ r hr w Wr vs hW hp;simp only[A42,RepPs] at hp;obtain⟨v,us,rfl,⟨cs,h1,rfl⟩,v2,us2,rfl,⟨cs2,h2,rfl⟩,rfl⟩:=hp;simp only[RepC] at h1 h2;subst h1 h2;have hr:cutS s p=some r:=hr;unfold cutS at hr;split at hr
 case isFalse=>cases hr
 rename_i hc;obtain rfl:=Option.some.inj hr;obtain⟨g,m,hg,hm⟩:=hW.2.2.2;have hg:Tryz.prog.globalNamed "internal/bytealg.MaxLen" =some g:=hg;have he:Tryz.laysCut_ren.g 1=g:=Option.some.inj ((show Tryz.prog.globalNamed "internal/bytealg.MaxLen" =some (Tryz.laysCut_ren.g 1) from by kernel_rfl).symm.trans hg);refine(Any.strings_Cut {Tryz.laysCut with} s p m w hc (by rw[he];exact hm)).mono ?_;rintro e' w' ⟨rfl,n,rfl⟩;refine⟨[_,_,_],rfl,BelowD.of (below_drewN (.refl _ _) n) (fun h=>by cases h),[], ?_,List.nodup_nil,fun b hb=>by cases hb⟩;simp only[A42,OwnOuts];exact⟨_,_,[],[],rfl,rfl,⟨_,⟨rfl,rfl⟩,rfl⟩,_,_,[],[],rfl,rfl,⟨_,⟨rfl,rfl⟩,rfl⟩,_,rfl,_,⟨rfl,rfl⟩,rfl⟩
def fieldsS(s:ByteArray):Option (List ByteArray):=if s.size<4294967281∧∀b∈s.data.toList,b.toNat<128 then some ((Lib.fields s.data.toList).map fun l=>⟨l.toArray⟩) else none
noncomputable def strings_Fields(s:ByteArray):Option (List ByteArray):=fieldsS s
noncomputable def A76:FnA:=⟨[.v .str],true,[.sl .str],fun x=>strings_Fields x.1⟩
theorem A76_ok:FnOk Tryz.prog 76 A76:=by
 rintro⟨s,_⟩ r hr w Wr vs hW hp;simp only[A76,RepPs] at hp;obtain⟨v,us,rfl,⟨cs,h1,rfl⟩,rfl⟩:=hp;simp only[RepC] at h1;subst h1;have hr:fieldsS s=some r:=hr;unfold fieldsS at hr;split at hr
 case isFalse=>cases hr
 rename_i hc;obtain rfl:=Option.some.inj hr;refine(Any.strings_Fields_laid Tryz.laysFields s w hc.1 (fun j b hj=>hc.2 b (List.mem_of_getElem? hj)) hW.2.2.1).mono ?_;rintro e' w' ⟨rfl,rfl⟩;have hl:((Lib.fields s.data.toList).map fun l=>(⟨l.toArray⟩:ByteArray)).length=(Lib.fields s.data.toList).length:=List.length_map _;refine⟨[_],rfl,below_new w _,[w.heap.size], ?_,by simp,fun b hb=> ?_⟩
 ·have:=own_strs w (withB Wr [w.heap.size]) ((Lib.fields s.data.toList).map fun l=>(⟨l.toArray⟩:ByteArray)) (Tryz.laysFields_ren.t 9);rw[List.map_map,hl] at this;exact this
 ·rw[List.mem_singleton.1 hb,size_new];omega
def atoiS(s:ByteArray):Option (Int×Bool):=if s.size≤18 then(Lib.atoi s.data.toList).map fun n=>(n,true) else none
noncomputable def strconv_Atoi(s:ByteArray):Option (Int×Bool):=atoiS s
noncomputable def A75:FnA:=⟨[.v .str],true,[.int .i64,.err],fun x=>strconv_Atoi x.1⟩
theorem A75_ok:FnOk Tryz.prog 75 A75:=by
 rintro⟨s,_⟩ r hr w Wr vs hW hp;simp only[A75,RepPs] at hp;obtain⟨v,us,rfl,⟨cs,h1,rfl⟩,rfl⟩:=hp;simp only[RepC] at h1;subst h1;have hr:atoiS s=some r:=hr;unfold atoiS at hr;split at hr
 case isFalse=>cases hr
 rename_i hc;obtain⟨n,hn,rfl⟩:=Option.map_eq_some_iff.1 hr;refine(Any.strconv_Atoi {Tryz.laysAtoi with} s n hc hn w).mono ?_;rintro e' w' ⟨rfl,t,rfl⟩;refine⟨[_,_],rfl,BelowD.of (Lib.bytesWorld_below w _ _) (fun h=>by cases h),[], ?_,List.nodup_nil,fun b hb=>by cases hb⟩;simp only[A75,OwnOuts];exact⟨_,_,[],[],rfl,rfl,⟨_,⟨rfl,rfl⟩,rfl⟩,_,rfl,_,⟨.inl ⟨rfl,rfl⟩,rfl⟩,rfl⟩
end Go.Proofs.YthkflageghfbgaaGreatDoor
