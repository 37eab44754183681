/- Texts of grades and elements: both sides tell the same; the law. -/
import Derived.Test.YthkflageghfbgaaGreatDoorP30
import Derived.Test.YthkflageghfbgaaGreatDoorP0
set_option linter.unusedVariables false
set_option linter.unusedSimpArgs false
namespace Go.Proofs.YthkflageghfbgaaGreatDoor
open Go Go.Proofs.YthkflageghfbgaaGreatDoor.Am
def BL(l:List UInt8):ByteArray:=⟨⟨l⟩⟩
theorem BL_size(l:List UInt8):(BL l).size=l.length:=rfl
theorem BL_extract(l:List UInt8)(i j:Nat):(BL l).extract i j=BL ((l.drop i).take (j-i)):=by
 apply ByteArray.ext;rw[ByteArray.data_extract];apply Array.ext';rw[Array.toList_extract];rfl
theorem BL_app(a b:List UInt8):BL a++BL b=BL (a++b):=by
 apply ByteArray.ext;rw[ByteArray.data_append];apply Array.ext';rw[Array.toList_append];rfl
theorem BL_mk(l:List UInt8):(⟨l.toArray⟩:ByteArray)=BL l:=by simp[BL]
/-! ### the text -/
def ltr(g:Int):UInt8:=([48,49,119,45]:List UInt8).getD g.toNat 0
abbrev lets:ByteArray:=⟨#[(48:UInt8),(49:UInt8),(119:UInt8),(45:UInt8)]⟩
theorem ltr_in{g:Int}(h:0≤g∧g≤3):(0≤g∧(g≤IntKind.wrap .i64 (g+1)∧IntKind.wrap .i64 (g+1)≤(((lets).size:Nat):Int)))∧lets.extract g.toNat (IntKind.wrap .i64 (g+1)).toNat=BL [ltr g]:=by
 have:g=0∨g=1∨g=2∨g=3:=by omega
 have e:lets=BL [48,49,119,45]:=rfl
 rcases this with rfl|rfl|rfl|rfl
 ·exact⟨by decide,by rw[e,BL_extract];rfl⟩
 ·exact⟨by decide,by rw[e,BL_extract];rfl⟩
 ·exact⟨by decide,by rw[e,BL_extract];rfl⟩
 ·exact⟨by decide,by rw[e,BL_extract];rfl⟩
/-- the text of so many cells -/
def fmtTo(n:Nat)(A:List Int):Nat→List UInt8
 |0=>[]
 |m+1=>fmtTo n A m++((bif Nat.blt 0 m&&Nat.beq (m%n) 0 then[47] else[])++[ltr (A.getD m 0)])
theorem fmtTo_len(n:Nat)(A:List Int):∀m,(fmtTo n A m).length≤2*m
 |0=>Nat.zero_le _
 |m+1=>by
  have:=fmtTo_len n A m;show(fmtTo n A m++(_++[ltr (A.getD m 0)])).length≤_;rw[List.length_append,List.length_append];cases(Nat.blt 0 m&&Nat.beq (m%n) 0)<;>simp<;>omega
def rowOf(n:Nat)(A:List Int)(r:Nat):List UInt8:=(List.range n).map fun k=>ltr (A.getD (r*n+k) 0)
theorem fmt_rows{n:Nat}(h1:1≤n)(h4:n≤4)(A:List Int):Lib.join ((List.range n).map (rowOf n A)) [47]=fmtTo n A (n*n):=by
 have:n=1∨n=2∨n=3∨n=4:=by omega
 rcases this with rfl|rfl|rfl|rfl<;>rfl
theorem row_fmt{row:List Int}(hl:row.length≤100)(hr:∀x∈row,0≤x∧x≤3):impl_FormatGrades_1 row=some (BL (row.map ltr)):=by
 obtain⟨r,g1,g2⟩:=loop_inv (f:=impl_FormatGrades_1_l3) row.length (fun i (o:ByteArray)=>(o,row,(row.length:Int),(i:Int),())) (fun i o=>o++BL [ltr (row.getD i 0)]) (fun o=>(o,())) (fun i o=>o=BL ((row.take i).map ltr))
  (fun i o hi ho=>by
   subst ho;rw[BL_app,List.take_add_one,List.getElem?_eq_getElem hi,List.map_append,getD_get 0 hi];rfl)
  (fun i o hi ho=>by
   subst ho;have hg:=hr _ (show row.getD i 0∈row by rw[getD_get 0 hi];exact List.getElem_mem hi);obtain⟨l1,l2⟩:=ltr_in hg;simp only[impl_FormatGrades_1_l3,lt_t hi,cond_true,if_pos (in_t hi),Int.toNat_natCast,w64_succ hi (show row.length≤9223372036854775807 by omega)];rw[if_pos l1,l2,if_pos (by rw[BL_size,BL_size];simp;omega)])
  (fun o ho=>by simp only[impl_FormatGrades_1_l3,lt_f,cond_false]) (⟨#[]⟩:ByteArray) rfl
 have g1:loopF impl_FormatGrades_1_l3 ((⟨#[]⟩:ByteArray),row,(row.length:Int),(0:Int),())=_:=g1;rw[List.take_length] at g2;subst g2;simp only[impl_FormatGrades_1,g1,Option.bind_some]
theorem impl_fmt{n:Nat}(h1:1≤n)(h4:n≤4){A:List Int}(hA:GOk n A):impl_rows ((n:Int),A) (fun y1=>impl_FormatGrades_1 y1.1)=some (BL (fmtTo n A (n*n))):=by
 have hsq:=sq_le h4;have hlen:=hA.1;have hrow:∀i,i<n→List.take (n*(i+1)-n*i) (List.drop (n*i) A)=(List.range n).map fun k=>A.getD (i*n+k) 0:=by
  intro i hi;have hle:n*i+n≤n*n:=by
   have:=Nat.mul_le_mul_left n (show i+1≤n by omega);rw[Nat.mul_succ] at this;exact this
  have hd:n*(i+1)-n*i=n:=by rw[Nat.mul_succ];omega
  rw[hd];apply List.ext_getElem
  ·rw[List.length_take,List.length_drop,hlen,List.length_map,List.length_range];omega
  ·intro k k1 k2;rw[List.length_map,List.length_range] at k2;rw[List.getElem_take,List.getElem_drop,List.getElem_map,List.getElem_range];have hc:n*i=i*n:=Nat.mul_comm _ _;rw[getD_get 0 (by rw[hlen];omega)];congr 1;omega
 obtain⟨r,g1,g2⟩:=loop_inv (f:=impl_rows_l3) n (fun i (o:List ByteArray)=>((fun y1:List Int×Unit=>impl_FormatGrades_1 y1.1),((n:Int),A,()),o,(n:Int),(i:Int),())) (fun i o=>o++[BL (rowOf n A i)]) (fun o=>(o,())) (fun i o=>o=(List.range i).map fun r=>BL (rowOf n A r))
  (fun i o hi ho=>by subst ho;rw[List.range_succ,List.map_append];rfl)
  (fun i o hi ho=>by
   have hol:o.length=i:=by subst ho;simp
   have hle:n*(i+1)≤n*n:=Nat.mul_le_mul_left n (by omega);have hmono:n*i≤n*(i+1):=Nat.mul_le_mul_left n (by omega);have w1:IntKind.wrap .i64 ((i:Int)*(n:Int))=((n*i:Nat):Int):=by
    rw[show(i:Int)*(n:Int)=((n*i:Nat):Int) by rw[Nat.mul_comm];rfl,w64 (by omega) (by omega)]
   have w2:IntKind.wrap .i64 (((i+1:Nat):Int)*(n:Int))=((n*(i+1):Nat):Int):=by
    rw[show((i+1:Nat):Int)*(n:Int)=((n*(i+1):Nat):Int) by rw[Nat.mul_comm];rfl,w64 (by omega) (by omega)]
   have hr:=row_fmt (row:=(List.range n).map fun k=>A.getD (i*n+k) 0) (by simp;omega) (fun x hx=>by
    obtain⟨k,hk,rfl⟩:=List.mem_map.1 hx;have hk:=List.mem_range.1 hk;have:n*i+n≤n*n:=by rw[←Nat.mul_succ];exact hle
    exact hA.at (by rw[Nat.mul_comm];omega))
   rw[List.map_map] at hr;have hr:impl_FormatGrades_1 ((List.range n).map fun k=>A.getD (i*n+k) 0)=some (BL (rowOf n A i)):=hr;simp only[impl_rows_l3,lt_t hi,cond_true,w64_succ hi (show n≤9223372036854775807 by omega),w1,w2,Int.toNat_natCast,hrow i hi,hr,Option.bind_some,List.drop_zero,Nat.zero_add,show ∀z:ByteArray,List.take 1 [z]=[z] from fun _=>rfl];rw[if_pos ⟨by omega,by omega,by omega⟩,if_pos (by simp;omega),List.take_of_length_le (by simp)])
  (fun o ho=>by simp only[impl_rows_l3,lt_f,cond_false,List.drop_zero,List.take_length]) [] rfl
 have g1:loopF impl_rows_l3 ((fun y1:List Int×Unit=>impl_FormatGrades_1 y1.1),((n:Int),A,()),[],(n:Int),(0:Int),())=_:=g1;subst g2;have hj:strings_Join ((List.range n).map fun r=>BL (rowOf n A r)) (⟨#[(47:UInt8)]⟩:ByteArray)=some (BL (fmtTo n A (n*n))):=by
  show joinS _ _=_;have em:(((List.range n).map fun r=>BL (rowOf n A r)).map fun x:ByteArray=>x.data.toList)=(List.range n).map (rowOf n A):=by
   rw[List.map_map];rfl
  have e47:((⟨#[(47:UInt8)]⟩:ByteArray).data.toList)=[47]:=rfl;have hfl:=fmtTo_len n A (n*n);unfold joinS;rw[em,e47,fmt_rows h1 h4,if_pos ⟨by simp;omega,by omega⟩,BL_mk]
 simp only[impl_rows,List.drop_zero,List.take_nil,g1,Option.bind_some,List.take_length,hj]
end Go.Proofs.YthkflageghfbgaaGreatDoor
