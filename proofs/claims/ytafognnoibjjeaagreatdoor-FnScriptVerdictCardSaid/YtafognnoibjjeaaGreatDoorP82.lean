/- Texts of grades and elements: both sides tell the same; the law. -/
import Derived.Test.YtafognnoibjjeaaGreatDoorP30
import Derived.Test.YtafognnoibjjeaaGreatDoorP0
set_option linter.unusedVariables false
set_option linter.unusedSimpArgs false
namespace Go.Proofs.YtafognnoibjjeaaGreatDoor
open Go Go.Proofs.YtafognnoibjjeaaGreatDoor.Am
def BL(l:List UInt8):ByteArray:=⟨⟨l⟩⟩
theorem ys5(l:List UInt8):(BL l).size=l.length:=rfl
theorem y2h(l:List UInt8)(i j:Nat):(BL l).extract i j=BL ((l.drop i).take (j-i)):=by
 apply ByteArray.ext;rw[ByteArray.data_extract];apply Array.ext';rw[Array.toList_extract];rfl
theorem y9u(a b:List UInt8):BL a++BL b=BL (a++b):=by
 apply ByteArray.ext;rw[ByteArray.data_append];apply Array.ext';rw[Array.toList_append];rfl
theorem zu4(l:List UInt8):(⟨l.toArray⟩:ByteArray)=BL l:=by simp[BL]
/-! ### the text -/
def ltr(g:Int):UInt8:=([48,49,119,45]:List UInt8).getD g.toNat 0
abbrev lets:ByteArray:=⟨#[(48:UInt8),(49:UInt8),(119:UInt8),(45:UInt8)]⟩
theorem ltr_in{g:Int}(h:0≤g∧g≤3):(0≤g∧(g≤IntKind.wrap .i64 (g+1)∧IntKind.wrap .i64 (g+1)≤(((lets).size:Nat):Int)))∧lets.extract g.toNat (IntKind.wrap .i64 (g+1)).toNat=BL [ltr g]:=by
 have:g=0∨g=1∨g=2∨g=3:=by omega
 have e:lets=BL [48,49,119,45]:=rfl
 rcases this with rfl|rfl|rfl|rfl
 ·exact⟨by decide,by rw[e,y2h];rfl⟩
 ·exact⟨by decide,by rw[e,y2h];rfl⟩
 ·exact⟨by decide,by rw[e,y2h];rfl⟩
 ·exact⟨by decide,by rw[e,y2h];rfl⟩
/-- the text of so many cells -/
def z4k(n:Nat)(A:List Int):Nat→List UInt8
 |0=>[]
 |m+1=>z4k n A m++((bif Nat.blt 0 m&&Nat.beq (m%n) 0 then[47] else[])++[ltr (A.getD m 0)])
theorem y9v(n:Nat)(A:List Int):∀m,(z4k n A m).length≤2*m
 |0=>Nat.zero_le _
 |m+1=>by
  have:=y9v n A m;show(z4k n A m++(_++[ltr (A.getD m 0)])).length≤_;rw[List.length_append,List.length_append];cases(Nat.blt 0 m&&Nat.beq (m%n) 0)<;>simp<;>omega
def z6m(n:Nat)(A:List Int)(r:Nat):List UInt8:=(List.range n).map fun k=>ltr (A.getD (r*n+k) 0)
theorem k2b{n:Nat}(h1:1≤n)(h4:n≤4)(A:List Int):Lib.join ((List.range n).map (z6m n A)) [47]=z4k n A (n*n):=by
 have:n=1∨n=2∨n=3∨n=4:=by omega
 rcases this with rfl|rfl|rfl|rfl<;>rfl
theorem row_fmt{row:List Int}(hl:row.length≤100)(hr:∀x∈row,0≤x∧x≤3):yg2 row=some (BL (row.map ltr)):=by
 obtain⟨r,g1,g2⟩:=yd9 (f:=yf9) row.length (fun i (o:ByteArray)=>(o,row,(row.length:Int),(i:Int),())) (fun i o=>o++BL [ltr (row.getD i 0)]) (fun o=>(o,())) (fun i o=>o=BL ((row.take i).map ltr))
  (fun i o hi ho=>by
   subst ho;rw[y9u,List.take_add_one,List.getElem?_eq_getElem hi,List.map_append,yb4 0 hi];rfl)
  (fun i o hi ho=>by
   subst ho;have hg:=hr _ (show row.getD i 0∈row by rw[yb4 0 hi];exact List.getElem_mem hi);obtain⟨l1,l2⟩:=ltr_in hg;simp only[yf9,lt_t hi,cond_true,if_pos (in_t hi),Int.toNat_natCast,ya3 hi (show row.length≤9223372036854775807 by omega)];rw[if_pos l1,l2,if_pos (by rw[ys5,ys5];simp;omega)])
  (fun o ho=>by simp only[yf9,lt_f,cond_false]) (⟨#[]⟩:ByteArray) rfl
 have g1:ya2 yf9 ((⟨#[]⟩:ByteArray),row,(row.length:Int),(0:Int),())=_:=g1;rw[List.take_length] at g2;subst g2;simp only[yg2,g1,Option.bind_some]
theorem k2c{n:Nat}(h1:1≤n)(h4:n≤4){A:List Int}(hA:GOk n A):y9k ((n:Int),A) (fun y1=>yg2 y1.1)=some (BL (z4k n A (n*n))):=by
 have hsq:=y1l h4;have hlen:=hA.1;have hrow:∀i,i<n→List.take (n*(i+1)-n*i) (List.drop (n*i) A)=(List.range n).map fun k=>A.getD (i*n+k) 0:=by
  intro i hi;have hle:n*i+n≤n*n:=by
   have:=Nat.mul_le_mul_left n (show i+1≤n by omega);rw[Nat.mul_succ] at this;exact this
  have hd:n*(i+1)-n*i=n:=by rw[Nat.mul_succ];omega
  rw[hd];apply List.ext_getElem
  ·rw[List.length_take,List.length_drop,hlen,List.length_map,List.length_range];omega
  ·intro k k1 k2;rw[List.length_map,List.length_range] at k2;rw[List.getElem_take,List.getElem_drop,List.getElem_map,List.getElem_range];have hc:n*i=i*n:=Nat.mul_comm _ _;rw[yb4 0 (by rw[hlen];omega)];congr 1;omega
 obtain⟨r,g1,g2⟩:=yd9 (f:=yv7) n (fun i (o:List ByteArray)=>((fun y1:List Int×Unit=>yg2 y1.1),((n:Int),A,()),o,(n:Int),(i:Int),())) (fun i o=>o++[BL (z6m n A i)]) (fun o=>(o,())) (fun i o=>o=(List.range i).map fun r=>BL (z6m n A r))
  (fun i o hi ho=>by subst ho;rw[List.range_succ,List.map_append];rfl)
  (fun i o hi ho=>by
   have hol:o.length=i:=by subst ho;simp
   have hle:n*(i+1)≤n*n:=Nat.mul_le_mul_left n (by omega);have hmono:n*i≤n*(i+1):=Nat.mul_le_mul_left n (by omega);have w1:IntKind.wrap .i64 ((i:Int)*(n:Int))=((n*i:Nat):Int):=by
    rw[show(i:Int)*(n:Int)=((n*i:Nat):Int) by rw[Nat.mul_comm];rfl,w64 (by omega) (by omega)]
   have w2:IntKind.wrap .i64 (((i+1:Nat):Int)*(n:Int))=((n*(i+1):Nat):Int):=by
    rw[show((i+1:Nat):Int)*(n:Int)=((n*(i+1):Nat):Int) by rw[Nat.mul_comm];rfl,w64 (by omega) (by omega)]
   have hr:=row_fmt (row:=(List.range n).map fun k=>A.getD (i*n+k) 0) (by simp;omega) (fun x hx=>by
    obtain⟨k,hk,rfl⟩:=List.mem_map.1 hx;have hk:=List.mem_range.1 hk;have:n*i+n≤n*n:=by rw[←Nat.mul_succ];exact hle
    exact hA.at (by rw[Nat.mul_comm];omega))
   rw[List.map_map] at hr;have hr:yg2 ((List.range n).map fun k=>A.getD (i*n+k) 0)=some (BL (z6m n A i)):=hr;simp only[yv7,lt_t hi,cond_true,ya3 hi (show n≤9223372036854775807 by omega),w1,w2,Int.toNat_natCast,hrow i hi,hr,Option.bind_some,List.drop_zero,Nat.zero_add,show ∀z:ByteArray,List.take 1 [z]=[z] from fun _=>rfl];rw[if_pos ⟨by omega,by omega,by omega⟩,if_pos (by simp;omega),List.take_of_length_le (by simp)])
  (fun o ho=>by simp only[yv7,lt_f,cond_false,List.drop_zero,List.take_length]) [] rfl
 have g1:ya2 yv7 ((fun y1:List Int×Unit=>yg2 y1.1),((n:Int),A,()),[],(n:Int),(0:Int),())=_:=g1;subst g2;have hj:strings_Join ((List.range n).map fun r=>BL (z6m n A r)) (⟨#[(47:UInt8)]⟩:ByteArray)=some (BL (z4k n A (n*n))):=by
  show z0y _ _=_;have em:(((List.range n).map fun r=>BL (z6m n A r)).map fun x:ByteArray=>x.data.toList)=(List.range n).map (z6m n A):=by
   rw[List.map_map];rfl
  have e47:((⟨#[(47:UInt8)]⟩:ByteArray).data.toList)=[47]:=rfl;have hfl:=y9v n A (n*n);unfold z0y;rw[em,e47,k2b h1 h4,if_pos ⟨by simp;omega,by omega⟩,zu4]
 simp only[y9k,List.drop_zero,List.take_nil,g1,Option.bind_some,List.take_length,hj]
end Go.Proofs.YtafognnoibjjeaaGreatDoor
