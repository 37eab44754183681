/- Texts of costs and of matrices of costs. -/
import Derived.Test.YthkflageghfbgaaGreatDoorP95
set_option linter.unusedVariables false
set_option linter.unusedSimpArgs false
namespace Go.Proofs.YthkflageghfbgaaGreatDoor
open Go Go.Proofs.YthkflageghfbgaaGreatDoor.Am
def costT(c:Int):List UInt8:=if c=1000000 then[45] else Lib.itoa c
theorem costT_len{c:Int}(h:0≤c∧c≤1000000):0<(costT c).length∧(costT c).length≤20:=by
 unfold costT;split
 ·exact⟨by decide,by decide⟩
 ·exact itoa_len (by omega) (by omega)
theorem costValid_is{c:Int}(h:0≤c∧c≤1000000):impl_CostValid c=some true:=by
 simp only[impl_CostValid,decide_eq_true (show c≥0 by omega),decide_eq_true (show c≤1000000 by omega),cond_true]
theorem fmtCost_is{c:Int}(h:0≤c∧c≤1000000):impl_FormatCost c=some (BL (costT c)):=by
 have hi:strconv_Itoa c=some (BL (Lib.itoa c)):=by
  show itoaS _=_;unfold itoaS;rw[if_pos ⟨by omega,by omega⟩,BL_mk]
 unfold costT;simp only[impl_FormatCost,costValid_is h,Option.bind_some,Bool.not_true,cond_false]
 by_cases e:c=1000000
 ·subst e;rfl
 ·rw[beq_eq_false_iff_ne.2 e,cond_false,if_neg e,hi];rfl
def costsT(xs:List Int):List UInt8:=Lib.join (xs.map costT) [32]
def Csts(xs:List Int):Prop:=∀x∈xs,0≤x∧x≤1000000
theorem costsT_len{xs:List Int}(h:Csts xs):(costsT xs).length≤21*xs.length:=by
 have:=join_len (c:=32) (B:=20) (L:=xs.map costT) (fun x hx=>by
  obtain⟨c,hc,rfl⟩:=List.mem_map.1 hx;exact(costT_len (h c hc)).2)
 rw[List.length_map] at this;exact this
theorem fmtCosts_is{xs:List Int}(h:Csts xs)(hl:xs.length≤1048576):impl_FormatCosts xs=some (BL (costsT xs)):=by
 obtain⟨r,g1,g2⟩:=loop_inv (f:=impl_FormatCosts_l3) xs.length (fun i (o:List ByteArray)=>(o,xs,(xs.length:Int),(i:Int),())) (fun i _=>(xs.take (i+1)).map fun x=>BL (costT x)) (fun o=>.inr (o,())) (fun i o=>o=(xs.take i).map fun x=>BL (costT x))
  (fun i o hi ho=>rfl)
  (fun i o hi ho=>by
   have hx:=h _ (List.getElem_mem hi);have hol:o.length≤1048576:=by rw[ho,List.length_map,List.length_take];omega
   rw[take_snoc hi,List.map_append,←ho];simp only[impl_FormatCosts_l3,lt_t hi,cond_true,if_pos (in_t hi),Int.toNat_natCast,getD_mem hi,costValid_is hx,fmtCost_is hx,Option.bind_some,Bool.not_true,cond_false,Nat.zero_add,List.drop_zero,show ∀z:ByteArray,List.take 1 [z]=[z] from fun _=>rfl,w64_succ hi (show xs.length≤9223372036854775807 by omega)];rw[if_pos ⟨trivial,by simp;omega⟩,List.take_of_length_le (by simp)];rfl)
  (fun o ho=>by simp only[impl_FormatCosts_l3,lt_f,cond_false,List.drop_zero,List.take_length])
  [] rfl
 have g1:loopF impl_FormatCosts_l3 ([],xs,(xs.length:Int),(0:Int),())=_:=g1;rw[List.take_length] at g2;have hlen:=costsT_len h;have hj:=joinS_is (L:=xs.map costT) (c:=32) (by rw[List.length_map];exact hl) (by unfold costsT at hlen;omega);rw[List.map_map] at hj;have hj:strings_Join (xs.map fun x=>BL (costT x)) (⟨#[(32:UInt8)]⟩:ByteArray)=some (BL (costsT xs)):=hj;simp only[impl_FormatCosts,List.drop_zero,List.take_zero,g1,g2,Option.bind_some,List.take_length,hj]
/-! ### matrices -/
end Go.Proofs.YthkflageghfbgaaGreatDoor
