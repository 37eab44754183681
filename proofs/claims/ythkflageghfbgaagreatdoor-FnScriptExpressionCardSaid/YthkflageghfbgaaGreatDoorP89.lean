/- Decimal texts of numbers, and of lists of them: both sides tell the same. -/
import Derived.Test.YthkflageghfbgaaGreatDoorP82
set_option linter.unusedVariables false
set_option linter.unusedSimpArgs false
namespace Go.Proofs.YthkflageghfbgaaGreatDoor
open Go Go.Proofs.YthkflageghfbgaaGreatDoor.Am
theorem dd_small{u:Nat}(h:u<10):Lib.decDigits u=[UInt8.ofNat (48+u)]:=by rw[Lib.decDigits,dif_pos h]
theorem dd_big{u:Nat}(h:¬u<10):Lib.decDigits u=Lib.decDigits (u/10)++[UInt8.ofNat (48+u%10)]:=by rw[Lib.decDigits,dif_neg h]
theorem dd_len:∀(k u:Nat),u<10^(k+1)→0<(Lib.decDigits u).length∧(Lib.decDigits u).length≤k+1
 |0,u,h=>by
  rw[dd_small (by simpa using h)];simp
 |k+1,u,h=>by
  by_cases hu:u<10
  ·rw[dd_small hu];simp
  ·have:=dd_len k (u/10) (by rw[Nat.pow_succ] at h;exact Nat.div_lt_of_lt_mul (by rw[Nat.mul_comm];exact h));rw[dd_big hu,List.length_append];simp;omega
theorem itoa_len{n:Int}(h0:-9223372036854775808≤n)(h1:n≤9223372036854775807):0<(Lib.itoa n).length∧(Lib.itoa n).length≤20:=by
 unfold Lib.itoa;split
 ·have:=dd_len 18 n.natAbs (by omega);rw[List.length_cons];omega
 ·have:=dd_len 18 n.toNat (by omega);omega
/-! ### lists of numbers -/
def numsT(xs:List Int):List UInt8:=Lib.join (xs.map Lib.itoa) [32]
def Num(xs:List Int):Prop:=∀x∈xs,-9223372036854775808≤x∧x≤9223372036854775807
theorem Num.at{xs:List Int}(h:Num xs){i:Nat}(hi:i<xs.length):-9223372036854775808≤xs.getD i 0∧xs.getD i 0≤9223372036854775807:=by
 rw[getD_get 0 hi];exact h _ (List.getElem_mem hi)
theorem Num.take{xs:List Int}(h:Num xs)(i:Nat):Num (xs.take i):=fun x hx=>h x (List.mem_of_mem_take hx)
theorem numsT_len:∀{xs:List Int},Num xs→(numsT xs).length≤21*xs.length:=by
 have key:∀(xs:List Int),Num xs→(Lib.joinTail [32] (xs.map Lib.itoa)).length≤21*xs.length:=by
  intro xs
  induction xs with
  |nil=>intro _;simp[Lib.joinTail]
  |cons x xs ih=>
   intro h;have h1:=ih fun y hy=>h y (List.mem_cons_of_mem _ hy);obtain⟨a,b⟩:=h x List.mem_cons_self;have h2:=(itoa_len a b).2;unfold Lib.joinTail at h1⊢;rw[List.map_cons,List.map_cons,List.flatten_cons,List.length_append,List.length_append,List.length_cons];simp only[List.length_cons,List.length_nil];omega
 intro xs h;cases xs with
 |nil=>show(Lib.join [] [32]).length≤_;rw[Lib.join_nil];simp
 |cons x xs=>
  have h1:=key xs fun y hy=>h y (List.mem_cons_of_mem _ hy);obtain⟨a,b⟩:=h x List.mem_cons_self;have h2:=(itoa_len a b).2;unfold numsT;rw[List.map_cons,Lib.join_cons,List.length_append,List.length_cons];omega
theorem impl_nums{xs:List Int}(h:Num xs)(hl:xs.length≤1048576):impl_numbers xs=some (BL (numsT xs)):=by
 obtain⟨r,g1,g2⟩:=loop_inv (f:=impl_numbers_l3) xs.length (fun i (o:List ByteArray)=>(o,xs,(xs.length:Int),(i:Int),())) (fun i _=>(xs.take (i+1)).map fun x=>BL (Lib.itoa x)) (fun o=>(o,())) (fun i o=>o=(xs.take i).map fun x=>BL (Lib.itoa x))
  (fun i o hi ho=>rfl)
  (fun i o hi ho=>by
   obtain⟨a,b⟩:=h.at hi;have hd:strconv_Itoa (xs.getD i 0)=some (BL (Lib.itoa (xs.getD i 0))):=by
    show itoaS _=_;unfold itoaS;rw[if_pos ⟨a,b⟩,BL_mk]
   have hol:o.length≤1048576:=by rw[ho,List.length_map,List.length_take];omega
   rw[take_snoc hi,List.map_append,←ho];simp only[impl_numbers_l3,lt_t hi,cond_true,if_pos (in_t hi),Int.toNat_natCast,hd,Option.bind_some,Nat.zero_add,List.drop_zero,show ∀z:ByteArray,List.take 1 [z]=[z] from fun _=>rfl,w64_succ hi (show xs.length≤9223372036854775807 by omega)];rw[if_pos ⟨trivial,by simp;omega⟩,List.take_of_length_le (by simp),getD_get 0 hi];rfl)
  (fun o ho=>by simp only[impl_numbers_l3,lt_f,cond_false,List.drop_zero,List.take_length])
  [] rfl
 have g1:loopF impl_numbers_l3 ([],xs,(xs.length:Int),(0:Int),())=_:=g1;rw[List.take_length] at g2;have hj:strings_Join (xs.map fun x=>BL (Lib.itoa x)) (⟨#[(32:UInt8)]⟩:ByteArray)=some (BL (numsT xs)):=by
  show joinS _ _=_;have e:(xs.map fun x=>BL (Lib.itoa x)).map (·.data.toList)=xs.map Lib.itoa:=by
   rw[List.map_map];rfl
  have hn:=numsT_len h;unfold joinS;rw[e];have e2:Lib.join (xs.map Lib.itoa) (⟨#[(32:UInt8)]⟩:ByteArray).data.toList=numsT xs:=rfl;rw[e2,if_pos ⟨by rw[List.length_map];omega,by omega⟩,BL_mk]
 simp only[impl_numbers,List.drop_zero,List.take_zero,g1,g2,Option.bind_some,List.take_length,hj]
def fmtN(xs:List Int):ByteArray:=if xs=[] then BL [45] else BL (numsT xs)
end Go.Proofs.YthkflageghfbgaaGreatDoor
