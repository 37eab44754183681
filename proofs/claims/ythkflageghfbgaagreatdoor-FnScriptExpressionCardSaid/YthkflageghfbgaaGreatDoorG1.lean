/- What Go functions that the laws reach compute, and that they do: written by a program of this session. -/
import Derived.Test.YthkflageghfbgaaGreatDoorG0
import Derived.KernelRfl
set_option linter.unusedVariables false
namespace Go.Proofs.YthkflageghfbgaaGreatDoor
open Go Go.Proofs.YthkflageghfbgaaGreatDoor.Am Go.Proofs.Tryz
set_option maxRecDepth 100000
noncomputable section
def R62(impl_readParts_rec:ByteArray→Option ((List (ByteArray×PT))×ByteArray)):FnA:=⟨[.v .str],true,[.sl (.pair .str .pt),.str],fun x=>impl_readParts_rec x.1⟩
def E62(impl_readParts_rec:ByteArray→Option ((List (ByteArray×PT))×ByteArray)):Env:=ev fun g=>ifEq g 62 (some (R62 impl_readParts_rec)) (ifEq g 134 (some A134) (none))
theorem E62_ok(impl_readParts_rec:ByteArray→Option ((List (ByteArray×PT))×ByteArray))(hrec:FnOk prog 62 (R62 impl_readParts_rec)):FnsOk prog (E62 impl_readParts_rec):=(oF hrec func62 (oF A134_ok func134 (noFns _ _)))
def L62_0(impl_readParts_rec:ByteArray→Option ((List (ByteArray×PT))×ByteArray)):Nat→Option LoopD:=fun _=>none
def sh62_2:List Fm:=.cell (.val .str)::d::d::d::.cell (.own (.pair .str .pt) 100400 false)::D 44 []
def xs62_2:List (Ex×List Fm):=[(.ret,(d::d::.cell (.own (.pair .str .pt) 100200 false)::.cell (.val .str)::D 45 [])),(.exit 0,(.cell (.val .str)::d::d::d::.cell (.own (.pair .str .pt) 100400 false)::D 44 []))]
def impl_readParts_l2(impl_readParts_rec:ByteArray→Option ((List (ByteArray×PT))×ByteArray)):(ByteArray×(List (ByteArray×PT))×Unit)→Option ((ByteArray×(List (ByteArray×PT))×Unit)⊕(((List (ByteArray×PT))×ByteArray×Unit)⊕(ByteArray×(List (ByteArray×PT))×Unit))):=fun(v0,v4,_)=>
 bif (!((ByteArray.toList v0)==(ByteArray.toList (⟨#[]⟩:ByteArray)))) then
  if(((0:Int)≤0)∧((0:Int)<(((ByteArray.size v0):Nat):Int))) then
   bif ((((UInt8.toNat (Array.getD (ByteArray.data v0) (Int.toNat 0) (0:UInt8))):Nat):Int)==97) then
    bif ((((UInt8.toNat (Array.getD (ByteArray.data v0) (Int.toNat 0) (0:UInt8))):Nat):Int)==97) then
     if(((0:Int)≤1)∧((1:Int)≤(((ByteArray.size v0):Nat):Int))) then
      if(((0+(List.length v4))=(List.length v4))∧((((List.length v4)+(List.length (List.take 1 (List.drop 0 [((ByteArray.extract v0 0 (Int.toNat (1:Int))),(PT.mk []))]))))*40)≤140737488355328)) then
       if(((0:Int)≤1)∧((1:Int)≤(((ByteArray.size v0):Nat):Int))) then
        some (Sum.inl ((ByteArray.extract v0 (Int.toNat 1) (ByteArray.size v0)),(List.take ((List.length v4)+(List.length (List.take 1 (List.drop 0 [((ByteArray.extract v0 0 (Int.toNat (1:Int))),(PT.mk []))])))) (List.drop 0 ((List.drop 0 v4)++(List.take 1 (List.drop 0 [((ByteArray.extract v0 0 (Int.toNat (1:Int))),(PT.mk []))]))))),()))
       else
        none
      else
       none
     else
      none
    else
     bif ((((UInt8.toNat (Array.getD (ByteArray.data v0) (Int.toNat 0) (0:UInt8))):Nat):Int)==40) then
      if(((0:Int)≤1)∧((1:Int)≤(((ByteArray.size v0):Nat):Int))) then
       Option.bind (impl_readParts_rec (ByteArray.extract v0 (Int.toNat 1) (ByteArray.size v0))) fun(r0,r1)=>
        bif (decide ((((List.length r0):Nat):Int)>0)) then
         Option.bind (strings_HasPrefix r1 (⟨#[(41:UInt8),(35:UInt8)]⟩:ByteArray)) fun r2=>
          bif r2 then
           if(((0+(List.length v4))=(List.length v4))∧((((List.length v4)+(List.length (List.take 1 (List.drop 0 [((⟨Array.empty⟩:ByteArray),(PT.mk (List.take (List.length r0) (List.drop 0 r0))))]))))*40)≤140737488355328)) then
            if(((0:Int)≤2)∧((2:Int)≤(((ByteArray.size r1):Nat):Int))) then
             some (Sum.inl ((ByteArray.extract r1 (Int.toNat 2) (ByteArray.size r1)),(List.take ((List.length v4)+(List.length (List.take 1 (List.drop 0 [((⟨Array.empty⟩:ByteArray),(PT.mk (List.take (List.length r0) (List.drop 0 r0))))])))) (List.drop 0 ((List.drop 0 v4)++(List.take 1 (List.drop 0 [((⟨Array.empty⟩:ByteArray),(PT.mk (List.take (List.length r0) (List.drop 0 r0))))]))))),()))
            else
             none
           else
            none
          else
           some (Sum.inr (Sum.inl ((List.take (List.length v4) (List.drop 0 v4)),v0,())))
        else
         some (Sum.inr (Sum.inl ((List.take (List.length v4) (List.drop 0 v4)),v0,())))
      else
       none
     else
      some (Sum.inr (Sum.inl ((List.take (List.length v4) (List.drop 0 v4)),v0,())))
   else
    bif ((((UInt8.toNat (Array.getD (ByteArray.data v0) (Int.toNat 0) (0:UInt8))):Nat):Int)==98) then
     if(((0:Int)≤1)∧((1:Int)≤(((ByteArray.size v0):Nat):Int))) then
      if(((0+(List.length v4))=(List.length v4))∧((((List.length v4)+(List.length (List.take 1 (List.drop 0 [((ByteArray.extract v0 0 (Int.toNat (1:Int))),(PT.mk []))]))))*40)≤140737488355328)) then
       if(((0:Int)≤1)∧((1:Int)≤(((ByteArray.size v0):Nat):Int))) then
        some (Sum.inl ((ByteArray.extract v0 (Int.toNat 1) (ByteArray.size v0)),(List.take ((List.length v4)+(List.length (List.take 1 (List.drop 0 [((ByteArray.extract v0 0 (Int.toNat (1:Int))),(PT.mk []))])))) (List.drop 0 ((List.drop 0 v4)++(List.take 1 (List.drop 0 [((ByteArray.extract v0 0 (Int.toNat (1:Int))),(PT.mk []))]))))),()))
       else
        none
      else
       none
     else
      none
    else
     bif ((((UInt8.toNat (Array.getD (ByteArray.data v0) (Int.toNat 0) (0:UInt8))):Nat):Int)==40) then
      if(((0:Int)≤1)∧((1:Int)≤(((ByteArray.size v0):Nat):Int))) then
       Option.bind (impl_readParts_rec (ByteArray.extract v0 (Int.toNat 1) (ByteArray.size v0))) fun(r3,r4)=>
        bif (decide ((((List.length r3):Nat):Int)>0)) then
         Option.bind (strings_HasPrefix r4 (⟨#[(41:UInt8),(35:UInt8)]⟩:ByteArray)) fun r5=>
          bif r5 then
           if(((0+(List.length v4))=(List.length v4))∧((((List.length v4)+(List.length (List.take 1 (List.drop 0 [((⟨Array.empty⟩:ByteArray),(PT.mk (List.take (List.length r3) (List.drop 0 r3))))]))))*40)≤140737488355328)) then
            if(((0:Int)≤2)∧((2:Int)≤(((ByteArray.size r4):Nat):Int))) then
             some (Sum.inl ((ByteArray.extract r4 (Int.toNat 2) (ByteArray.size r4)),(List.take ((List.length v4)+(List.length (List.take 1 (List.drop 0 [((⟨Array.empty⟩:ByteArray),(PT.mk (List.take (List.length r3) (List.drop 0 r3))))])))) (List.drop 0 ((List.drop 0 v4)++(List.take 1 (List.drop 0 [((⟨Array.empty⟩:ByteArray),(PT.mk (List.take (List.length r3) (List.drop 0 r3))))]))))),()))
            else
             none
           else
            none
          else
           some (Sum.inr (Sum.inl ((List.take (List.length v4) (List.drop 0 v4)),v0,())))
        else
         some (Sum.inr (Sum.inl ((List.take (List.length v4) (List.drop 0 v4)),v0,())))
      else
       none
     else
      some (Sum.inr (Sum.inl ((List.take (List.length v4) (List.drop 0 v4)),v0,())))
  else
   none
 else
  some (Sum.inr (Sum.inr (v0,(List.take (List.length v4) (List.drop 0 v4)),())))
theorem impl_readParts_l2_eq(impl_readParts_rec:ByteArray→Option ((List (ByteArray×PT))×ByteArray)):loopStep 49 (E62 impl_readParts_rec) (L62_0 impl_readParts_rec) (loopOf f62 2) sh62_2 xs62_2=(impl_readParts_l2 impl_readParts_rec):=by kernel_rfl
theorem loop62_2(impl_readParts_rec:ByteArray→Option ((List (ByteArray×PT))×ByteArray))(hrec:FnOk prog 62 (R62 impl_readParts_rec)){L:Nat→Option LoopD}(h:L 2=some ⟨49,sh62_2,xs62_2,(impl_readParts_l2 impl_readParts_rec)⟩):LoopOk prog L (loopOf f62 2):=
 loopOk (tysOk_of tyl_ok) (E62_ok impl_readParts_rec hrec) (codeOk_in (L:=(L62_0 impl_readParts_rec)) (tysOk_of tyl_ok) (E62_ok impl_readParts_rec hrec) mixed (c:=loopOf f62 2) (bs:=[]) (by kernel_rfl) allNil (by kernel_rfl)) (by kernel_rfl) (by kernel_rfl) (impl_readParts_l2_eq impl_readParts_rec) (by rw[show firstId (loopOf f62 2)=2 from by kernel_rfl];exact h)
def L62_1(impl_readParts_rec:ByteArray→Option ((List (ByteArray×PT))×ByteArray)):Nat→Option LoopD:=fun n=>ifEq n 2 (some ⟨49,sh62_2,xs62_2,(impl_readParts_l2 impl_readParts_rec)⟩) ((L62_0 impl_readParts_rec) n)
def impl_readParts_step(impl_readParts_rec:ByteArray→Option ((List (ByteArray×PT))×ByteArray)):ByteArray→Option ((List (ByteArray×PT))×ByteArray):=fun a0=>
 Option.bind (loopF (impl_readParts_l2 impl_readParts_rec) (a0,(List.take 0 (List.drop 0 [])),())) fun r0=>
  (match r0 with
  |.inl (d1,d2,_)=>
    some ((List.take (List.length d1) (List.drop 0 d1)),d2)
  |.inr (d3,d4,_)=>
    some ((List.take (List.length d4) (List.drop 0 d4)),d3))
theorem impl_readParts_step_eq(impl_readParts_rec:ByteArray→Option ((List (ByteArray×PT))×ByteArray)):fnF (E62 impl_readParts_rec) (L62_1 impl_readParts_rec) [.v .str] true [.sl (.pair .str .pt),.str] f62.ntmps f62.results.toList (codeOf f62)=fun x=>(impl_readParts_step impl_readParts_rec) x.1:=by kernel_rfl
theorem impl_readParts_step_ok(impl_readParts_rec:ByteArray→Option ((List (ByteArray×PT))×ByteArray))(hrec:FnOk prog 62 (R62 impl_readParts_rec)):FnOk prog 62 ⟨[.v .str],true,[.sl (.pair .str .pt),.str],fun x=>(impl_readParts_step impl_readParts_rec) x.1⟩:=by
 have h:=fnOk_of_run (P:=prog) (E:=(E62 impl_readParts_rec)) (tysOk_of tyl_ok) (E62_ok impl_readParts_rec hrec) (L:=(L62_1 impl_readParts_rec)) (ps:=[.v .str]) (own:=true) (outs:=[.sl (.pair .str .pt),.str]) func62 (c:=codeOf f62) (by kernel_rfl) (codeOk_in (L:=(L62_1 impl_readParts_rec)) (tysOk_of tyl_ok) (E62_ok impl_readParts_rec hrec) mixed (c:=codeOf f62) (bs:=[loopOf f62 2]) (by kernel_rfl) (allCons (loop62_2 impl_readParts_rec hrec rfl) allNil) (by kernel_rfl));rw[(impl_readParts_step_eq impl_readParts_rec)] at h;exact h
/-- so many calls within each other -/
def impl_readParts_fuel:Nat→ByteArray→Option ((List (ByteArray×PT))×ByteArray)
 |0=>fun _=>none
 |n+1=>impl_readParts_step (impl_readParts_fuel n)
theorem impl_readParts_fuel_ok:∀n,FnOk prog 62 (R62 (impl_readParts_fuel n))
 |0=>fun xs r h=>by cases h
 |n+1=>impl_readParts_step_ok (impl_readParts_fuel n) (impl_readParts_fuel_ok n)
def impl_readParts:ByteArray→Option ((List (ByteArray×PT))×ByteArray):=impl_readParts_fuel 200
def A62:FnA:=R62 impl_readParts
theorem A62_ok:FnOk prog 62 A62:=impl_readParts_fuel_ok 200
def E28:Env:=ev fun g=>ifEq g 62 (some A62) (none)
theorem E28_ok:FnsOk prog E28:=(oF A62_ok func62 (noFns _ _))
def impl_parts:ByteArray→Option ((List (ByteArray×PT))×Bool):=fun a0=>
 bif (decide ((((ByteArray.size a0):Nat):Int)>120)) then
  some ([],false)
 else
  Option.bind (impl_readParts a0) fun(r0,r1)=>
   bif (decide ((((List.length r0):Nat):Int)>0)) then
    some ((List.take (List.length r0) (List.drop 0 r0)),((ByteArray.toList r1)==(ByteArray.toList (⟨#[]⟩:ByteArray))))
   else
    some ((List.take (List.length r0) (List.drop 0 r0)),false)
def A28:FnA:=⟨[.v .str],true,[.sl (.pair .str .pt),.bool],fun x=>impl_parts x.1⟩
theorem A28_ok:FnOk prog 28 A28:=fo (L:=L0) (by kernel_rfl) func28 E28_ok allNil
def E21:Env:=ev fun g=>ifEq g 28 (some A28) (none)
theorem E21_ok:FnsOk prog E21:=(oF A28_ok func28 (noFns _ _))
def impl_ExpressionValid:ByteArray→Option (Bool):=fun a0=>
 Option.bind (impl_parts a0) fun(r0,r1)=>
  some r1
def A21:FnA:=⟨[.v .str],true,[.bool],fun x=>impl_ExpressionValid x.1⟩
theorem A21_ok:FnOk prog 21 A21:=fo (L:=L0) (by kernel_rfl) func21 E21_ok allNil
def R30(impl_expand_rec:(List (ByteArray×PT))→Int→Option (ByteArray×Bool)):FnA:=⟨[.v (.sl (.pair .str .pt)),.v i6],true,[.str,.bool],fun x=>impl_expand_rec x.1 x.2.1⟩
def E30(impl_expand_rec:(List (ByteArray×PT))→Int→Option (ByteArray×Bool)):Env:=ev fun g=>ifEq g 30 (some (R30 impl_expand_rec)) (ifEq g 67 (some A67) (none))
theorem E30_ok(impl_expand_rec:(List (ByteArray×PT))→Int→Option (ByteArray×Bool))(hrec:FnOk prog 30 (R30 impl_expand_rec)):FnsOk prog (E30 impl_expand_rec):=(oF hrec func30 (oF A67_ok func67 (noFns _ _)))
def L30_0(impl_expand_rec:(List (ByteArray×PT))→Int→Option (ByteArray×Bool)):Nat→Option LoopD:=fun _=>none
def sh30_3:List Fm:=d::.cell (.val i6)::D 4 (.cell (.val .str)::D 5 (.cell (.val (.sl (.pair .str .pt)))::.cell (.val i6)::.cell (.val i6)::D 35 []))
def xs30_3:List (Ex×List Fm):=[(.ret,(D 4 (.cell (.val .str)::.cell (.val .bool)::D 44 []))),(.exit 0,(D 6 (.cell (.val .str)::D 43 [])))]
def impl_expand_l3(impl_expand_rec:(List (ByteArray×PT))→Int→Option (ByteArray×Bool)):(Int×ByteArray×(List (ByteArray×PT))×Int×Int×Unit)→Option ((Int×ByteArray×(List (ByteArray×PT))×Int×Int×Unit)⊕((ByteArray×Bool×Unit)⊕(ByteArray×Unit))):=fun(v1,v6,v12,v13,v14,_)=>
 bif (decide (v14<v13)) then
  if(((0:Int)≤v14)∧(v14<(((List.length v12):Nat):Int))) then
   bif ((ByteArray.toList (List.getD v12 (Int.toNat v14) (⟨Array.empty⟩,(PT.mk []))).1)==(ByteArray.toList (⟨#[]⟩:ByteArray))) then
    Option.bind (impl_expand_rec (PT.l (List.getD v12 (Int.toNat v14) (⟨Array.empty⟩,(PT.mk []))).2) v1) fun(r0,r1)=>
     bif (!r1) then
      some (Sum.inr (Sum.inl ((⟨#[]⟩:ByteArray),false,())))
     else
      if((((ByteArray.size r0):Nat):Int)=0) then
       none
      else
       bif (decide (v1>(IntKind.wrap .i64 (Int.tdiv (IntKind.wrap .i64 ((1000:Int)-(((ByteArray.size v6):Nat):Int))) (((ByteArray.size r0):Nat):Int))))) then
        some (Sum.inr (Sum.inl ((⟨#[]⟩:ByteArray),false,())))
       else
        Option.bind (strings_Repeat r0 v1) fun r2=>
         if(((ByteArray.size v6)+(ByteArray.size r2))≤9223372036854775807) then
          some (Sum.inl (v1,(v6++r2),v12,v13,(IntKind.wrap .i64 (v14+1)),()))
         else
          none
   else
    if((((ByteArray.size (List.getD v12 (Int.toNat v14) (⟨Array.empty⟩,(PT.mk []))).1):Nat):Int)=0) then
     none
    else
     bif (decide ((1:Int)>(IntKind.wrap .i64 (Int.tdiv (IntKind.wrap .i64 ((1000:Int)-(((ByteArray.size v6):Nat):Int))) (((ByteArray.size (List.getD v12 (Int.toNat v14) (⟨Array.empty⟩,(PT.mk []))).1):Nat):Int))))) then
      some (Sum.inr (Sum.inl ((⟨#[]⟩:ByteArray),false,())))
     else
      Option.bind (strings_Repeat (List.getD v12 (Int.toNat v14) (⟨Array.empty⟩,(PT.mk []))).1 1) fun r3=>
       if(((ByteArray.size v6)+(ByteArray.size r3))≤9223372036854775807) then
        some (Sum.inl (v1,(v6++r3),v12,v13,(IntKind.wrap .i64 (v14+1)),()))
       else
        none
  else
   none
 else
  some (Sum.inr (Sum.inr (v6,())))
theorem impl_expand_l3_eq(impl_expand_rec:(List (ByteArray×PT))→Int→Option (ByteArray×Bool)):loopStep 50 (E30 impl_expand_rec) (L30_0 impl_expand_rec) (loopOf f30 3) sh30_3 xs30_3=(impl_expand_l3 impl_expand_rec):=by kernel_rfl
theorem loop30_3(impl_expand_rec:(List (ByteArray×PT))→Int→Option (ByteArray×Bool))(hrec:FnOk prog 30 (R30 impl_expand_rec)){L:Nat→Option LoopD}(h:L 3=some ⟨50,sh30_3,xs30_3,(impl_expand_l3 impl_expand_rec)⟩):LoopOk prog L (loopOf f30 3):=
 loopOk (tysOk_of tyl_ok) (E30_ok impl_expand_rec hrec) (codeOk_in (L:=(L30_0 impl_expand_rec)) (tysOk_of tyl_ok) (E30_ok impl_expand_rec hrec) mixed (c:=loopOf f30 3) (bs:=[]) (by kernel_rfl) allNil (by kernel_rfl)) (by kernel_rfl) (by kernel_rfl) (impl_expand_l3_eq impl_expand_rec) (by rw[show firstId (loopOf f30 3)=3 from by kernel_rfl];exact h)
def L30_1(impl_expand_rec:(List (ByteArray×PT))→Int→Option (ByteArray×Bool)):Nat→Option LoopD:=fun n=>ifEq n 3 (some ⟨50,sh30_3,xs30_3,(impl_expand_l3 impl_expand_rec)⟩) ((L30_0 impl_expand_rec) n)
def impl_expand_step(impl_expand_rec:(List (ByteArray×PT))→Int→Option (ByteArray×Bool)):(List (ByteArray×PT))→Int→Option (ByteArray×Bool):=fun a0 a1=>
 Option.bind (loopF (impl_expand_l3 impl_expand_rec) (a1,(⟨#[]⟩:ByteArray),a0,(((List.length a0):Nat):Int),0,())) fun r0=>
  (match r0 with
  |.inl (d1,d2,_)=>
    some (d1,d2)
  |.inr (d3,_)=>
    some (d3,true))
theorem impl_expand_step_eq(impl_expand_rec:(List (ByteArray×PT))→Int→Option (ByteArray×Bool)):fnF (E30 impl_expand_rec) (L30_1 impl_expand_rec) [.v (.sl (.pair .str .pt)),.v i6] true [.str,.bool] f30.ntmps f30.results.toList (codeOf f30)=fun x=>(impl_expand_step impl_expand_rec) x.1 x.2.1:=by kernel_rfl
theorem impl_expand_step_ok(impl_expand_rec:(List (ByteArray×PT))→Int→Option (ByteArray×Bool))(hrec:FnOk prog 30 (R30 impl_expand_rec)):FnOk prog 30 ⟨[.v (.sl (.pair .str .pt)),.v i6],true,[.str,.bool],fun x=>(impl_expand_step impl_expand_rec) x.1 x.2.1⟩:=by
 have h:=fnOk_of_run (P:=prog) (E:=(E30 impl_expand_rec)) (tysOk_of tyl_ok) (E30_ok impl_expand_rec hrec) (L:=(L30_1 impl_expand_rec)) (ps:=[.v (.sl (.pair .str .pt)),.v i6]) (own:=true) (outs:=[.str,.bool]) func30 (c:=codeOf f30) (by kernel_rfl) (codeOk_in (L:=(L30_1 impl_expand_rec)) (tysOk_of tyl_ok) (E30_ok impl_expand_rec hrec) mixed (c:=codeOf f30) (bs:=[loopOf f30 3]) (by kernel_rfl) (allCons (loop30_3 impl_expand_rec hrec rfl) allNil) (by kernel_rfl));rw[(impl_expand_step_eq impl_expand_rec)] at h;exact h
/-- so many calls within each other -/
def impl_expand_fuel:Nat→(List (ByteArray×PT))→Int→Option (ByteArray×Bool)
 |0=>fun _ _=>none
 |n+1=>impl_expand_step (impl_expand_fuel n)
theorem impl_expand_fuel_ok:∀n,FnOk prog 30 (R30 (impl_expand_fuel n))
 |0=>fun xs r h=>by cases h
 |n+1=>impl_expand_step_ok (impl_expand_fuel n) (impl_expand_fuel_ok n)
def impl_expand:(List (ByteArray×PT))→Int→Option (ByteArray×Bool):=impl_expand_fuel 200
def A30:FnA:=R30 impl_expand
theorem A30_ok:FnOk prog 30 A30:=impl_expand_fuel_ok 200
def E9:Env:=ev fun g=>ifEq g 28 (some A28) (ifEq g 30 (some A30) (none))
theorem E9_ok:FnsOk prog E9:=(oF A28_ok func28 (oF A30_ok func30 (noFns _ _)))
def impl_ExpandExpression:ByteArray→Int→Option (ByteArray×Bool):=fun a0 a1=>
 Option.bind (impl_parts a0) fun(r0,r1)=>
  bif (!r1) then
   some ((⟨#[]⟩:ByteArray),false)
  else
   bif (decide (a1<1)) then
    some ((⟨#[]⟩:ByteArray),false)
   else
    Option.bind (impl_expand (List.take (List.length r0) (List.drop 0 r0)) a1) fun(r2,r3)=>
     some (r2,r3)
def A9:FnA:=⟨[.v .str,.v i6],true,[.str,.bool],fun x=>impl_ExpandExpression x.1 x.2.1⟩
theorem A9_ok:FnOk prog 9 A9:=fo (L:=L0) (by kernel_rfl) func9 E9_ok allNil
def sh53_2:List Fm:=.cell (.val .str)::D 4 (.cell (.val i6)::.cell (.val i6)::D 16 [])
def xs53_2:List (Ex×List Fm):=[(.ret,(d::d::.cell (.val .bool)::D 20 [])),(.exit 0,(.cell (.val .str)::D 22 []))]
def impl_WordValid_l2:(ByteArray×Int×Int×Unit)→Option ((ByteArray×Int×Int×Unit)⊕((Bool×Unit)⊕(ByteArray×Unit))):=fun(v0,v5,v6,_)=>
 bif (decide (v6<v5)) then
  if(((0:Int)≤v6)∧(v6<(((ByteArray.size v0):Nat):Int))) then
   bif ((((UInt8.toNat (Array.getD (ByteArray.data v0) (Int.toNat v6) (0:UInt8))):Nat):Int) != 97) then
    if(((0:Int)≤v6)∧(v6<(((ByteArray.size v0):Nat):Int))) then
     bif ((((UInt8.toNat (Array.getD (ByteArray.data v0) (Int.toNat v6) (0:UInt8))):Nat):Int) != 98) then
      some (Sum.inr (Sum.inl (false,())))
     else
      some (Sum.inl (v0,v5,(IntKind.wrap .i64 (v6+1)),()))
    else
     none
   else
    some (Sum.inl (v0,v5,(IntKind.wrap .i64 (v6+1)),()))
  else
   none
 else
  some (Sum.inr (Sum.inr (v0,())))
theorem loop53_2{L}(h:L 2=some ⟨23,sh53_2,xs53_2,impl_WordValid_l2⟩):LoopOk prog L (loopOf f53 2):=lo (L':=L0) (by kernel_rfl) E0_ok allNil h
def L53_1:Nat→Option LoopD:=fun n=>ifEq n 2 (some ⟨23,sh53_2,xs53_2,impl_WordValid_l2⟩) (L0 n)
def impl_WordValid:ByteArray→Option (Bool):=fun a0=>
 Option.bind (loopF impl_WordValid_l2 (a0,(((ByteArray.size a0):Nat):Int),0,())) fun r0=>
  (match r0 with
  |.inl (d1,_)=>
    some d1
  |.inr (d2,_)=>
    some (decide ((((ByteArray.size d2):Nat):Int)≤1000)))
def A53:FnA:=⟨[.v .str],true,[.bool],fun x=>impl_WordValid x.1⟩
theorem A53_ok:FnOk prog 53 A53:=fo (L:=L53_1) (by kernel_rfl) func53 E0_ok (allCons (loop53_2 rfl) allNil)
def bits_Mul64:Int→Int→Option (Int×Int):=fun a0 a1=>
 if((32:Int)<0) then
  none
 else
  if((32:Int)<0) then
   none
  else
   if((32:Int)<0) then
    none
   else
    if((32:Int)<0) then
     none
    else
     if((32:Int)<0) then
      none
     else
      some ((IntKind.wrap .u64 ((IntKind.wrap .u64 ((IntKind.wrap .u64 ((Int.fdiv a0 ((2:Int)^(Min.min (Int.toNat 32) (IntKind.bits .u64))))*(Int.fdiv a1 ((2:Int)^(Min.min (Int.toNat 32) (IntKind.bits .u64))))))+(Int.fdiv (IntKind.wrap .u64 ((IntKind.wrap .u64 ((Int.fdiv a0 ((2:Int)^(Min.min (Int.toNat 32) (IntKind.bits .u64))))*((((BitVec.toNat ((BitVec.ofInt (IntKind.bits .u64) a1)&&& (BitVec.ofInt (IntKind.bits .u64) 4294967295)))%(Int.natAbs ((2:Int)^(IntKind.bits .u64)))):Nat):Int)))+(Int.fdiv (IntKind.wrap .u64 (((((BitVec.toNat ((BitVec.ofInt (IntKind.bits .u64) a0)&&& (BitVec.ofInt (IntKind.bits .u64) 4294967295)))%(Int.natAbs ((2:Int)^(IntKind.bits .u64)))):Nat):Int)*((((BitVec.toNat ((BitVec.ofInt (IntKind.bits .u64) a1)&&& (BitVec.ofInt (IntKind.bits .u64) 4294967295)))%(Int.natAbs ((2:Int)^(IntKind.bits .u64)))):Nat):Int))) ((2:Int)^(Min.min (Int.toNat 32) (IntKind.bits .u64)))))) ((2:Int)^(Min.min (Int.toNat 32) (IntKind.bits .u64))))))+(Int.fdiv (IntKind.wrap .u64 (((((BitVec.toNat ((BitVec.ofInt (IntKind.bits .u64) (IntKind.wrap .u64 ((IntKind.wrap .u64 ((Int.fdiv a0 ((2:Int)^(Min.min (Int.toNat 32) (IntKind.bits .u64))))*((((BitVec.toNat ((BitVec.ofInt (IntKind.bits .u64) a1)&&& (BitVec.ofInt (IntKind.bits .u64) 4294967295)))%(Int.natAbs ((2:Int)^(IntKind.bits .u64)))):Nat):Int)))+(Int.fdiv (IntKind.wrap .u64 (((((BitVec.toNat ((BitVec.ofInt (IntKind.bits .u64) a0)&&& (BitVec.ofInt (IntKind.bits .u64) 4294967295)))%(Int.natAbs ((2:Int)^(IntKind.bits .u64)))):Nat):Int)*((((BitVec.toNat ((BitVec.ofInt (IntKind.bits .u64) a1)&&& (BitVec.ofInt (IntKind.bits .u64) 4294967295)))%(Int.natAbs ((2:Int)^(IntKind.bits .u64)))):Nat):Int))) ((2:Int)^(Min.min (Int.toNat 32) (IntKind.bits .u64)))))))&&& (BitVec.ofInt (IntKind.bits .u64) 4294967295)))%(Int.natAbs ((2:Int)^(IntKind.bits .u64)))):Nat):Int)+(IntKind.wrap .u64 (((((BitVec.toNat ((BitVec.ofInt (IntKind.bits .u64) a0)&&& (BitVec.ofInt (IntKind.bits .u64) 4294967295)))%(Int.natAbs ((2:Int)^(IntKind.bits .u64)))):Nat):Int)*(Int.fdiv a1 ((2:Int)^(Min.min (Int.toNat 32) (IntKind.bits .u64)))))))) ((2:Int)^(Min.min (Int.toNat 32) (IntKind.bits .u64)))))),(IntKind.wrap .u64 (a0*a1)))
def A213:FnA:=⟨[.v (.int .u64),.v (.int .u64)],true,[.int .u64,.int .u64],fun x=>bits_Mul64 x.1 x.2.1⟩
theorem A213_ok:FnOk prog 213 A213:=fo (L:=L0) (by kernel_rfl) func213 E0_ok allNil
def E142:Env:=ev fun g=>ifEq g 213 (some A213) (none)
theorem E142_ok:FnsOk prog E142:=(oF A213_ok func213 (noFns _ _))
def bits_Mul:Int→Int→Option (Int×Int):=fun a0 a1=>
 Option.bind (bits_Mul64 a0 a1) fun(r0,r1)=>
  some (r0,r1)
def A142:FnA:=⟨[.v (.int .u64),.v (.int .u64)],true,[.int .u64,.int .u64],fun x=>bits_Mul x.1 x.2.1⟩
theorem A142_ok:FnOk prog 142 A142:=fo (L:=L0) (by kernel_rfl) func142 E142_ok allNil
def E129:Env:=ev fun g=>ifEq g 142 (some A142) (none)
theorem E129_ok:FnsOk prog E129:=(oF A142_ok func142 (noFns _ _))
def sh129_8:List Fm:=D 7 (.cell (.own i6 100700 false)::.cell (.val i6)::D 39 [])
def xs129_8:List (Ex×List Fm):=[(.exit 0,(D 7 (.cell (.own i6 100700 false)::D 40 [])))]
def slices_Repeat_l8:(LI×Int×Unit)→Option ((LI×Int×Unit)⊕((LI×Unit))):=fun(v7,v8,_)=>
 bif (decide (v8<(((List.length v7):Nat):Int))) then
  if(((0:Int)≤v8)∧(v8≤(((List.length v7):Nat):Int))) then
   if(((0:Int)≤v8)∧(v8≤(((List.length v7):Nat):Int))) then
    some (Sum.inl ((List.take (List.length v7) (List.drop 0 ((List.take (0+(Int.toNat v8)) v7)++((List.take ((List.length v7)-(Int.toNat v8)) (List.take ((Int.toNat v8)-0) (List.drop (0+0) v7)))++(List.drop ((0+(Int.toNat v8))+(List.length (List.take ((List.length v7)-(Int.toNat v8)) (List.take ((Int.toNat v8)-0) (List.drop (0+0) v7))))) v7))))),(IntKind.wrap .i64 (v8+(((List.length (List.take ((List.length v7)-(Int.toNat v8)) (List.take ((Int.toNat v8)-0) (List.drop (0+0) v7)))):Nat):Int))),()))
   else
    none
  else
   none
 else
  some (Sum.inr ((List.take (List.length v7) (List.drop 0 v7)),()))
theorem loop129_8{L}(h:L 8=some ⟨48,sh129_8,xs129_8,slices_Repeat_l8⟩):LoopOk prog L (loopOf f129 8):=lo (L':=L0) (by kernel_rfl) E129_ok allNil h
def L129_1:Nat→Option LoopD:=fun n=>ifEq n 8 (some ⟨48,sh129_8,xs129_8,slices_Repeat_l8⟩) (L0 n)
def slices_Repeat:LI→Int→Option (LI):=fun a0 a1=>
 bif (decide (a1<0)) then
  none
 else
  Option.bind (bits_Mul (IntKind.wrap .u64 (((List.length a0):Nat):Int)) (IntKind.wrap .u64 a1)) fun(r0,r1)=>
   bif (decide (r0>0)) then
    none
   else
    bif (decide (r1>9223372036854775807)) then
     none
    else
     if(((0:Int)≤(IntKind.wrap .i64 r1))∧(((IntKind.wrap .i64 r1)=(IntKind.wrap .i64 r1))∧(((IntKind.wrap .i64 r1)*((8:Nat):Int))≤140737488355328))) then
      Option.bind (loopF slices_Repeat_l8 ((List.take (Int.toNat (IntKind.wrap .i64 r1)) (List.drop 0 ((List.take 0 (List.replicate (Int.toNat (IntKind.wrap .i64 r1)) 0))++((List.take (Int.toNat (IntKind.wrap .i64 r1)) a0)++(List.drop (0+(List.length (List.take (Int.toNat (IntKind.wrap .i64 r1)) a0))) (List.replicate (Int.toNat (IntKind.wrap .i64 r1)) 0)))))),(((List.length (List.take (Int.toNat (IntKind.wrap .i64 r1)) a0)):Nat):Int),())) fun(r2,_)=>
       some (List.take (List.length r2) (List.drop 0 r2))
     else
      none
def A129:FnA:=⟨[.v sI,.v i6],true,[.sl i6],fun x=>slices_Repeat x.1 x.2.1⟩
theorem A129_ok:FnOk prog 129 A129:=fo (L:=L129_1) (by kernel_rfl) func129 E129_ok (allCons (loop129_8 rfl) allNil)
def E54:Env:=ev fun g=>ifEq g 129 (some A129) (none)
theorem E54_ok:FnsOk prog E54:=(oF A129_ok func129 (noFns _ _))
def sh54_3:List Fm:=d::.cell (.val .str)::.box 100200 [.val i6,.val sI,.val sI,.val sS]::d::d::.cell (.own i6 100500 false)::D 12 (.cell (.val sI)::.cell (.val i6)::.cell (.val i6)::D 60 [])
def xs54_3:List (Ex×List Fm):=[(.exit 0,[d,.cell (.val .str),.box 100200 [.val i6,.val sI,.val sI,.val sS],d,d,.cell (.own i6 100500 false),d,d,d,d,d,d,d,d,d,d,d,d,d,d,d,d,d,d,d,d,d,d,d,d,d,d,d,d,d,d,d,d,d,d,d,d,d,d,d,d,d,d,d,d,d,d,d,d,d,d,d,d,d,d,d,d,d,d,d,d,d,d,d,d,d,d,d,d,d,d,d,d,d,d,d])]
def impl_toEnd_l3:(ByteArray×(Int×LI×LI×LS×Unit)×LI×LI×Int×Int×Unit)→Option ((ByteArray×(Int×LI×LI×LS×Unit)×LI×LI×Int×Int×Unit)⊕((ByteArray×(Int×LI×LI×LS×Unit)×LI×Unit))):=fun(v1,(v2_0,v2_1,v2_2,v2_3,_),v5,v18,v19,v20,_)=>
 bif (decide (v20<v19)) then
  if(((0:Int)≤v20)∧(v20<(((List.length v18):Nat):Int))) then
   if(((0:Int)≤(List.getD v18 (Int.toNat v20) 0))∧((List.getD v18 (Int.toNat v20) 0)<(((List.length v5):Nat):Int))) then
    some (Sum.inl (v1,(v2_0,v2_1,v2_2,v2_3,()),(List.take (List.length v5) (List.drop 0 (List.set v5 (0+(Int.toNat (List.getD v18 (Int.toNat v20) 0))) 0))),v18,v19,(IntKind.wrap .i64 (v20+1)),()))
   else
    none
  else
   none
 else
  some (Sum.inr (v1,(v2_0,v2_1,v2_2,v2_3,()),(List.take (List.length v5) (List.drop 0 v5)),()))
theorem loop54_3{L}(h:L 3=some ⟨81,sh54_3,xs54_3,impl_toEnd_l3⟩):LoopOk prog L (loopOf f54 3):=lo (L':=L0) (by kernel_rfl) E54_ok allNil h
def L54_1:Nat→Option LoopD:=fun n=>ifEq n 3 (some ⟨81,sh54_3,xs54_3,impl_toEnd_l3⟩) (L0 n)
def sh54_13:List Fm:=d::.cell (.val .str)::.box 100200 [.val i6,.val sI,.val sI,.val sS]::d::d::.cell (.val sI)::d::d::.cell (.own sI 100800 false)::.cell (.val i6)::.cell (.own i6 101000 false)::D 31 (.cell (.val sS)::.cell (.val i6)::.cell (.val i6)::D 36 [])
def xs54_13:List (Ex×List Fm):=[(.exit 4,[d,.cell (.val .str),.box 100200 [.val i6,.val sI,.val sI,.val sS],d,d,d,d,d,.cell (.own sI 100800 false),.cell (.val i6),.cell (.own i6 101000 false),d,d,d,d,d,d,d,d,d,d,d,d,d,d,d,d,d,d,d,d,d,d,d,d,d,d,d,d,d,d,d,d,d,d,d,d,d,d,d,d,d,d,d,d,d,d,d,d,d,d,d,d,d,d,d,d,d,d,d,d,d,d,d,d,d,d,d,d,d,d])]
def impl_toEnd_l13:(ByteArray×(Int×LI×LI×LS×Unit)×LI×(List LI)×Int×LI×LS×Int×Int×Unit)→Option ((ByteArray×(Int×LI×LI×LS×Unit)×LI×(List LI)×Int×LI×LS×Int×Int×Unit)⊕((ByteArray×(Int×LI×LI×LS×Unit)×(List LI)×Int×LI×Unit))):=fun(v1,(v2_0,v2_1,v2_2,v2_3,_),v5,v8,v9,v10,v42,v43,v44,_)=>
 bif (decide (v44<v43)) then
  if(((0:Int)≤v44)∧(v44<(((List.length v42):Nat):Int))) then
   if(((0:Int)≤v9)∧((v9≤(IntKind.wrap .i64 (v9+1)))∧((IntKind.wrap .i64 (v9+1))≤(((ByteArray.size v1):Nat):Int)))) then
    bif ((ByteArray.toList (List.getD v42 (Int.toNat v44) ((0:Int),⟨Array.empty⟩,0,0)).2.1)==(ByteArray.toList (ByteArray.extract v1 (Int.toNat v9) (Int.toNat (IntKind.wrap .i64 (v9+1)))))) then
     if(((0:Int)≤(List.getD v42 (Int.toNat v44) ((0:Int),⟨Array.empty⟩,0,0)).1)∧((List.getD v42 (Int.toNat v44) ((0:Int),⟨Array.empty⟩,0,0)).1<(((List.length v10):Nat):Int))) then
      if(((0:Int)≤(List.getD v42 (Int.toNat v44) ((0:Int),⟨Array.empty⟩,0,0)).2.2.1)∧((List.getD v42 (Int.toNat v44) ((0:Int),⟨Array.empty⟩,0,0)).2.2.1<(((List.length v5):Nat):Int))) then
       if(((0:Int)≤(List.getD v42 (Int.toNat v44) ((0:Int),⟨Array.empty⟩,0,0)).1)∧((List.getD v42 (Int.toNat v44) ((0:Int),⟨Array.empty⟩,0,0)).1<(((List.length v10):Nat):Int))) then
        some (Sum.inl (v1,(v2_0,v2_1,v2_2,v2_3,()),v5,(List.take (List.length v8) (List.drop 0 v8)),v9,(List.take (List.length v10) (List.drop 0 (List.set v10 (0+(Int.toNat (List.getD v42 (Int.toNat v44) ((0:Int),⟨Array.empty⟩,0,0)).1)) (if((IntKind.wrap .i64 ((List.getD v42 (Int.toNat v44) ((0:Int),⟨Array.empty⟩,0,0)).2.2.2+(List.getD v5 (Int.toNat (List.getD v42 (Int.toNat v44) ((0:Int),⟨Array.empty⟩,0,0)).2.2.1) 0)))<(List.getD v10 (0+(Int.toNat (List.getD v42 (Int.toNat v44) ((0:Int),⟨Array.empty⟩,0,0)).1)) 0)) then(IntKind.wrap .i64 ((List.getD v42 (Int.toNat v44) ((0:Int),⟨Array.empty⟩,0,0)).2.2.2+(List.getD v5 (Int.toNat (List.getD v42 (Int.toNat v44) ((0:Int),⟨Array.empty⟩,0,0)).2.2.1) 0))) else(List.getD v10 (0+(Int.toNat (List.getD v42 (Int.toNat v44) ((0:Int),⟨Array.empty⟩,0,0)).1)) 0))))),v42,v43,(IntKind.wrap .i64 (v44+1)),()))
       else
        none
      else
       none
     else
      none
    else
     some (Sum.inl (v1,(v2_0,v2_1,v2_2,v2_3,()),v5,(List.take (List.length v8) (List.drop 0 v8)),v9,(List.take (List.length v10) (List.drop 0 v10)),v42,v43,(IntKind.wrap .i64 (v44+1)),()))
   else
    none
  else
   none
 else
  some (Sum.inr (v1,(v2_0,v2_1,v2_2,v2_3,()),(List.take (List.length v8) (List.drop 0 v8)),v9,(List.take (List.length v10) (List.drop 0 v10)),()))
theorem loop54_13{L}(h:L 13=some ⟨81,sh54_13,xs54_13,impl_toEnd_l13⟩):LoopOk prog L (loopOf f54 13):=lo (L':=L54_1) (by kernel_rfl) E54_ok allNil h
def L54_2:Nat→Option LoopD:=fun n=>ifEq n 13 (some ⟨81,sh54_13,xs54_13,impl_toEnd_l13⟩) (L54_1 n)
def sh54_9:List Fm:=d::.cell (.val .str)::.box 100200 [.val i6,.val sI,.val sI,.val sS]::d::d::.cell (.val sI)::d::d::.cell (.own sI 100800 false)::.cell (.val i6)::D 71 []
def xs54_9:List (Ex×List Fm):=[(.exit 2,(D 8 (.cell (.own sI 100800 false)::D 72 [])))]
def impl_toEnd_l9:(ByteArray×(Int×LI×LI×LS×Unit)×LI×(List LI)×Int×Unit)→Option ((ByteArray×(Int×LI×LI×LS×Unit)×LI×(List LI)×Int×Unit)⊕(((List LI)×Unit))):=fun(v1,(v2_0,v2_1,v2_2,v2_3,_),v5,v8,v9,_)=>
 bif (decide (v9≥0)) then
  Option.bind (slices_Repeat (List.take 1 (List.drop 0 [(1000000:Int)])) v2_0) fun r0=>
   Option.bind (loopF impl_toEnd_l13 (v1,(v2_0,v2_1,v2_2,v2_3,()),v5,(List.take (List.length v8) (List.drop 0 v8)),v9,(List.take (List.length r0) (List.drop 0 r0)),v2_3,(((List.length v2_3):Nat):Int),0,())) fun(r1,(r2,r3,r4,r5,_),r6,r7,r8,_)=>
    if(((0+(List.length r6))=(List.length r6))∧((((List.length r6)+(List.length (List.take 1 (List.drop 0 [(List.take (List.length r8) (List.drop 0 r8))]))))*24)≤140737488355328)) then
     some (Sum.inl (r1,(r2,r3,r4,r5,()),(List.take (List.length r8) (List.drop 0 r8)),(List.take ((List.length r6)+(List.length (List.take 1 (List.drop 0 [(List.take (List.length r8) (List.drop 0 r8))])))) (List.drop 0 ((List.drop 0 r6)++(List.take 1 (List.drop 0 [(List.take (List.length r8) (List.drop 0 r8))]))))),(IntKind.wrap .i64 (r7-1)),()))
    else
     none
 else
  some (Sum.inr ((List.take (List.length v8) (List.drop 0 v8)),()))
theorem loop54_9{L}(h:L 9=some ⟨81,sh54_9,xs54_9,impl_toEnd_l9⟩):LoopOk prog L (loopOf f54 9):=lo (L':=L54_2) (by kernel_rfl) E54_ok (allCons (loop54_13 rfl) allNil) h
def L54_3:Nat→Option LoopD:=fun n=>ifEq n 9 (some ⟨81,sh54_9,xs54_9,impl_toEnd_l9⟩) (L54_2 n)
def impl_toEnd:TA→ByteArray→Option ((List LI)):=fun(a0_0,a0_1,a0_2,a0_3) a1=>
 Option.bind (slices_Repeat (List.take 1 (List.drop 0 [(1000000:Int)])) a0_0) fun r0=>
  Option.bind (loopF impl_toEnd_l3 (a1,(a0_0,a0_1,a0_2,a0_3,()),(List.take (List.length r0) (List.drop 0 r0)),a0_2,(((List.length a0_2):Nat):Int),0,())) fun(r1,(r2,r3,r4,r5,_),r6,_)=>
   Option.bind (loopF impl_toEnd_l9 (r1,(r2,r3,r4,r5,()),(List.take (List.length r6) (List.drop 0 r6)),(List.take 1 (List.drop 0 [(List.take (List.length r6) (List.drop 0 r6))])),(IntKind.wrap .i64 ((((ByteArray.size r1):Nat):Int)-1)),())) fun(r7,_)=>
    some (List.take (List.length r7) (List.drop 0 r7))
def A54:FnA:=⟨[.v kA,.v .str],true,[.sl sI],fun x=>impl_toEnd x.1 x.2.1⟩
theorem A54_ok:FnOk prog 54 A54:=fo (L:=L54_3) (by kernel_rfl) func54 E54_ok (allCons (loop54_3 rfl) (allCons (loop54_9 rfl) allNil))
def E22:Env:=ev fun g=>ifEq g 20 (some A20) (ifEq g 53 (some A53) (ifEq g 54 (some A54) (none)))
theorem E22_ok:FnsOk prog E22:=(oF A20_ok func20 (oF A53_ok func53 (oF A54_ok func54 (noFns _ _))))
def sh22_6:List Fm:=d::.cell (.val .str)::d::d::d::.cell (.own sI 100500 false)::.cell (.val i6)::D 14 (.cell (.val sI)::.cell (.val i6)::.cell (.val i6)::D 15 [])
def xs22_6:List (Ex×List Fm):=[(.exit 0,(D 6 (.cell (.val i6)::D 32 [])))]
def impl_CostOf_l6:(ByteArray×(List LI)×Int×LI×Int×Int×Unit)→Option ((ByteArray×(List LI)×Int×LI×Int×Int×Unit)⊕((Int×Unit))):=fun(v1,v5,v6,v21,v22,v23,_)=>
 bif (decide (v23<v22)) then
  if(((0:Int)≤v23)∧(v23<(((List.length v21):Nat):Int))) then
   if(((0:Int)≤(((ByteArray.size v1):Nat):Int))∧((((ByteArray.size v1):Nat):Int)<(((List.length v5):Nat):Int))) then
    if(((0:Int)≤(List.getD v21 (Int.toNat v23) 0))∧((List.getD v21 (Int.toNat v23) 0)<(((List.length (List.getD v5 (0+(Int.toNat (((ByteArray.size v1):Nat):Int))) [])):Nat):Int))) then
     some (Sum.inl (v1,(List.take (List.length v5) (List.drop 0 v5)),(if((List.getD (List.getD v5 (0+(Int.toNat (((ByteArray.size v1):Nat):Int))) []) (Int.toNat (List.getD v21 (Int.toNat v23) 0)) 0)<v6) then(List.getD (List.getD v5 (0+(Int.toNat (((ByteArray.size v1):Nat):Int))) []) (Int.toNat (List.getD v21 (Int.toNat v23) 0)) 0) else v6),v21,v22,(IntKind.wrap .i64 (v23+1)),()))
    else
     none
   else
    none
  else
   none
 else
  some (Sum.inr (v6,()))
theorem loop22_6{L}(h:L 6=some ⟨39,sh22_6,xs22_6,impl_CostOf_l6⟩):LoopOk prog L (loopOf f22 6):=lo (L':=L0) (by kernel_rfl) E22_ok allNil h
def L22_1:Nat→Option LoopD:=fun n=>ifEq n 6 (some ⟨39,sh22_6,xs22_6,impl_CostOf_l6⟩) (L0 n)
def impl_CostOf:TA→ByteArray→Option (Int):=fun(a0_0,a0_1,a0_2,a0_3) a1=>
 Option.bind (impl_AutomatonValid (a0_0,a0_1,a0_2,a0_3)) fun r0=>
  bif (!r0) then
   some (-1)
  else
   Option.bind (impl_WordValid a1) fun r1=>
    bif (!r1) then
     some (-1)
    else
     Option.bind (impl_toEnd (a0_0,a0_1,a0_2,a0_3) a1) fun r2=>
      Option.bind (loopF impl_CostOf_l6 (a1,(List.take (List.length r2) (List.drop 0 r2)),1000000,a0_1,(((List.length a0_1):Nat):Int),0,())) fun(r3,_)=>
       some r3
def A22:FnA:=⟨[.v kA,.v .str],true,[.int .i64],fun x=>impl_CostOf x.1 x.2.1⟩
theorem A22_ok:FnOk prog 22 A22:=fo (L:=L22_1) (by kernel_rfl) func22 E22_ok (allCons (loop22_6 rfl) allNil)
def E5:Env:=ev fun g=>ifEq g 20 (some A20) (ifEq g 21 (some A21) (ifEq g 9 (some A9) (ifEq g 22 (some A22) (none))))
theorem E5_ok:FnsOk prog E5:=(oF A20_ok func20 (oF A21_ok func21 (oF A9_ok func9 (oF A22_ok func22 (noFns _ _)))))
def sh5_5:List Fm:=d::.cell (.val .str)::.cell (.val i6)::.box 100300 [.val i6,.val sI,.val sI,.val sS]::D 4 (.cell (.own i6 100800 false)::.cell (.val i6)::D 39 [])
def xs5_5:List (Ex×List Fm):=[(.ret,(D 6 (.cell (.own i6 100600 false)::.cell (.val .bool)::D 41 []))),(.exit 0,(D 8 (.cell (.own i6 100800 false)::D 40 [])))]
def impl_GrowthOf_l5:(ByteArray×Int×(Int×LI×LI×LS×Unit)×LI×Int×Unit)→Option ((ByteArray×Int×(Int×LI×LI×LS×Unit)×LI×Int×Unit)⊕((LI×Bool×Unit)⊕(LI×Unit))):=fun(v1,v2,(v3_0,v3_1,v3_2,v3_3,_),v8,v9,_)=>
 bif (decide (v9≤v2)) then
  Option.bind (impl_ExpandExpression v1 v9) fun(r0,r1)=>
   bif (!r1) then
    some (Sum.inr (Sum.inl ([],false,())))
   else
    Option.bind (impl_CostOf (v3_0,v3_1,v3_2,v3_3) r0) fun r2=>
     if(((0+(List.length v8))=(List.length v8))∧((((List.length v8)+(List.length (List.take 1 (List.drop 0 [r2]))))*8)≤140737488355328)) then
      some (Sum.inl (v1,v2,(v3_0,v3_1,v3_2,v3_3,()),(List.take ((List.length v8)+(List.length (List.take 1 (List.drop 0 [r2])))) (List.drop 0 ((List.drop 0 v8)++(List.take 1 (List.drop 0 [r2]))))),(IntKind.wrap .i64 (v9+1)),()))
     else
      none
 else
  some (Sum.inr (Sum.inr ((List.take (List.length v8) (List.drop 0 v8)),())))
theorem loop5_5{L}(h:L 5=some ⟨49,sh5_5,xs5_5,impl_GrowthOf_l5⟩):LoopOk prog L (loopOf f5 5):=lo (L':=L0) (by kernel_rfl) E5_ok allNil h
def L5_1:Nat→Option LoopD:=fun n=>ifEq n 5 (some ⟨49,sh5_5,xs5_5,impl_GrowthOf_l5⟩) (L0 n)
def impl_GrowthOf:TA→ByteArray→Int→Option (LI×Bool):=fun(a0_0,a0_1,a0_2,a0_3) a1 a2=>
 Option.bind (impl_AutomatonValid (a0_0,a0_1,a0_2,a0_3)) fun r0=>
  bif (!r0) then
   some ([],false)
  else
   Option.bind (impl_ExpressionValid a1) fun r1=>
    bif (!r1) then
     some ([],false)
    else
     bif (decide (a2<0)) then
      some ([],false)
     else
      bif (decide (a2>20)) then
       some ([],false)
      else
       Option.bind (loopF impl_GrowthOf_l5 (a1,a2,(a0_0,a0_1,a0_2,a0_3,()),(List.take 0 (List.drop 0 [])),1,())) fun r2=>
        (match r2 with
        |.inl (d3,d4,_)=>
          some ((List.take (List.length d3) (List.drop 0 d3)),d4)
        |.inr (d5,_)=>
          some ((List.take (List.length d5) (List.drop 0 d5)),true))
def A5:FnA:=⟨[.v kA,.v .str,.v i6],true,[.sl i6,.bool],fun x=>impl_GrowthOf x.1 x.2.1 x.2.2.1⟩
theorem A5_ok:FnOk prog 5 A5:=fo (L:=L5_1) (by kernel_rfl) func5 E5_ok (allCons (loop5_5 rfl) allNil)
def R58(spec_l7Expand_rec:ByteArray→Int→Option (ByteArray)):FnA:=⟨[.v .str,.v i6],true,[.str],fun x=>spec_l7Expand_rec x.1 x.2.1⟩
def E58(spec_l7Expand_rec:ByteArray→Int→Option (ByteArray)):Env:=ev fun g=>ifEq g 130 (some A130) (ifEq g 58 (some (R58 spec_l7Expand_rec)) (none))
theorem E58_ok(spec_l7Expand_rec:ByteArray→Int→Option (ByteArray))(hrec:FnOk prog 58 (R58 spec_l7Expand_rec)):FnsOk prog (E58 spec_l7Expand_rec):=(oF A130_ok func130 (oF hrec func58 (noFns _ _)))
def L58_0(spec_l7Expand_rec:ByteArray→Int→Option (ByteArray)):Nat→Option LoopD:=fun _=>none
def sh58_10:List Fm:=d::.cell (.val i6)::d::d::d::.cell (.val .str)::d::d::.cell (.val .str)::.cell (.val .str)::.cell (.val i6)::.cell (.val i6)::D 34 []
def xs58_10:List (Ex×List Fm):=[(.exit 2,(d::.cell (.val i6)::d::d::d::.cell (.val .str)::d::d::.cell (.val .str)::D 37 []))]
def spec_l7Expand_l10(spec_l7Expand_rec:ByteArray→Int→Option (ByteArray)):(Int×ByteArray×ByteArray×ByteArray×Int×Int×Unit)→Option ((Int×ByteArray×ByteArray×ByteArray×Int×Int×Unit)⊕((Int×ByteArray×ByteArray×Unit))):=fun(v1,v5,v8,v9,v10,v11,_)=>
 bif (decide (v11<v10)) then
  bif (decide ((((ByteArray.size v5):Nat):Int)≤1000)) then
   if(((ByteArray.size v5)+(ByteArray.size v9))≤9223372036854775807) then
    some (Sum.inl (v1,(v5++v9),v8,v9,v10,(IntKind.wrap .i64 (v11+1)),()))
   else
    none
  else
   some (Sum.inr (v1,v5,v8,()))
 else
  some (Sum.inr (v1,v5,v8,()))
theorem spec_l7Expand_l10_eq(spec_l7Expand_rec:ByteArray→Int→Option (ByteArray)):loopStep 46 (E58 spec_l7Expand_rec) (L58_0 spec_l7Expand_rec) (loopOf f58 10) sh58_10 xs58_10=(spec_l7Expand_l10 spec_l7Expand_rec):=by kernel_rfl
theorem loop58_10(spec_l7Expand_rec:ByteArray→Int→Option (ByteArray))(hrec:FnOk prog 58 (R58 spec_l7Expand_rec)){L:Nat→Option LoopD}(h:L 10=some ⟨46,sh58_10,xs58_10,(spec_l7Expand_l10 spec_l7Expand_rec)⟩):LoopOk prog L (loopOf f58 10):=
 loopOk (tysOk_of tyl_ok) (E58_ok spec_l7Expand_rec hrec) (codeOk_in (L:=(L58_0 spec_l7Expand_rec)) (tysOk_of tyl_ok) (E58_ok spec_l7Expand_rec hrec) mixed (c:=loopOf f58 10) (bs:=[]) (by kernel_rfl) allNil (by kernel_rfl)) (by kernel_rfl) (by kernel_rfl) (spec_l7Expand_l10_eq spec_l7Expand_rec) (by rw[show firstId (loopOf f58 10)=10 from by kernel_rfl];exact h)
def L58_1(spec_l7Expand_rec:ByteArray→Int→Option (ByteArray)):Nat→Option LoopD:=fun n=>ifEq n 10 (some ⟨46,sh58_10,xs58_10,(spec_l7Expand_l10 spec_l7Expand_rec)⟩) ((L58_0 spec_l7Expand_rec) n)
def sh58_2:List Fm:=.cell (.val .str)::.cell (.val i6)::d::d::d::.cell (.val .str)::D 40 []
def xs58_2:List (Ex×List Fm):=[(.exit 0,(D 5 (.cell (.val .str)::D 40 [])))]
def spec_l7Expand_l2(spec_l7Expand_rec:ByteArray→Int→Option (ByteArray)):(ByteArray×Int×ByteArray×Unit)→Option ((ByteArray×Int×ByteArray×Unit)⊕((ByteArray×Unit))):=fun(v0,v1,v5,_)=>
 bif (!((ByteArray.toList v0)==(ByteArray.toList (⟨#[]⟩:ByteArray)))) then
  bif (decide ((((ByteArray.size v5):Nat):Int)≤1000)) then
   Option.bind (spec_l7Next v0) fun(r0,r1,r2)=>
    bif r1 then
     Option.bind (spec_l7Expand_rec r0 v1) fun r3=>
      Option.bind (loopF (spec_l7Expand_l10 spec_l7Expand_rec) (v1,v5,r2,r3,v1,0,())) fun(r4,r5,r6,_)=>
       some (Sum.inl (r6,r4,r5,()))
    else
     Option.bind (loopF (spec_l7Expand_l10 spec_l7Expand_rec) (v1,v5,r2,r0,1,0,())) fun(r7,r8,r9,_)=>
      some (Sum.inl (r9,r7,r8,()))
  else
   some (Sum.inr (v5,()))
 else
  some (Sum.inr (v5,()))
theorem spec_l7Expand_l2_eq(spec_l7Expand_rec:ByteArray→Int→Option (ByteArray)):loopStep 46 (E58 spec_l7Expand_rec) (L58_1 spec_l7Expand_rec) (loopOf f58 2) sh58_2 xs58_2=(spec_l7Expand_l2 spec_l7Expand_rec):=by kernel_rfl
theorem loop58_2(spec_l7Expand_rec:ByteArray→Int→Option (ByteArray))(hrec:FnOk prog 58 (R58 spec_l7Expand_rec)){L:Nat→Option LoopD}(h:L 2=some ⟨46,sh58_2,xs58_2,(spec_l7Expand_l2 spec_l7Expand_rec)⟩):LoopOk prog L (loopOf f58 2):=
 loopOk (tysOk_of tyl_ok) (E58_ok spec_l7Expand_rec hrec) (codeOk_in (L:=(L58_1 spec_l7Expand_rec)) (tysOk_of tyl_ok) (E58_ok spec_l7Expand_rec hrec) mixed (c:=loopOf f58 2) (bs:=[loopOf f58 10]) (by kernel_rfl) (allCons (loop58_10 spec_l7Expand_rec hrec rfl) allNil) (by kernel_rfl)) (by kernel_rfl) (by kernel_rfl) (spec_l7Expand_l2_eq spec_l7Expand_rec) (by rw[show firstId (loopOf f58 2)=2 from by kernel_rfl];exact h)
def L58_2(spec_l7Expand_rec:ByteArray→Int→Option (ByteArray)):Nat→Option LoopD:=fun n=>ifEq n 2 (some ⟨46,sh58_2,xs58_2,(spec_l7Expand_l2 spec_l7Expand_rec)⟩) ((L58_1 spec_l7Expand_rec) n)
def spec_l7Expand_step(spec_l7Expand_rec:ByteArray→Int→Option (ByteArray)):ByteArray→Int→Option (ByteArray):=fun a0 a1=>
 Option.bind (loopF (spec_l7Expand_l2 spec_l7Expand_rec) (a0,a1,(⟨#[]⟩:ByteArray),())) fun(r0,_)=>
  some r0
theorem spec_l7Expand_step_eq(spec_l7Expand_rec:ByteArray→Int→Option (ByteArray)):fnF (E58 spec_l7Expand_rec) (L58_2 spec_l7Expand_rec) [.v .str,.v i6] true [.str] f58.ntmps f58.results.toList (codeOf f58)=fun x=>(spec_l7Expand_step spec_l7Expand_rec) x.1 x.2.1:=by kernel_rfl
theorem spec_l7Expand_step_ok(spec_l7Expand_rec:ByteArray→Int→Option (ByteArray))(hrec:FnOk prog 58 (R58 spec_l7Expand_rec)):FnOk prog 58 ⟨[.v .str,.v i6],true,[.str],fun x=>(spec_l7Expand_step spec_l7Expand_rec) x.1 x.2.1⟩:=by
 have h:=fnOk_of_run (P:=prog) (E:=(E58 spec_l7Expand_rec)) (tysOk_of tyl_ok) (E58_ok spec_l7Expand_rec hrec) (L:=(L58_2 spec_l7Expand_rec)) (ps:=[.v .str,.v i6]) (own:=true) (outs:=[.str]) func58 (c:=codeOf f58) (by kernel_rfl) (codeOk_in (L:=(L58_2 spec_l7Expand_rec)) (tysOk_of tyl_ok) (E58_ok spec_l7Expand_rec hrec) mixed (c:=codeOf f58) (bs:=[loopOf f58 2]) (by kernel_rfl) (allCons (loop58_2 spec_l7Expand_rec hrec rfl) allNil) (by kernel_rfl));rw[(spec_l7Expand_step_eq spec_l7Expand_rec)] at h;exact h
/-- so many calls within each other -/
def spec_l7Expand_fuel:Nat→ByteArray→Int→Option (ByteArray)
 |0=>fun _ _=>none
 |n+1=>spec_l7Expand_step (spec_l7Expand_fuel n)
theorem spec_l7Expand_fuel_ok:∀n,FnOk prog 58 (R58 (spec_l7Expand_fuel n))
 |0=>fun xs r h=>by cases h
 |n+1=>spec_l7Expand_step_ok (spec_l7Expand_fuel n) (spec_l7Expand_fuel_ok n)
def spec_l7Expand:ByteArray→Int→Option (ByteArray):=spec_l7Expand_fuel 200
def A58:FnA:=R58 spec_l7Expand
theorem A58_ok:FnOk prog 58 A58:=spec_l7Expand_fuel_ok 200
def E25:Env:=ev fun g=>ifEq g 27 (some A27) (ifEq g 58 (some A58) (none))
theorem E25_ok:FnsOk prog E25:=(oF A27_ok func27 (oF A58_ok func58 (noFns _ _)))
def spec_ExpandExpression:ByteArray→Int→Option (ByteArray×Bool):=fun a0 a1=>
 Option.bind (spec_ExpressionValid a0) fun r0=>
  bif (!r0) then
   some ((⟨#[]⟩:ByteArray),false)
  else
   bif (decide (a1<1)) then
    some ((⟨#[]⟩:ByteArray),false)
   else
    Option.bind (spec_l7Expand a0 a1) fun r1=>
     bif (decide ((((ByteArray.size r1):Nat):Int)>1000)) then
      some ((⟨#[]⟩:ByteArray),false)
     else
      some (r1,true)
def A25:FnA:=⟨[.v .str,.v i6],true,[.str,.bool],fun x=>spec_ExpandExpression x.1 x.2.1⟩
theorem A25_ok:FnOk prog 25 A25:=fo (L:=L0) (by kernel_rfl) func25 E25_ok allNil
def spec_l1Add:Int→Int→Option (Int):=fun a0 a1=>
 some (if((1000000:Int)<(IntKind.wrap .i64 (a0+a1))) then 1000000 else(IntKind.wrap .i64 (a0+a1)))
def A210:FnA:=⟨[.v i6,.v i6],true,[.int .i64],fun x=>spec_l1Add x.1 x.2.1⟩
theorem A210_ok:FnOk prog 210 A210:=fo (L:=L0) (by kernel_rfl) func210 E0_ok allNil
def E133:Env:=ev fun g=>ifEq g 210 (some A210) (none)
theorem E133_ok:FnsOk prog E133:=(oF A210_ok func210 (noFns _ _))
def sh133_8:List Fm:=d::d::.box 100200 [.val i6,.val sI]::.box 100300 [.val i6,.val sI]::.box 100400 [.val i6,.own i6 100402 false]::.box 100500 [.val i6,.own i6 100502 false]::d::.cell (.val i6)::.cell (.val i6)::.cell (.val i6)::D 8 (.cell (.val i6)::.cell (.val i6)::D 11 (.cell (.val i6)::.cell (.val i6)::D 34 []))
def xs133_8:List (Ex×List Fm):=[(.exit 2,[d,d,.box 100200 [.val i6,.val sI],.box 100300 [.val i6,.val sI],.box 100400 [.val i6,.own i6 100402 false],.box 100500 [.val i6,.own i6 100502 false],d,d,d,.cell (.val i6),d,d,d,d,d,d,d,d,.cell (.val i6),.cell (.val i6),d,d,d,d,d,d,d,d,d,d,d,d,d,d,d,d,d,d,d,d,d,d,d,d,d,d,d,d,d,d,d,d,d,d,d,d,d,d,d,d,d,d,d,d,d,d,d])]
def spec_l2Mul_l8:((Int×LI×Unit)×(Int×LI×Unit)×(Int×LI×Unit)×(Int×LI×Unit)×Int×Int×Int×Int×Int×Int×Int×Unit)→Option (((Int×LI×Unit)×(Int×LI×Unit)×(Int×LI×Unit)×(Int×LI×Unit)×Int×Int×Int×Int×Int×Int×Int×Unit)⊕(((Int×LI×Unit)×(Int×LI×Unit)×(Int×LI×Unit)×(Int×LI×Unit)×Int×Int×Int×Unit))):=fun((v2_0,v2_1,_),(v3_0,v3_1,_),(v4_0,v4_1,_),(v5_0,v5_1,_),v7,v8,v9,v18,v19,v31,v32,_)=>
 bif (decide (v32<v31)) then
  if(((0:Int)≤(IntKind.wrap .i64 ((IntKind.wrap .i64 (v7*v2_0))+v32)))∧((IntKind.wrap .i64 ((IntKind.wrap .i64 (v7*v2_0))+v32))<(((List.length v2_1):Nat):Int))) then
   if(((0:Int)≤(IntKind.wrap .i64 ((IntKind.wrap .i64 (v32*v2_0))+v8)))∧((IntKind.wrap .i64 ((IntKind.wrap .i64 (v32*v2_0))+v8))<(((List.length v3_1):Nat):Int))) then
    Option.bind (spec_l1Add (List.getD v2_1 (Int.toNat (IntKind.wrap .i64 ((IntKind.wrap .i64 (v7*v2_0))+v32))) 0) (List.getD v3_1 (Int.toNat (IntKind.wrap .i64 ((IntKind.wrap .i64 (v32*v2_0))+v8))) 0)) fun r0=>
     some (Sum.inl ((v2_0,v2_1,()),(v3_0,v3_1,()),(v4_0,(List.take (List.length v4_1) (List.drop 0 v4_1)),()),(v5_0,(List.take (List.length v5_1) (List.drop 0 v5_1)),()),v7,v8,(if(r0<v9) then r0 else v9),v18,v19,v31,(IntKind.wrap .i64 (v32+1)),()))
   else
    none
  else
   none
 else
  some (Sum.inr ((v2_0,v2_1,()),(v3_0,v3_1,()),(v4_0,(List.take (List.length v4_1) (List.drop 0 v4_1)),()),(v5_0,(List.take (List.length v5_1) (List.drop 0 v5_1)),()),v9,v18,v19,()))
theorem loop133_8{L}(h:L 8=some ⟨67,sh133_8,xs133_8,spec_l2Mul_l8⟩):LoopOk prog L (loopOf f133 8):=lo (L':=L0) (by kernel_rfl) E133_ok allNil h
def L133_1:Nat→Option LoopD:=fun n=>ifEq n 8 (some ⟨67,sh133_8,xs133_8,spec_l2Mul_l8⟩) (L0 n)
def sh133_3:List Fm:=d::d::.box 100200 [.val i6,.val sI]::.box 100300 [.val i6,.val sI]::.box 100400 [.val i6,.own i6 100402 false]::.box 100500 [.val i6,.own i6 100502 false]::D 12 (.cell (.val i6)::.cell (.val i6)::D 47 [])
def xs133_3:List (Ex×List Fm):=[(.exit 0,[d,d,d,d,.box 100400 [.val i6,.own i6 100402 false],.box 100500 [.val i6,.own i6 100502 false],d,d,d,d,d,d,d,d,d,d,d,d,d,d,d,d,d,d,d,d,d,d,d,d,d,d,d,d,d,d,d,d,d,d,d,d,d,d,d,d,d,d,d,d,d,d,d,d,d,d,d,d,d,d,d,d,d,d,d,d,d])]
def spec_l2Mul_l3:((Int×LI×Unit)×(Int×LI×Unit)×(Int×LI×Unit)×(Int×LI×Unit)×Int×Int×Unit)→Option (((Int×LI×Unit)×(Int×LI×Unit)×(Int×LI×Unit)×(Int×LI×Unit)×Int×Int×Unit)⊕(((Int×LI×Unit)×(Int×LI×Unit)×Unit))):=fun((v2_0,v2_1,_),(v3_0,v3_1,_),(v4_0,v4_1,_),(v5_0,v5_1,_),v18,v19,_)=>
 bif (decide (v19<v18)) then
  if(v2_0=0) then
   none
  else
   if(v2_0=0) then
    none
   else
    Option.bind (loopF spec_l2Mul_l8 ((v2_0,v2_1,()),(v3_0,v3_1,()),(v4_0,(List.take (List.length v4_1) (List.drop 0 v4_1)),()),(v5_0,(List.take (List.length v5_1) (List.drop 0 v5_1)),()),(IntKind.wrap .i64 (Int.tdiv v19 v2_0)),(Int.tmod v19 v2_0),1000000,v18,v19,v2_0,0,())) fun((r0,r1,_),(r2,r3,_),(r4,r5,_),(r6,r7,_),r8,r9,r10,_)=>
     if(((0+(List.length r7))=(List.length r7))∧((((List.length r7)+(List.length (List.take 1 (List.drop 0 [r8]))))*8)≤140737488355328)) then
      some (Sum.inl ((r0,r1,()),(r2,r3,()),(r4,(List.take (List.length r5) (List.drop 0 r5)),()),(r6,(List.take ((List.length r7)+(List.length (List.take 1 (List.drop 0 [r8])))) (List.drop 0 ((List.drop 0 r7)++(List.take 1 (List.drop 0 [r8]))))),()),r9,(IntKind.wrap .i64 (r10+1)),()))
     else
      none
 else
  some (Sum.inr ((v4_0,(List.take (List.length v4_1) (List.drop 0 v4_1)),()),(v5_0,(List.take (List.length v5_1) (List.drop 0 v5_1)),()),()))
theorem loop133_3{L}(h:L 3=some ⟨67,sh133_3,xs133_3,spec_l2Mul_l3⟩):LoopOk prog L (loopOf f133 3):=lo (L':=L133_1) (by kernel_rfl) E133_ok (allCons (loop133_8 rfl) allNil) h
def L133_2:Nat→Option LoopD:=fun n=>ifEq n 3 (some ⟨67,sh133_3,xs133_3,spec_l2Mul_l3⟩) (L133_1 n)
def spec_l2Mul:TM→TM→Option (TM):=fun(a0_0,a0_1) (a1_0,a1_1)=>
 Option.bind (loopF spec_l2Mul_l3 ((a0_0,a0_1,()),(a1_0,a1_1,()),((0:Int),[],()),(a0_0,[],()),(IntKind.wrap .i64 (a0_0*a0_0)),0,())) fun((r0,r1,_),(r2,r3,_),_)=>
  some (r2,(List.take (List.length r3) (List.drop 0 r3)))
def A133:FnA:=⟨[.v kM,.v kM],true,[.pair i6 sI],fun x=>spec_l2Mul x.1 x.2.1⟩
theorem A133_ok:FnOk prog 133 A133:=fo (L:=L133_2) (by kernel_rfl) func133 E133_ok (allCons (loop133_3 rfl) allNil)
def E60:Env:=ev fun g=>ifEq g 131 (some A131) (ifEq g 132 (some A132) (ifEq g 133 (some A133) (none)))
theorem E60_ok:FnsOk prog E60:=(oF A131_ok func131 (oF A132_ok func132 (oF A133_ok func133 (noFns _ _))))
def sh60_4:List Fm:=d::.cell (.val .str)::d::d::.box 100400 [.val i6,.own i6 100402 false]::.box 100500 [.val i6,.own i6 100502 false]::.box 100600 [.val i6,.own i6 100602 false]::.box 100700 [.val i6,.own i6 100702 false]::D 9 (.cell (.val i6)::.cell (.val i6)::D 14 [])
def xs60_4:List (Ex×List Fm):=[(.exit 0,[d,d,d,d,.box 100400 [.val i6,.own i6 100402 false],.box 100500 [.val i6,.own i6 100502 false],d,d,d,d,d,d,d,d,d,d,d,d,d,d,d,d,d,d,d,d,d,d,d,d,d,d,d])]
def spec_l4Matrix_l4:(ByteArray×(Int×LI×Unit)×(Int×LI×Unit)×(Int×LI×Unit)×(Int×LI×Unit)×Int×Int×Unit)→Option ((ByteArray×(Int×LI×Unit)×(Int×LI×Unit)×(Int×LI×Unit)×(Int×LI×Unit)×Int×Int×Unit)⊕(((Int×LI×Unit)×(Int×LI×Unit)×Unit))):=fun(v1,(v4_0,v4_1,_),(v5_0,v5_1,_),(v6_0,v6_1,_),(v7_0,v7_1,_),v17,v18,_)=>
 bif (decide (v18<v17)) then
  if(((0:Int)≤v18)∧(v18<(((ByteArray.size v1):Nat):Int))) then
   bif ((((UInt8.toNat (Array.getD (ByteArray.data v1) (Int.toNat v18) (0:UInt8))):Nat):Int)==97) then
    Option.bind (spec_l2Mul (v5_0,(List.take (List.length v5_1) (List.drop 0 v5_1))) (v6_0,(List.take (List.length v6_1) (List.drop 0 v6_1)))) fun(r0,r1)=>
     some (Sum.inl (v1,(v4_0,(List.take (List.length v4_1) (List.drop 0 v4_1)),()),(r0,(List.take (List.length r1) (List.drop 0 r1)),()),(v6_0,(List.take (List.length v6_1) (List.drop 0 v6_1)),()),(v7_0,(List.take (List.length v7_1) (List.drop 0 v7_1)),()),v17,(IntKind.wrap .i64 (v18+1)),()))
   else
    Option.bind (spec_l2Mul (v5_0,(List.take (List.length v5_1) (List.drop 0 v5_1))) (v7_0,(List.take (List.length v7_1) (List.drop 0 v7_1)))) fun(r2,r3)=>
     some (Sum.inl (v1,(v4_0,(List.take (List.length v4_1) (List.drop 0 v4_1)),()),(r2,(List.take (List.length r3) (List.drop 0 r3)),()),(v6_0,(List.take (List.length v6_1) (List.drop 0 v6_1)),()),(v7_0,(List.take (List.length v7_1) (List.drop 0 v7_1)),()),v17,(IntKind.wrap .i64 (v18+1)),()))
  else
   none
 else
  some (Sum.inr ((v4_0,(List.take (List.length v4_1) (List.drop 0 v4_1)),()),(v5_0,(List.take (List.length v5_1) (List.drop 0 v5_1)),()),()))
theorem loop60_4{L}(h:L 4=some ⟨33,sh60_4,xs60_4,spec_l4Matrix_l4⟩):LoopOk prog L (loopOf f60 4):=lo (L':=L0) (by kernel_rfl) E60_ok allNil h
def L60_1:Nat→Option LoopD:=fun n=>ifEq n 4 (some ⟨33,sh60_4,xs60_4,spec_l4Matrix_l4⟩) (L0 n)
def spec_l4Matrix:TA→ByteArray→Option (TM):=fun(a0_0,a0_1,a0_2,a0_3) a1=>
 Option.bind (spec_l2Unit a0_0) fun(r0,r1)=>
  Option.bind (spec_l3Matrix (a0_0,a0_1,a0_2,a0_3) (⟨#[(97:UInt8)]⟩:ByteArray)) fun(r2,r3)=>
   Option.bind (spec_l3Matrix (a0_0,a0_1,a0_2,a0_3) (⟨#[(98:UInt8)]⟩:ByteArray)) fun(r4,r5)=>
    Option.bind (loopF spec_l4Matrix_l4 (a1,((0:Int),[],()),(r0,(List.take (List.length r1) (List.drop 0 r1)),()),(r2,(List.take (List.length r3) (List.drop 0 r3)),()),(r4,(List.take (List.length r5) (List.drop 0 r5)),()),(((ByteArray.size a1):Nat):Int),0,())) fun((r6,r7,_),(r8,r9,_),_)=>
     some (r8,(List.take (List.length r9) (List.drop 0 r9)))
def A60:FnA:=⟨[.v kA,.v .str],true,[.pair i6 sI],fun x=>spec_l4Matrix x.1 x.2.1⟩
theorem A60_ok:FnOk prog 60 A60:=fo (L:=L60_1) (by kernel_rfl) func60 E60_ok (allCons (loop60_4 rfl) allNil)
def sh59_6:List Fm:=d::d::.box 100200 [.val i6,.val sI,.val sI,.val sS]::.box 100300 [.val i6,.val sI]::d::.cell (.val i6)::d::.cell (.val i6)::d::d::d::.cell (.val sI)::.cell (.val i6)::.cell (.val i6)::D 4 (.cell (.val sI)::.cell (.val i6)::.cell (.val i6)::D 18 [])
def xs59_6:List (Ex×List Fm):=[(.exit 2,[d,d,.box 100200 [.val i6,.val sI,.val sI,.val sS],.box 100300 [.val i6,.val sI],d,.cell (.val i6),d,d,d,d,d,.cell (.val sI),.cell (.val i6),.cell (.val i6),d,d,d,d,d,d,d,d,d,d,d,d,d,d,d,d,d,d,d,d,d,d,d,d,d])]
def spec_l4Least_l6:((Int×LI×LI×LS×Unit)×(Int×LI×Unit)×Int×Int×LI×Int×Int×LI×Int×Int×Unit)→Option (((Int×LI×LI×LS×Unit)×(Int×LI×Unit)×Int×Int×LI×Int×Int×LI×Int×Int×Unit)⊕(((Int×LI×LI×LS×Unit)×(Int×LI×Unit)×Int×LI×Int×Int×Unit))):=fun((v2_0,v2_1,v2_2,v2_3,_),(v3_0,v3_1,_),v5,v7,v11,v12,v13,v18,v19,v20,_)=>
 bif (decide (v20<v19)) then
  if(((0:Int)≤v20)∧(v20<(((List.length v18):Nat):Int))) then
   if(((0:Int)≤(IntKind.wrap .i64 ((IntKind.wrap .i64 (v7*v2_0))+(List.getD v18 (Int.toNat v20) 0))))∧((IntKind.wrap .i64 ((IntKind.wrap .i64 (v7*v2_0))+(List.getD v18 (Int.toNat v20) 0)))<(((List.length v3_1):Nat):Int))) then
    some (Sum.inl ((v2_0,v2_1,v2_2,v2_3,()),(v3_0,v3_1,()),(if((List.getD v3_1 (Int.toNat (IntKind.wrap .i64 ((IntKind.wrap .i64 (v7*v2_0))+(List.getD v18 (Int.toNat v20) 0)))) 0)<v5) then(List.getD v3_1 (Int.toNat (IntKind.wrap .i64 ((IntKind.wrap .i64 (v7*v2_0))+(List.getD v18 (Int.toNat v20) 0)))) 0) else v5),v7,v11,v12,v13,v18,v19,(IntKind.wrap .i64 (v20+1)),()))
   else
    none
  else
   none
 else
  some (Sum.inr ((v2_0,v2_1,v2_2,v2_3,()),(v3_0,v3_1,()),v5,v11,v12,v13,()))
theorem loop59_6{L}(h:L 6=some ⟨39,sh59_6,xs59_6,spec_l4Least_l6⟩):LoopOk prog L (loopOf f59 6):=lo (L':=L0) (by kernel_rfl) E0_ok allNil h
def L59_1:Nat→Option LoopD:=fun n=>ifEq n 6 (some ⟨39,sh59_6,xs59_6,spec_l4Least_l6⟩) (L0 n)
def sh59_3:List Fm:=d::d::.box 100200 [.val i6,.val sI,.val sI,.val sS]::.box 100300 [.val i6,.val sI]::d::.cell (.val i6)::D 5 (.cell (.val sI)::.cell (.val i6)::.cell (.val i6)::D 25 [])
def xs59_3:List (Ex×List Fm):=[(.exit 0,(D 5 (.cell (.val i6)::D 33 [])))]
def spec_l4Least_l3:((Int×LI×LI×LS×Unit)×(Int×LI×Unit)×Int×LI×Int×Int×Unit)→Option (((Int×LI×LI×LS×Unit)×(Int×LI×Unit)×Int×LI×Int×Int×Unit)⊕((Int×Unit))):=fun((v2_0,v2_1,v2_2,v2_3,_),(v3_0,v3_1,_),v5,v11,v12,v13,_)=>
 bif (decide (v13<v12)) then
  if(((0:Int)≤v13)∧(v13<(((List.length v11):Nat):Int))) then
   Option.bind (loopF spec_l4Least_l6 ((v2_0,v2_1,v2_2,v2_3,()),(v3_0,v3_1,()),v5,(List.getD v11 (Int.toNat v13) 0),v11,v12,v13,v2_2,(((List.length v2_2):Nat):Int),0,())) fun((r0,r1,r2,r3,_),(r4,r5,_),r6,r7,r8,r9,_)=>
    some (Sum.inl ((r0,r1,r2,r3,()),(r4,r5,()),r6,r7,r8,(IntKind.wrap .i64 (r9+1)),()))
  else
   none
 else
  some (Sum.inr (v5,()))
theorem loop59_3{L}(h:L 3=some ⟨39,sh59_3,xs59_3,spec_l4Least_l3⟩):LoopOk prog L (loopOf f59 3):=lo (L':=L59_1) (by kernel_rfl) E0_ok (allCons (loop59_6 rfl) allNil) h
def L59_2:Nat→Option LoopD:=fun n=>ifEq n 3 (some ⟨39,sh59_3,xs59_3,spec_l4Least_l3⟩) (L59_1 n)
def spec_l4Least:TA→TM→Option (Int):=fun(a0_0,a0_1,a0_2,a0_3) (a1_0,a1_1)=>
 Option.bind (loopF spec_l4Least_l3 ((a0_0,a0_1,a0_2,a0_3,()),(a1_0,a1_1,()),1000000,a0_1,(((List.length a0_1):Nat):Int),0,())) fun(r0,_)=>
  some r0
def A59:FnA:=⟨[.v kA,.v kM],true,[.int .i64],fun x=>spec_l4Least x.1 x.2.1⟩
theorem A59_ok:FnOk prog 59 A59:=fo (L:=L59_2) (by kernel_rfl) func59 E0_ok (allCons (loop59_3 rfl) allNil)
def E26:Env:=ev fun g=>ifEq g 60 (some A60) (ifEq g 59 (some A59) (none))
theorem E26_ok:FnsOk prog E26:=(oF A60_ok func60 (oF A59_ok func59 (noFns _ _)))
def spec_l4Cost:TA→ByteArray→Option (Int):=fun(a0_0,a0_1,a0_2,a0_3) a1=>
 Option.bind (spec_l4Matrix (a0_0,a0_1,a0_2,a0_3) a1) fun(r0,r1)=>
  Option.bind (spec_l4Least (a0_0,a0_1,a0_2,a0_3) (r0,(List.take (List.length r1) (List.drop 0 r1)))) fun r2=>
   some r2
def A26:FnA:=⟨[.v kA,.v .str],true,[.int .i64],fun x=>spec_l4Cost x.1 x.2.1⟩
theorem A26_ok:FnOk prog 26 A26:=fo (L:=L0) (by kernel_rfl) func26 E26_ok allNil
def E6:Env:=ev fun g=>ifEq g 23 (some A23) (ifEq g 24 (some A24) (ifEq g 25 (some A25) (ifEq g 26 (some A26) (ifEq g 27 (some A27) (none)))))
theorem E6_ok:FnsOk prog E6:=(oF A23_ok func23 (oF A24_ok func24 (oF A25_ok func25 (oF A26_ok func26 (oF A27_ok func27 (noFns _ _))))))
def sh6_5:List Fm:=d::.cell (.val .str)::.cell (.val i6)::.box 100300 [.val i6,.val sI,.val sI,.val sS]::D 4 (.cell (.own i6 100800 false)::.cell (.val i6)::D 35 [])
def xs6_5:List (Ex×List Fm):=[(.ret,(D 6 (.cell (.own i6 100600 false)::.cell (.val .bool)::D 37 []))),(.exit 0,(d::.cell (.val .str)::D 6 (.cell (.own i6 100800 false)::D 36 [])))]
def spec_GrowthOf_l5:(ByteArray×Int×(Int×LI×LI×LS×Unit)×LI×Int×Unit)→Option ((ByteArray×Int×(Int×LI×LI×LS×Unit)×LI×Int×Unit)⊕((LI×Bool×Unit)⊕(ByteArray×LI×Unit))):=fun(v1,v2,(v3_0,v3_1,v3_2,v3_3,_),v8,v9,_)=>
 bif (decide (v9≤v2)) then
  Option.bind (spec_ExpandExpression v1 v9) fun(r0,r1)=>
   bif (!r1) then
    some (Sum.inr (Sum.inl ((List.take 0 (List.drop 0 [])),false,())))
   else
    Option.bind (spec_l4Cost (v3_0,v3_1,v3_2,v3_3) r0) fun r2=>
     if(((0+(List.length v8))=(List.length v8))∧((((List.length v8)+(List.length (List.take 1 (List.drop 0 [r2]))))*8)≤140737488355328)) then
      some (Sum.inl (v1,v2,(v3_0,v3_1,v3_2,v3_3,()),(List.take ((List.length v8)+(List.length (List.take 1 (List.drop 0 [r2])))) (List.drop 0 ((List.drop 0 v8)++(List.take 1 (List.drop 0 [r2]))))),(IntKind.wrap .i64 (v9+1)),()))
     else
      none
 else
  some (Sum.inr (Sum.inr (v1,(List.take (List.length v8) (List.drop 0 v8)),())))
theorem loop6_5{L}(h:L 5=some ⟨45,sh6_5,xs6_5,spec_GrowthOf_l5⟩):LoopOk prog L (loopOf f6 5):=lo (L':=L0) (by kernel_rfl) E6_ok allNil h
def L6_1:Nat→Option LoopD:=fun n=>ifEq n 5 (some ⟨45,sh6_5,xs6_5,spec_GrowthOf_l5⟩) (L0 n)
def spec_GrowthOf:TA→ByteArray→Int→Option (LI×Bool):=fun(a0_0,a0_1,a0_2,a0_3) a1 a2=>
 Option.bind (spec_AutomatonValid (a0_0,a0_1,a0_2,a0_3)) fun r0=>
  bif (!r0) then
   some ((List.take 0 (List.drop 0 [])),false)
  else
   Option.bind (spec_l1In a2 0 20) fun r1=>
    bif (!r1) then
     some ((List.take 0 (List.drop 0 [])),false)
    else
     Option.bind (loopF spec_GrowthOf_l5 (a1,a2,(a0_0,a0_1,a0_2,a0_3,()),(List.take 0 (List.drop 0 [])),1,())) fun r2=>
      (match r2 with
      |.inl (d3,d4,_)=>
        some ((List.take (List.length d3) (List.drop 0 d3)),d4)
      |.inr (d5,d6,_)=>
        Option.bind (spec_ExpressionValid d5) fun r7=>
         some ((List.take (List.length d6) (List.drop 0 d6)),r7))
def A6:FnA:=⟨[.v kA,.v .str,.v i6],true,[.sl i6,.bool],fun x=>spec_GrowthOf x.1 x.2.1 x.2.2.1⟩
theorem A6_ok:FnOk prog 6 A6:=fo (L:=L6_1) (by kernel_rfl) func6 E6_ok (allCons (loop6_5 rfl) allNil)
def sh7_2:List Fm:=.cell (.val sI)::.cell (.val sI)::D 8 (.cell (.val i6)::.cell (.val i6)::D 17 [])
def xs7_2:List (Ex×List Fm):=[(.ret,(D 4 (.cell (.val .bool)::D 24 []))),(.exit 0,(.cell (.val sI)::.cell (.val sI)::D 27 []))]
def laws_daSame_l2:(LI×LI×Int×Int×Unit)→Option ((LI×LI×Int×Int×Unit)⊕((Bool×Unit)⊕(LI×LI×Unit))):=fun(v0,v1,v10,v11,_)=>
 bif (decide (v11<v10)) then
  if(((0:Int)≤v11)∧(v11<(((List.length v0):Nat):Int))) then
   if(((0:Int)≤v11)∧(v11<(((List.length v1):Nat):Int))) then
    bif ((List.getD v0 (Int.toNat v11) 0) != (List.getD v1 (Int.toNat v11) 0)) then
     some (Sum.inr (Sum.inl (false,())))
    else
     some (Sum.inl (v0,v1,v10,(IntKind.wrap .i64 (v11+1)),()))
   else
    none
  else
   none
 else
  some (Sum.inr (Sum.inr (v0,v1,())))
theorem loop7_2{L}(h:L 2=some ⟨29,sh7_2,xs7_2,laws_daSame_l2⟩):LoopOk prog L (loopOf f7 2):=lo (L':=L0) (by kernel_rfl) E0_ok allNil h
def L7_1:Nat→Option LoopD:=fun n=>ifEq n 2 (some ⟨29,sh7_2,xs7_2,laws_daSame_l2⟩) (L0 n)
def laws_daSame:LI→LI→Option (Bool):=fun a0 a1=>
 Option.bind (loopF laws_daSame_l2 (a0,a1,(if((((List.length a1):Nat):Int)<(((List.length a0):Nat):Int)) then(((List.length a1):Nat):Int) else(((List.length a0):Nat):Int)),0,())) fun r0=>
  (match r0 with
  |.inl (d1,_)=>
    some d1
  |.inr (d2,d3,_)=>
    some ((((List.length d2):Nat):Int)==(((List.length d3):Nat):Int)))
def A7:FnA:=⟨[.v sI,.v sI],true,[.bool],fun x=>laws_daSame x.1 x.2.1⟩
theorem A7_ok:FnOk prog 7 A7:=fo (L:=L7_1) (by kernel_rfl) func7 E0_ok (allCons (loop7_2 rfl) allNil)
def sh135_6:List Fm:=.cell (.val i6)::.clo [.int .i64,.int .i64] i6::d::d::.box 100400 [.val i6,.own i6 100402 false]::.box 100500 [.val i6,.own i6 100502 false]::.cell (.val i6)::d::d::d::.cell (.val i6)::.cell (.val i6)::d::d::.cell (.val i6)::.cell (.val i6)::D 14 []
def xs135_6:List (Ex×List Fm):=[(.exit 2,[.cell (.val i6),.clo [.int .i64,.int .i64] i6,d,d,.box 100400 [.val i6,.own i6 100402 false],.box 100500 [.val i6,.own i6 100502 false],d,d,d,d,.cell (.val i6),.cell (.val i6),d,d,d,d,d,d,d,d,d,d,d,d,d,d,d,d,d,d])]
def impl_filled_l6:(Int×((Int×Int×Unit)→Option (Int))×(Int×LI×Unit)×(Int×LI×Unit)×Int×Int×Int×Int×Int×Unit)→Option ((Int×((Int×Int×Unit)→Option (Int))×(Int×LI×Unit)×(Int×LI×Unit)×Int×Int×Int×Int×Int×Unit)⊕((Int×((Int×Int×Unit)→Option (Int))×(Int×LI×Unit)×(Int×LI×Unit)×Int×Int×Unit))):=fun(v0,v1,(v4_0,v4_1,_),(v5_0,v5_1,_),v6,v10,v11,v14,v15,_)=>
 bif (decide (v15<v14)) then
  Option.bind (v1 (v6,v15,())) fun r0=>
   if(((0+(List.length v5_1))=(List.length v5_1))∧((((List.length v5_1)+(List.length (List.take 1 (List.drop 0 [r0]))))*8)≤140737488355328)) then
    some (Sum.inl (v0,v1,(v4_0,(List.take (List.length v4_1) (List.drop 0 v4_1)),()),(v5_0,(List.take ((List.length v5_1)+(List.length (List.take 1 (List.drop 0 [r0])))) (List.drop 0 ((List.drop 0 v5_1)++(List.take 1 (List.drop 0 [r0]))))),()),v6,v10,v11,v14,(IntKind.wrap .i64 (v15+1)),()))
   else
    none
 else
  some (Sum.inr (v0,v1,(v4_0,(List.take (List.length v4_1) (List.drop 0 v4_1)),()),(v5_0,(List.take (List.length v5_1) (List.drop 0 v5_1)),()),v10,v11,()))
theorem loop135_6{L}(h:L 6=some ⟨30,sh135_6,xs135_6,impl_filled_l6⟩):LoopOk prog L (loopOf f135 6):=lo (L':=L0) (by kernel_rfl) E0_ok allNil h
def L135_1:Nat→Option LoopD:=fun n=>ifEq n 6 (some ⟨30,sh135_6,xs135_6,impl_filled_l6⟩) (L0 n)
def sh135_3:List Fm:=.cell (.val i6)::.clo [.int .i64,.int .i64] i6::d::d::.box 100400 [.val i6,.own i6 100402 false]::.box 100500 [.val i6,.own i6 100502 false]::D 4 (.cell (.val i6)::.cell (.val i6)::D 18 [])
def xs135_3:List (Ex×List Fm):=[(.exit 0,[d,d,d,d,.box 100400 [.val i6,.own i6 100402 false],.box 100500 [.val i6,.own i6 100502 false],d,d,d,d,d,d,d,d,d,d,d,d,d,d,d,d,d,d,d,d,d,d,d,d])]
def impl_filled_l3:(Int×((Int×Int×Unit)→Option (Int))×(Int×LI×Unit)×(Int×LI×Unit)×Int×Int×Unit)→Option ((Int×((Int×Int×Unit)→Option (Int))×(Int×LI×Unit)×(Int×LI×Unit)×Int×Int×Unit)⊕(((Int×LI×Unit)×(Int×LI×Unit)×Unit))):=fun(v0,v1,(v4_0,v4_1,_),(v5_0,v5_1,_),v10,v11,_)=>
 bif (decide (v11<v10)) then
  Option.bind (loopF impl_filled_l6 (v0,v1,(v4_0,(List.take (List.length v4_1) (List.drop 0 v4_1)),()),(v5_0,(List.take (List.length v5_1) (List.drop 0 v5_1)),()),v11,v10,v11,v0,0,())) fun(r0,r1,(r2,r3,_),(r4,r5,_),r6,r7,_)=>
   some (Sum.inl (r0,r1,(r2,(List.take (List.length r3) (List.drop 0 r3)),()),(r4,(List.take (List.length r5) (List.drop 0 r5)),()),r6,(IntKind.wrap .i64 (r7+1)),()))
 else
  some (Sum.inr ((v4_0,(List.take (List.length v4_1) (List.drop 0 v4_1)),()),(v5_0,(List.take (List.length v5_1) (List.drop 0 v5_1)),()),()))
theorem loop135_3{L}(h:L 3=some ⟨30,sh135_3,xs135_3,impl_filled_l3⟩):LoopOk prog L (loopOf f135 3):=lo (L':=L135_1) (by kernel_rfl) E0_ok (allCons (loop135_6 rfl) allNil) h
def L135_2:Nat→Option LoopD:=fun n=>ifEq n 3 (some ⟨30,sh135_3,xs135_3,impl_filled_l3⟩) (L135_1 n)
def impl_filled:Int→((Int×Int×Unit)→Option (Int))→Option (TM):=fun a0 a1=>
 Option.bind (loopF impl_filled_l3 (a0,a1,((0:Int),[],()),(a0,[],()),a0,0,())) fun((r0,r1,_),(r2,r3,_),_)=>
  some (r2,(List.take (List.length r3) (List.drop 0 r3)))
def A135:FnA:=⟨[.v i6,.clo [.int .i64,.int .i64] i6],true,[.pair i6 sI],fun x=>impl_filled x.1 x.2.1⟩
theorem A135_ok:FnOk prog 135 A135:=fo (L:=L135_2) (by kernel_rfl) func135 E0_ok (allCons (loop135_3 rfl) allNil)
def impl_StepMatrix_1:Int→Int→Option (Int):=fun a0 a1=>
 some 1000000
def A136:FnA:=⟨[.v i6,.v i6],true,[.int .i64],fun x=>impl_StepMatrix_1 x.1 x.2.1⟩
theorem A136_ok:FnOk prog 136 A136:=fo (L:=L0) (by kernel_rfl) func136 E0_ok allNil
def E63:Env:=ev fun g=>ifEq g 20 (some A20) (ifEq g 135 (some A135) (ifEq g 136 (some A136) (none)))
theorem E63_ok:FnsOk prog E63:=(oF A20_ok func20 (oF A135_ok func135 (oF A136_ok func136 (noFns _ _))))
def sh63_5:List Fm:=d::.cell (.val .str)::d::d::.box 100400 [.val i6,.own i6 100402 false]::d::.box 100600 [.val i6,.own i6 100602 false]::D 18 (.cell (.val sS)::.cell (.val i6)::.cell (.val i6)::D 22 [])
def xs63_5:List (Ex×List Fm):=[(.exit 0,[d,d,d,d,.box 100400 [.val i6,.own i6 100402 false],d,.box 100600 [.val i6,.own i6 100602 false],d,d,d,d,d,d,d,d,d,d,d,d,d,d,d,d,d,d,d,d,d,d,d,d,d,d,d,d,d,d,d,d,d,d,d,d,d,d,d,d,d,d,d])]
def impl_StepMatrix_l5:(ByteArray×(Int×LI×Unit)×(Int×LI×Unit)×LS×Int×Int×Unit)→Option ((ByteArray×(Int×LI×Unit)×(Int×LI×Unit)×LS×Int×Int×Unit)⊕(((Int×LI×Unit)×(Int×LI×Unit)×Unit))):=fun(v1,(v4_0,v4_1,_),(v6_0,v6_1,_),v25,v26,v27,_)=>
 bif (decide (v27<v26)) then
  if(((0:Int)≤v27)∧(v27<(((List.length v25):Nat):Int))) then
   bif ((ByteArray.toList (List.getD v25 (Int.toNat v27) ((0:Int),⟨Array.empty⟩,0,0)).2.1)==(ByteArray.toList v1)) then
    if(((0:Int)≤(IntKind.wrap .i64 ((IntKind.wrap .i64 ((List.getD v25 (Int.toNat v27) ((0:Int),⟨Array.empty⟩,0,0)).1*v6_0))+(List.getD v25 (Int.toNat v27) ((0:Int),⟨Array.empty⟩,0,0)).2.2.1)))∧((IntKind.wrap .i64 ((IntKind.wrap .i64 ((List.getD v25 (Int.toNat v27) ((0:Int),⟨Array.empty⟩,0,0)).1*v6_0))+(List.getD v25 (Int.toNat v27) ((0:Int),⟨Array.empty⟩,0,0)).2.2.1))<(((List.length v6_1):Nat):Int))) then
     some (Sum.inl (v1,(v4_0,(List.take (List.length v4_1) (List.drop 0 v4_1)),()),(v6_0,(List.take (List.length v6_1) (List.drop 0 (List.set v6_1 (0+(Int.toNat (IntKind.wrap .i64 ((IntKind.wrap .i64 ((List.getD v25 (Int.toNat v27) ((0:Int),⟨Array.empty⟩,0,0)).1*v6_0))+(List.getD v25 (Int.toNat v27) ((0:Int),⟨Array.empty⟩,0,0)).2.2.1)))) (List.getD v25 (Int.toNat v27) ((0:Int),⟨Array.empty⟩,0,0)).2.2.2))),()),v25,v26,(IntKind.wrap .i64 (v27+1)),()))
    else
     none
   else
    some (Sum.inl (v1,(v4_0,(List.take (List.length v4_1) (List.drop 0 v4_1)),()),(v6_0,(List.take (List.length v6_1) (List.drop 0 v6_1)),()),v25,v26,(IntKind.wrap .i64 (v27+1)),()))
  else
   none
 else
  some (Sum.inr ((v4_0,(List.take (List.length v4_1) (List.drop 0 v4_1)),()),(v6_0,(List.take (List.length v6_1) (List.drop 0 v6_1)),()),()))
theorem loop63_5{L}(h:L 5=some ⟨50,sh63_5,xs63_5,impl_StepMatrix_l5⟩):LoopOk prog L (loopOf f63 5):=lo (L':=L0) (by kernel_rfl) E63_ok allNil h
def L63_1:Nat→Option LoopD:=fun n=>ifEq n 5 (some ⟨50,sh63_5,xs63_5,impl_StepMatrix_l5⟩) (L0 n)
def impl_StepMatrix:TA→ByteArray→Option (TM×Bool):=fun(a0_0,a0_1,a0_2,a0_3) a1=>
 Option.bind (impl_AutomatonValid (a0_0,a0_1,a0_2,a0_3)) fun r0=>
  bif (!r0) then
   some (((0:Int),[]),false)
  else
   bif (!((ByteArray.toList a1)==(ByteArray.toList (⟨#[(97:UInt8)]⟩:ByteArray)))) then
    bif (!((ByteArray.toList a1)==(ByteArray.toList (⟨#[(98:UInt8)]⟩:ByteArray)))) then
     some (((0:Int),[]),false)
    else
     Option.bind (impl_filled a0_0 (fun y1=>(impl_StepMatrix_1 y1.1 y1.2.1))) fun(r2,r3)=>
      Option.bind (loopF impl_StepMatrix_l5 (a1,((0:Int),[],()),(r2,(List.take (List.length r3) (List.drop 0 r3)),()),a0_3,(((List.length a0_3):Nat):Int),0,())) fun((r4,r5,_),(r6,r7,_),_)=>
       some ((r6,(List.take (List.length r7) (List.drop 0 r7))),true)
   else
    Option.bind (impl_filled a0_0 (fun y8=>(impl_StepMatrix_1 y8.1 y8.2.1))) fun(r9,r10)=>
     Option.bind (loopF impl_StepMatrix_l5 (a1,((0:Int),[],()),(r9,(List.take (List.length r10) (List.drop 0 r10)),()),a0_3,(((List.length a0_3):Nat):Int),0,())) fun((r11,r12,_),(r13,r14,_),_)=>
      some ((r13,(List.take (List.length r14) (List.drop 0 r14))),true)
def A63:FnA:=⟨[.v kA,.v .str],true,[.pair i6 sI,.bool],fun x=>impl_StepMatrix x.1 x.2.1⟩
theorem A63_ok:FnOk prog 63 A63:=fo (L:=L63_1) (by kernel_rfl) func63 E63_ok (allCons (loop63_5 rfl) allNil)
def sh148_2:List Fm:=.cell (.val sI)::.clo [.int .i64] .bool::D 5 (.cell (.val i6)::.cell (.val i6)::D 10 [])
def xs148_2:List (Ex×List Fm):=[(.ret,(D 4 (.cell (.val i6)::D 14 []))),(.exit 0,(D 19 []))]
def slices_IndexFunc_l2:(LI×((Int×Unit)→Option (Bool))×Int×Int×Unit)→Option ((LI×((Int×Unit)→Option (Bool))×Int×Int×Unit)⊕((Int×Unit)⊕(Unit))):=fun(v0,v1,v7,v8,_)=>
 bif (decide (v8<v7)) then
  if(((0:Int)≤v8)∧(v8<(((List.length v0):Nat):Int))) then
   Option.bind (v1 ((List.getD v0 (Int.toNat v8) 0),())) fun r0=>
    bif r0 then
     some (Sum.inr (Sum.inl (v8,())))
    else
     some (Sum.inl (v0,v1,v7,(IntKind.wrap .i64 (v8+1)),()))
  else
   none
 else
  some (Sum.inr (Sum.inr ()))
theorem loop148_2{L}(h:L 2=some ⟨19,sh148_2,xs148_2,slices_IndexFunc_l2⟩):LoopOk prog L (loopOf f148 2):=lo (L':=L0) (by kernel_rfl) E0_ok allNil h
def L148_1:Nat→Option LoopD:=fun n=>ifEq n 2 (some ⟨19,sh148_2,xs148_2,slices_IndexFunc_l2⟩) (L0 n)
def slices_IndexFunc:LI→((Int×Unit)→Option (Bool))→Option (Int):=fun a0 a1=>
 Option.bind (loopF slices_IndexFunc_l2 (a0,a1,(((List.length a0):Nat):Int),0,())) fun r0=>
  (match r0 with
  |.inl (d1,_)=>
    some d1
  |.inr _=>
    some (-1))
def A148:FnA:=⟨[.v sI,.clo [.int .i64] .bool],true,[.int .i64],fun x=>slices_IndexFunc x.1 x.2.1⟩
theorem A148_ok:FnOk prog 148 A148:=fo (L:=L148_1) (by kernel_rfl) func148 E0_ok (allCons (loop148_2 rfl) allNil)
def E73:Env:=ev fun g=>ifEq g 148 (some A148) (none)
theorem E73_ok:FnsOk prog E73:=(oF A148_ok func148 (noFns _ _))
def slices_ContainsFunc:LI→((Int×Unit)→Option (Bool))→Option (Bool):=fun a0 a1=>
 Option.bind (slices_IndexFunc a0 a1) fun r0=>
  some (decide (r0≥0))
def A73:FnA:=⟨[.v sI,.clo [.int .i64] .bool],true,[.bool],fun x=>slices_ContainsFunc x.1 x.2.1⟩
theorem A73_ok:FnOk prog 73 A73:=fo (L:=L0) (by kernel_rfl) func73 E73_ok allNil
def impl_CostValid:Int→Option (Bool):=fun a0=>
 bif (decide (a0≥0)) then
  some (decide (a0≤1000000))
 else
  some false
def A38:FnA:=⟨[.v i6],true,[.bool],fun x=>impl_CostValid x.1⟩
theorem A38_ok:FnOk prog 38 A38:=fo (L:=L0) (by kernel_rfl) func38 E0_ok allNil
def E147:Env:=ev fun g=>ifEq g 38 (some A38) (none)
theorem E147_ok:FnsOk prog E147:=(oF A38_ok func38 (noFns _ _))
def impl_MatrixValid_1:Int→Option (Bool):=fun a0=>
 Option.bind (impl_CostValid a0) fun r0=>
  some (!r0)
def A147:FnA:=⟨[.v i6],true,[.bool],fun x=>impl_MatrixValid_1 x.1⟩
theorem A147_ok:FnOk prog 147 A147:=fo (L:=L0) (by kernel_rfl) func147 E147_ok allNil
def E72:Env:=ev fun g=>ifEq g 73 (some A73) (ifEq g 147 (some A147) (none))
theorem E72_ok:FnsOk prog E72:=(oF A73_ok func73 (oF A147_ok func147 (noFns _ _)))
def impl_MatrixValid:TM→Option (Bool):=fun(a0_0,a0_1)=>
 bif (decide (a0_0<1)) then
  some false
 else
  bif (decide (a0_0>4)) then
   some false
  else
   bif ((((List.length a0_1):Nat):Int) != (IntKind.wrap .i64 (a0_0*a0_0))) then
    some false
   else
    Option.bind (slices_ContainsFunc a0_1 (fun y0=>(impl_MatrixValid_1 y0.1))) fun r1=>
     some (!r1)
def A72:FnA:=⟨[.v kM],true,[.bool],fun x=>impl_MatrixValid x.1⟩
theorem A72_ok:FnOk prog 72 A72:=fo (L:=L0) (by kernel_rfl) func72 E72_ok allNil
def impl_Matrix_at:TM→Int→Int→Option (Int):=fun(a0_0,a0_1) a1 a2=>
 if(((0:Int)≤(IntKind.wrap .i64 ((IntKind.wrap .i64 (a1*a0_0))+a2)))∧((IntKind.wrap .i64 ((IntKind.wrap .i64 (a1*a0_0))+a2))<(((List.length a0_1):Nat):Int))) then
  some (List.getD a0_1 (Int.toNat (IntKind.wrap .i64 ((IntKind.wrap .i64 (a1*a0_0))+a2))) 0)
 else
  none
def A138:FnA:=⟨[.v kM,.v i6,.v i6],true,[.int .i64],fun x=>impl_Matrix_at x.1 x.2.1 x.2.2.1⟩
theorem A138_ok:FnOk prog 138 A138:=fo (L:=L0) (by kernel_rfl) func138 E0_ok allNil
def E137:Env:=ev fun g=>ifEq g 138 (some A138) (none)
theorem E137_ok:FnsOk prog E137:=(oF A138_ok func138 (noFns _ _))
def impl_GradesOf_1:Int→Int→TM→Option (Int):=fun a0 a1 (a2_0,a2_1)=>
 Option.bind (impl_Matrix_at (a2_0,a2_1) a0 a1) fun r0=>
  bif (r0==0) then
   some 0
  else
   bif (r0==1000000) then
    some 3
   else
    some 1
def A137:FnA:=⟨[.v i6,.v i6,.cap kM],true,[.int .i64],fun x=>impl_GradesOf_1 x.1 x.2.1 x.2.2.1⟩
theorem A137_ok:FnOk prog 137 A137:=fo (L:=L0) (by kernel_rfl) func137 E137_ok allNil
def E64:Env:=ev fun g=>ifEq g 72 (some A72) (ifEq g 135 (some A135) (ifEq g 137 (some A137) (none)))
theorem E64_ok:FnsOk prog E64:=(oF A72_ok func72 (oF A135_ok func135 (oF A137_ok func137 (noFns _ _))))
def impl_GradesOf:TM→Option (TM×Bool):=fun(a0_0,a0_1)=>
 Option.bind (impl_MatrixValid (a0_0,a0_1)) fun r0=>
  bif (!r0) then
   some (((0:Int),[]),false)
  else
   Option.bind (impl_filled a0_0 (fun y1=>(impl_GradesOf_1 y1.1 y1.2.1 (a0_0,a0_1)))) fun(r2,r3)=>
    some ((r2,(List.take (List.length r3) (List.drop 0 r3))),true)
def A64:FnA:=⟨[.v kM],true,[.pair i6 sI,.bool],fun x=>impl_GradesOf x.1⟩
theorem A64_ok:FnOk prog 64 A64:=fo (L:=L0) (by kernel_rfl) func64 E64_ok allNil
def impl_GradesValid_1:Int→Option (Bool):=fun a0=>
 some (decide (a0>3))
def A74:FnA:=⟨[.v i6],true,[.bool],fun x=>impl_GradesValid_1 x.1⟩
theorem A74_ok:FnOk prog 74 A74:=fo (L:=L0) (by kernel_rfl) func74 E0_ok allNil
def E35:Env:=ev fun g=>ifEq g 72 (some A72) (ifEq g 73 (some A73) (ifEq g 74 (some A74) (none)))
theorem E35_ok:FnsOk prog E35:=(oF A72_ok func72 (oF A73_ok func73 (oF A74_ok func74 (noFns _ _))))
def impl_GradesValid:TM→Option (Bool):=fun(a0_0,a0_1)=>
 Option.bind (impl_MatrixValid (a0_0,a0_1)) fun r0=>
  bif r0 then
   Option.bind (slices_ContainsFunc a0_1 (fun y1=>(impl_GradesValid_1 y1.1))) fun r2=>
    some (!r2)
  else
   some false
def A35:FnA:=⟨[.v kM],true,[.bool],fun x=>impl_GradesValid x.1⟩
theorem A35_ok:FnOk prog 35 A35:=fo (L:=L0) (by kernel_rfl) func35 E35_ok allNil
def E141:Env:=ev fun g=>ifEq g 138 (some A138) (none)
theorem E141_ok:FnsOk prog E141:=(oF A138_ok func138 (noFns _ _))
def sh141_3:List Fm:=.cell (.val i6)::.cell (.val i6)::.fp kM::.fp kM::d::d::d::.cell (.val i6)::d::d::.cell (.val i6)::.cell (.val i6)::D 15 []
def xs141_3:List (Ex×List Fm):=[(.exit 0,(D 7 (.cell (.val i6)::D 19 [])))]
def impl_MulGrades_1_l3:(Int×Int×TM×TM×Int×Int×Int×Unit)→Option ((Int×Int×TM×TM×Int×Int×Int×Unit)⊕((Int×Unit))):=fun(v0,v1,(v2_0,v2_1),(v3_0,v3_1),v7,v10,v11,_)=>
 bif (decide (v11<v10)) then
  Option.bind (impl_Matrix_at (v2_0,v2_1) v0 v11) fun r0=>
   Option.bind (impl_Matrix_at (v3_0,v3_1) v11 v1) fun r1=>
    some (Sum.inl (v0,v1,(v2_0,v2_1),(v3_0,v3_1),(if((if(r1>r0) then r1 else r0)<v7) then(if(r1>r0) then r1 else r0) else v7),v10,(IntKind.wrap .i64 (v11+1)),()))
 else
  some (Sum.inr (v7,()))
theorem loop141_3{L}(h:L 3=some ⟨27,sh141_3,xs141_3,impl_MulGrades_1_l3⟩):LoopOk prog L (loopOf f141 3):=lo (L':=L0) (by kernel_rfl) E141_ok allNil h
def L141_1:Nat→Option LoopD:=fun n=>ifEq n 3 (some ⟨27,sh141_3,xs141_3,impl_MulGrades_1_l3⟩) (L0 n)
def impl_MulGrades_1:Int→Int→TM→TM→Option (Int):=fun a0 a1 (a2_0,a2_1) (a3_0,a3_1)=>
 Option.bind (loopF impl_MulGrades_1_l3 (a0,a1,(a2_0,a2_1),(a3_0,a3_1),3,a2_0,0,())) fun(r0,_)=>
  some r0
def A141:FnA:=⟨[.v i6,.v i6,.cap kM,.cap kM],true,[.int .i64],fun x=>impl_MulGrades_1 x.1 x.2.1 x.2.2.1 x.2.2.2.1⟩
theorem A141_ok:FnOk prog 141 A141:=fo (L:=L141_1) (by kernel_rfl) func141 E141_ok (allCons (loop141_3 rfl) allNil)
def E66:Env:=ev fun g=>ifEq g 35 (some A35) (ifEq g 135 (some A135) (ifEq g 141 (some A141) (none)))
theorem E66_ok:FnsOk prog E66:=(oF A35_ok func35 (oF A135_ok func135 (oF A141_ok func141 (noFns _ _))))
def impl_MulGrades:TM→TM→Option (TM×Bool):=fun(a0_0,a0_1) (a1_0,a1_1)=>
 Option.bind (impl_GradesValid (a0_0,a0_1)) fun r0=>
  bif (!r0) then
   some (((0:Int),[]),false)
  else
   Option.bind (impl_GradesValid (a1_0,a1_1)) fun r1=>
    bif (!r1) then
     some (((0:Int),[]),false)
    else
     bif (a0_0 != a1_0) then
      some (((0:Int),[]),false)
     else
      Option.bind (impl_filled a0_0 (fun y2=>(impl_MulGrades_1 y2.1 y2.2.1 (a0_0,a0_1) (a1_0,a1_1)))) fun(r3,r4)=>
       some ((r3,(List.take (List.length r4) (List.drop 0 r4))),true)
def A66:FnA:=⟨[.v kM,.v kM],true,[.pair i6 sI,.bool],fun x=>impl_MulGrades x.1 x.2.1⟩
theorem A66_ok:FnOk prog 66 A66:=fo (L:=L0) (by kernel_rfl) func66 E66_ok allNil
def sh242_4:List Fm:=.cell (.val sI)::.cell (.val sI)::D 10 (.cell (.val i6)::.cell (.val i6)::D 12 [])
def xs242_4:List (Ex×List Fm):=[(.ret,(D 4 (.cell (.val .bool)::D 21 []))),(.exit 0,(D 26 []))]
def slices_Equal_l4:(LI×LI×Int×Int×Unit)→Option ((LI×LI×Int×Int×Unit)⊕((Bool×Unit)⊕(Unit))):=fun(v0,v1,v12,v13,_)=>
 bif (decide (v13<v12)) then
  if(((0:Int)≤v13)∧(v13<(((List.length v0):Nat):Int))) then
   if(((0:Int)≤v13)∧(v13<(((List.length v1):Nat):Int))) then
    bif ((List.getD v0 (Int.toNat v13) 0) != (List.getD v1 (Int.toNat v13) 0)) then
     some (Sum.inr (Sum.inl (false,())))
    else
     some (Sum.inl (v0,v1,v12,(IntKind.wrap .i64 (v13+1)),()))
   else
    none
  else
   none
 else
  some (Sum.inr (Sum.inr ()))
theorem loop242_4{L}(h:L 4=some ⟨26,sh242_4,xs242_4,slices_Equal_l4⟩):LoopOk prog L (loopOf f242 4):=lo (L':=L0) (by kernel_rfl) E0_ok allNil h
def L242_1:Nat→Option LoopD:=fun n=>ifEq n 4 (some ⟨26,sh242_4,xs242_4,slices_Equal_l4⟩) (L0 n)
def slices_Equal:LI→LI→Option (Bool):=fun a0 a1=>
 bif ((((List.length a0):Nat):Int) != (((List.length a1):Nat):Int)) then
  some false
 else
  Option.bind (loopF slices_Equal_l4 (a0,a1,(((List.length a0):Nat):Int),0,())) fun r0=>
   (match r0 with
   |.inl (d1,_)=>
     some d1
   |.inr _=>
     some true)
def A242:FnA:=⟨[.v sI,.v sI],true,[.bool],fun x=>slices_Equal x.1 x.2.1⟩
theorem A242_ok:FnOk prog 242 A242:=fo (L:=L242_1) (by kernel_rfl) func242 E0_ok (allCons (loop242_4 rfl) allNil)
def E184:Env:=ev fun g=>ifEq g 242 (some A242) (none)
theorem E184_ok:FnsOk prog E184:=(oF A242_ok func242 (noFns _ _))
def impl_SameMatrix:TM→TM→Option (Bool):=fun(a0_0,a0_1) (a1_0,a1_1)=>
 bif (a0_0==a1_0) then
  Option.bind (slices_Equal a0_1 a1_1) fun r0=>
   some r0
 else
  some false
def A184:FnA:=⟨[.v kM,.v kM],true,[.bool],fun x=>impl_SameMatrix x.1 x.2.1⟩
theorem A184_ok:FnOk prog 184 A184:=fo (L:=L0) (by kernel_rfl) func184 E184_ok allNil
def E139:Env:=ev fun g=>ifEq g 66 (some A66) (ifEq g 184 (some A184) (none))
theorem E139_ok:FnsOk prog E139:=(oF A66_ok func66 (oF A184_ok func184 (noFns _ _)))
def impl_IsIdempotent:TM→Option (Bool):=fun(a0_0,a0_1)=>
 Option.bind (impl_MulGrades (a0_0,a0_1) (a0_0,a0_1)) fun((r0,r1),r2)=>
  bif r2 then
   Option.bind (impl_SameMatrix (r0,(List.take (List.length r1) (List.drop 0 r1))) (a0_0,a0_1)) fun r3=>
    some r3
  else
   some false
def A139:FnA:=⟨[.v kM],true,[.bool],fun x=>impl_IsIdempotent x.1⟩
theorem A139_ok:FnOk prog 139 A139:=fo (L:=L0) (by kernel_rfl) func139 E139_ok allNil
def E140:Env:=ev fun g=>ifEq g 138 (some A138) (none)
theorem E140_ok:FnsOk prog E140:=(oF A138_ok func138 (noFns _ _))
def sh140_3:List Fm:=.cell (.val i6)::.cell (.val i6)::.fp kM::d::d::d::.cell (.val i6)::d::d::d::.cell (.val i6)::.cell (.val i6)::D 22 []
def xs140_3:List (Ex×List Fm):=[(.exit 0,(D 6 (.cell (.val i6)::D 27 [])))]
def impl_Stabilise_1_l3:(Int×Int×TM×Int×Int×Int×Unit)→Option ((Int×Int×TM×Int×Int×Int×Unit)⊕((Int×Unit))):=fun(v0,v1,(v2_0,v2_1),v6,v10,v11,_)=>
 bif (decide (v11<v10)) then
  Option.bind (impl_Matrix_at (v2_0,v2_1) v11 v11) fun r0=>
   bif (r0==1) then
    Option.bind (impl_Matrix_at (v2_0,v2_1) v0 v11) fun r1=>
     Option.bind (impl_Matrix_at (v2_0,v2_1) v11 v1) fun r2=>
      some (Sum.inl (v0,v1,(v2_0,v2_1),(if((if(r2>(if((2:Int)>r1) then 2 else r1)) then r2 else(if((2:Int)>r1) then 2 else r1))<v6) then(if(r2>(if((2:Int)>r1) then 2 else r1)) then r2 else(if((2:Int)>r1) then 2 else r1)) else v6),v10,(IntKind.wrap .i64 (v11+1)),()))
   else
    Option.bind (impl_Matrix_at (v2_0,v2_1) v0 v11) fun r3=>
     Option.bind (impl_Matrix_at (v2_0,v2_1) v11 v1) fun r4=>
      some (Sum.inl (v0,v1,(v2_0,v2_1),(if((if(r4>(if(r0>r3) then r0 else r3)) then r4 else(if(r0>r3) then r0 else r3))<v6) then(if(r4>(if(r0>r3) then r0 else r3)) then r4 else(if(r0>r3) then r0 else r3)) else v6),v10,(IntKind.wrap .i64 (v11+1)),()))
 else
  some (Sum.inr (v6,()))
theorem loop140_3{L}(h:L 3=some ⟨34,sh140_3,xs140_3,impl_Stabilise_1_l3⟩):LoopOk prog L (loopOf f140 3):=lo (L':=L0) (by kernel_rfl) E140_ok allNil h
def L140_1:Nat→Option LoopD:=fun n=>ifEq n 3 (some ⟨34,sh140_3,xs140_3,impl_Stabilise_1_l3⟩) (L0 n)
def impl_Stabilise_1:Int→Int→TM→Option (Int):=fun a0 a1 (a2_0,a2_1)=>
 Option.bind (loopF impl_Stabilise_1_l3 (a0,a1,(a2_0,a2_1),3,a2_0,0,())) fun(r0,_)=>
  some r0
def A140:FnA:=⟨[.v i6,.v i6,.cap kM],true,[.int .i64],fun x=>impl_Stabilise_1 x.1 x.2.1 x.2.2.1⟩
theorem A140_ok:FnOk prog 140 A140:=fo (L:=L140_1) (by kernel_rfl) func140 E140_ok (allCons (loop140_3 rfl) allNil)
def E65:Env:=ev fun g=>ifEq g 139 (some A139) (ifEq g 135 (some A135) (ifEq g 140 (some A140) (none)))
theorem E65_ok:FnsOk prog E65:=(oF A139_ok func139 (oF A135_ok func135 (oF A140_ok func140 (noFns _ _))))
def impl_Stabilise:TM→Option (TM×Bool):=fun(a0_0,a0_1)=>
 Option.bind (impl_IsIdempotent (a0_0,a0_1)) fun r0=>
  bif (!r0) then
   some (((0:Int),[]),false)
  else
   Option.bind (impl_filled a0_0 (fun y1=>(impl_Stabilise_1 y1.1 y1.2.1 (a0_0,a0_1)))) fun(r2,r3)=>
    some ((r2,(List.take (List.length r3) (List.drop 0 r3))),true)
def A65:FnA:=⟨[.v kM],true,[.pair i6 sI,.bool],fun x=>impl_Stabilise x.1⟩
theorem A65_ok:FnOk prog 65 A65:=fo (L:=L0) (by kernel_rfl) func65 E65_ok allNil
def R29(impl_value_rec:TA→(List (ByteArray×PT))→Option (TM×Bool)):FnA:=⟨[.v kA,.v (.sl (.pair .str .pt))],true,[.pair i6 sI,.bool],fun x=>impl_value_rec x.1 x.2.1⟩
def E29(impl_value_rec:TA→(List (ByteArray×PT))→Option (TM×Bool)):Env:=ev fun g=>ifEq g 63 (some A63) (ifEq g 64 (some A64) (ifEq g 29 (some (R29 impl_value_rec)) (ifEq g 65 (some A65) (ifEq g 66 (some A66) (none)))))
theorem E29_ok(impl_value_rec:TA→(List (ByteArray×PT))→Option (TM×Bool))(hrec:FnOk prog 29 (R29 impl_value_rec)):FnsOk prog (E29 impl_value_rec):=(oF A63_ok func63 (oF A64_ok func64 (oF hrec func29 (oF A65_ok func65 (oF A66_ok func66 (noFns _ _))))))
def L29_0(impl_value_rec:TA→(List (ByteArray×PT))→Option (TM×Bool)):Nat→Option LoopD:=fun _=>none
def sh29_3:List Fm:=d::d::.box 100200 [.val i6,.val sI,.val sI,.val sS]::d::.box 100400 [.val i6,.own i6 100402 false]::d::.box 100600 [.val i6,.own i6 100602 false]::D 6 (.cell (.val (.sl (.pair .str .pt)))::.cell (.val i6)::.cell (.val i6)::D 46 [])
def xs29_3:List (Ex×List Fm):=[(.ret,[d,d,d,d,.box 100400 [.val i6,.own i6 100402 false],.cell (.val .bool),d,d,d,d,d,d,d,d,d,d,d,d,d,d,d,d,d,d,d,d,d,d,d,d,d,d,d,d,d,d,d,d,d,d,d,d,d,d,d,d,d,d,d,d,d,d,d,d,d,d,d,d,d,d,d,d]),(.exit 0,[d,d,d,d,.box 100400 [.val i6,.own i6 100402 false],d,.box 100600 [.val i6,.own i6 100602 false],d,d,d,d,d,d,d,d,d,d,d,d,d,d,d,d,d,d,d,d,d,d,d,d,d,d,d,d,d,d,d,d,d,d,d,d,d,d,d,d,d,d,d,d,d,d,d,d,d,d,d,d,d,d,d])]
def impl_value_l3(impl_value_rec:TA→(List (ByteArray×PT))→Option (TM×Bool)):((Int×LI×LI×LS×Unit)×(Int×LI×Unit)×(Int×LI×Unit)×(List (ByteArray×PT))×Int×Int×Unit)→Option (((Int×LI×LI×LS×Unit)×(Int×LI×Unit)×(Int×LI×Unit)×(List (ByteArray×PT))×Int×Int×Unit)⊕(((Int×LI×Unit)×Bool×Unit)⊕((Int×LI×Unit)×(Int×LI×Unit)×Unit))):=fun((v2_0,v2_1,v2_2,v2_3,_),(v4_0,v4_1,_),(v6_0,v6_1,_),v13,v14,v15,_)=>
 bif (decide (v15<v14)) then
  if(((0:Int)≤v15)∧(v15<(((List.length v13):Nat):Int))) then
   bif (!((ByteArray.toList (List.getD v13 (Int.toNat v15) (⟨Array.empty⟩,(PT.mk []))).1)==(ByteArray.toList (⟨#[]⟩:ByteArray)))) then
    Option.bind (impl_StepMatrix (v2_0,v2_1,v2_2,v2_3) (List.getD v13 (Int.toNat v15) (⟨Array.empty⟩,(PT.mk []))).1) fun((r0,r1),r2)=>
     Option.bind (impl_GradesOf (r0,(List.take (List.length r1) (List.drop 0 r1)))) fun((r3,r4),r5)=>
      bif (decide (v15>0)) then
       Option.bind (impl_MulGrades (v6_0,(List.take (List.length v6_1) (List.drop 0 v6_1))) (r3,(List.take (List.length r4) (List.drop 0 r4)))) fun((r6,r7),r8)=>
        some (Sum.inl ((v2_0,v2_1,v2_2,v2_3,()),(v4_0,(List.take (List.length v4_1) (List.drop 0 v4_1)),()),(r6,(List.take (List.length r7) (List.drop 0 r7)),()),v13,v14,(IntKind.wrap .i64 (v15+1)),()))
      else
       some (Sum.inl ((v2_0,v2_1,v2_2,v2_3,()),(v4_0,(List.take (List.length v4_1) (List.drop 0 v4_1)),()),(r3,(List.take (List.length r4) (List.drop 0 r4)),()),v13,v14,(IntKind.wrap .i64 (v15+1)),()))
   else
    Option.bind (impl_value_rec (v2_0,v2_1,v2_2,v2_3) (PT.l (List.getD v13 (Int.toNat v15) (⟨Array.empty⟩,(PT.mk []))).2)) fun((r9,r10),r11)=>
     bif r11 then
      Option.bind (impl_Stabilise (r9,(List.take (List.length r10) (List.drop 0 r10)))) fun((r12,r13),r14)=>
       bif (!r14) then
        some (Sum.inr (Sum.inl (((0:Int),[],()),false,())))
       else
        bif (decide (v15>0)) then
         Option.bind (impl_MulGrades (v6_0,(List.take (List.length v6_1) (List.drop 0 v6_1))) (r12,(List.take (List.length r13) (List.drop 0 r13)))) fun((r15,r16),r17)=>
          some (Sum.inl ((v2_0,v2_1,v2_2,v2_3,()),(v4_0,(List.take (List.length v4_1) (List.drop 0 v4_1)),()),(r15,(List.take (List.length r16) (List.drop 0 r16)),()),v13,v14,(IntKind.wrap .i64 (v15+1)),()))
        else
         some (Sum.inl ((v2_0,v2_1,v2_2,v2_3,()),(v4_0,(List.take (List.length v4_1) (List.drop 0 v4_1)),()),(r12,(List.take (List.length r13) (List.drop 0 r13)),()),v13,v14,(IntKind.wrap .i64 (v15+1)),()))
     else
      bif (!r11) then
       some (Sum.inr (Sum.inl (((0:Int),[],()),false,())))
      else
       bif (decide (v15>0)) then
        Option.bind (impl_MulGrades (v6_0,(List.take (List.length v6_1) (List.drop 0 v6_1))) (r9,(List.take (List.length r10) (List.drop 0 r10)))) fun((r18,r19),r20)=>
         some (Sum.inl ((v2_0,v2_1,v2_2,v2_3,()),(v4_0,(List.take (List.length v4_1) (List.drop 0 v4_1)),()),(r18,(List.take (List.length r19) (List.drop 0 r19)),()),v13,v14,(IntKind.wrap .i64 (v15+1)),()))
       else
        some (Sum.inl ((v2_0,v2_1,v2_2,v2_3,()),(v4_0,(List.take (List.length v4_1) (List.drop 0 v4_1)),()),(r9,(List.take (List.length r10) (List.drop 0 r10)),()),v13,v14,(IntKind.wrap .i64 (v15+1)),()))
  else
   none
 else
  some (Sum.inr (Sum.inr ((v4_0,(List.take (List.length v4_1) (List.drop 0 v4_1)),()),(v6_0,(List.take (List.length v6_1) (List.drop 0 v6_1)),()),())))
theorem impl_value_l3_eq(impl_value_rec:TA→(List (ByteArray×PT))→Option (TM×Bool)):loopStep 62 (E29 impl_value_rec) (L29_0 impl_value_rec) (loopOf f29 3) sh29_3 xs29_3=(impl_value_l3 impl_value_rec):=by kernel_rfl
theorem loop29_3(impl_value_rec:TA→(List (ByteArray×PT))→Option (TM×Bool))(hrec:FnOk prog 29 (R29 impl_value_rec)){L:Nat→Option LoopD}(h:L 3=some ⟨62,sh29_3,xs29_3,(impl_value_l3 impl_value_rec)⟩):LoopOk prog L (loopOf f29 3):=
 loopOk (tysOk_of tyl_ok) (E29_ok impl_value_rec hrec) (codeOk_in (L:=(L29_0 impl_value_rec)) (tysOk_of tyl_ok) (E29_ok impl_value_rec hrec) mixed (c:=loopOf f29 3) (bs:=[]) (by kernel_rfl) allNil (by kernel_rfl)) (by kernel_rfl) (by kernel_rfl) (impl_value_l3_eq impl_value_rec) (by rw[show firstId (loopOf f29 3)=3 from by kernel_rfl];exact h)
def L29_1(impl_value_rec:TA→(List (ByteArray×PT))→Option (TM×Bool)):Nat→Option LoopD:=fun n=>ifEq n 3 (some ⟨62,sh29_3,xs29_3,(impl_value_l3 impl_value_rec)⟩) ((L29_0 impl_value_rec) n)
def impl_value_step(impl_value_rec:TA→(List (ByteArray×PT))→Option (TM×Bool)):TA→(List (ByteArray×PT))→Option (TM×Bool):=fun(a0_0,a0_1,a0_2,a0_3) a1=>
 Option.bind (loopF (impl_value_l3 impl_value_rec) ((a0_0,a0_1,a0_2,a0_3,()),((0:Int),[],()),((0:Int),[],()),a1,(((List.length a1):Nat):Int),0,())) fun r0=>
  (match r0 with
  |.inl ((d1,d2,_),d3,_)=>
    some ((d1,(List.take (List.length d2) (List.drop 0 d2))),d3)
  |.inr ((d4,d5,_),(d6,d7,_),_)=>
    some ((d6,(List.take (List.length d7) (List.drop 0 d7))),true))
theorem impl_value_step_eq(impl_value_rec:TA→(List (ByteArray×PT))→Option (TM×Bool)):fnF (E29 impl_value_rec) (L29_1 impl_value_rec) [.v kA,.v (.sl (.pair .str .pt))] true [.pair i6 sI,.bool] f29.ntmps f29.results.toList (codeOf f29)=fun x=>(impl_value_step impl_value_rec) x.1 x.2.1:=by kernel_rfl
theorem impl_value_step_ok(impl_value_rec:TA→(List (ByteArray×PT))→Option (TM×Bool))(hrec:FnOk prog 29 (R29 impl_value_rec)):FnOk prog 29 ⟨[.v kA,.v (.sl (.pair .str .pt))],true,[.pair i6 sI,.bool],fun x=>(impl_value_step impl_value_rec) x.1 x.2.1⟩:=by
 have h:=fnOk_of_run (P:=prog) (E:=(E29 impl_value_rec)) (tysOk_of tyl_ok) (E29_ok impl_value_rec hrec) (L:=(L29_1 impl_value_rec)) (ps:=[.v kA,.v (.sl (.pair .str .pt))]) (own:=true) (outs:=[.pair i6 sI,.bool]) func29 (c:=codeOf f29) (by kernel_rfl) (codeOk_in (L:=(L29_1 impl_value_rec)) (tysOk_of tyl_ok) (E29_ok impl_value_rec hrec) mixed (c:=codeOf f29) (bs:=[loopOf f29 3]) (by kernel_rfl) (allCons (loop29_3 impl_value_rec hrec rfl) allNil) (by kernel_rfl));rw[(impl_value_step_eq impl_value_rec)] at h;exact h
/-- so many calls within each other -/
def impl_value_fuel:Nat→TA→(List (ByteArray×PT))→Option (TM×Bool)
 |0=>fun _ _=>none
 |n+1=>impl_value_step (impl_value_fuel n)
theorem impl_value_fuel_ok:∀n,FnOk prog 29 (R29 (impl_value_fuel n))
 |0=>fun xs r h=>by cases h
 |n+1=>impl_value_step_ok (impl_value_fuel n) (impl_value_fuel_ok n)
def impl_value:TA→(List (ByteArray×PT))→Option (TM×Bool):=impl_value_fuel 200
def A29:FnA:=R29 impl_value
theorem A29_ok:FnOk prog 29 A29:=impl_value_fuel_ok 200
def E8:Env:=ev fun g=>ifEq g 28 (some A28) (ifEq g 20 (some A20) (ifEq g 29 (some A29) (none)))
theorem E8_ok:FnsOk prog E8:=(oF A28_ok func28 (oF A20_ok func20 (oF A29_ok func29 (noFns _ _))))
def impl_ValueOf:TA→ByteArray→Option (TM×Bool):=fun(a0_0,a0_1,a0_2,a0_3) a1=>
 Option.bind (impl_parts a1) fun(r0,r1)=>
  bif (!r1) then
   some (((0:Int),[]),false)
  else
   Option.bind (impl_AutomatonValid (a0_0,a0_1,a0_2,a0_3)) fun r2=>
    bif (!r2) then
     some (((0:Int),[]),false)
    else
     Option.bind (impl_value (a0_0,a0_1,a0_2,a0_3) (List.take (List.length r0) (List.drop 0 r0))) fun((r3,r4),r5)=>
      some ((r3,(List.take (List.length r4) (List.drop 0 r4))),r5)
def A8:FnA:=⟨[.v kA,.v .str],true,[.pair i6 sI,.bool],fun x=>impl_ValueOf x.1 x.2.1⟩
theorem A8_ok:FnOk prog 8 A8:=fo (L:=L0) (by kernel_rfl) func8 E8_ok allNil
def E33:Env:=ev fun g=>ifEq g 31 (some A31) (ifEq g 32 (some A32) (none))
theorem E33_ok:FnsOk prog E33:=(oF A31_ok func31 (oF A32_ok func32 (noFns _ _)))
def sh33_3:List Fm:=d::d::d::.cell (.own .str 100300 false)::d::d::d::.cell (.val sI)::.cell (.val i6)::.cell (.val i6)::D 11 []
def xs33_3:List (Ex×List Fm):=[(.exit 0,(d::d::d::.cell (.own .str 100300 false)::D 17 []))]
def impl_numbers_l3:((List ByteArray)×LI×Int×Int×Unit)→Option (((List ByteArray)×LI×Int×Int×Unit)⊕(((List ByteArray)×Unit))):=fun(v3,v7,v8,v9,_)=>
 bif (decide (v9<v8)) then
  if(((0:Int)≤v9)∧(v9<(((List.length v7):Nat):Int))) then
   Option.bind (strconv_Itoa (List.getD v7 (Int.toNat v9) 0)) fun r0=>
    if(((0+(List.length v3))=(List.length v3))∧((((List.length v3)+(List.length (List.take 1 (List.drop 0 [r0]))))*16)≤140737488355328)) then
     some (Sum.inl ((List.take ((List.length v3)+(List.length (List.take 1 (List.drop 0 [r0])))) (List.drop 0 ((List.drop 0 v3)++(List.take 1 (List.drop 0 [r0]))))),v7,v8,(IntKind.wrap .i64 (v9+1)),()))
    else
     none
  else
   none
 else
  some (Sum.inr ((List.take (List.length v3) (List.drop 0 v3)),()))
theorem loop33_3{L}(h:L 3=some ⟨21,sh33_3,xs33_3,impl_numbers_l3⟩):LoopOk prog L (loopOf f33 3):=lo (L':=L0) (by kernel_rfl) E33_ok allNil h
def L33_1:Nat→Option LoopD:=fun n=>ifEq n 3 (some ⟨21,sh33_3,xs33_3,impl_numbers_l3⟩) (L0 n)
def impl_numbers:LI→Option (ByteArray):=fun a0=>
 Option.bind (loopF impl_numbers_l3 ((List.take 0 (List.drop 0 [])),a0,(((List.length a0):Nat):Int),0,())) fun(r0,_)=>
  Option.bind (strings_Join (List.take (List.length r0) (List.drop 0 r0)) (⟨#[(32:UInt8)]⟩:ByteArray)) fun r1=>
   some r1
def A33:FnA:=⟨[.v sI],true,[.str],fun x=>impl_numbers x.1⟩
theorem A33_ok:FnOk prog 33 A33:=fo (L:=L33_1) (by kernel_rfl) func33 E33_ok (allCons (loop33_3 rfl) allNil)
def E10:Env:=ev fun g=>ifEq g 20 (some A20) (ifEq g 31 (some A31) (ifEq g 33 (some A33) (ifEq g 32 (some A32) (none))))
theorem E10_ok:FnsOk prog E10:=(oF A20_ok func20 (oF A31_ok func31 (oF A33_ok func33 (oF A32_ok func32 (noFns _ _)))))
def sh10_5:List Fm:=d::.box 100100 [.val i6,.val sI,.val sI,.val sS]::d::.cell (.own .str 100300 false)::D 7 (.cell (.val sS)::.cell (.val i6)::.cell (.val i6)::D 35 [])
def xs10_5:List (Ex×List Fm):=[(.exit 0,[d,.box 100100 [.val i6,.val sI,.val sI,.val sS],d,.cell (.own .str 100300 false),d,d,d,d,d,d,d,d,d,d,d,d,d,d,d,d,d,d,d,d,d,d,d,d,d,d,d,d,d,d,d,d,d,d,d,d,d,d,d,d,d,d,d,d,d])]
def impl_FormatAutomaton_l5:((Int×LI×LI×LS×Unit)×(List ByteArray)×LS×Int×Int×Unit)→Option (((Int×LI×LI×LS×Unit)×(List ByteArray)×LS×Int×Int×Unit)⊕(((Int×LI×LI×LS×Unit)×(List ByteArray)×Unit))):=fun((v1_0,v1_1,v1_2,v1_3,_),v3,v11,v12,v13,_)=>
 bif (decide (v13<v12)) then
  if(((0:Int)≤v13)∧(v13<(((List.length v11):Nat):Int))) then
   Option.bind (strconv_Itoa (List.getD v11 (Int.toNat v13) ((0:Int),⟨Array.empty⟩,0,0)).1) fun r0=>
    if(((ByteArray.size r0)+(ByteArray.size (List.getD v11 (Int.toNat v13) ((0:Int),⟨Array.empty⟩,0,0)).2.1))≤9223372036854775807) then
     Option.bind (strconv_Itoa (List.getD v11 (Int.toNat v13) ((0:Int),⟨Array.empty⟩,0,0)).2.2.1) fun r1=>
      if(((ByteArray.size (r0++(List.getD v11 (Int.toNat v13) ((0:Int),⟨Array.empty⟩,0,0)).2.1))+(ByteArray.size r1))≤9223372036854775807) then
       if(((ByteArray.size ((r0++(List.getD v11 (Int.toNat v13) ((0:Int),⟨Array.empty⟩,0,0)).2.1)++r1))+(ByteArray.size (⟨#[(58:UInt8)]⟩:ByteArray)))≤9223372036854775807) then
        Option.bind (strconv_Itoa (List.getD v11 (Int.toNat v13) ((0:Int),⟨Array.empty⟩,0,0)).2.2.2) fun r2=>
         if(((ByteArray.size (((r0++(List.getD v11 (Int.toNat v13) ((0:Int),⟨Array.empty⟩,0,0)).2.1)++r1)++(⟨#[(58:UInt8)]⟩:ByteArray)))+(ByteArray.size r2))≤9223372036854775807) then
          if(((0+(List.length v3))=(List.length v3))∧((((List.length v3)+(List.length (List.take 1 (List.drop 0 [((((r0++(List.getD v11 (Int.toNat v13) ((0:Int),(⟨Array.empty⟩:ByteArray),(0:Int),(0:Int))).2.1)++r1)++(⟨#[(58:UInt8)]⟩:ByteArray))++r2)]))))*16)≤140737488355328)) then
           some (Sum.inl ((v1_0,v1_1,v1_2,v1_3,()),(List.take ((List.length v3)+(List.length (List.take 1 (List.drop 0 [((((r0++(List.getD v11 (Int.toNat v13) ((0:Int),(⟨Array.empty⟩:ByteArray),(0:Int),(0:Int))).2.1)++r1)++(⟨#[(58:UInt8)]⟩:ByteArray))++r2)])))) (List.drop 0 ((List.drop 0 v3)++(List.take 1 (List.drop 0 [((((r0++(List.getD v11 (Int.toNat v13) ((0:Int),(⟨Array.empty⟩:ByteArray),(0:Int),(0:Int))).2.1)++r1)++(⟨#[(58:UInt8)]⟩:ByteArray))++r2)]))))),v11,v12,(IntKind.wrap .i64 (v13+1)),()))
          else
           none
         else
          none
       else
        none
      else
       none
    else
     none
  else
   none
 else
  some (Sum.inr ((v1_0,v1_1,v1_2,v1_3,()),(List.take (List.length v3) (List.drop 0 v3)),()))
theorem loop10_5{L}(h:L 5=some ⟨49,sh10_5,xs10_5,impl_FormatAutomaton_l5⟩):LoopOk prog L (loopOf f10 5):=lo (L':=L0) (by kernel_rfl) E10_ok allNil h
def L10_1:Nat→Option LoopD:=fun n=>ifEq n 5 (some ⟨49,sh10_5,xs10_5,impl_FormatAutomaton_l5⟩) (L0 n)
def impl_FormatAutomaton:TA→Option (ByteArray):=fun(a0_0,a0_1,a0_2,a0_3)=>
 Option.bind (impl_AutomatonValid (a0_0,a0_1,a0_2,a0_3)) fun r0=>
  bif (!r0) then
   some (⟨#[]⟩:ByteArray)
  else
   Option.bind (loopF impl_FormatAutomaton_l5 ((a0_0,a0_1,a0_2,a0_3,()),(List.take 0 (List.drop 0 [])),a0_3,(((List.length a0_3):Nat):Int),0,())) fun((r1,r2,r3,r4,_),r5,_)=>
    Option.bind (strconv_Itoa r1) fun r6=>
     Option.bind (impl_numbers r2) fun r7=>
      Option.bind (impl_numbers r3) fun r8=>
       Option.bind (strings_Join (List.take (List.length r5) (List.drop 0 r5)) (⟨#[(32:UInt8)]⟩:ByteArray)) fun r9=>
        Option.bind (strings_Join (List.take 4 (List.drop 0 [r6,r7,r8,r9])) (⟨#[(59:UInt8)]⟩:ByteArray)) fun r10=>
         some r10
def A10:FnA:=⟨[.v kA],true,[.str],fun x=>impl_FormatAutomaton x.1⟩
theorem A10_ok:FnOk prog 10 A10:=fo (L:=L10_1) (by kernel_rfl) func10 E10_ok (allCons (loop10_5 rfl) allNil)
def E34:Env:=ev fun g=>ifEq g 33 (some A33) (none)
theorem E34_ok:FnsOk prog E34:=(oF A33_ok func33 (noFns _ _))
def impl_FormatNumbers:LI→Option (ByteArray):=fun a0=>
 bif ((((List.length a0):Nat):Int)==0) then
  some (⟨#[(45:UInt8)]⟩:ByteArray)
 else
  Option.bind (impl_numbers a0) fun r0=>
   some r0
def A34:FnA:=⟨[.v sI],true,[.str],fun x=>impl_FormatNumbers x.1⟩
theorem A34_ok:FnOk prog 34 A34:=fo (L:=L0) (by kernel_rfl) func34 E34_ok allNil
def E11:Env:=ev fun g=>ifEq g 34 (some A34) (none)
theorem E11_ok:FnsOk prog E11:=(oF A34_ok func34 (noFns _ _))
def laws_daDigit:Int→Option (ByteArray):=fun a0=>
 Option.bind (impl_FormatNumbers (List.take 1 (List.drop 0 [a0]))) fun r0=>
  some r0
def A11:FnA:=⟨[.v i6],true,[.str],fun x=>laws_daDigit x.1⟩
theorem A11_ok:FnOk prog 11 A11:=fo (L:=L0) (by kernel_rfl) func11 E11_ok allNil
def E36:Env:=ev fun g=>ifEq g 32 (some A32) (none)
theorem E36_ok:FnsOk prog E36:=(oF A32_ok func32 (noFns _ _))
def sh36_3:List Fm:=d::.clo [.sl i6] .str::.box 100200 [.val i6,.val sI]::d::d::.cell (.own .str 100500 false)::d::d::d::.cell (.val i6)::.cell (.val i6)::D 22 []
def xs36_3:List (Ex×List Fm):=[(.exit 0,(D 5 (.cell (.own .str 100500 false)::D 27 [])))]
def impl_rows_l3:(((LI×Unit)→Option (ByteArray))×(Int×LI×Unit)×(List ByteArray)×Int×Int×Unit)→Option ((((LI×Unit)→Option (ByteArray))×(Int×LI×Unit)×(List ByteArray)×Int×Int×Unit)⊕(((List ByteArray)×Unit))):=fun(v1,(v2_0,v2_1,_),v5,v9,v10,_)=>
 bif (decide (v10<v9)) then
  if(((0:Int)≤(IntKind.wrap .i64 (v10*v2_0)))∧(((IntKind.wrap .i64 (v10*v2_0))≤(IntKind.wrap .i64 ((IntKind.wrap .i64 (v10+1))*v2_0)))∧((IntKind.wrap .i64 ((IntKind.wrap .i64 (v10+1))*v2_0))≤(((List.length v2_1):Nat):Int)))) then
   Option.bind (v1 ((List.take ((Int.toNat (IntKind.wrap .i64 ((IntKind.wrap .i64 (v10+1))*v2_0)))-(Int.toNat (IntKind.wrap .i64 (v10*v2_0)))) (List.drop (Int.toNat (IntKind.wrap .i64 (v10*v2_0))) v2_1)),())) fun r0=>
    if(((0+(List.length v5))=(List.length v5))∧((((List.length v5)+(List.length (List.take 1 (List.drop 0 [r0]))))*16)≤140737488355328)) then
     some (Sum.inl (v1,(v2_0,v2_1,()),(List.take ((List.length v5)+(List.length (List.take 1 (List.drop 0 [r0])))) (List.drop 0 ((List.drop 0 v5)++(List.take 1 (List.drop 0 [r0]))))),v9,(IntKind.wrap .i64 (v10+1)),()))
    else
     none
  else
   none
 else
  some (Sum.inr ((List.take (List.length v5) (List.drop 0 v5)),()))
theorem loop36_3{L}(h:L 3=some ⟨33,sh36_3,xs36_3,impl_rows_l3⟩):LoopOk prog L (loopOf f36 3):=lo (L':=L0) (by kernel_rfl) E36_ok allNil h
def L36_1:Nat→Option LoopD:=fun n=>ifEq n 3 (some ⟨33,sh36_3,xs36_3,impl_rows_l3⟩) (L0 n)
def impl_rows:TM→((LI×Unit)→Option (ByteArray))→Option (ByteArray):=fun(a0_0,a0_1) a1=>
 Option.bind (loopF impl_rows_l3 (a1,(a0_0,a0_1,()),(List.take 0 (List.drop 0 [])),a0_0,0,())) fun(r0,_)=>
  Option.bind (strings_Join (List.take (List.length r0) (List.drop 0 r0)) (⟨#[(47:UInt8)]⟩:ByteArray)) fun r1=>
   some r1
def A36:FnA:=⟨[.v kM,.clo [.sl i6] .str],true,[.str],fun x=>impl_rows x.1 x.2.1⟩
theorem A36_ok:FnOk prog 36 A36:=fo (L:=L36_1) (by kernel_rfl) func36 E36_ok (allCons (loop36_3 rfl) allNil)
def sh37_3:List Fm:=d::d::d::.cell (.val .str)::d::d::.cell (.val sI)::.cell (.val i6)::.cell (.val i6)::D 11 []
def xs37_3:List (Ex×List Fm):=[(.exit 0,(d::d::d::.cell (.val .str)::D 16 []))]
def impl_FormatGrades_1_l3:(ByteArray×LI×Int×Int×Unit)→Option ((ByteArray×LI×Int×Int×Unit)⊕((ByteArray×Unit))):=fun(v3,v6,v7,v8,_)=>
 bif (decide (v8<v7)) then
  if(((0:Int)≤v8)∧(v8<(((List.length v6):Nat):Int))) then
   if(((0:Int)≤(List.getD v6 (Int.toNat v8) 0))∧(((List.getD v6 (Int.toNat v8) 0)≤(IntKind.wrap .i64 ((List.getD v6 (Int.toNat v8) 0)+1)))∧((IntKind.wrap .i64 ((List.getD v6 (Int.toNat v8) 0)+1))≤(((ByteArray.size (⟨#[(48:UInt8),(49:UInt8),(119:UInt8),(45:UInt8)]⟩:ByteArray)):Nat):Int)))) then
    if(((ByteArray.size v3)+(ByteArray.size (ByteArray.extract (⟨#[(48:UInt8),(49:UInt8),(119:UInt8),(45:UInt8)]⟩:ByteArray) (Int.toNat (List.getD v6 (Int.toNat v8) 0)) (Int.toNat (IntKind.wrap .i64 ((List.getD v6 (Int.toNat v8) 0)+1))))))≤9223372036854775807) then
     some (Sum.inl ((v3++(ByteArray.extract (⟨#[(48:UInt8),(49:UInt8),(119:UInt8),(45:UInt8)]⟩:ByteArray) (Int.toNat (List.getD v6 (Int.toNat v8) 0)) (Int.toNat (IntKind.wrap .i64 ((List.getD v6 (Int.toNat v8) 0)+1))))),v6,v7,(IntKind.wrap .i64 (v8+1)),()))
    else
     none
   else
    none
  else
   none
 else
  some (Sum.inr (v3,()))
theorem loop37_3{L}(h:L 3=some ⟨20,sh37_3,xs37_3,impl_FormatGrades_1_l3⟩):LoopOk prog L (loopOf f37 3):=lo (L':=L0) (by kernel_rfl) E0_ok allNil h
def L37_1:Nat→Option LoopD:=fun n=>ifEq n 3 (some ⟨20,sh37_3,xs37_3,impl_FormatGrades_1_l3⟩) (L0 n)
def impl_FormatGrades_1:LI→Option (ByteArray):=fun a0=>
 Option.bind (loopF impl_FormatGrades_1_l3 ((⟨#[]⟩:ByteArray),a0,(((List.length a0):Nat):Int),0,())) fun(r0,_)=>
  some r0
def A37:FnA:=⟨[.v sI],true,[.str],fun x=>impl_FormatGrades_1 x.1⟩
theorem A37_ok:FnOk prog 37 A37:=fo (L:=L37_1) (by kernel_rfl) func37 E0_ok (allCons (loop37_3 rfl) allNil)
def E13:Env:=ev fun g=>ifEq g 35 (some A35) (ifEq g 36 (some A36) (ifEq g 37 (some A37) (none)))
theorem E13_ok:FnsOk prog E13:=(oF A35_ok func35 (oF A36_ok func36 (oF A37_ok func37 (noFns _ _))))
def impl_FormatGrades:TM→Option (ByteArray):=fun(a0_0,a0_1)=>
 Option.bind (impl_GradesValid (a0_0,a0_1)) fun r0=>
  bif (!r0) then
   some (⟨#[]⟩:ByteArray)
  else
   Option.bind (impl_rows (a0_0,a0_1) (fun y1=>(impl_FormatGrades_1 y1.1))) fun r2=>
    some r2
def A13:FnA:=⟨[.v kM],true,[.str],fun x=>impl_FormatGrades x.1⟩
theorem A13_ok:FnOk prog 13 A13:=fo (L:=L0) (by kernel_rfl) func13 E13_ok allNil
def laws_daLine:ByteArray→Bool→Option (ByteArray):=fun a0 a1=>
 bif (!a1) then
  some (⟨#[(110:UInt8),(111:UInt8),(10:UInt8)]⟩:ByteArray)
 else
  if(((ByteArray.size a0)+(ByteArray.size (⟨#[(10:UInt8)]⟩:ByteArray)))≤9223372036854775807) then
   some (a0++(⟨#[(10:UInt8)]⟩:ByteArray))
  else
   none
def A12:FnA:=⟨[.v .str,.v .bool],true,[.str],fun x=>laws_daLine x.1 x.2.1⟩
theorem A12_ok:FnOk prog 12 A12:=fo (L:=L0) (by kernel_rfl) func12 E0_ok allNil
def E39:Env:=ev fun g=>ifEq g 38 (some A38) (ifEq g 31 (some A31) (none))
theorem E39_ok:FnsOk prog E39:=(oF A38_ok func38 (oF A31_ok func31 (noFns _ _)))
def impl_FormatCost:Int→Option (ByteArray):=fun a0=>
 Option.bind (impl_CostValid a0) fun r0=>
  bif (!r0) then
   some (⟨#[]⟩:ByteArray)
  else
   bif (a0==1000000) then
    some (⟨#[(45:UInt8)]⟩:ByteArray)
   else
    Option.bind (strconv_Itoa a0) fun r1=>
     some r1
def A39:FnA:=⟨[.v i6],true,[.str],fun x=>impl_FormatCost x.1⟩
theorem A39_ok:FnOk prog 39 A39:=fo (L:=L0) (by kernel_rfl) func39 E39_ok allNil
def E15:Env:=ev fun g=>ifEq g 38 (some A38) (ifEq g 39 (some A39) (ifEq g 32 (some A32) (none)))
theorem E15_ok:FnsOk prog E15:=(oF A38_ok func38 (oF A39_ok func39 (oF A32_ok func32 (noFns _ _))))
def sh15_3:List Fm:=d::d::d::.cell (.own .str 100300 false)::d::d::d::.cell (.val sI)::.cell (.val i6)::.cell (.val i6)::D 14 []
def xs15_3:List (Ex×List Fm):=[(.ret,(d::d::.cell (.val .str)::D 21 [])),(.exit 0,(d::d::d::.cell (.own .str 100300 false)::D 20 []))]
def impl_FormatCosts_l3:((List ByteArray)×LI×Int×Int×Unit)→Option (((List ByteArray)×LI×Int×Int×Unit)⊕((ByteArray×Unit)⊕((List ByteArray)×Unit))):=fun(v3,v7,v8,v9,_)=>
 bif (decide (v9<v8)) then
  if(((0:Int)≤v9)∧(v9<(((List.length v7):Nat):Int))) then
   Option.bind (impl_CostValid (List.getD v7 (Int.toNat v9) 0)) fun r0=>
    bif (!r0) then
     some (Sum.inr (Sum.inl ((⟨#[]⟩:ByteArray),())))
    else
     Option.bind (impl_FormatCost (List.getD v7 (Int.toNat v9) 0)) fun r1=>
      if(((0+(List.length v3))=(List.length v3))∧((((List.length v3)+(List.length (List.take 1 (List.drop 0 [r1]))))*16)≤140737488355328)) then
       some (Sum.inl ((List.take ((List.length v3)+(List.length (List.take 1 (List.drop 0 [r1])))) (List.drop 0 ((List.drop 0 v3)++(List.take 1 (List.drop 0 [r1]))))),v7,v8,(IntKind.wrap .i64 (v9+1)),()))
      else
       none
  else
   none
 else
  some (Sum.inr (Sum.inr ((List.take (List.length v3) (List.drop 0 v3)),())))
theorem loop15_3{L}(h:L 3=some ⟨24,sh15_3,xs15_3,impl_FormatCosts_l3⟩):LoopOk prog L (loopOf f15 3):=lo (L':=L0) (by kernel_rfl) E15_ok allNil h
def L15_1:Nat→Option LoopD:=fun n=>ifEq n 3 (some ⟨24,sh15_3,xs15_3,impl_FormatCosts_l3⟩) (L0 n)
def impl_FormatCosts:LI→Option (ByteArray):=fun a0=>
 Option.bind (loopF impl_FormatCosts_l3 ((List.take 0 (List.drop 0 [])),a0,(((List.length a0):Nat):Int),0,())) fun r0=>
  (match r0 with
  |.inl (d1,_)=>
    some d1
  |.inr (d2,_)=>
    Option.bind (strings_Join (List.take (List.length d2) (List.drop 0 d2)) (⟨#[(32:UInt8)]⟩:ByteArray)) fun r3=>
     some r3)
def A15:FnA:=⟨[.v sI],true,[.str],fun x=>impl_FormatCosts x.1⟩
theorem A15_ok:FnOk prog 15 A15:=fo (L:=L15_1) (by kernel_rfl) func15 E15_ok (allCons (loop15_3 rfl) allNil)
def impl_ShowWord:ByteArray→Option (ByteArray):=fun a0=>
 bif ((ByteArray.toList a0)==(ByteArray.toList (⟨#[]⟩:ByteArray))) then
  some (⟨#[(45:UInt8)]⟩:ByteArray)
 else
  some a0
def A14:FnA:=⟨[.v .str],true,[.str],fun x=>impl_ShowWord x.1⟩
theorem A14_ok:FnOk prog 14 A14:=fo (L:=L0) (by kernel_rfl) func14 E0_ok allNil
def E40:Env:=ev fun g=>ifEq g 41 (some A41) (ifEq g 75 (some A75) (ifEq g 76 (some A76) (ifEq g 10 (some A10) (none))))
theorem E40_ok:FnsOk prog E40:=(oF A41_ok func41 (oF A75_ok func75 (oF A76_ok func76 (oF A10_ok func10 (noFns _ _)))))
def sh40_7:List Fm:=.cell (.val .str)::d::.box 100200 [.val i6,.own i6 100202 false,.own i6 100203 false,.own kS 100204 false]::d::.cell (.own .str 100400 false)::.box 100500 [.val i6,.own i6 100502 false,.own i6 100503 false,.own kS 100504 false]::D 27 (.cell (.own .str 103300 false)::.cell (.val i6)::.cell (.val i6)::D 80 [])
def xs40_7:List (Ex×List Fm):=[(.exit 0,[.cell (.val .str),d,.box 100200 [.val i6,.own i6 100202 false,.own i6 100203 false,.own kS 100204 false],d,.cell (.own .str 100400 false),.box 100500 [.val i6,.own i6 100502 false,.own i6 100503 false,.own kS 100504 false],d,d,d,d,d,d,d,d,d,d,d,d,d,d,d,d,d,d,d,d,d,d,d,d,d,d,d,d,d,d,d,d,d,d,d,d,d,d,d,d,d,d,d,d,d,d,d,d,d,d,d,d,d,d,d,d,d,d,d,d,d,d,d,d,d,d,d,d,d,d,d,d,d,d,d,d,d,d,d,d,d,d,d,d,d,d,d,d,d,d,d,d,d,d,d,d,d,d,d,d,d,d,d,d,d,d,d,d,d,d])]
def impl_ParseAutomaton_l7:(ByteArray×(Int×LI×LI×LS×Unit)×(List ByteArray)×(Int×LI×LI×LS×Unit)×(List ByteArray)×Int×Int×Unit)→Option ((ByteArray×(Int×LI×LI×LS×Unit)×(List ByteArray)×(Int×LI×LI×LS×Unit)×(List ByteArray)×Int×Int×Unit)⊕((ByteArray×(Int×LI×LI×LS×Unit)×(List ByteArray)×(Int×LI×LI×LS×Unit)×Unit))):=fun(v0,(v2_0,v2_1,v2_2,v2_3,_),v4,(v5_0,v5_1,v5_2,v5_3,_),v33,v34,v35,_)=>
 bif (decide (v35<v34)) then
  if(((0:Int)≤v35)∧(v35<(((List.length v33):Nat):Int))) then
   Option.bind (strconv_Atoi (List.getD v33 (0+(Int.toNat v35)) ⟨Array.empty⟩)) fun(r0,r1)=>
    if(((0+(List.length v5_1))=(List.length v5_1))∧((((List.length v5_1)+(List.length (List.take 1 (List.drop 0 [r0]))))*8)≤140737488355328)) then
     some (Sum.inl (v0,(v2_0,(List.take (List.length v2_1) (List.drop 0 v2_1)),(List.take (List.length v2_2) (List.drop 0 v2_2)),(List.take (List.length v2_3) (List.drop 0 v2_3)),()),(List.take (List.length v4) (List.drop 0 v4)),(v5_0,(List.take ((List.length v5_1)+(List.length (List.take 1 (List.drop 0 [r0])))) (List.drop 0 ((List.drop 0 v5_1)++(List.take 1 (List.drop 0 [r0]))))),(List.take (List.length v5_2) (List.drop 0 v5_2)),(List.take (List.length v5_3) (List.drop 0 v5_3)),()),(List.take (List.length v33) (List.drop 0 v33)),v34,(IntKind.wrap .i64 (v35+1)),()))
    else
     none
  else
   none
 else
  some (Sum.inr (v0,(v2_0,(List.take (List.length v2_1) (List.drop 0 v2_1)),(List.take (List.length v2_2) (List.drop 0 v2_2)),(List.take (List.length v2_3) (List.drop 0 v2_3)),()),(List.take (List.length v4) (List.drop 0 v4)),(v5_0,(List.take (List.length v5_1) (List.drop 0 v5_1)),(List.take (List.length v5_2) (List.drop 0 v5_2)),(List.take (List.length v5_3) (List.drop 0 v5_3)),()),()))
theorem loop40_7{L}(h:L 7=some ⟨116,sh40_7,xs40_7,impl_ParseAutomaton_l7⟩):LoopOk prog L (loopOf f40 7):=lo (L':=L0) (by kernel_rfl) E40_ok allNil h
def L40_1:Nat→Option LoopD:=fun n=>ifEq n 7 (some ⟨116,sh40_7,xs40_7,impl_ParseAutomaton_l7⟩) (L0 n)
def sh40_13:List Fm:=.cell (.val .str)::d::.box 100200 [.val i6,.own i6 100202 false,.own i6 100203 false,.own kS 100204 false]::d::.cell (.own .str 100400 false)::.box 100500 [.val i6,.own i6 100502 false,.own i6 100503 false,.own kS 100504 false]::D 48 (.cell (.own .str 105400 false)::.cell (.val i6)::.cell (.val i6)::D 59 [])
def xs40_13:List (Ex×List Fm):=[(.exit 2,[.cell (.val .str),d,.box 100200 [.val i6,.own i6 100202 false,.own i6 100203 false,.own kS 100204 false],d,.cell (.own .str 100400 false),.box 100500 [.val i6,.own i6 100502 false,.own i6 100503 false,.own kS 100504 false],d,d,d,d,d,d,d,d,d,d,d,d,d,d,d,d,d,d,d,d,d,d,d,d,d,d,d,d,d,d,d,d,d,d,d,d,d,d,d,d,d,d,d,d,d,d,d,d,d,d,d,d,d,d,d,d,d,d,d,d,d,d,d,d,d,d,d,d,d,d,d,d,d,d,d,d,d,d,d,d,d,d,d,d,d,d,d,d,d,d,d,d,d,d,d,d,d,d,d,d,d,d,d,d,d,d,d,d,d,d])]
def impl_ParseAutomaton_l13:(ByteArray×(Int×LI×LI×LS×Unit)×(List ByteArray)×(Int×LI×LI×LS×Unit)×(List ByteArray)×Int×Int×Unit)→Option ((ByteArray×(Int×LI×LI×LS×Unit)×(List ByteArray)×(Int×LI×LI×LS×Unit)×(List ByteArray)×Int×Int×Unit)⊕((ByteArray×(Int×LI×LI×LS×Unit)×(List ByteArray)×(Int×LI×LI×LS×Unit)×Unit))):=fun(v0,(v2_0,v2_1,v2_2,v2_3,_),v4,(v5_0,v5_1,v5_2,v5_3,_),v54,v55,v56,_)=>
 bif (decide (v56<v55)) then
  if(((0:Int)≤v56)∧(v56<(((List.length v54):Nat):Int))) then
   Option.bind (strconv_Atoi (List.getD v54 (0+(Int.toNat v56)) ⟨Array.empty⟩)) fun(r0,r1)=>
    if(((0+(List.length v5_2))=(List.length v5_2))∧((((List.length v5_2)+(List.length (List.take 1 (List.drop 0 [r0]))))*8)≤140737488355328)) then
     some (Sum.inl (v0,(v2_0,(List.take (List.length v2_1) (List.drop 0 v2_1)),(List.take (List.length v2_2) (List.drop 0 v2_2)),(List.take (List.length v2_3) (List.drop 0 v2_3)),()),(List.take (List.length v4) (List.drop 0 v4)),(v5_0,(List.take (List.length v5_1) (List.drop 0 v5_1)),(List.take ((List.length v5_2)+(List.length (List.take 1 (List.drop 0 [r0])))) (List.drop 0 ((List.drop 0 v5_2)++(List.take 1 (List.drop 0 [r0]))))),(List.take (List.length v5_3) (List.drop 0 v5_3)),()),(List.take (List.length v54) (List.drop 0 v54)),v55,(IntKind.wrap .i64 (v56+1)),()))
    else
     none
  else
   none
 else
  some (Sum.inr (v0,(v2_0,(List.take (List.length v2_1) (List.drop 0 v2_1)),(List.take (List.length v2_2) (List.drop 0 v2_2)),(List.take (List.length v2_3) (List.drop 0 v2_3)),()),(List.take (List.length v4) (List.drop 0 v4)),(v5_0,(List.take (List.length v5_1) (List.drop 0 v5_1)),(List.take (List.length v5_2) (List.drop 0 v5_2)),(List.take (List.length v5_3) (List.drop 0 v5_3)),()),()))
theorem loop40_13{L}(h:L 13=some ⟨116,sh40_13,xs40_13,impl_ParseAutomaton_l13⟩):LoopOk prog L (loopOf f40 13):=lo (L':=L40_1) (by kernel_rfl) E40_ok allNil h
def L40_2:Nat→Option LoopD:=fun n=>ifEq n 13 (some ⟨116,sh40_13,xs40_13,impl_ParseAutomaton_l13⟩) (L40_1 n)
def sh40_19:List Fm:=.cell (.val .str)::d::.box 100200 [.val i6,.own i6 100202 false,.own i6 100203 false,.own kS 100204 false]::d::d::.box 100500 [.val i6,.own i6 100502 false,.own i6 100503 false,.own kS 100504 false]::D 69 (.cell (.own .str 107500 false)::.cell (.val i6)::.cell (.val i6)::D 38 [])
def xs40_19:List (Ex×List Fm):=[(.ret,[d,d,.box 100200 [.val i6,.own i6 100202 false,.own i6 100203 false,.own kS 100204 false],.cell (.val .bool),d,d,d,d,d,d,d,d,d,d,d,d,d,d,d,d,d,d,d,d,d,d,d,d,d,d,d,d,d,d,d,d,d,d,d,d,d,d,d,d,d,d,d,d,d,d,d,d,d,d,d,d,d,d,d,d,d,d,d,d,d,d,d,d,d,d,d,d,d,d,d,d,d,d,d,d,d,d,d,d,d,d,d,d,d,d,d,d,d,d,d,d,d,d,d,d,d,d,d,d,d,d,d,d,d,d,d,d,d,d,d,d]),(.exit 4,[.cell (.val .str),d,.box 100200 [.val i6,.own i6 100202 false,.own i6 100203 false,.own kS 100204 false],d,d,.box 100500 [.val i6,.own i6 100502 false,.own i6 100503 false,.own kS 100504 false],d,d,d,d,d,d,d,d,d,d,d,d,d,d,d,d,d,d,d,d,d,d,d,d,d,d,d,d,d,d,d,d,d,d,d,d,d,d,d,d,d,d,d,d,d,d,d,d,d,d,d,d,d,d,d,d,d,d,d,d,d,d,d,d,d,d,d,d,d,d,d,d,d,d,d,d,d,d,d,d,d,d,d,d,d,d,d,d,d,d,d,d,d,d,d,d,d,d,d,d,d,d,d,d,d,d,d,d,d,d])]
def impl_ParseAutomaton_l19:(ByteArray×(Int×LI×LI×LS×Unit)×(Int×LI×LI×LS×Unit)×(List ByteArray)×Int×Int×Unit)→Option ((ByteArray×(Int×LI×LI×LS×Unit)×(Int×LI×LI×LS×Unit)×(List ByteArray)×Int×Int×Unit)⊕(((Int×LI×LI×LS×Unit)×Bool×Unit)⊕(ByteArray×(Int×LI×LI×LS×Unit)×(Int×LI×LI×LS×Unit)×Unit))):=fun(v0,(v2_0,v2_1,v2_2,v2_3,_),(v5_0,v5_1,v5_2,v5_3,_),v75,v76,v77,_)=>
 bif (decide (v77<v76)) then
  if(((0:Int)≤v77)∧(v77<(((List.length v75):Nat):Int))) then
   bif ((((ByteArray.size (List.getD v75 (0+(Int.toNat v77)) ⟨Array.empty⟩)):Nat):Int) != 5) then
    some (Sum.inr (Sum.inl (((0:Int),[],[],[],()),false,())))
   else
    if(((0:Int)≤0)∧((0:Int)<(((ByteArray.size (List.getD v75 (0+(Int.toNat v77)) ⟨Array.empty⟩)):Nat):Int))) then
     if(((0:Int)≤1)∧(((1:Int)≤2)∧((2:Int)≤(((ByteArray.size (List.getD v75 (0+(Int.toNat v77)) ⟨Array.empty⟩)):Nat):Int)))) then
      if(((0:Int)≤2)∧((2:Int)<(((ByteArray.size (List.getD v75 (0+(Int.toNat v77)) ⟨Array.empty⟩)):Nat):Int))) then
       if(((0:Int)≤4)∧((4:Int)<(((ByteArray.size (List.getD v75 (0+(Int.toNat v77)) ⟨Array.empty⟩)):Nat):Int))) then
        if(((0+(List.length v5_3))=(List.length v5_3))∧((((List.length v5_3)+(List.length (List.take 1 (List.drop 0 [((IntKind.wrap .i64 ((IntKind.wrap .i64 (((UInt8.toNat (Array.getD (ByteArray.data (List.getD v75 (0+(Int.toNat v77)) (⟨Array.empty⟩:ByteArray))) (Int.toNat (0:Int)) (0:UInt8))):Nat):Int))-(48:Int))),(ByteArray.extract (List.getD v75 (0+(Int.toNat v77)) (⟨Array.empty⟩:ByteArray)) (Int.toNat (1:Int)) (Int.toNat (2:Int))),(IntKind.wrap .i64 ((IntKind.wrap .i64 (((UInt8.toNat (Array.getD (ByteArray.data (List.getD v75 (0+(Int.toNat v77)) (⟨Array.empty⟩:ByteArray))) (Int.toNat (2:Int)) (0:UInt8))):Nat):Int))-(48:Int))),(IntKind.wrap .i64 ((IntKind.wrap .i64 (((UInt8.toNat (Array.getD (ByteArray.data (List.getD v75 (0+(Int.toNat v77)) (⟨Array.empty⟩:ByteArray))) (Int.toNat (4:Int)) (0:UInt8))):Nat):Int))-(48:Int))))]))))*40)≤140737488355328)) then
         some (Sum.inl (v0,(v2_0,(List.take (List.length v2_1) (List.drop 0 v2_1)),(List.take (List.length v2_2) (List.drop 0 v2_2)),(List.take (List.length v2_3) (List.drop 0 v2_3)),()),(v5_0,(List.take (List.length v5_1) (List.drop 0 v5_1)),(List.take (List.length v5_2) (List.drop 0 v5_2)),(List.take ((List.length v5_3)+(List.length (List.take 1 (List.drop 0 [((IntKind.wrap .i64 ((IntKind.wrap .i64 (((UInt8.toNat (Array.getD (ByteArray.data (List.getD v75 (0+(Int.toNat v77)) (⟨Array.empty⟩:ByteArray))) (Int.toNat (0:Int)) (0:UInt8))):Nat):Int))-(48:Int))),(ByteArray.extract (List.getD v75 (0+(Int.toNat v77)) (⟨Array.empty⟩:ByteArray)) (Int.toNat (1:Int)) (Int.toNat (2:Int))),(IntKind.wrap .i64 ((IntKind.wrap .i64 (((UInt8.toNat (Array.getD (ByteArray.data (List.getD v75 (0+(Int.toNat v77)) (⟨Array.empty⟩:ByteArray))) (Int.toNat (2:Int)) (0:UInt8))):Nat):Int))-(48:Int))),(IntKind.wrap .i64 ((IntKind.wrap .i64 (((UInt8.toNat (Array.getD (ByteArray.data (List.getD v75 (0+(Int.toNat v77)) (⟨Array.empty⟩:ByteArray))) (Int.toNat (4:Int)) (0:UInt8))):Nat):Int))-(48:Int))))])))) (List.drop 0 ((List.drop 0 v5_3)++(List.take 1 (List.drop 0 [((IntKind.wrap .i64 ((IntKind.wrap .i64 (((UInt8.toNat (Array.getD (ByteArray.data (List.getD v75 (0+(Int.toNat v77)) (⟨Array.empty⟩:ByteArray))) (Int.toNat (0:Int)) (0:UInt8))):Nat):Int))-(48:Int))),(ByteArray.extract (List.getD v75 (0+(Int.toNat v77)) (⟨Array.empty⟩:ByteArray)) (Int.toNat (1:Int)) (Int.toNat (2:Int))),(IntKind.wrap .i64 ((IntKind.wrap .i64 (((UInt8.toNat (Array.getD (ByteArray.data (List.getD v75 (0+(Int.toNat v77)) (⟨Array.empty⟩:ByteArray))) (Int.toNat (2:Int)) (0:UInt8))):Nat):Int))-(48:Int))),(IntKind.wrap .i64 ((IntKind.wrap .i64 (((UInt8.toNat (Array.getD (ByteArray.data (List.getD v75 (0+(Int.toNat v77)) (⟨Array.empty⟩:ByteArray))) (Int.toNat (4:Int)) (0:UInt8))):Nat):Int))-(48:Int))))]))))),()),(List.take (List.length v75) (List.drop 0 v75)),v76,(IntKind.wrap .i64 (v77+1)),()))
        else
         none
       else
        none
      else
       none
     else
      none
    else
     none
  else
   none
 else
  some (Sum.inr (Sum.inr (v0,(v2_0,(List.take (List.length v2_1) (List.drop 0 v2_1)),(List.take (List.length v2_2) (List.drop 0 v2_2)),(List.take (List.length v2_3) (List.drop 0 v2_3)),()),(v5_0,(List.take (List.length v5_1) (List.drop 0 v5_1)),(List.take (List.length v5_2) (List.drop 0 v5_2)),(List.take (List.length v5_3) (List.drop 0 v5_3)),()),())))
theorem loop40_19{L}(h:L 19=some ⟨116,sh40_19,xs40_19,impl_ParseAutomaton_l19⟩):LoopOk prog L (loopOf f40 19):=lo (L':=L40_2) (by kernel_rfl) E40_ok allNil h
def L40_3:Nat→Option LoopD:=fun n=>ifEq n 19 (some ⟨116,sh40_19,xs40_19,impl_ParseAutomaton_l19⟩) (L40_2 n)
def impl_ParseAutomaton:ByteArray→Option (TA×Bool):=fun a0=>
 Option.bind (strings_Split a0 (⟨#[(59:UInt8)]⟩:ByteArray)) fun r0=>
  bif ((((List.length r0):Nat):Int) != 4) then
   some (((0:Int),[],[],[]),false)
  else
   if(((0:Int)≤0)∧((0:Int)<(((List.length r0):Nat):Int))) then
    Option.bind (strconv_Atoi (List.getD r0 (0+(Int.toNat 0)) ⟨Array.empty⟩)) fun(r1,r2)=>
     if(((0:Int)≤1)∧((1:Int)<(((List.length r0):Nat):Int))) then
      Option.bind (strings_Fields (List.getD r0 (0+(Int.toNat 1)) ⟨Array.empty⟩)) fun r3=>
       Option.bind (loopF impl_ParseAutomaton_l7 (a0,((0:Int),[],[],[],()),(List.take (List.length r0) (List.drop 0 r0)),(r1,[],[],[],()),(List.take (List.length r3) (List.drop 0 r3)),(((List.length r3):Nat):Int),0,())) fun(r4,(r5,r6,r7,r8,_),r9,(r10,r11,r12,r13,_),_)=>
        if(((0:Int)≤2)∧((2:Int)<(((List.length r9):Nat):Int))) then
         Option.bind (strings_Fields (List.getD r9 (0+(Int.toNat 2)) ⟨Array.empty⟩)) fun r14=>
          Option.bind (loopF impl_ParseAutomaton_l13 (r4,(r5,(List.take (List.length r6) (List.drop 0 r6)),(List.take (List.length r7) (List.drop 0 r7)),(List.take (List.length r8) (List.drop 0 r8)),()),(List.take (List.length r9) (List.drop 0 r9)),(r10,(List.take (List.length r11) (List.drop 0 r11)),(List.take (List.length r12) (List.drop 0 r12)),(List.take (List.length r13) (List.drop 0 r13)),()),(List.take (List.length r14) (List.drop 0 r14)),(((List.length r14):Nat):Int),0,())) fun(r15,(r16,r17,r18,r19,_),r20,(r21,r22,r23,r24,_),_)=>
           if(((0:Int)≤3)∧((3:Int)<(((List.length r20):Nat):Int))) then
            Option.bind (strings_Fields (List.getD r20 (0+(Int.toNat 3)) ⟨Array.empty⟩)) fun r25=>
             Option.bind (loopF impl_ParseAutomaton_l19 (r15,(r16,(List.take (List.length r17) (List.drop 0 r17)),(List.take (List.length r18) (List.drop 0 r18)),(List.take (List.length r19) (List.drop 0 r19)),()),(r21,(List.take (List.length r22) (List.drop 0 r22)),(List.take (List.length r23) (List.drop 0 r23)),(List.take (List.length r24) (List.drop 0 r24)),()),(List.take (List.length r25) (List.drop 0 r25)),(((List.length r25):Nat):Int),0,())) fun r26=>
              (match r26 with
              |.inl ((d27,d28,d29,d30,_),d31,_)=>
                some ((d27,(List.take (List.length d28) (List.drop 0 d28)),(List.take (List.length d29) (List.drop 0 d29)),(List.take (List.length d30) (List.drop 0 d30))),d31)
              |.inr (d32,(d33,d34,d35,d36,_),(d37,d38,d39,d40,_),_)=>
                bif ((ByteArray.toList d32)==(ByteArray.toList (⟨#[]⟩:ByteArray))) then
                 some (((0:Int),[],[],[]),false)
                else
                 Option.bind (impl_FormatAutomaton (d37,(List.take (List.length d38) (List.drop 0 d38)),(List.take (List.length d39) (List.drop 0 d39)),(List.take (List.length d40) (List.drop 0 d40)))) fun r41=>
                  bif (!((ByteArray.toList r41)==(ByteArray.toList d32))) then
                   some (((0:Int),[],[],[]),false)
                  else
                   some ((d37,(List.take (List.length d38) (List.drop 0 d38)),(List.take (List.length d39) (List.drop 0 d39)),(List.take (List.length d40) (List.drop 0 d40))),true))
           else
            none
        else
         none
     else
      none
   else
    none
def A40:FnA:=⟨[.v .str],true,[.pair i6 (.pair sI (.pair sI sS)),.bool],fun x=>impl_ParseAutomaton x.1⟩
theorem A40_ok:FnOk prog 40 A40:=fo (L:=L40_3) (by kernel_rfl) func40 E40_ok (allCons (loop40_7 rfl) (allCons (loop40_13 rfl) (allCons (loop40_19 rfl) allNil)))
def E96:Env:=ev fun g=>ifEq g 14 (some A14) (none)
theorem E96_ok:FnsOk prog E96:=(oF A14_ok func14 (noFns _ _))
def impl_told:ByteArray→Bool→Option (ByteArray):=fun a0 a1=>
 bif (!a1) then
  some (⟨#[(110:UInt8),(111:UInt8)]⟩:ByteArray)
 else
  Option.bind (impl_ShowWord a0) fun r0=>
   some r0
def A96:FnA:=⟨[.v .str,.v .bool],true,[.str],fun x=>impl_told x.1 x.2.1⟩
theorem A96_ok:FnOk prog 96 A96:=fo (L:=L0) (by kernel_rfl) func96 E96_ok allNil
def E79:Env:=ev fun g=>ifEq g 10 (some A10) (ifEq g 96 (some A96) (none))
theorem E79_ok:FnsOk prog E79:=(oF A10_ok func10 (oF A96_ok func96 (noFns _ _)))
def impl_desk_become:(TA×TA)→TA→Bool→Option ((ByteArray)×((TA×TA)×Unit)):=fun((a0_0,a0_1,a0_2,a0_3),a0_4,a0_5,a0_6,a0_7) (a1_0,a1_1,a1_2,a1_3) a2=>
 bif a2 then
  Option.bind (impl_FormatAutomaton (a1_0,a1_1,a1_2,a1_3)) fun r0=>
   Option.bind (impl_told r0 a2) fun r1=>
    some (r1,((a1_0,a1_1,a1_2,a1_3),a0_4,a0_5,a0_6,a0_7),())
 else
  Option.bind (impl_FormatAutomaton (a0_0,a0_1,a0_2,a0_3)) fun r2=>
   Option.bind (impl_told r2 a2) fun r3=>
    some (r3,((a0_0,a0_1,a0_2,a0_3),a0_4,a0_5,a0_6,a0_7),())
def A79:FnM:=⟨[.bx (.pair kA kA),.v kA,.v .bool],true,[.str],none,fun x=>impl_desk_become x.1 x.2.1 x.2.2.1⟩
theorem A79_ok:FnMOk prog 79 A79:=fm (L:=L0) (by kernel_rfl) func79 E79_ok allNil
def E251:Env:=ev fun g=>ifEq g 211 (some A211) (none)
theorem E251_ok:FnsOk prog E251:=(oF A211_ok func211 (noFns _ _))
def internal_stringslite_TrimPrefix:ByteArray→ByteArray→Option (ByteArray):=fun a0 a1=>
 Option.bind (internal_stringslite_HasPrefix a0 a1) fun r0=>
  bif r0 then
   if(((0:Int)≤(((ByteArray.size a1):Nat):Int))∧((((ByteArray.size a1):Nat):Int)≤(((ByteArray.size a0):Nat):Int))) then
    some (ByteArray.extract a0 (Int.toNat (((ByteArray.size a1):Nat):Int)) (ByteArray.size a0))
   else
    none
  else
   some a0
def A251:FnA:=⟨[.v .str,.v .str],true,[.str],fun x=>internal_stringslite_TrimPrefix x.1 x.2.1⟩
theorem A251_ok:FnOk prog 251 A251:=fo (L:=L0) (by kernel_rfl) func251 E251_ok allNil
def E195:Env:=ev fun g=>ifEq g 251 (some A251) (none)
theorem E195_ok:FnsOk prog E195:=(oF A251_ok func251 (noFns _ _))
def strings_TrimPrefix:ByteArray→ByteArray→Option (ByteArray):=fun a0 a1=>
 Option.bind (internal_stringslite_TrimPrefix a0 a1) fun r0=>
  some r0
def A195:FnA:=⟨[.v .str,.v .str],true,[.str],fun x=>strings_TrimPrefix x.1 x.2.1⟩
theorem A195_ok:FnOk prog 195 A195:=fo (L:=L0) (by kernel_rfl) func195 E195_ok allNil
end
end Go.Proofs.YthkflageghfbgaaGreatDoor
