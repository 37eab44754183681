/- What Go functions that the laws reach compute, and that they do: written by a program of this session. -/
import Derived.Test.YthkflageghfbgaaGreatDoorG1
import Derived.KernelRfl
set_option linter.unusedVariables false
namespace Go.Proofs.YthkflageghfbgaaGreatDoor
open Go Go.Proofs.YthkflageghfbgaaGreatDoor.Am Go.Proofs.Tryz
set_option maxRecDepth 100000
noncomputable section
def E110:Env:=ev fun g=>ifEq g 75 (some A75) (ifEq g 195 (some A195) (ifEq g 31 (some A31) (none)))
theorem E110_ok:FnsOk prog E110:=(oF A75_ok func75 (oF A195_ok func195 (oF A31_ok func31 (noFns _ _))))
def impl_decimal:ByteArray→Option (Int×Bool):=fun a0=>
 Option.bind (strconv_Atoi a0) fun(r0,r1)=>
  bif r1 then
   Option.bind (strings_TrimPrefix a0 (⟨#[(45:UInt8)]⟩:ByteArray)) fun r2=>
    bif (decide ((((ByteArray.size r2):Nat):Int)≤17)) then
     Option.bind (strconv_Itoa r0) fun r3=>
      some (r0,((ByteArray.toList r3)==(ByteArray.toList a0)))
    else
     some (r0,false)
  else
   some (r0,false)
def A110:FnA:=⟨[.v .str],true,[.int .i64,.bool],fun x=>impl_decimal x.1⟩
theorem A110_ok:FnOk prog 110 A110:=fo (L:=L0) (by kernel_rfl) func110 E110_ok allNil
def E105:Env:=ev fun g=>ifEq g 15 (some A15) (ifEq g 96 (some A96) (none))
theorem E105_ok:FnsOk prog E105:=(oF A15_ok func15 (oF A96_ok func96 (noFns _ _)))
def impl_costs:LI→Bool→Option (ByteArray):=fun a0 a1=>
 Option.bind (impl_FormatCosts a0) fun r0=>
  Option.bind (impl_told r0 a1) fun r1=>
   some r1
def A105:FnA:=⟨[.v sI,.v .bool],true,[.str],fun x=>impl_costs x.1 x.2.1⟩
theorem A105_ok:FnOk prog 105 A105:=fo (L:=L0) (by kernel_rfl) func105 E105_ok allNil
def E44:Env:=⟨ty0,fun g=>ifEq g 40 (some A40) (ifEq g 8 (some A8) (ifEq g 13 (some A13) (ifEq g 96 (some A96) (ifEq g 42 (some A42) (ifEq g 110 (some A110) (ifEq g 9 (some A9) (ifEq g 5 (some A5) (ifEq g 105 (some A105) (none))))))))),fun g=>ifEq g 79 (some A79) (none),fun _=>none,fun _=>none,fun _=>0⟩
theorem E44_ok:FnsOk prog E44:=(oF A40_ok func40 (oF A8_ok func8 (oF A13_ok func13 (oF A96_ok func96 (oF A42_ok func42 (oF A110_ok func110 (oF A9_ok func9 (oF A5_ok func5 (oF A105_ok func105 (oneMs A79_ok (by kernel_rfl) func79 (by kernel_rfl) (by kernel_rfl) (noFns _ _)))))))))))
def impl_desk_text:(TA×TA)→ByteArray→ByteArray→Option ((ByteArray×Bool)×((TA×TA)×Unit)):=fun((a0_0,a0_1,a0_2,a0_3),a0_4,a0_5,a0_6,a0_7) a1 a2=>
 bif ((ByteArray.toList a1)==(ByteArray.toList (⟨#[(97:UInt8),(117:UInt8),(116:UInt8),(111:UInt8),(109:UInt8),(97:UInt8),(116:UInt8),(111:UInt8),(110:UInt8)]⟩:ByteArray))) then
  Option.bind (impl_ParseAutomaton a2) fun((r0,r1,r2,r3),r4)=>
   Option.bind (impl_desk_become ((a0_0,a0_1,a0_2,a0_3),a0_4,a0_5,a0_6,a0_7) (r0,(List.take (List.length r1) (List.drop 0 r1)),(List.take (List.length r2) (List.drop 0 r2)),(List.take (List.length r3) (List.drop 0 r3))) r4) fun(r5,((r6,r7,r8,r9),r10,r11,r12,r13),_)=>
    some ((r5,true),((r6,r7,r8,r9),r10,r11,r12,r13),())
 else
  bif ((ByteArray.toList a1)==(ByteArray.toList (⟨#[(99:UInt8),(111:UInt8),(115:UInt8),(116:UInt8)]⟩:ByteArray))) then
   none
  else
   bif ((ByteArray.toList a1)==(ByteArray.toList (⟨#[(114:UInt8),(117:UInt8),(110:UInt8)]⟩:ByteArray))) then
    none
   else
    bif ((ByteArray.toList a1)==(ByteArray.toList (⟨#[(109:UInt8),(97:UInt8),(116:UInt8),(114:UInt8),(105:UInt8),(120:UInt8)]⟩:ByteArray))) then
     none
    else
     bif ((ByteArray.toList a1)==(ByteArray.toList (⟨#[(112:UInt8),(114:UInt8),(101:UInt8),(102:UInt8),(105:UInt8),(120:UInt8),(101:UInt8),(115:UInt8)]⟩:ByteArray))) then
      none
     else
      bif ((ByteArray.toList a1)==(ByteArray.toList (⟨#[(102:UInt8),(97:UInt8),(99:UInt8),(116:UInt8),(111:UInt8),(114:UInt8),(115:UInt8)]⟩:ByteArray))) then
       none
      else
       bif ((ByteArray.toList a1)==(ByteArray.toList (⟨#[(115:UInt8),(112:UInt8),(108:UInt8),(105:UInt8),(116:UInt8)]⟩:ByteArray))) then
        none
       else
        bif ((ByteArray.toList a1)==(ByteArray.toList (⟨#[(118:UInt8),(97:UInt8),(108:UInt8),(117:UInt8),(101:UInt8)]⟩:ByteArray))) then
         Option.bind (impl_ValueOf (a0_0,a0_1,a0_2,a0_3) a2) fun((r14,r15),r16)=>
          Option.bind (impl_FormatGrades (r14,(List.take (List.length r15) (List.drop 0 r15)))) fun r17=>
           Option.bind (impl_told r17 r16) fun r18=>
            some ((r18,true),((a0_0,a0_1,a0_2,a0_3),a0_4,a0_5,a0_6,a0_7),())
        else
         bif ((ByteArray.toList a1)==(ByteArray.toList (⟨#[(103:UInt8),(114:UInt8),(97:UInt8),(100:UInt8),(101:UInt8)]⟩:ByteArray))) then
          none
         else
          bif ((ByteArray.toList a1)==(ByteArray.toList (⟨#[(101:UInt8),(120:UInt8),(112:UInt8),(97:UInt8),(110:UInt8),(100:UInt8)]⟩:ByteArray))) then
           bif ((ByteArray.toList a1)==(ByteArray.toList (⟨#[(101:UInt8),(120:UInt8),(112:UInt8),(97:UInt8),(110:UInt8),(100:UInt8)]⟩:ByteArray))) then
            Option.bind (strings_Cut a2 (⟨#[(32:UInt8)]⟩:ByteArray)) fun(r19,r20,r21)=>
             Option.bind (impl_decimal r19) fun(r22,r23)=>
              bif (!r21) then
               some (((⟨#[(110:UInt8),(111:UInt8)]⟩:ByteArray),true),((a0_0,a0_1,a0_2,a0_3),a0_4,a0_5,a0_6,a0_7),())
              else
               bif (!r23) then
                some (((⟨#[(110:UInt8),(111:UInt8)]⟩:ByteArray),true),((a0_0,a0_1,a0_2,a0_3),a0_4,a0_5,a0_6,a0_7),())
               else
                bif ((ByteArray.toList a1)==(ByteArray.toList (⟨#[(101:UInt8),(120:UInt8),(112:UInt8),(97:UInt8),(110:UInt8),(100:UInt8)]⟩:ByteArray))) then
                 Option.bind (impl_ExpandExpression r20 r22) fun(r24,r25)=>
                  Option.bind (impl_told r24 r25) fun r26=>
                   some ((r26,true),((a0_0,a0_1,a0_2,a0_3),a0_4,a0_5,a0_6,a0_7),())
                else
                 Option.bind (impl_GrowthOf (a0_0,a0_1,a0_2,a0_3) r20 r22) fun(r27,r28)=>
                  Option.bind (impl_costs (List.take (List.length r27) (List.drop 0 r27)) r28) fun r29=>
                   some ((r29,true),((a0_0,a0_1,a0_2,a0_3),a0_4,a0_5,a0_6,a0_7),())
           else
            some (((⟨#[]⟩:ByteArray),false),((a0_0,a0_1,a0_2,a0_3),a0_4,a0_5,a0_6,a0_7),())
          else
           bif ((ByteArray.toList a1)==(ByteArray.toList (⟨#[(103:UInt8),(114:UInt8),(111:UInt8),(119:UInt8),(116:UInt8),(104:UInt8)]⟩:ByteArray))) then
            Option.bind (strings_Cut a2 (⟨#[(32:UInt8)]⟩:ByteArray)) fun(r30,r31,r32)=>
             Option.bind (impl_decimal r30) fun(r33,r34)=>
              bif (!r32) then
               some (((⟨#[(110:UInt8),(111:UInt8)]⟩:ByteArray),true),((a0_0,a0_1,a0_2,a0_3),a0_4,a0_5,a0_6,a0_7),())
              else
               bif (!r34) then
                some (((⟨#[(110:UInt8),(111:UInt8)]⟩:ByteArray),true),((a0_0,a0_1,a0_2,a0_3),a0_4,a0_5,a0_6,a0_7),())
               else
                bif ((ByteArray.toList a1)==(ByteArray.toList (⟨#[(101:UInt8),(120:UInt8),(112:UInt8),(97:UInt8),(110:UInt8),(100:UInt8)]⟩:ByteArray))) then
                 Option.bind (impl_ExpandExpression r31 r33) fun(r35,r36)=>
                  Option.bind (impl_told r35 r36) fun r37=>
                   some ((r37,true),((a0_0,a0_1,a0_2,a0_3),a0_4,a0_5,a0_6,a0_7),())
                else
                 Option.bind (impl_GrowthOf (a0_0,a0_1,a0_2,a0_3) r31 r33) fun(r38,r39)=>
                  Option.bind (impl_costs (List.take (List.length r38) (List.drop 0 r38)) r39) fun r40=>
                   some ((r40,true),((a0_0,a0_1,a0_2,a0_3),a0_4,a0_5,a0_6,a0_7),())
           else
            some (((⟨#[]⟩:ByteArray),false),((a0_0,a0_1,a0_2,a0_3),a0_4,a0_5,a0_6,a0_7),())
def A44:FnM:=⟨[.bx (.pair kA kA),.v .str,.v .str],true,[.str,.bool],none,fun x=>impl_desk_text x.1 x.2.1 x.2.2.1⟩
theorem A44_ok:FnMOk prog 44 A44:=fm (L:=L0) (by kernel_rfl) func44 E44_ok allNil
def E16:Env:=⟨ty0,fun g=>ifEq g 40 (some A40) (ifEq g 41 (some A41) (ifEq g 42 (some A42) (none))),fun g=>ifEq g 44 (some A44) (none),fun _=>none,fun _=>none,fun _=>0⟩
theorem E16_ok:FnsOk prog E16:=(oF A40_ok func40 (oF A41_ok func41 (oF A42_ok func42 (oneMs A44_ok (by kernel_rfl) func44 (by kernel_rfl) (by kernel_rfl) (noFns _ _)))))
def sh16_7:List Fm:=D 5 (.box 100500 [.val i6,.val sI,.val sI,.val sS,.val i6,.val sI,.val sI,.val sS]::.cell (.val .str)::D 19 (.cell (.own .str 102600 false)::.cell (.val i6)::.cell (.val i6)::D 53 []))
def xs16_7:List (Ex×List Fm):=[(.ret,(d::d::.cell (.val .str)::D 79 [])),(.exit 0,(D 6 (.cell (.val .str)::D 75 [])))]
def impl_RunScript_l7:((Int×LI×LI×LS×Int×LI×LI×LS×Unit)×ByteArray×(List ByteArray)×Int×Int×Unit)→Option (((Int×LI×LI×LS×Int×LI×LI×LS×Unit)×ByteArray×(List ByteArray)×Int×Int×Unit)⊕((ByteArray×Unit)⊕(ByteArray×Unit))):=fun((v5_0,v5_1,v5_2,v5_3,v5_4,v5_5,v5_6,v5_7,_),v6,v26,v27,v28,_)=>
 bif (decide (v28<v27)) then
  if(((0:Int)≤v28)∧(v28<(((List.length v26):Nat):Int))) then
   bif ((ByteArray.toList (List.getD v26 (0+(Int.toNat v28)) ⟨Array.empty⟩))==(ByteArray.toList (⟨#[]⟩:ByteArray))) then
    some (Sum.inl ((v5_0,v5_1,v5_2,v5_3,v5_4,v5_5,v5_6,v5_7,()),v6,(List.take (List.length v26) (List.drop 0 v26)),v27,(IntKind.wrap .i64 (v28+1)),()))
   else
    bif (decide (v28≥100)) then
     if(((ByteArray.size v6)+(ByteArray.size (⟨#[(102:UInt8),(117:UInt8),(108:UInt8),(108:UInt8),(10:UInt8)]⟩:ByteArray)))≤9223372036854775807) then
      some (Sum.inr (Sum.inl ((v6++(⟨#[(102:UInt8),(117:UInt8),(108:UInt8),(108:UInt8),(10:UInt8)]⟩:ByteArray)),())))
     else
      none
    else
     bif (decide ((((ByteArray.size v6):Nat):Int)>40000)) then
      if(((ByteArray.size v6)+(ByteArray.size (⟨#[(102:UInt8),(117:UInt8),(108:UInt8),(108:UInt8),(10:UInt8)]⟩:ByteArray)))≤9223372036854775807) then
       some (Sum.inr (Sum.inl ((v6++(⟨#[(102:UInt8),(117:UInt8),(108:UInt8),(108:UInt8),(10:UInt8)]⟩:ByteArray)),())))
      else
       none
     else
      Option.bind (strings_Cut (List.getD v26 (0+(Int.toNat v28)) ⟨Array.empty⟩) (⟨#[(32:UInt8)]⟩:ByteArray)) fun(r0,r1,r2)=>
       bif (!r2) then
        none
       else
        Option.bind (impl_desk_text ((v5_0,v5_1,v5_2,v5_3),v5_4,v5_5,v5_6,v5_7) r0 r1) fun((r3,r4),((r5,r6,r7,r8),r9,r10,r11,r12),_)=>
         bif (!r4) then
          none
         else
          bif (!r4) then
           if(((ByteArray.size (⟨#[(119:UInt8),(104:UInt8),(97:UInt8),(116:UInt8)]⟩:ByteArray))+(ByteArray.size (⟨#[(10:UInt8)]⟩:ByteArray)))≤9223372036854775807) then
            if(((ByteArray.size v6)+(ByteArray.size ((⟨#[(119:UInt8),(104:UInt8),(97:UInt8),(116:UInt8)]⟩:ByteArray)++(⟨#[(10:UInt8)]⟩:ByteArray))))≤9223372036854775807) then
             some (Sum.inl ((r5,r6,r7,r8,r9,r10,r11,r12,()),(v6++((⟨#[(119:UInt8),(104:UInt8),(97:UInt8),(116:UInt8)]⟩:ByteArray)++(⟨#[(10:UInt8)]⟩:ByteArray))),(List.take (List.length v26) (List.drop 0 v26)),v27,(IntKind.wrap .i64 (v28+1)),()))
            else
             none
           else
            none
          else
           if(((ByteArray.size r3)+(ByteArray.size (⟨#[(10:UInt8)]⟩:ByteArray)))≤9223372036854775807) then
            if(((ByteArray.size v6)+(ByteArray.size (r3++(⟨#[(10:UInt8)]⟩:ByteArray))))≤9223372036854775807) then
             some (Sum.inl ((r5,r6,r7,r8,r9,r10,r11,r12,()),(v6++(r3++(⟨#[(10:UInt8)]⟩:ByteArray))),(List.take (List.length v26) (List.drop 0 v26)),v27,(IntKind.wrap .i64 (v28+1)),()))
            else
             none
           else
            none
  else
   none
 else
  some (Sum.inr (Sum.inr (v6,())))
theorem loop16_7{L}(h:L 7=some ⟨82,sh16_7,xs16_7,impl_RunScript_l7⟩):LoopOk prog L (loopOf f16 7):=lo (L':=L0) (by kernel_rfl) E16_ok allNil h
def L16_1:Nat→Option LoopD:=fun n=>ifEq n 7 (some ⟨82,sh16_7,xs16_7,impl_RunScript_l7⟩) (L0 n)
def impl_RunScript:ByteArray→Option (ByteArray):=fun a0=>
 bif (decide ((((ByteArray.size a0):Nat):Int)>20000)) then
  some (⟨#[(108:UInt8),(111:UInt8),(110:UInt8),(103:UInt8),(10:UInt8)]⟩:ByteArray)
 else
  Option.bind (impl_ParseAutomaton (⟨#[(49:UInt8),(59:UInt8),(48:UInt8),(59:UInt8),(48:UInt8),(59:UInt8)]⟩:ByteArray)) fun((r0,r1,r2,r3),r4)=>
   Option.bind (strings_Split a0 (⟨#[(10:UInt8)]⟩:ByteArray)) fun r5=>
    Option.bind (loopF impl_RunScript_l7 ((r0,(List.take (List.length r1) (List.drop 0 r1)),(List.take (List.length r2) (List.drop 0 r2)),(List.take (List.length r3) (List.drop 0 r3)),r0,(List.take (List.length r1) (List.drop 0 r1)),(List.take (List.length r2) (List.drop 0 r2)),(List.take (List.length r3) (List.drop 0 r3)),()),(⟨#[]⟩:ByteArray),(List.take (List.length r5) (List.drop 0 r5)),(((List.length r5):Nat):Int),0,())) fun r6=>
     (match r6 with
     |.inl (d7,_)=>
       some d7
     |.inr (d8,_)=>
       some d8)
def A16:FnA:=⟨[.v .str],true,[.str],fun x=>impl_RunScript x.1⟩
theorem A16_ok:FnOk prog 16 A16:=fo (L:=L16_1) (by kernel_rfl) func16 E16_ok (allCons (loop16_7 rfl) allNil)
def E3:Env:=ev fun g=>ifEq g 4 (some A4) (ifEq g 5 (some A5) (ifEq g 6 (some A6) (ifEq g 7 (some A7) (ifEq g 8 (some A8) (ifEq g 9 (some A9) (ifEq g 10 (some A10) (ifEq g 11 (some A11) (ifEq g 13 (some A13) (ifEq g 12 (some A12) (ifEq g 15 (some A15) (ifEq g 14 (some A14) (ifEq g 16 (some A16) (none)))))))))))))
theorem E3_ok:FnsOk prog E3:=(oF A4_ok func4 (oF A5_ok func5 (oF A6_ok func6 (oF A7_ok func7 (oF A8_ok func8 (oF A9_ok func9 (oF A10_ok func10 (oF A11_ok func11 (oF A13_ok func13 (oF A12_ok func12 (oF A15_ok func15 (oF A14_ok func14 (oF A16_ok func16 (noFns _ _))))))))))))))
def laws_FnScriptExpression:LI→Option (Bool):=fun a0=>
 bif (decide ((((List.length a0):Nat):Int)>1048576)) then
  some true
 else
  Option.bind (spec_DrawGrowthOf a0) fun((r0,r1,r2,r3),r4,r5)=>
   Option.bind (impl_GrowthOf (r0,r1,r2,r3) r4 r5) fun(r6,r7)=>
    Option.bind (spec_GrowthOf (r0,r1,r2,r3) r4 r5) fun(r8,r9)=>
     Option.bind (laws_daSame (List.take (List.length r6) (List.drop 0 r6)) (List.take (List.length r8) (List.drop 0 r8))) fun r10=>
      bif (!r10) then
       Option.bind (laws_daSame (List.take (List.length r6) (List.drop 0 r6)) (List.take (List.length r8) (List.drop 0 r8))) fun r11=>
        bif r11 then
         some (r7==r9)
        else
         some false
      else
       bif (!(r7==r9)) then
        Option.bind (laws_daSame (List.take (List.length r6) (List.drop 0 r6)) (List.take (List.length r8) (List.drop 0 r8))) fun r12=>
         bif r12 then
          some (r7==r9)
         else
          some false
       else
        bif (!r7) then
         Option.bind (laws_daSame (List.take (List.length r6) (List.drop 0 r6)) (List.take (List.length r8) (List.drop 0 r8))) fun r13=>
          bif r13 then
           some (r7==r9)
          else
           some false
        else
         Option.bind (impl_ValueOf (r0,r1,r2,r3) r4) fun((r14,r15),r16)=>
          Option.bind (impl_ExpandExpression r4 r5) fun(r17,r18)=>
           Option.bind (impl_FormatAutomaton (r0,r1,r2,r3)) fun r19=>
            if(((ByteArray.size (⟨#[(97:UInt8),(117:UInt8),(116:UInt8),(111:UInt8),(109:UInt8),(97:UInt8),(116:UInt8),(111:UInt8),(110:UInt8),(32:UInt8)]⟩:ByteArray))+(ByteArray.size r19))≤9223372036854775807) then
             if(((ByteArray.size ((⟨#[(97:UInt8),(117:UInt8),(116:UInt8),(111:UInt8),(109:UInt8),(97:UInt8),(116:UInt8),(111:UInt8),(110:UInt8),(32:UInt8)]⟩:ByteArray)++r19))+(ByteArray.size (⟨#[(10:UInt8),(118:UInt8),(97:UInt8),(108:UInt8),(117:UInt8),(101:UInt8),(32:UInt8)]⟩:ByteArray)))≤9223372036854775807) then
              if(((ByteArray.size (((⟨#[(97:UInt8),(117:UInt8),(116:UInt8),(111:UInt8),(109:UInt8),(97:UInt8),(116:UInt8),(111:UInt8),(110:UInt8),(32:UInt8)]⟩:ByteArray)++r19)++(⟨#[(10:UInt8),(118:UInt8),(97:UInt8),(108:UInt8),(117:UInt8),(101:UInt8),(32:UInt8)]⟩:ByteArray)))+(ByteArray.size r4))≤9223372036854775807) then
               if(((ByteArray.size ((((⟨#[(97:UInt8),(117:UInt8),(116:UInt8),(111:UInt8),(109:UInt8),(97:UInt8),(116:UInt8),(111:UInt8),(110:UInt8),(32:UInt8)]⟩:ByteArray)++r19)++(⟨#[(10:UInt8),(118:UInt8),(97:UInt8),(108:UInt8),(117:UInt8),(101:UInt8),(32:UInt8)]⟩:ByteArray))++r4))+(ByteArray.size (⟨#[(10:UInt8),(101:UInt8),(120:UInt8),(112:UInt8),(97:UInt8),(110:UInt8),(100:UInt8),(32:UInt8)]⟩:ByteArray)))≤9223372036854775807) then
                Option.bind (laws_daDigit r5) fun r20=>
                 if(((ByteArray.size (((((⟨#[(97:UInt8),(117:UInt8),(116:UInt8),(111:UInt8),(109:UInt8),(97:UInt8),(116:UInt8),(111:UInt8),(110:UInt8),(32:UInt8)]⟩:ByteArray)++r19)++(⟨#[(10:UInt8),(118:UInt8),(97:UInt8),(108:UInt8),(117:UInt8),(101:UInt8),(32:UInt8)]⟩:ByteArray))++r4)++(⟨#[(10:UInt8),(101:UInt8),(120:UInt8),(112:UInt8),(97:UInt8),(110:UInt8),(100:UInt8),(32:UInt8)]⟩:ByteArray)))+(ByteArray.size r20))≤9223372036854775807) then
                  if(((ByteArray.size ((((((⟨#[(97:UInt8),(117:UInt8),(116:UInt8),(111:UInt8),(109:UInt8),(97:UInt8),(116:UInt8),(111:UInt8),(110:UInt8),(32:UInt8)]⟩:ByteArray)++r19)++(⟨#[(10:UInt8),(118:UInt8),(97:UInt8),(108:UInt8),(117:UInt8),(101:UInt8),(32:UInt8)]⟩:ByteArray))++r4)++(⟨#[(10:UInt8),(101:UInt8),(120:UInt8),(112:UInt8),(97:UInt8),(110:UInt8),(100:UInt8),(32:UInt8)]⟩:ByteArray))++r20))+(ByteArray.size (⟨#[(32:UInt8)]⟩:ByteArray)))≤9223372036854775807) then
                   if(((ByteArray.size (((((((⟨#[(97:UInt8),(117:UInt8),(116:UInt8),(111:UInt8),(109:UInt8),(97:UInt8),(116:UInt8),(111:UInt8),(110:UInt8),(32:UInt8)]⟩:ByteArray)++r19)++(⟨#[(10:UInt8),(118:UInt8),(97:UInt8),(108:UInt8),(117:UInt8),(101:UInt8),(32:UInt8)]⟩:ByteArray))++r4)++(⟨#[(10:UInt8),(101:UInt8),(120:UInt8),(112:UInt8),(97:UInt8),(110:UInt8),(100:UInt8),(32:UInt8)]⟩:ByteArray))++r20)++(⟨#[(32:UInt8)]⟩:ByteArray)))+(ByteArray.size r4))≤9223372036854775807) then
                    if(((ByteArray.size ((((((((⟨#[(97:UInt8),(117:UInt8),(116:UInt8),(111:UInt8),(109:UInt8),(97:UInt8),(116:UInt8),(111:UInt8),(110:UInt8),(32:UInt8)]⟩:ByteArray)++r19)++(⟨#[(10:UInt8),(118:UInt8),(97:UInt8),(108:UInt8),(117:UInt8),(101:UInt8),(32:UInt8)]⟩:ByteArray))++r4)++(⟨#[(10:UInt8),(101:UInt8),(120:UInt8),(112:UInt8),(97:UInt8),(110:UInt8),(100:UInt8),(32:UInt8)]⟩:ByteArray))++r20)++(⟨#[(32:UInt8)]⟩:ByteArray))++r4))+(ByteArray.size (⟨#[(10:UInt8),(103:UInt8),(114:UInt8),(111:UInt8),(119:UInt8),(116:UInt8),(104:UInt8),(32:UInt8)]⟩:ByteArray)))≤9223372036854775807) then
                     Option.bind (laws_daDigit r5) fun r21=>
                      if(((ByteArray.size (((((((((⟨#[(97:UInt8),(117:UInt8),(116:UInt8),(111:UInt8),(109:UInt8),(97:UInt8),(116:UInt8),(111:UInt8),(110:UInt8),(32:UInt8)]⟩:ByteArray)++r19)++(⟨#[(10:UInt8),(118:UInt8),(97:UInt8),(108:UInt8),(117:UInt8),(101:UInt8),(32:UInt8)]⟩:ByteArray))++r4)++(⟨#[(10:UInt8),(101:UInt8),(120:UInt8),(112:UInt8),(97:UInt8),(110:UInt8),(100:UInt8),(32:UInt8)]⟩:ByteArray))++r20)++(⟨#[(32:UInt8)]⟩:ByteArray))++r4)++(⟨#[(10:UInt8),(103:UInt8),(114:UInt8),(111:UInt8),(119:UInt8),(116:UInt8),(104:UInt8),(32:UInt8)]⟩:ByteArray)))+(ByteArray.size r21))≤9223372036854775807) then
                       if(((ByteArray.size ((((((((((⟨#[(97:UInt8),(117:UInt8),(116:UInt8),(111:UInt8),(109:UInt8),(97:UInt8),(116:UInt8),(111:UInt8),(110:UInt8),(32:UInt8)]⟩:ByteArray)++r19)++(⟨#[(10:UInt8),(118:UInt8),(97:UInt8),(108:UInt8),(117:UInt8),(101:UInt8),(32:UInt8)]⟩:ByteArray))++r4)++(⟨#[(10:UInt8),(101:UInt8),(120:UInt8),(112:UInt8),(97:UInt8),(110:UInt8),(100:UInt8),(32:UInt8)]⟩:ByteArray))++r20)++(⟨#[(32:UInt8)]⟩:ByteArray))++r4)++(⟨#[(10:UInt8),(103:UInt8),(114:UInt8),(111:UInt8),(119:UInt8),(116:UInt8),(104:UInt8),(32:UInt8)]⟩:ByteArray))++r21))+(ByteArray.size (⟨#[(32:UInt8)]⟩:ByteArray)))≤9223372036854775807) then
                        if(((ByteArray.size (((((((((((⟨#[(97:UInt8),(117:UInt8),(116:UInt8),(111:UInt8),(109:UInt8),(97:UInt8),(116:UInt8),(111:UInt8),(110:UInt8),(32:UInt8)]⟩:ByteArray)++r19)++(⟨#[(10:UInt8),(118:UInt8),(97:UInt8),(108:UInt8),(117:UInt8),(101:UInt8),(32:UInt8)]⟩:ByteArray))++r4)++(⟨#[(10:UInt8),(101:UInt8),(120:UInt8),(112:UInt8),(97:UInt8),(110:UInt8),(100:UInt8),(32:UInt8)]⟩:ByteArray))++r20)++(⟨#[(32:UInt8)]⟩:ByteArray))++r4)++(⟨#[(10:UInt8),(103:UInt8),(114:UInt8),(111:UInt8),(119:UInt8),(116:UInt8),(104:UInt8),(32:UInt8)]⟩:ByteArray))++r21)++(⟨#[(32:UInt8)]⟩:ByteArray)))+(ByteArray.size r4))≤9223372036854775807) then
                         if(((ByteArray.size ((((((((((((⟨#[(97:UInt8),(117:UInt8),(116:UInt8),(111:UInt8),(109:UInt8),(97:UInt8),(116:UInt8),(111:UInt8),(110:UInt8),(32:UInt8)]⟩:ByteArray)++r19)++(⟨#[(10:UInt8),(118:UInt8),(97:UInt8),(108:UInt8),(117:UInt8),(101:UInt8),(32:UInt8)]⟩:ByteArray))++r4)++(⟨#[(10:UInt8),(101:UInt8),(120:UInt8),(112:UInt8),(97:UInt8),(110:UInt8),(100:UInt8),(32:UInt8)]⟩:ByteArray))++r20)++(⟨#[(32:UInt8)]⟩:ByteArray))++r4)++(⟨#[(10:UInt8),(103:UInt8),(114:UInt8),(111:UInt8),(119:UInt8),(116:UInt8),(104:UInt8),(32:UInt8)]⟩:ByteArray))++r21)++(⟨#[(32:UInt8)]⟩:ByteArray))++r4))+(ByteArray.size (⟨#[(10:UInt8)]⟩:ByteArray)))≤9223372036854775807) then
                          Option.bind (impl_FormatAutomaton (r0,r1,r2,r3)) fun r22=>
                           if(((ByteArray.size r22)+(ByteArray.size (⟨#[(10:UInt8)]⟩:ByteArray)))≤9223372036854775807) then
                            Option.bind (impl_FormatGrades (r14,(List.take (List.length r15) (List.drop 0 r15)))) fun r23=>
                             Option.bind (laws_daLine r23 r16) fun r24=>
                              if(((ByteArray.size (r22++(⟨#[(10:UInt8)]⟩:ByteArray)))+(ByteArray.size r24))≤9223372036854775807) then
                               Option.bind (laws_daLine r17 r18) fun r25=>
                                if(((ByteArray.size ((r22++(⟨#[(10:UInt8)]⟩:ByteArray))++r24))+(ByteArray.size r25))≤9223372036854775807) then
                                 Option.bind (impl_FormatCosts (List.take (List.length r6) (List.drop 0 r6))) fun r26=>
                                  Option.bind (impl_ShowWord r26) fun r27=>
                                   if(((ByteArray.size (((r22++(⟨#[(10:UInt8)]⟩:ByteArray))++r24)++r25))+(ByteArray.size r27))≤9223372036854775807) then
                                    if(((ByteArray.size ((((r22++(⟨#[(10:UInt8)]⟩:ByteArray))++r24)++r25)++r27))+(ByteArray.size (⟨#[(10:UInt8)]⟩:ByteArray)))≤9223372036854775807) then
                                     Option.bind (impl_RunScript (((((((((((((⟨#[(97:UInt8),(117:UInt8),(116:UInt8),(111:UInt8),(109:UInt8),(97:UInt8),(116:UInt8),(111:UInt8),(110:UInt8),(32:UInt8)]⟩:ByteArray)++r19)++(⟨#[(10:UInt8),(118:UInt8),(97:UInt8),(108:UInt8),(117:UInt8),(101:UInt8),(32:UInt8)]⟩:ByteArray))++r4)++(⟨#[(10:UInt8),(101:UInt8),(120:UInt8),(112:UInt8),(97:UInt8),(110:UInt8),(100:UInt8),(32:UInt8)]⟩:ByteArray))++r20)++(⟨#[(32:UInt8)]⟩:ByteArray))++r4)++(⟨#[(10:UInt8),(103:UInt8),(114:UInt8),(111:UInt8),(119:UInt8),(116:UInt8),(104:UInt8),(32:UInt8)]⟩:ByteArray))++r21)++(⟨#[(32:UInt8)]⟩:ByteArray))++r4)++(⟨#[(10:UInt8)]⟩:ByteArray))) fun r28=>
                                      some ((ByteArray.toList r28)==(ByteArray.toList (((((r22++(⟨#[(10:UInt8)]⟩:ByteArray))++r24)++r25)++r27)++(⟨#[(10:UInt8)]⟩:ByteArray))))
                                    else
                                     none
                                   else
                                    none
                                else
                                 none
                              else
                               none
                           else
                            none
                         else
                          none
                        else
                         none
                       else
                        none
                      else
                       none
                    else
                     none
                   else
                    none
                  else
                   none
                 else
                  none
               else
                none
              else
               none
             else
              none
            else
             none
def A3:FnA:=⟨[.v (.sl (.int .u8))],true,[.bool],fun x=>laws_FnScriptExpression x.1⟩
theorem A3_ok:FnOk prog 3 A3:=fo (L:=L0) (by kernel_rfl) func3 E3_ok allNil
end
end Go.Proofs.YthkflageghfbgaaGreatDoor
