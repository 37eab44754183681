/- What Go functions that the laws reach compute, and that they do: written by a program of this session. -/
import Derived.Test.YtcmcjhdccnbmoaaGreatG1
import Derived.KernelRfl
set_option linter.unusedVariables false
namespace Go.Proofs.YtcmcjhdccnbmoaaGreat
open Go Go.Proofs.YtcmcjhdccnbmoaaGreat.Am Go.Proofs.Tryz
set_option maxRecDepth 100000
/-! laws.FnGradesIn -/
noncomputable def E4 : Env := ⟨ty0, fun g => ifEq g 16 (some A16) (ifEq g 10 (some A10) (ifEq g 8 (some A8) (ifEq g 17 (some A17) (ifEq g 18 (some A18) (ifEq g 19 (some A19) (ifEq g 20 (some A20) (ifEq g 21 (some A21) (ifEq g 22 (some A22) (ifEq g 23 (some A23) (ifEq g 24 (some A24) (none))))))))))), fun _ => none, fun _ => none, fun _ => none⟩
theorem E4_ok : FnsOk prog E4 := (oF A16_ok func16 (oF A10_ok func10 (oF A8_ok func8 (oF A17_ok func17 (oF A18_ok func18 (oF A19_ok func19 (oF A20_ok func20 (oF A21_ok func21 (oF A22_ok func22 (oF A23_ok func23 (oF A24_ok func24 (noFns _ _))))))))))))
noncomputable def L4_0 : Nat → Option LoopD := fun _ => none
def sh4_11 : List Fm := d :: d :: d :: .box 100300 [.val (.int .i64), .val (.sl (.int .i64)), .val (.sl (.int .i64)), .val (.sl (.pair (.int .i64) (.pair .str (.pair (.int .i64) (.int .i64)))))] :: .cell (.own (.int .i64) 100400 false) :: d :: d :: d :: .cell (.val (.sl .str)) :: d :: .cell (.own .str 101000 false) :: D 84 (.cell (.val (.sl .str)) :: .cell (.val (.int .i64)) :: .cell (.val (.int .i64)) :: D 70 [])
def xs4_11 : List (Ex × List Fm) := [(.ret, (d :: d :: .cell (.val .bool) :: D 165 [])), (.exit 0, [d, d, d, .box 100300 [.val (.int .i64), .val (.sl (.int .i64)), .val (.sl (.int .i64)), .val (.sl (.pair (.int .i64) (.pair .str (.pair (.int .i64) (.int .i64)))))], .cell (.own (.int .i64) 100400 false), d, d, d, .cell (.val (.sl .str)), d, d, d, d, d, d, d, d, d, d, d, d, d, d, d, d, d, d, d, d, d, d, d, d, d, d, d, d, d, d, d, d, d, d, d, d, d, d, d, d, d, d, d, d, d, d, d, d, d, d, d, d, d, d, d, d, d, d, d, d, d, d, d, d, d, d, d, d, d, d, d, d, d, d, d, d, d, d, d, d, d, d, d, d, d, d, d, d, d, d, d, d, d, d, d, d, d, d, d, d, d, d, d, d, d, d, d, d, d, d, d, d, d, d, d, d, d, d, d, d, d, d, d, d, d, d, d, d, d, d, d, d, d, d, d, d, d, d, d, d, d, d, d, d, d, d, d, d, d, d, d, d, d, d, d, d, d, d, d])]
noncomputable def laws_FnGradesIn_l11 : ((Int × (List Int) × (List Int) × (List (Int × (ByteArray × (Int × Int)))) × Unit) × (List Int) × (List ByteArray) × (List ByteArray) × (List ByteArray) × Int × Int × Unit) → Option (((Int × (List Int) × (List Int) × (List (Int × (ByteArray × (Int × Int)))) × Unit) × (List Int) × (List ByteArray) × (List ByteArray) × (List ByteArray) × Int × Int × Unit) ⊕ ((Bool × Unit) ⊕ ((Int × (List Int) × (List Int) × (List (Int × (ByteArray × (Int × Int)))) × Unit) × (List Int) × (List ByteArray) × Unit))) := fun ((v3_0, v3_1, v3_2, v3_3, _), v4, v8, v10, v95, v96, v97, _) =>
 bif (decide (v97 < v96)) then
  if (((0 : Int) ≤ v97) ∧ (v97 < (((List.length v95) : Nat) : Int))) then
   Option.bind (impl_ValueOf (v3_0, v3_1, v3_2, v3_3) (List.getD v95 (Int.toNat v97) (⟨Array.empty⟩ : ByteArray))) fun ((r0, r1), r2) =>
    Option.bind (impl_Stabilise (r0, (List.take (List.length r1) (List.drop 0 r1)))) fun ((r3, r4), r5) =>
     if (((0 : Int) ≤ v97) ∧ (v97 < (((List.length v10) : Nat) : Int))) then
      bif (!((ByteArray.toList (List.getD v95 (Int.toNat v97) (⟨Array.empty⟩ : ByteArray))) == (ByteArray.toList (List.getD v10 (0 + (Int.toNat v97)) (⟨Array.empty⟩ : ByteArray))))) then
       some (Sum.inr (Sum.inl (false, ())))
      else
       bif (!r5) then
        some (Sum.inr (Sum.inl (false, ())))
       else
        Option.bind (laws_daMatrix (r3, (List.take (List.length r4) (List.drop 0 r4))) (r0, (List.take (List.length r1) (List.drop 0 r1)))) fun r6 =>
         bif (!r6) then
          some (Sum.inr (Sum.inl (false, ())))
         else
          some (Sum.inl ((v3_0, v3_1, v3_2, v3_3, ()), (List.take (List.length v4) (List.drop 0 v4)), v8, (List.take (List.length v10) (List.drop 0 v10)), v95, v96, (IntKind.wrap .i64 (v97 + (1 : Int))), ()))
     else
      none
  else
   none
 else
  some (Sum.inr (Sum.inr ((v3_0, v3_1, v3_2, v3_3, ()), (List.take (List.length v4) (List.drop 0 v4)), v8, ())))
theorem laws_FnGradesIn_l11_eq : loopStep 168 E4 L4_0 (loopOf f4 11) sh4_11 xs4_11 = laws_FnGradesIn_l11 := by kernel_rfl
theorem loop4_11 {L} (h : L 11 = some ⟨168, sh4_11, xs4_11, laws_FnGradesIn_l11⟩) : LoopOk prog L (loopOf f4 11) := lo laws_FnGradesIn_l11_eq E4_ok allNil h
noncomputable def L4_1 : Nat → Option LoopD := fun n => ifEq n 11 (some ⟨168, sh4_11, xs4_11, laws_FnGradesIn_l11⟩) (L4_0 n)
def sh4_24 : List Fm := d :: d :: d :: .box 100300 [.val (.int .i64), .val (.sl (.int .i64)), .val (.sl (.int .i64)), .val (.sl (.pair (.int .i64) (.pair .str (.pair (.int .i64) (.int .i64)))))] :: .cell (.val (.sl (.int .i64))) :: d :: d :: d :: .cell (.val (.sl .str)) :: D 12 (.box 102100 [.val (.int .i64), .val (.sl (.int .i64)), .val .str] :: .cell (.val .bool) :: D 112 (.cell (.own (.pair (.pair (.int .i64) (.sl (.int .i64))) .str) 113500 false) :: .cell (.val (.int .i64)) :: .cell (.val (.int .i64)) :: d :: d :: d :: .cell (.val (.sl (.int .i64))) :: .cell (.val (.int .i64)) :: .cell (.val (.int .i64)) :: D 24 []))
def xs4_24 : List (Ex × List Fm) := [(.exit 4, [d, d, d, .box 100300 [.val (.int .i64), .val (.sl (.int .i64)), .val (.sl (.int .i64)), .val (.sl (.pair (.int .i64) (.pair .str (.pair (.int .i64) (.int .i64)))))], .cell (.val (.sl (.int .i64))), d, d, d, .cell (.val (.sl .str)), d, d, d, d, d, d, d, d, d, d, d, d, d, .cell (.val .bool), d, d, d, d, d, d, d, d, d, d, d, d, d, d, d, d, d, d, d, d, d, d, d, d, d, d, d, d, d, d, d, d, d, d, d, d, d, d, d, d, d, d, d, d, d, d, d, d, d, d, d, d, d, d, d, d, d, d, d, d, d, d, d, d, d, d, d, d, d, d, d, d, d, d, d, d, d, d, d, d, d, d, d, d, d, d, d, d, d, d, d, d, d, d, d, d, d, d, d, d, d, d, d, d, d, d, d, d, d, d, d, d, .cell (.own (.pair (.pair (.int .i64) (.sl (.int .i64))) .str) 113500 false), .cell (.val (.int .i64)), .cell (.val (.int .i64)), d, d, d, d, d, d, d, d, d, d, d, d, d, d, d, d, d, d, d, d, d, d, d, d, d, d, d, d, d, d])]
noncomputable def laws_FnGradesIn_l24 : ((Int × (List Int) × (List Int) × (List (Int × (ByteArray × (Int × Int)))) × Unit) × (List Int) × (List ByteArray) × (Int × (List Int) × ByteArray × Unit) × Bool × (List ((Int × (List Int)) × ByteArray)) × Int × Int × (List Int) × Int × Int × Unit) → Option (((Int × (List Int) × (List Int) × (List (Int × (ByteArray × (Int × Int)))) × Unit) × (List Int) × (List ByteArray) × (Int × (List Int) × ByteArray × Unit) × Bool × (List ((Int × (List Int)) × ByteArray)) × Int × Int × (List Int) × Int × Int × Unit) ⊕ (((Int × (List Int) × (List Int) × (List (Int × (ByteArray × (Int × Int)))) × Unit) × (List Int) × (List ByteArray) × Bool × (List ((Int × (List Int)) × ByteArray)) × Int × Int × Unit))) := fun ((v3_0, v3_1, v3_2, v3_3, _), v4, v8, (v21_0, v21_1, v21_2, _), v22, v135, v136, v137, v141, v142, v143, _) =>
 bif (decide (v143 < v142)) then
  if (((0 : Int) ≤ v143) ∧ (v143 < (((List.length v141) : Nat) : Int))) then
   bif v22 then
    some (Sum.inl ((v3_0, v3_1, v3_2, v3_3, ()), v4, v8, (v21_0, v21_1, v21_2, ()), true, (List.take (List.length v135) (List.drop 0 v135)), v136, v137, v141, v142, (IntKind.wrap .i64 (v143 + (1 : Int))), ()))
   else
    Option.bind (impl_GradeOf (v3_0, v3_1, v3_2, v3_3) v21_2) fun r0 =>
     some (Sum.inl ((v3_0, v3_1, v3_2, v3_3, ()), v4, v8, (v21_0, v21_1, v21_2, ()), ((List.getD v141 (Int.toNat v143) (0 : Int)) == r0), (List.take (List.length v135) (List.drop 0 v135)), v136, v137, v141, v142, (IntKind.wrap .i64 (v143 + (1 : Int))), ()))
  else
   none
 else
  some (Sum.inr ((v3_0, v3_1, v3_2, v3_3, ()), v4, v8, v22, (List.take (List.length v135) (List.drop 0 v135)), v136, v137, ()))
theorem laws_FnGradesIn_l24_eq : loopStep 168 E4 L4_1 (loopOf f4 24) sh4_24 xs4_24 = laws_FnGradesIn_l24 := by kernel_rfl
theorem loop4_24 {L} (h : L 24 = some ⟨168, sh4_24, xs4_24, laws_FnGradesIn_l24⟩) : LoopOk prog L (loopOf f4 24) := lo laws_FnGradesIn_l24_eq E4_ok allNil h
noncomputable def L4_2 : Nat → Option LoopD := fun n => ifEq n 24 (some ⟨168, sh4_24, xs4_24, laws_FnGradesIn_l24⟩) (L4_1 n)
def sh4_20 : List Fm := d :: d :: d :: .box 100300 [.val (.int .i64), .val (.sl (.int .i64)), .val (.sl (.int .i64)), .val (.sl (.pair (.int .i64) (.pair .str (.pair (.int .i64) (.int .i64)))))] :: .cell (.val (.sl (.int .i64))) :: d :: d :: d :: .cell (.val (.sl .str)) :: D 126 (.cell (.own (.pair (.pair (.int .i64) (.sl (.int .i64))) .str) 113500 false) :: .cell (.val (.int .i64)) :: .cell (.val (.int .i64)) :: D 30 [])
def xs4_20 : List (Ex × List Fm) := [(.ret, (d :: d :: .cell (.val .bool) :: D 165 [])), (.exit 2, (D 4 (.cell (.val (.sl (.int .i64))) :: d :: d :: d :: .cell (.val (.sl .str)) :: D 159 [])))]
noncomputable def laws_FnGradesIn_l20 : ((Int × (List Int) × (List Int) × (List (Int × (ByteArray × (Int × Int)))) × Unit) × (List Int) × (List ByteArray) × (List ((Int × (List Int)) × ByteArray)) × Int × Int × Unit) → Option (((Int × (List Int) × (List Int) × (List (Int × (ByteArray × (Int × Int)))) × Unit) × (List Int) × (List ByteArray) × (List ((Int × (List Int)) × ByteArray)) × Int × Int × Unit) ⊕ ((Bool × Unit) ⊕ ((List Int) × (List ByteArray) × Unit))) := fun ((v3_0, v3_1, v3_2, v3_3, _), v4, v8, v135, v136, v137, _) =>
 bif (decide (v137 < v136)) then
  if (((0 : Int) ≤ v137) ∧ (v137 < (((List.length v135) : Nat) : Int))) then
   Option.bind (loopF laws_FnGradesIn_l24 ((v3_0, v3_1, v3_2, v3_3, ()), v4, v8, ((List.getD v135 (0 + (Int.toNat v137)) (((0 : Int), []), (⟨Array.empty⟩ : ByteArray))).1.1, (List.getD v135 (0 + (Int.toNat v137)) (((0 : Int), []), (⟨Array.empty⟩ : ByteArray))).1.2, (List.getD v135 (0 + (Int.toNat v137)) (((0 : Int), []), (⟨Array.empty⟩ : ByteArray))).2, ()), false, (List.take (List.length v135) (List.drop 0 v135)), v136, v137, v4, (((List.length v4) : Nat) : Int), (0 : Int), ())) fun ((r0, r1, r2, r3, _), r4, r5, r6, r7, r8, r9, _) =>
    bif (!r6) then
     some (Sum.inr (Sum.inl (false, ())))
    else
     some (Sum.inl ((r0, r1, r2, r3, ()), r4, r5, (List.take (List.length r7) (List.drop 0 r7)), r8, (IntKind.wrap .i64 (r9 + (1 : Int))), ()))
  else
   none
 else
  some (Sum.inr (Sum.inr (v4, v8, ())))
theorem laws_FnGradesIn_l20_eq : loopStep 168 E4 L4_2 (loopOf f4 20) sh4_20 xs4_20 = laws_FnGradesIn_l20 := by kernel_rfl
theorem loop4_20 {L} (h : L 20 = some ⟨168, sh4_20, xs4_20, laws_FnGradesIn_l20⟩) : LoopOk prog L (loopOf f4 20) := lo laws_FnGradesIn_l20_eq E4_ok (allCons (loop4_24 rfl) allNil) h
noncomputable def L4_3 : Nat → Option LoopD := fun n => ifEq n 20 (some ⟨168, sh4_20, xs4_20, laws_FnGradesIn_l20⟩) (L4_2 n)
noncomputable def laws_FnGradesIn : (List Int) → Option (Bool) := fun a0 =>
 bif (decide ((((List.length a0) : Nat) : Int) > (1048576 : Int))) then
  some true
 else
  Option.bind (spec_DrawGradesIn a0) fun (r0, r1, r2, r3) =>
   Option.bind (impl_GradesIn (r0, r1, r2, r3)) fun (r4, r5) =>
    Option.bind (spec_GradesIn (r0, r1, r2, r3)) fun (r6, r7) =>
     Option.bind (impl_StablesOf (r0, r1, r2, r3)) fun (r8, r9) =>
      Option.bind (spec_StablesOf (r0, r1, r2, r3)) fun (r10, r11) =>
       Option.bind (laws_daSame (List.take (List.length r4) (List.drop 0 r4)) (List.take (List.length r6) (List.drop 0 r6))) fun r12 =>
        bif (!r12) then
         Option.bind (laws_daSame (List.take (List.length r4) (List.drop 0 r4)) (List.take (List.length r6) (List.drop 0 r6))) fun r13 =>
          bif r13 then
           bif (r5 == r7) then
            bif (r9 == r5) then
             some ((((List.length r8) : Nat) : Int) == (((List.length r10) : Nat) : Int))
            else
             some false
           else
            some false
          else
           some false
        else
         bif (!(r5 == r7)) then
          Option.bind (laws_daSame (List.take (List.length r4) (List.drop 0 r4)) (List.take (List.length r6) (List.drop 0 r6))) fun r14 =>
           bif r14 then
            bif (r5 == r7) then
             bif (r9 == r5) then
              some ((((List.length r8) : Nat) : Int) == (((List.length r10) : Nat) : Int))
             else
              some false
            else
             some false
           else
            some false
         else
          bif (!(r9 == r5)) then
           Option.bind (laws_daSame (List.take (List.length r4) (List.drop 0 r4)) (List.take (List.length r6) (List.drop 0 r6))) fun r15 =>
            bif r15 then
             bif (r5 == r7) then
              bif (r9 == r5) then
               some ((((List.length r8) : Nat) : Int) == (((List.length r10) : Nat) : Int))
              else
               some false
             else
              some false
            else
             some false
          else
           bif ((((List.length r8) : Nat) : Int) != (((List.length r10) : Nat) : Int)) then
            Option.bind (laws_daSame (List.take (List.length r4) (List.drop 0 r4)) (List.take (List.length r6) (List.drop 0 r6))) fun r16 =>
             bif r16 then
              bif (r5 == r7) then
               bif (r9 == r5) then
                some ((((List.length r8) : Nat) : Int) == (((List.length r10) : Nat) : Int))
               else
                some false
              else
               some false
             else
              some false
           else
            bif (!r5) then
             Option.bind (laws_daSame (List.take (List.length r4) (List.drop 0 r4)) (List.take (List.length r6) (List.drop 0 r6))) fun r17 =>
              bif r17 then
               bif (r5 == r7) then
                bif (r9 == r5) then
                 some ((((List.length r8) : Nat) : Int) == (((List.length r10) : Nat) : Int))
                else
                 some false
               else
                some false
              else
               some false
            else
             Option.bind (loopF laws_FnGradesIn_l11 ((r0, r1, r2, r3, ()), (List.take (List.length r4) (List.drop 0 r4)), (List.take (List.length r8) (List.drop 0 r8)), (List.take (List.length r10) (List.drop 0 r10)), (List.take (List.length r8) (List.drop 0 r8)), (((List.length r8) : Nat) : Int), (0 : Int), ())) fun r18 =>
              (match r18 with
              | .inl (d19, _) =>
                some d19
              | .inr ((d20, d21, d22, d23, _), d24, d25, _) =>
                Option.bind (impl_ElementsOf (d20, d21, d22, d23)) fun (r26, r27) =>
                 Option.bind (loopF laws_FnGradesIn_l20 ((d20, d21, d22, d23, ()), (List.take (List.length d24) (List.drop 0 d24)), d25, (List.take (List.length r26) (List.drop 0 r26)), (((List.length r26) : Nat) : Int), (0 : Int), ())) fun r28 =>
                  (match r28 with
                  | .inl (d29, _) =>
                    some d29
                  | .inr (d30, d31, _) =>
                    bif (decide ((((List.length d31) : Nat) : Int) > (0 : Int))) then
                     some (decide ((((List.length d30) : Nat) : Int) ≤ (4 : Int)))
                    else
                     some false))
noncomputable def A4 : FnA := ⟨[.v (.sl (.int .u8))], true, [.bool], fun x => laws_FnGradesIn x.1⟩
theorem laws_FnGradesIn_eq : fnF E4 L4_3 [.v (.sl (.int .u8))] true [.bool] f4.ntmps f4.results.toList (codeOf f4) = fun x => laws_FnGradesIn x.1 := by kernel_rfl
theorem A4_ok : FnOk prog 4 A4 := fo laws_FnGradesIn_eq func4 E4_ok (allCons (loop4_11 rfl) (allCons (loop4_20 rfl) allNil))
end Go.Proofs.YtcmcjhdccnbmoaaGreat
