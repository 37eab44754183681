/- What Go functions that the laws reach compute, and that they do: written by a program of this session. -/
import Derived.Test.YtooigaliccnldaaG0
import Derived.KernelRfl
set_option linter.unusedVariables false
namespace Go.Proofs.Ytooigaliccnldaa
open Go Go.Proofs.Ytooigaliccnldaa.Am Go.Proofs.Try
set_option maxRecDepth 100000
/-! laws.FnExactGreatestOf -/
noncomputable def E5 : Env := ⟨ty0, fun g => ifEq g 20 (some A20) (ifEq g 22 (some A22) (ifEq g 29 (some A29) (ifEq g 30 (some A30) (ifEq g 31 (some A31) (ifEq g 25 (some A25) (ifEq g 33 (some A33) (none))))))), fun g => ifEq g 26 (some A26) (ifEq g 32 (some A32) (none)), fun _ => none⟩
theorem E5_ok : FnsOk prog E5 := (oneFn A20_ok func20 (by kernel_rfl) (by kernel_rfl) (oneFn A22_ok func22 (by kernel_rfl) (by kernel_rfl) (oneFn A29_ok func29 (by kernel_rfl) (by kernel_rfl) (oneFn A30_ok func30 (by kernel_rfl) (by kernel_rfl) (oneFn A31_ok func31 (by kernel_rfl) (by kernel_rfl) (oneFn A25_ok func25 (by kernel_rfl) (by kernel_rfl) (oneFn A33_ok func33 (by kernel_rfl) (by kernel_rfl) (oneMs A26_ok (by kernel_rfl) func26 (by kernel_rfl) (by kernel_rfl) (oneMs A32_ok (by kernel_rfl) func32 (by kernel_rfl) (by kernel_rfl) (noFns _ _))))))))))
noncomputable def L5_0 : Nat → Option LoopD := fun _ => none
noncomputable def laws_FnExactGreatestOf : (Int × ((List Int) × ((List Int) × (List (Int × (ByteArray × (Int × Int))))))) → Int → Option (Bool) := fun (a0_0, a0_1, a0_2, a0_3) a1 =>
  Option.bind (laws_szAutomaton (a0_0, a0_1, a0_2, a0_3) (1048576 : Int)) fun r0 =>
    bif (decide (r0 < (0 : Int))) then
      some true
    else
      Option.bind (laws_toAutomaton (a0_0, a0_1, a0_2, a0_3)) fun (r1, r2, r3, r4) =>
        Option.bind (spec_GreatestOf (r1, (List.take (List.length r2) (List.drop 0 r2)), (List.take (List.length r3) (List.drop 0 r3)), (List.take (List.length r4) (List.drop 0 r4))) a1) fun (r5, r6) =>
          Option.bind (laws_toAutomaton (a0_0, a0_1, a0_2, a0_3)) fun (r7, r8, r9, r10) =>
            Option.bind (impl_GreatestOf (r7, (List.take (List.length r8) (List.drop 0 r8)), (List.take (List.length r9) (List.drop 0 r9)), (List.take (List.length r10) (List.drop 0 r10))) a1) fun (r11, r12) =>
              Option.bind (laws_eqIntS (List.take (List.length r11) (List.drop 0 r11)) (List.take (List.length r5) (List.drop 0 r5))) fun r13 =>
                bif (!r13) then
                  some false
                else
                  bif (!(r12 == r6)) then
                    some false
                  else
                    Option.bind (laws_toAutomaton (a0_0, a0_1, a0_2, a0_3)) fun (r14, r15, r16, r17) =>
                      Option.bind (laws_eqAutomaton (r7, (List.take (List.length r8) (List.drop 0 r8)), (List.take (List.length r9) (List.drop 0 r9)), (List.take (List.length r10) (List.drop 0 r10))) (r14, (List.take (List.length r15) (List.drop 0 r15)), (List.take (List.length r16) (List.drop 0 r16)), (List.take (List.length r17) (List.drop 0 r17)))) fun r18 =>
                        bif (!r18) then
                          some false
                        else
                          if ((List.length r8) = (List.length r8)) then
                            if ((List.length r9) = (List.length r9)) then
                              if ((List.length r10) = (List.length r10)) then
                                Option.bind (laws_markAutomaton (r7, r8, r9, r10) (1 : Int)) fun (r19, (r20, r21, r22, r23), _) =>
                                  bif (decide (r19 < (0 : Int))) then
                                    some false
                                  else
                                    Option.bind (laws_eqIntS (List.take (List.length r11) (List.drop 0 r11)) (List.take (List.length r5) (List.drop 0 r5))) fun r24 =>
                                      bif (!r24) then
                                        some false
                                      else
                                        bif (!(r12 == r6)) then
                                          some false
                                        else
                                          if ((List.length r11) = (List.length r11)) then
                                            Option.bind (laws_markIntS r11 (1 : Int)) fun (r25, r26, _) =>
                                              Option.bind (laws_heldIntS (List.take (List.length r11) (List.drop 0 r26)) (1 : Int)) fun r27 =>
                                                bif (decide (r27 < (0 : Int))) then
                                                  some false
                                                else
                                                  bif (r27 != r25) then
                                                    some false
                                                  else
                                                    Option.bind (laws_toAutomaton (a0_0, a0_1, a0_2, a0_3)) fun (r28, r29, r30, r31) =>
                                                      Option.bind (impl_GreatestOf (r28, (List.take (List.length r29) (List.drop 0 r29)), (List.take (List.length r30) (List.drop 0 r30)), (List.take (List.length r31) (List.drop 0 r31))) a1) fun (r32, r33) =>
                                                        Option.bind (laws_eqIntS (List.take (List.length r32) (List.drop 0 r32)) (List.take (List.length r5) (List.drop 0 r5))) fun r34 =>
                                                          bif (!r34) then
                                                            some false
                                                          else
                                                            bif (!(r33 == r6)) then
                                                              some false
                                                            else
                                                              Option.bind (laws_heldIntS (List.take (List.length r11) (List.drop 0 r26)) (1 : Int)) fun r35 =>
                                                                bif (decide (r35 < (0 : Int))) then
                                                                  some false
                                                                else
                                                                  bif (r35 != r25) then
                                                                    some false
                                                                  else
                                                                    some true
                                          else
                                            none
                              else
                                none
                            else
                              none
                          else
                            none
noncomputable def A5 : FnA := ⟨[.v (.pair (.int .i64) (.pair (.sl (.int .i64)) (.pair (.sl (.int .i64)) (.sl (.pair (.int .i64) (.pair .str (.pair (.int .i64) (.int .i64)))))))), .v (.int .i64)], true, [.bool], fun x => laws_FnExactGreatestOf x.1 x.2.1⟩
theorem laws_FnExactGreatestOf_eq : fnF E5 L5_0 [.v (.pair (.int .i64) (.pair (.sl (.int .i64)) (.pair (.sl (.int .i64)) (.sl (.pair (.int .i64) (.pair .str (.pair (.int .i64) (.int .i64)))))))), .v (.int .i64)] true [.bool] f5.ntmps f5.results.toList (codeOf f5) = fun x => laws_FnExactGreatestOf x.1 x.2.1 := by kernel_rfl
theorem A5_ok : FnOk prog 5 A5 := by
  have h := fnOk_of_run (P := prog) (E := E5) (tysOk_of tyl_ok) E5_ok (L := L5_0) (ps := [.v (.pair (.int .i64) (.pair (.sl (.int .i64)) (.pair (.sl (.int .i64)) (.sl (.pair (.int .i64) (.pair .str (.pair (.int .i64) (.int .i64)))))))), .v (.int .i64)]) (own := true) (outs := [.bool]) func5 (c := codeOf f5) (by kernel_rfl) (codeOk_in (L := L5_0) (tysOk_of tyl_ok) E5_ok mixed (c := codeOf f5) (bs := []) (by kernel_rfl) allNil (by kernel_rfl))
  rw [laws_FnExactGreatestOf_eq] at h
  exact h
/-! spec.WordValid -/
noncomputable def E135 : Env := ⟨ty0, fun _ => none, fun _ => none, fun _ => none⟩
theorem E135_ok : FnsOk prog E135 := (noFns _ _)
noncomputable def L135_0 : Nat → Option LoopD := fun _ => none
def sh135_2 : List Fm := [.cell (.val .str), d, d, d, d, .cell (.val (.int .i64)), .cell (.val (.int .i64)), d, d, d, d, d, d, d, d, d, d, d, d, d, d, d, d]
def xs135_2 : List (Ex × List Fm) := [(.ret, [d, d, .cell (.val .bool), d, d, d, d, d, d, d, d, d, d, d, d, d, d, d, d, d, d, d, d]), (.exit 0, [.cell (.val .str), d, d, d, d, d, d, d, d, d, d, d, d, d, d, d, d, d, d, d, d, d, d])]
noncomputable def spec_WordValid_l2 : (ByteArray × Int × Int × Unit) → Option ((ByteArray × Int × Int × Unit) ⊕ ((Bool × Unit) ⊕ (ByteArray × Unit))) := fun (v0, v5, v6, _) =>
  bif (decide (v6 < v5)) then
    if (((0 : Int) ≤ v6) ∧ (v6 < (((ByteArray.size v0) : Nat) : Int))) then
      bif ((((UInt8.toNat (Array.getD (ByteArray.data v0) (Int.toNat v6) (0 : UInt8))) : Nat) : Int) != (97 : Int)) then
        if (((0 : Int) ≤ v6) ∧ (v6 < (((ByteArray.size v0) : Nat) : Int))) then
          bif ((((UInt8.toNat (Array.getD (ByteArray.data v0) (Int.toNat v6) (0 : UInt8))) : Nat) : Int) != (98 : Int)) then
            some (Sum.inr (Sum.inl (false, ())))
          else
            some (Sum.inl (v0, v5, (IntKind.wrap .i64 (v6 + (1 : Int))), ()))
        else
          none
      else
        some (Sum.inl (v0, v5, (IntKind.wrap .i64 (v6 + (1 : Int))), ()))
    else
      none
  else
    some (Sum.inr (Sum.inr (v0, ())))
theorem spec_WordValid_l2_eq : loopStep E135 L135_0 (loopOf f135 2) sh135_2 xs135_2 = spec_WordValid_l2 := by kernel_rfl
theorem loop135_2 {L : Nat → Option LoopD} (h : L 2 = some ⟨sh135_2, xs135_2, spec_WordValid_l2⟩) : LoopOk prog L (loopOf f135 2) :=
  loopOk (tysOk_of tyl_ok) E135_ok (codeOk_in (L := L135_0) (tysOk_of tyl_ok) E135_ok mixed (c := loopOf f135 2) (bs := []) (by kernel_rfl) allNil (by kernel_rfl)) (by kernel_rfl) (by kernel_rfl) spec_WordValid_l2_eq (by rw [show firstId (loopOf f135 2) = 2 from by kernel_rfl]; exact h)
noncomputable def L135_1 : Nat → Option LoopD := fun n => ifEq n 2 (some ⟨sh135_2, xs135_2, spec_WordValid_l2⟩) (L135_0 n)
noncomputable def spec_WordValid : ByteArray → Option (Bool) := fun a0 =>
  Option.bind (loopF spec_WordValid_l2 (a0, (((ByteArray.size a0) : Nat) : Int), (0 : Int), ())) fun r0 =>
    (match r0 with
    | .inl (d1, _) =>
        some d1
    | .inr (d2, _) =>
        some (decide ((((ByteArray.size d2) : Nat) : Int) ≤ (1000 : Int))))
noncomputable def A135 : FnA := ⟨[.v .str], true, [.bool], fun x => spec_WordValid x.1⟩
theorem spec_WordValid_eq : fnF E135 L135_1 [.v .str] true [.bool] f135.ntmps f135.results.toList (codeOf f135) = fun x => spec_WordValid x.1 := by kernel_rfl
theorem A135_ok : FnOk prog 135 A135 := by
  have h := fnOk_of_run (P := prog) (E := E135) (tysOk_of tyl_ok) E135_ok (L := L135_1) (ps := [.v .str]) (own := true) (outs := [.bool]) func135 (c := codeOf f135) (by kernel_rfl) (codeOk_in (L := L135_1) (tysOk_of tyl_ok) E135_ok mixed (c := codeOf f135) (bs := [loopOf f135 2]) (by kernel_rfl) (allCons (loop135_2 rfl) allNil) (by kernel_rfl))
  rw [spec_WordValid_eq] at h
  exact h
/-! spec.l4Asked -/
noncomputable def E90 : Env := ⟨ty0, fun g => ifEq g 78 (some A78) (ifEq g 135 (some A135) (none)), fun _ => none, fun _ => none⟩
theorem E90_ok : FnsOk prog E90 := (oneFn A78_ok func78 (by kernel_rfl) (by kernel_rfl) (oneFn A135_ok func135 (by kernel_rfl) (by kernel_rfl) (noFns _ _)))
noncomputable def L90_0 : Nat → Option LoopD := fun _ => none
noncomputable def spec_l4Asked : (Int × ((List Int) × ((List Int) × (List (Int × (ByteArray × (Int × Int))))))) → ByteArray → Option (Bool) := fun (a0_0, a0_1, a0_2, a0_3) a1 =>
  Option.bind (spec_AutomatonValid (a0_0, a0_1, a0_2, a0_3)) fun r0 =>
    bif r0 then
      Option.bind (spec_WordValid a1) fun r1 =>
        some r1
    else
      some false
noncomputable def A90 : FnA := ⟨[.v (.pair (.int .i64) (.pair (.sl (.int .i64)) (.pair (.sl (.int .i64)) (.sl (.pair (.int .i64) (.pair .str (.pair (.int .i64) (.int .i64)))))))), .v .str], true, [.bool], fun x => spec_l4Asked x.1 x.2.1⟩
theorem spec_l4Asked_eq : fnF E90 L90_0 [.v (.pair (.int .i64) (.pair (.sl (.int .i64)) (.pair (.sl (.int .i64)) (.sl (.pair (.int .i64) (.pair .str (.pair (.int .i64) (.int .i64)))))))), .v .str] true [.bool] f90.ntmps f90.results.toList (codeOf f90) = fun x => spec_l4Asked x.1 x.2.1 := by kernel_rfl
theorem A90_ok : FnOk prog 90 A90 := by
  have h := fnOk_of_run (P := prog) (E := E90) (tysOk_of tyl_ok) E90_ok (L := L90_0) (ps := [.v (.pair (.int .i64) (.pair (.sl (.int .i64)) (.pair (.sl (.int .i64)) (.sl (.pair (.int .i64) (.pair .str (.pair (.int .i64) (.int .i64)))))))), .v .str]) (own := true) (outs := [.bool]) func90 (c := codeOf f90) (by kernel_rfl) (codeOk_in (L := L90_0) (tysOk_of tyl_ok) E90_ok mixed (c := codeOf f90) (bs := []) (by kernel_rfl) allNil (by kernel_rfl))
  rw [spec_l4Asked_eq] at h
  exact h
/-! spec.l10Least -/
noncomputable def E91 : Env := ⟨ty0, fun g => ifEq g 81 (some A81) (ifEq g 136 (some A136) (none)), fun _ => none, fun _ => none⟩
theorem E91_ok : FnsOk prog E91 := (oneFn A81_ok func81 (by kernel_rfl) (by kernel_rfl) (oneFn A136_ok func136 (by kernel_rfl) (by kernel_rfl) (noFns _ _)))
noncomputable def L91_0 : Nat → Option LoopD := fun _ => none
def sh91_7 : List Fm := [d, .cell (.val .str), .box 100200 [.val (.int .i64), .val (.sl (.int .i64)), .val (.sl (.int .i64)), .val (.sl (.pair (.int .i64) (.pair .str (.pair (.int .i64) (.int .i64)))))], d, d, .cell (.own (.int .i64) 100500 false), .cell (.val (.int .i64)), .cell (.val (.int .i64)), d, d, d, d, d, d, d, d, .cell (.val (.int .i64)), .cell (.val (.int .i64)), d, d, d, d, d, d, d, d, d, d, d, d, d, d, d, d, d, d, d, d, d, d]
def xs91_7 : List (Ex × List Fm) := [(.exit 2, [d, .cell (.val .str), .box 100200 [.val (.int .i64), .val (.sl (.int .i64)), .val (.sl (.int .i64)), .val (.sl (.pair (.int .i64) (.pair .str (.pair (.int .i64) (.int .i64)))))], d, d, .cell (.own (.int .i64) 100500 false), .cell (.val (.int .i64)), .cell (.val (.int .i64)), d, d, d, d, d, d, d, d, d, d, d, d, d, d, d, d, d, d, d, d, d, d, d, d, d, d, d, d, d, d, d, d])]
noncomputable def spec_l10Least_l7 : (ByteArray × (Int × (List Int) × (List Int) × (List (Int × (ByteArray × (Int × Int)))) × Unit) × (List Int) × Int × Int × Int × Int × Unit) → Option ((ByteArray × (Int × (List Int) × (List Int) × (List (Int × (ByteArray × (Int × Int)))) × Unit) × (List Int) × Int × Int × Int × Int × Unit) ⊕ ((ByteArray × (Int × (List Int) × (List Int) × (List (Int × (ByteArray × (Int × Int)))) × Unit) × (List Int) × Int × Int × Unit))) := fun (v1, (v2_0, v2_1, v2_2, v2_3, _), v5, v6, v7, v16, v17, _) =>
  bif (decide (v17 < v16)) then
    if (((0 : Int) ≤ v17) ∧ ((v17 ≤ v6) ∧ (v6 ≤ (((ByteArray.size v1) : Nat) : Int)))) then
      Option.bind (spec_l4Cost (v2_0, v2_1, v2_2, v2_3) (ByteArray.extract v1 (Int.toNat v17) (Int.toNat v6))) fun r0 =>
        bif (decide (r0 < (1000000 : Int))) then
          if (((0 : Int) ≤ v17) ∧ (v17 < (((List.length v5) : Nat) : Int))) then
            Option.bind (spec_l1Add (List.getD v5 (0 + (Int.toNat v17)) (0 : Int)) (1 : Int)) fun r1 =>
              some (Sum.inl (v1, (v2_0, v2_1, v2_2, v2_3, ()), (List.take (List.length v5) (List.drop 0 v5)), v6, (if (r1 < v7) then r1 else v7), v16, (IntKind.wrap .i64 (v17 + (1 : Int))), ()))
          else
            none
        else
          some (Sum.inl (v1, (v2_0, v2_1, v2_2, v2_3, ()), (List.take (List.length v5) (List.drop 0 v5)), v6, v7, v16, (IntKind.wrap .i64 (v17 + (1 : Int))), ()))
    else
      none
  else
    some (Sum.inr (v1, (v2_0, v2_1, v2_2, v2_3, ()), (List.take (List.length v5) (List.drop 0 v5)), v6, v7, ()))
theorem spec_l10Least_l7_eq : loopStep E91 L91_0 (loopOf f91 7) sh91_7 xs91_7 = spec_l10Least_l7 := by kernel_rfl
theorem loop91_7 {L : Nat → Option LoopD} (h : L 7 = some ⟨sh91_7, xs91_7, spec_l10Least_l7⟩) : LoopOk prog L (loopOf f91 7) :=
  loopOk (tysOk_of tyl_ok) E91_ok (codeOk_in (L := L91_0) (tysOk_of tyl_ok) E91_ok mixed (c := loopOf f91 7) (bs := []) (by kernel_rfl) allNil (by kernel_rfl)) (by kernel_rfl) (by kernel_rfl) spec_l10Least_l7_eq (by rw [show firstId (loopOf f91 7) = 7 from by kernel_rfl]; exact h)
noncomputable def L91_1 : Nat → Option LoopD := fun n => ifEq n 7 (some ⟨sh91_7, xs91_7, spec_l10Least_l7⟩) (L91_0 n)
def sh91_3 : List Fm := [d, .cell (.val .str), .box 100200 [.val (.int .i64), .val (.sl (.int .i64)), .val (.sl (.int .i64)), .val (.sl (.pair (.int .i64) (.pair .str (.pair (.int .i64) (.int .i64)))))], d, d, .cell (.own (.int .i64) 100500 false), .cell (.val (.int .i64)), d, d, d, d, d, d, d, d, d, d, d, d, d, d, d, d, d, d, d, d, d, d, d, d, d, d, d, d, d, d, d, d, d]
def xs91_3 : List (Ex × List Fm) := [(.exit 0, [d, d, d, d, d, .cell (.own (.int .i64) 100500 false), d, d, d, d, d, d, d, d, d, d, d, d, d, d, d, d, d, d, d, d, d, d, d, d, d, d, d, d, d, d, d, d, d, d])]
noncomputable def spec_l10Least_l3 : (ByteArray × (Int × (List Int) × (List Int) × (List (Int × (ByteArray × (Int × Int)))) × Unit) × (List Int) × Int × Unit) → Option ((ByteArray × (Int × (List Int) × (List Int) × (List (Int × (ByteArray × (Int × Int)))) × Unit) × (List Int) × Int × Unit) ⊕ (((List Int) × Unit))) := fun (v1, (v2_0, v2_1, v2_2, v2_3, _), v5, v6, _) =>
  bif (decide (v6 ≤ (((ByteArray.size v1) : Nat) : Int))) then
    Option.bind (loopF spec_l10Least_l7 (v1, (v2_0, v2_1, v2_2, v2_3, ()), (List.take (List.length v5) (List.drop 0 v5)), v6, (1000000 : Int), v6, (0 : Int), ())) fun (r0, (r1, r2, r3, r4, _), r5, r6, r7, _) =>
      if (((0 + (List.length r5)) = (List.length r5)) ∧ ((((List.length r5) + (List.length (List.take 1 (List.drop 0 [r7])))) * 8) ≤ 140737488355328)) then
        some (Sum.inl (r0, (r1, r2, r3, r4, ()), (List.take ((List.length r5) + (List.length (List.take 1 (List.drop 0 [r7])))) (List.drop 0 ((List.drop 0 r5) ++ (List.take 1 (List.drop 0 [r7]))))), (IntKind.wrap .i64 (r6 + (1 : Int))), ()))
      else
        none
  else
    some (Sum.inr ((List.take (List.length v5) (List.drop 0 v5)), ()))
theorem spec_l10Least_l3_eq : loopStep E91 L91_1 (loopOf f91 3) sh91_3 xs91_3 = spec_l10Least_l3 := by kernel_rfl
theorem loop91_3 {L : Nat → Option LoopD} (h : L 3 = some ⟨sh91_3, xs91_3, spec_l10Least_l3⟩) : LoopOk prog L (loopOf f91 3) :=
  loopOk (tysOk_of tyl_ok) E91_ok (codeOk_in (L := L91_1) (tysOk_of tyl_ok) E91_ok mixed (c := loopOf f91 3) (bs := [loopOf f91 7]) (by kernel_rfl) (allCons (loop91_7 rfl) allNil) (by kernel_rfl)) (by kernel_rfl) (by kernel_rfl) spec_l10Least_l3_eq (by rw [show firstId (loopOf f91 3) = 3 from by kernel_rfl]; exact h)
noncomputable def L91_2 : Nat → Option LoopD := fun n => ifEq n 3 (some ⟨sh91_3, xs91_3, spec_l10Least_l3⟩) (L91_1 n)
noncomputable def spec_l10Least : (Int × ((List Int) × ((List Int) × (List (Int × (ByteArray × (Int × Int))))))) → ByteArray → Option ((List Int)) := fun (a0_0, a0_1, a0_2, a0_3) a1 =>
  Option.bind (loopF spec_l10Least_l3 (a1, (a0_0, a0_1, a0_2, a0_3, ()), (List.take 1 (List.drop 0 [(0 : Int)])), (1 : Int), ())) fun (r0, _) =>
    some (List.take (List.length r0) (List.drop 0 r0))
noncomputable def A91 : FnA := ⟨[.v (.pair (.int .i64) (.pair (.sl (.int .i64)) (.pair (.sl (.int .i64)) (.sl (.pair (.int .i64) (.pair .str (.pair (.int .i64) (.int .i64)))))))), .v .str], true, [.sl (.int .i64)], fun x => spec_l10Least x.1 x.2.1⟩
theorem spec_l10Least_eq : fnF E91 L91_2 [.v (.pair (.int .i64) (.pair (.sl (.int .i64)) (.pair (.sl (.int .i64)) (.sl (.pair (.int .i64) (.pair .str (.pair (.int .i64) (.int .i64)))))))), .v .str] true [.sl (.int .i64)] f91.ntmps f91.results.toList (codeOf f91) = fun x => spec_l10Least x.1 x.2.1 := by kernel_rfl
theorem A91_ok : FnOk prog 91 A91 := by
  have h := fnOk_of_run (P := prog) (E := E91) (tysOk_of tyl_ok) E91_ok (L := L91_2) (ps := [.v (.pair (.int .i64) (.pair (.sl (.int .i64)) (.pair (.sl (.int .i64)) (.sl (.pair (.int .i64) (.pair .str (.pair (.int .i64) (.int .i64)))))))), .v .str]) (own := true) (outs := [.sl (.int .i64)]) func91 (c := codeOf f91) (by kernel_rfl) (codeOk_in (L := L91_2) (tysOk_of tyl_ok) E91_ok mixed (c := codeOf f91) (bs := [loopOf f91 3]) (by kernel_rfl) (allCons (loop91_3 rfl) allNil) (by kernel_rfl))
  rw [spec_l10Least_eq] at h
  exact h
/-! spec.SplitOf -/
noncomputable def E34 : Env := ⟨ty0, fun g => ifEq g 90 (some A90) (ifEq g 91 (some A91) (ifEq g 81 (some A81) (none))), fun _ => none, fun _ => none⟩
theorem E34_ok : FnsOk prog E34 := (oneFn A90_ok func90 (by kernel_rfl) (by kernel_rfl) (oneFn A91_ok func91 (by kernel_rfl) (by kernel_rfl) (oneFn A81_ok func81 (by kernel_rfl) (by kernel_rfl) (noFns _ _))))
noncomputable def L34_0 : Nat → Option LoopD := fun _ => none
def sh34_10 : List Fm := [d, d, .box 100200 [.val (.int .i64), .val (.sl (.int .i64)), .val (.sl (.int .i64)), .val (.sl (.pair (.int .i64) (.pair .str (.pair (.int .i64) (.int .i64)))))], d, d, d, .cell (.own .str 100600 false), .cell (.val .str), .cell (.val (.int .i64)), .cell (.val (.int .i64)), d, d, d, d, d, d, d, d, d, d, d, d, d, d, d, d, d, d, d, d, d, d, d, d, d, d, d, d, d, d, d, d, d, d, d, d, d, d, d, d, d, d, d, d, d, d, d, d, d, d, d, d, d, d, d, d, d, d, d, d, d, d, d, d]
def xs34_10 : List (Ex × List Fm) := [(.exit 2, [d, d, .box 100200 [.val (.int .i64), .val (.sl (.int .i64)), .val (.sl (.int .i64)), .val (.sl (.pair (.int .i64) (.pair .str (.pair (.int .i64) (.int .i64)))))], d, d, d, .cell (.own .str 100600 false), .cell (.val .str), d, d, d, d, d, d, d, d, d, d, d, d, d, d, d, d, d, d, d, d, d, d, d, d, d, d, d, d, d, d, d, d, d, d, d, d, d, d, d, d, d, d, d, d, d, d, d, d, d, d, d, d, d, d, d, d, d, d, d, d, d, d, d, d, d, d])]
noncomputable def spec_SplitOf_l10 : ((Int × (List Int) × (List Int) × (List (Int × (ByteArray × (Int × Int)))) × Unit) × (List ByteArray) × ByteArray × Int × Int × Unit) → Option (((Int × (List Int) × (List Int) × (List (Int × (ByteArray × (Int × Int)))) × Unit) × (List ByteArray) × ByteArray × Int × Int × Unit) ⊕ (((Int × (List Int) × (List Int) × (List (Int × (ByteArray × (Int × Int)))) × Unit) × (List ByteArray) × ByteArray × Unit))) := fun ((v2_0, v2_1, v2_2, v2_3, _), v6, v7, v8, v9, _) =>
  bif (decide (v9 ≤ (((ByteArray.size v7) : Nat) : Int))) then
    if (((0 : Int) ≤ v9) ∧ (v9 ≤ (((ByteArray.size v7) : Nat) : Int))) then
      Option.bind (spec_l10Least (v2_0, v2_1, v2_2, v2_3) (ByteArray.extract v7 (Int.toNat v9) (ByteArray.size v7))) fun r0 =>
        if (((0 : Int) ≤ (IntKind.wrap .i64 ((((ByteArray.size v7) : Nat) : Int) - v9))) ∧ ((IntKind.wrap .i64 ((((ByteArray.size v7) : Nat) : Int) - v9)) < (((List.length r0) : Nat) : Int))) then
          if (((0 : Int) ≤ v9) ∧ (v9 ≤ (((ByteArray.size v7) : Nat) : Int))) then
            Option.bind (spec_l4Cost (v2_0, v2_1, v2_2, v2_3) (ByteArray.extract v7 0 (Int.toNat v9))) fun r1 =>
              bif (decide (r1 < (1000000 : Int))) then
                bif ((List.getD r0 (0 + (Int.toNat (IntKind.wrap .i64 ((((ByteArray.size v7) : Nat) : Int) - v9)))) (0 : Int)) == (IntKind.wrap .i64 (v8 - (1 : Int)))) then
                  if (((0 : Int) ≤ v9) ∧ (v9 ≤ (((ByteArray.size v7) : Nat) : Int))) then
                    if (((0 + (List.length v6)) = (List.length v6)) ∧ ((((List.length v6) + (List.length (List.take 1 (List.drop 0 [(ByteArray.extract v7 0 (Int.toNat v9))])))) * 16) ≤ 140737488355328)) then
                      if (((0 : Int) ≤ v9) ∧ (v9 ≤ (((ByteArray.size v7) : Nat) : Int))) then
                        some (Sum.inr ((v2_0, v2_1, v2_2, v2_3, ()), (List.take ((List.length v6) + (List.length (List.take 1 (List.drop 0 [(ByteArray.extract v7 0 (Int.toNat v9))])))) (List.drop 0 ((List.drop 0 v6) ++ (List.take 1 (List.drop 0 [(ByteArray.extract v7 0 (Int.toNat v9))]))))), (ByteArray.extract v7 (Int.toNat v9) (ByteArray.size v7)), ()))
                      else
                        none
                    else
                      none
                  else
                    none
                else
                  some (Sum.inl ((v2_0, v2_1, v2_2, v2_3, ()), (List.take (List.length v6) (List.drop 0 v6)), v7, v8, (IntKind.wrap .i64 (v9 + (1 : Int))), ()))
              else
                some (Sum.inl ((v2_0, v2_1, v2_2, v2_3, ()), (List.take (List.length v6) (List.drop 0 v6)), v7, v8, (IntKind.wrap .i64 (v9 + (1 : Int))), ()))
          else
            none
        else
          none
    else
      none
  else
    some (Sum.inr ((v2_0, v2_1, v2_2, v2_3, ()), (List.take (List.length v6) (List.drop 0 v6)), v7, ()))
theorem spec_SplitOf_l10_eq : loopStep E34 L34_0 (loopOf f34 10) sh34_10 xs34_10 = spec_SplitOf_l10 := by kernel_rfl
theorem loop34_10 {L : Nat → Option LoopD} (h : L 10 = some ⟨sh34_10, xs34_10, spec_SplitOf_l10⟩) : LoopOk prog L (loopOf f34 10) :=
  loopOk (tysOk_of tyl_ok) E34_ok (codeOk_in (L := L34_0) (tysOk_of tyl_ok) E34_ok mixed (c := loopOf f34 10) (bs := []) (by kernel_rfl) allNil (by kernel_rfl)) (by kernel_rfl) (by kernel_rfl) spec_SplitOf_l10_eq (by rw [show firstId (loopOf f34 10) = 10 from by kernel_rfl]; exact h)
noncomputable def L34_1 : Nat → Option LoopD := fun n => ifEq n 10 (some ⟨sh34_10, xs34_10, spec_SplitOf_l10⟩) (L34_0 n)
def sh34_5 : List Fm := [d, d, .box 100200 [.val (.int .i64), .val (.sl (.int .i64)), .val (.sl (.int .i64)), .val (.sl (.pair (.int .i64) (.pair .str (.pair (.int .i64) (.int .i64)))))], d, d, d, .cell (.own .str 100600 false), .cell (.val .str), d, d, d, d, d, d, d, d, d, d, d, d, d, d, d, d, d, d, d, d, d, d, d, d, d, d, d, d, d, d, d, d, d, d, d, d, d, d, d, d, d, d, d, d, d, d, d, d, d, d, d, d, d, d, d, d, d, d, d, d, d, d, d, d, d, d]
def xs34_5 : List (Ex × List Fm) := [(.ret, [d, d, d, d, .cell (.own .str 100400 false), .cell (.val .bool), d, d, d, d, d, d, d, d, d, d, d, d, d, d, d, d, d, d, d, d, d, d, d, d, d, d, d, d, d, d, d, d, d, d, d, d, d, d, d, d, d, d, d, d, d, d, d, d, d, d, d, d, d, d, d, d, d, d, d, d, d, d, d, d, d, d, d, d]), (.exit 0, [d, d, d, d, d, d, .cell (.own .str 100600 false), d, d, d, d, d, d, d, d, d, d, d, d, d, d, d, d, d, d, d, d, d, d, d, d, d, d, d, d, d, d, d, d, d, d, d, d, d, d, d, d, d, d, d, d, d, d, d, d, d, d, d, d, d, d, d, d, d, d, d, d, d, d, d, d, d, d, d])]
noncomputable def spec_SplitOf_l5 : ((Int × (List Int) × (List Int) × (List (Int × (ByteArray × (Int × Int)))) × Unit) × (List ByteArray) × ByteArray × Unit) → Option (((Int × (List Int) × (List Int) × (List (Int × (ByteArray × (Int × Int)))) × Unit) × (List ByteArray) × ByteArray × Unit) ⊕ (((List ByteArray) × Bool × Unit) ⊕ ((List ByteArray) × Unit))) := fun ((v2_0, v2_1, v2_2, v2_3, _), v6, v7, _) =>
  bif (!((ByteArray.toList v7) == (ByteArray.toList (⟨#[]⟩ : ByteArray)))) then
    Option.bind (spec_l10Least (v2_0, v2_1, v2_2, v2_3) v7) fun r0 =>
      if (((0 : Int) ≤ (((ByteArray.size v7) : Nat) : Int)) ∧ ((((ByteArray.size v7) : Nat) : Int) < (((List.length r0) : Nat) : Int))) then
        bif ((List.getD r0 (0 + (Int.toNat (((ByteArray.size v7) : Nat) : Int))) (0 : Int)) == (1000000 : Int)) then
          some (Sum.inr (Sum.inl ((List.take 0 (List.drop 0 [])), false, ())))
        else
          Option.bind (loopF spec_SplitOf_l10 ((v2_0, v2_1, v2_2, v2_3, ()), (List.take (List.length v6) (List.drop 0 v6)), v7, (List.getD r0 (0 + (Int.toNat (((ByteArray.size v7) : Nat) : Int))) (0 : Int)), (1 : Int), ())) fun ((r1, r2, r3, r4, _), r5, r6, _) =>
            some (Sum.inl ((r1, r2, r3, r4, ()), (List.take (List.length r5) (List.drop 0 r5)), r6, ()))
      else
        none
  else
    some (Sum.inr (Sum.inr ((List.take (List.length v6) (List.drop 0 v6)), ())))
theorem spec_SplitOf_l5_eq : loopStep E34 L34_1 (loopOf f34 5) sh34_5 xs34_5 = spec_SplitOf_l5 := by kernel_rfl
theorem loop34_5 {L : Nat → Option LoopD} (h : L 5 = some ⟨sh34_5, xs34_5, spec_SplitOf_l5⟩) : LoopOk prog L (loopOf f34 5) :=
  loopOk (tysOk_of tyl_ok) E34_ok (codeOk_in (L := L34_1) (tysOk_of tyl_ok) E34_ok mixed (c := loopOf f34 5) (bs := [loopOf f34 10]) (by kernel_rfl) (allCons (loop34_10 rfl) allNil) (by kernel_rfl)) (by kernel_rfl) (by kernel_rfl) spec_SplitOf_l5_eq (by rw [show firstId (loopOf f34 5) = 5 from by kernel_rfl]; exact h)
noncomputable def L34_2 : Nat → Option LoopD := fun n => ifEq n 5 (some ⟨sh34_5, xs34_5, spec_SplitOf_l5⟩) (L34_1 n)
noncomputable def spec_SplitOf : (Int × ((List Int) × ((List Int) × (List (Int × (ByteArray × (Int × Int))))))) → ByteArray → Option ((List ByteArray) × Bool) := fun (a0_0, a0_1, a0_2, a0_3) a1 =>
  Option.bind (spec_l4Asked (a0_0, a0_1, a0_2, a0_3) a1) fun r0 =>
    bif (!r0) then
      some ((List.take 0 (List.drop 0 [])), false)
    else
      bif (decide ((((ByteArray.size a1) : Nat) : Int) > (40 : Int))) then
        some ((List.take 0 (List.drop 0 [])), false)
      else
        Option.bind (loopF spec_SplitOf_l5 ((a0_0, a0_1, a0_2, a0_3, ()), (List.take 0 (List.drop 0 [])), a1, ())) fun r1 =>
          (match r1 with
          | .inl (d2, d3, _) =>
              some ((List.take (List.length d2) (List.drop 0 d2)), d3)
          | .inr (d4, _) =>
              some ((List.take (List.length d4) (List.drop 0 d4)), true))
noncomputable def A34 : FnA := ⟨[.v (.pair (.int .i64) (.pair (.sl (.int .i64)) (.pair (.sl (.int .i64)) (.sl (.pair (.int .i64) (.pair .str (.pair (.int .i64) (.int .i64)))))))), .v .str], true, [.sl .str, .bool], fun x => spec_SplitOf x.1 x.2.1⟩
theorem spec_SplitOf_eq : fnF E34 L34_2 [.v (.pair (.int .i64) (.pair (.sl (.int .i64)) (.pair (.sl (.int .i64)) (.sl (.pair (.int .i64) (.pair .str (.pair (.int .i64) (.int .i64)))))))), .v .str] true [.sl .str, .bool] f34.ntmps f34.results.toList (codeOf f34) = fun x => spec_SplitOf x.1 x.2.1 := by kernel_rfl
theorem A34_ok : FnOk prog 34 A34 := by
  have h := fnOk_of_run (P := prog) (E := E34) (tysOk_of tyl_ok) E34_ok (L := L34_2) (ps := [.v (.pair (.int .i64) (.pair (.sl (.int .i64)) (.pair (.sl (.int .i64)) (.sl (.pair (.int .i64) (.pair .str (.pair (.int .i64) (.int .i64)))))))), .v .str]) (own := true) (outs := [.sl .str, .bool]) func34 (c := codeOf f34) (by kernel_rfl) (codeOk_in (L := L34_2) (tysOk_of tyl_ok) E34_ok mixed (c := codeOf f34) (bs := [loopOf f34 5]) (by kernel_rfl) (allCons (loop34_5 rfl) allNil) (by kernel_rfl))
  rw [spec_SplitOf_eq] at h
  exact h
/-! impl.factors -/
noncomputable def E92 : Env := ⟨ty0, fun g => ifEq g 134 (some A134) (ifEq g 41 (some A41) (none)), fun _ => none, fun _ => none⟩
theorem E92_ok : FnsOk prog E92 := (oneFn A134_ok func134 (by kernel_rfl) (by kernel_rfl) (oneFn A41_ok func41 (by kernel_rfl) (by kernel_rfl) (noFns _ _)))
noncomputable def L92_0 : Nat → Option LoopD := fun _ => none
def sh92_7 : List Fm := [d, .cell (.val .str), .box 100200 [.val (.int .i64), .val (.sl (.int .i64)), .val (.sl (.int .i64)), .val (.sl (.pair (.int .i64) (.pair .str (.pair (.int .i64) (.int .i64)))))], d, d, .cell (.own (.int .i64) 100500 false), .cell (.val (.int .i64)), .cell (.val (.int .i64)), d, d, d, d, d, d, d, d, d, d, d, d, d, d, d, d, d, d, d, d, d, d, d, d, d, d, d, d, d, d, d, d, d, d, d, d, d, d, d, d, d, d, d, d, d, d, d, d, d, d, d, d]
def xs92_7 : List (Ex × List Fm) := [(.exit 2, [d, .cell (.val .str), .box 100200 [.val (.int .i64), .val (.sl (.int .i64)), .val (.sl (.int .i64)), .val (.sl (.pair (.int .i64) (.pair .str (.pair (.int .i64) (.int .i64)))))], d, d, .cell (.own (.int .i64) 100500 false), .cell (.val (.int .i64)), d, d, d, d, d, d, d, d, d, d, d, d, d, d, d, d, d, d, d, d, d, d, d, d, d, d, d, d, d, d, d, d, d, d, d, d, d, d, d, d, d, d, d, d, d, d, d, d, d, d, d, d, d])]
noncomputable def impl_factors_l7 : (ByteArray × (Int × (List Int) × (List Int) × (List (Int × (ByteArray × (Int × Int)))) × Unit) × (List Int) × Int × Int × Unit) → Option ((ByteArray × (Int × (List Int) × (List Int) × (List (Int × (ByteArray × (Int × Int)))) × Unit) × (List Int) × Int × Int × Unit) ⊕ ((ByteArray × (Int × (List Int) × (List Int) × (List (Int × (ByteArray × (Int × Int)))) × Unit) × (List Int) × Int × Unit))) := fun (v1, (v2_0, v2_1, v2_2, v2_3, _), v5, v6, v7, _) =>
  bif (decide (v7 ≤ (((ByteArray.size v1) : Nat) : Int))) then
    if (((0 : Int) ≤ v7) ∧ (v7 < (((List.length v5) : Nat) : Int))) then
      bif (decide ((List.getD v5 (0 + (Int.toNat v7)) (0 : Int)) < (1000000 : Int))) then
        if (((0 : Int) ≤ v6) ∧ ((v6 ≤ v7) ∧ (v7 ≤ (((ByteArray.size v1) : Nat) : Int)))) then
          Option.bind (impl_CostOf (v2_0, v2_1, v2_2, v2_3) (ByteArray.extract v1 (Int.toNat v6) (Int.toNat v7))) fun r0 =>
            bif (decide (r0 < (1000000 : Int))) then
              if (((0 : Int) ≤ v6) ∧ (v6 < (((List.length v5) : Nat) : Int))) then
                if (((0 : Int) ≤ v7) ∧ (v7 < (((List.length v5) : Nat) : Int))) then
                  if (((0 : Int) ≤ v6) ∧ (v6 < (((List.length v5) : Nat) : Int))) then
                    some (Sum.inl (v1, (v2_0, v2_1, v2_2, v2_3, ()), (List.take (List.length v5) (List.drop 0 (List.set v5 (0 + (Int.toNat v6)) (if ((IntKind.wrap .i64 ((List.getD v5 (0 + (Int.toNat v7)) (0 : Int)) + (1 : Int))) < (List.getD v5 (0 + (Int.toNat v6)) (0 : Int))) then (IntKind.wrap .i64 ((List.getD v5 (0 + (Int.toNat v7)) (0 : Int)) + (1 : Int))) else (List.getD v5 (0 + (Int.toNat v6)) (0 : Int)))))), v6, (IntKind.wrap .i64 (v7 + (1 : Int))), ()))
                  else
                    none
                else
                  none
              else
                none
            else
              some (Sum.inl (v1, (v2_0, v2_1, v2_2, v2_3, ()), (List.take (List.length v5) (List.drop 0 v5)), v6, (IntKind.wrap .i64 (v7 + (1 : Int))), ()))
        else
          none
      else
        some (Sum.inl (v1, (v2_0, v2_1, v2_2, v2_3, ()), (List.take (List.length v5) (List.drop 0 v5)), v6, (IntKind.wrap .i64 (v7 + (1 : Int))), ()))
    else
      none
  else
    some (Sum.inr (v1, (v2_0, v2_1, v2_2, v2_3, ()), (List.take (List.length v5) (List.drop 0 v5)), v6, ()))
theorem impl_factors_l7_eq : loopStep E92 L92_0 (loopOf f92 7) sh92_7 xs92_7 = impl_factors_l7 := by kernel_rfl
theorem loop92_7 {L : Nat → Option LoopD} (h : L 7 = some ⟨sh92_7, xs92_7, impl_factors_l7⟩) : LoopOk prog L (loopOf f92 7) :=
  loopOk (tysOk_of tyl_ok) E92_ok (codeOk_in (L := L92_0) (tysOk_of tyl_ok) E92_ok mixed (c := loopOf f92 7) (bs := []) (by kernel_rfl) allNil (by kernel_rfl)) (by kernel_rfl) (by kernel_rfl) impl_factors_l7_eq (by rw [show firstId (loopOf f92 7) = 7 from by kernel_rfl]; exact h)
noncomputable def L92_1 : Nat → Option LoopD := fun n => ifEq n 7 (some ⟨sh92_7, xs92_7, impl_factors_l7⟩) (L92_0 n)
def sh92_4 : List Fm := [d, .cell (.val .str), .box 100200 [.val (.int .i64), .val (.sl (.int .i64)), .val (.sl (.int .i64)), .val (.sl (.pair (.int .i64) (.pair .str (.pair (.int .i64) (.int .i64)))))], d, d, .cell (.own (.int .i64) 100500 false), .cell (.val (.int .i64)), d, d, d, d, d, d, d, d, d, d, d, d, d, d, d, d, d, d, d, d, d, d, d, d, d, d, d, d, d, d, d, d, d, d, d, d, d, d, d, d, d, d, d, d, d, d, d, d, d, d, d, d, d]
def xs92_4 : List (Ex × List Fm) := [(.exit 0, [d, d, d, d, d, .cell (.own (.int .i64) 100500 false), d, d, d, d, d, d, d, d, d, d, d, d, d, d, d, d, d, d, d, d, d, d, d, d, d, d, d, d, d, d, d, d, d, d, d, d, d, d, d, d, d, d, d, d, d, d, d, d, d, d, d, d, d, d])]
noncomputable def impl_factors_l4 : (ByteArray × (Int × (List Int) × (List Int) × (List (Int × (ByteArray × (Int × Int)))) × Unit) × (List Int) × Int × Unit) → Option ((ByteArray × (Int × (List Int) × (List Int) × (List (Int × (ByteArray × (Int × Int)))) × Unit) × (List Int) × Int × Unit) ⊕ (((List Int) × Unit))) := fun (v1, (v2_0, v2_1, v2_2, v2_3, _), v5, v6, _) =>
  bif (decide (v6 ≥ (0 : Int))) then
    Option.bind (loopF impl_factors_l7 (v1, (v2_0, v2_1, v2_2, v2_3, ()), (List.take (List.length v5) (List.drop 0 v5)), v6, (IntKind.wrap .i64 (v6 + (1 : Int))), ())) fun (r0, (r1, r2, r3, r4, _), r5, r6, _) =>
      some (Sum.inl (r0, (r1, r2, r3, r4, ()), (List.take (List.length r5) (List.drop 0 r5)), (IntKind.wrap .i64 (r6 - (1 : Int))), ()))
  else
    some (Sum.inr ((List.take (List.length v5) (List.drop 0 v5)), ()))
theorem impl_factors_l4_eq : loopStep E92 L92_1 (loopOf f92 4) sh92_4 xs92_4 = impl_factors_l4 := by kernel_rfl
theorem loop92_4 {L : Nat → Option LoopD} (h : L 4 = some ⟨sh92_4, xs92_4, impl_factors_l4⟩) : LoopOk prog L (loopOf f92 4) :=
  loopOk (tysOk_of tyl_ok) E92_ok (codeOk_in (L := L92_1) (tysOk_of tyl_ok) E92_ok mixed (c := loopOf f92 4) (bs := [loopOf f92 7]) (by kernel_rfl) (allCons (loop92_7 rfl) allNil) (by kernel_rfl)) (by kernel_rfl) (by kernel_rfl) impl_factors_l4_eq (by rw [show firstId (loopOf f92 4) = 4 from by kernel_rfl]; exact h)
noncomputable def L92_2 : Nat → Option LoopD := fun n => ifEq n 4 (some ⟨sh92_4, xs92_4, impl_factors_l4⟩) (L92_1 n)
noncomputable def impl_factors : (Int × ((List Int) × ((List Int) × (List (Int × (ByteArray × (Int × Int))))))) → ByteArray → Option ((List Int)) := fun (a0_0, a0_1, a0_2, a0_3) a1 =>
  Option.bind (slices_Repeat (List.take 1 (List.drop 0 [(1000000 : Int)])) (IntKind.wrap .i64 ((((ByteArray.size a1) : Nat) : Int) + (1 : Int)))) fun r0 =>
    if (((0 : Int) ≤ (((ByteArray.size a1) : Nat) : Int)) ∧ ((((ByteArray.size a1) : Nat) : Int) < (((List.length r0) : Nat) : Int))) then
      Option.bind (loopF impl_factors_l4 (a1, (a0_0, a0_1, a0_2, a0_3, ()), (List.take (List.length r0) (List.drop 0 (List.set r0 (0 + (Int.toNat (((ByteArray.size a1) : Nat) : Int))) (0 : Int)))), (IntKind.wrap .i64 ((((ByteArray.size a1) : Nat) : Int) - (1 : Int))), ())) fun (r1, _) =>
        some (List.take (List.length r1) (List.drop 0 r1))
    else
      none
noncomputable def A92 : FnA := ⟨[.v (.pair (.int .i64) (.pair (.sl (.int .i64)) (.pair (.sl (.int .i64)) (.sl (.pair (.int .i64) (.pair .str (.pair (.int .i64) (.int .i64)))))))), .v .str], true, [.sl (.int .i64)], fun x => impl_factors x.1 x.2.1⟩
theorem impl_factors_eq : fnF E92 L92_2 [.v (.pair (.int .i64) (.pair (.sl (.int .i64)) (.pair (.sl (.int .i64)) (.sl (.pair (.int .i64) (.pair .str (.pair (.int .i64) (.int .i64)))))))), .v .str] true [.sl (.int .i64)] f92.ntmps f92.results.toList (codeOf f92) = fun x => impl_factors x.1 x.2.1 := by kernel_rfl
theorem A92_ok : FnOk prog 92 A92 := by
  have h := fnOk_of_run (P := prog) (E := E92) (tysOk_of tyl_ok) E92_ok (L := L92_2) (ps := [.v (.pair (.int .i64) (.pair (.sl (.int .i64)) (.pair (.sl (.int .i64)) (.sl (.pair (.int .i64) (.pair .str (.pair (.int .i64) (.int .i64)))))))), .v .str]) (own := true) (outs := [.sl (.int .i64)]) func92 (c := codeOf f92) (by kernel_rfl) (codeOk_in (L := L92_2) (tysOk_of tyl_ok) E92_ok mixed (c := codeOf f92) (bs := [loopOf f92 4]) (by kernel_rfl) (allCons (loop92_4 rfl) allNil) (by kernel_rfl))
  rw [impl_factors_eq] at h
  exact h
/-! impl.FactorsOf -/
noncomputable def E43 : Env := ⟨ty0, fun g => ifEq g 60 (some A60) (ifEq g 95 (some A95) (ifEq g 92 (some A92) (none))), fun _ => none, fun _ => none⟩
theorem E43_ok : FnsOk prog E43 := (oneFn A60_ok func60 (by kernel_rfl) (by kernel_rfl) (oneFn A95_ok func95 (by kernel_rfl) (by kernel_rfl) (oneFn A92_ok func92 (by kernel_rfl) (by kernel_rfl) (noFns _ _))))
noncomputable def L43_0 : Nat → Option LoopD := fun _ => none
noncomputable def impl_FactorsOf : (Int × ((List Int) × ((List Int) × (List (Int × (ByteArray × (Int × Int))))))) → ByteArray → Option (Int) := fun (a0_0, a0_1, a0_2, a0_3) a1 =>
  Option.bind (impl_AutomatonValid (a0_0, a0_1, a0_2, a0_3)) fun r0 =>
    bif (!r0) then
      some (-1 : Int)
    else
      Option.bind (impl_WordValid a1) fun r1 =>
        bif (!r1) then
          some (-1 : Int)
        else
          bif (decide ((((ByteArray.size a1) : Nat) : Int) > (40 : Int))) then
            some (-1 : Int)
          else
            Option.bind (impl_factors (a0_0, a0_1, a0_2, a0_3) a1) fun r2 =>
              if (((0 : Int) ≤ (0 : Int)) ∧ ((0 : Int) < (((List.length r2) : Nat) : Int))) then
                some (List.getD r2 (0 + (Int.toNat (0 : Int))) (0 : Int))
              else
                none
noncomputable def A43 : FnA := ⟨[.v (.pair (.int .i64) (.pair (.sl (.int .i64)) (.pair (.sl (.int .i64)) (.sl (.pair (.int .i64) (.pair .str (.pair (.int .i64) (.int .i64)))))))), .v .str], true, [.int .i64], fun x => impl_FactorsOf x.1 x.2.1⟩
theorem impl_FactorsOf_eq : fnF E43 L43_0 [.v (.pair (.int .i64) (.pair (.sl (.int .i64)) (.pair (.sl (.int .i64)) (.sl (.pair (.int .i64) (.pair .str (.pair (.int .i64) (.int .i64)))))))), .v .str] true [.int .i64] f43.ntmps f43.results.toList (codeOf f43) = fun x => impl_FactorsOf x.1 x.2.1 := by kernel_rfl
theorem A43_ok : FnOk prog 43 A43 := by
  have h := fnOk_of_run (P := prog) (E := E43) (tysOk_of tyl_ok) E43_ok (L := L43_0) (ps := [.v (.pair (.int .i64) (.pair (.sl (.int .i64)) (.pair (.sl (.int .i64)) (.sl (.pair (.int .i64) (.pair .str (.pair (.int .i64) (.int .i64)))))))), .v .str]) (own := true) (outs := [.int .i64]) func43 (c := codeOf f43) (by kernel_rfl) (codeOk_in (L := L43_0) (tysOk_of tyl_ok) E43_ok mixed (c := codeOf f43) (bs := []) (by kernel_rfl) allNil (by kernel_rfl))
  rw [impl_FactorsOf_eq] at h
  exact h
/-! impl.SplitOf -/
noncomputable def E35 : Env := ⟨ty0, fun g => ifEq g 43 (some A43) (ifEq g 92 (some A92) (ifEq g 41 (some A41) (none))), fun _ => none, fun _ => none⟩
theorem E35_ok : FnsOk prog E35 := (oneFn A43_ok func43 (by kernel_rfl) (by kernel_rfl) (oneFn A92_ok func92 (by kernel_rfl) (by kernel_rfl) (oneFn A41_ok func41 (by kernel_rfl) (by kernel_rfl) (noFns _ _))))
noncomputable def L35_0 : Nat → Option LoopD := fun _ => none
def sh35_9 : List Fm := [d, .cell (.val .str), .box 100200 [.val (.int .i64), .val (.sl (.int .i64)), .val (.sl (.int .i64)), .val (.sl (.pair (.int .i64) (.pair .str (.pair (.int .i64) (.int .i64)))))], d, d, d, d, .cell (.own (.int .i64) 100700 false), .cell (.own .str 100800 false), .cell (.val (.int .i64)), .cell (.val (.int .i64)), d, d, d, d, d, d, d, d, d, d, d, d, d, d, d, d, d, d, d, d, d, d, d, d, d, d, d, d, d, d, d, d, d, d, d, d, d, d, d, d, d, d, d, d, d, d, d, d, d]
def xs35_9 : List (Ex × List Fm) := [(.exit 2, [d, .cell (.val .str), .box 100200 [.val (.int .i64), .val (.sl (.int .i64)), .val (.sl (.int .i64)), .val (.sl (.pair (.int .i64) (.pair .str (.pair (.int .i64) (.int .i64)))))], d, d, d, d, .cell (.own (.int .i64) 100700 false), .cell (.own .str 100800 false), .cell (.val (.int .i64)), .cell (.val (.int .i64)), d, d, d, d, d, d, d, d, d, d, d, d, d, d, d, d, d, d, d, d, d, d, d, d, d, d, d, d, d, d, d, d, d, d, d, d, d, d, d, d, d, d, d, d, d, d, d, d, d])]
noncomputable def impl_SplitOf_l9 : (ByteArray × (Int × (List Int) × (List Int) × (List (Int × (ByteArray × (Int × Int)))) × Unit) × (List Int) × (List ByteArray) × Int × Int × Unit) → Option ((ByteArray × (Int × (List Int) × (List Int) × (List (Int × (ByteArray × (Int × Int)))) × Unit) × (List Int) × (List ByteArray) × Int × Int × Unit) ⊕ ((ByteArray × (Int × (List Int) × (List Int) × (List (Int × (ByteArray × (Int × Int)))) × Unit) × (List Int) × (List ByteArray) × Int × Int × Unit))) := fun (v1, (v2_0, v2_1, v2_2, v2_3, _), v7, v8, v9, v10, _) =>
  if (((0 : Int) ≤ v10) ∧ (v10 < (((List.length v7) : Nat) : Int))) then
    if (((0 : Int) ≤ v9) ∧ (v9 < (((List.length v7) : Nat) : Int))) then
      bif ((List.getD v7 (0 + (Int.toNat v10)) (0 : Int)) != (IntKind.wrap .i64 ((List.getD v7 (0 + (Int.toNat v9)) (0 : Int)) - (1 : Int)))) then
        some (Sum.inl (v1, (v2_0, v2_1, v2_2, v2_3, ()), (List.take (List.length v7) (List.drop 0 v7)), (List.take (List.length v8) (List.drop 0 v8)), v9, (IntKind.wrap .i64 (v10 + (1 : Int))), ()))
      else
        if (((0 : Int) ≤ v9) ∧ ((v9 ≤ v10) ∧ (v10 ≤ (((ByteArray.size v1) : Nat) : Int)))) then
          Option.bind (impl_CostOf (v2_0, v2_1, v2_2, v2_3) (ByteArray.extract v1 (Int.toNat v9) (Int.toNat v10))) fun r0 =>
            bif (r0 == (1000000 : Int)) then
              some (Sum.inl (v1, (v2_0, v2_1, v2_2, v2_3, ()), (List.take (List.length v7) (List.drop 0 v7)), (List.take (List.length v8) (List.drop 0 v8)), v9, (IntKind.wrap .i64 (v10 + (1 : Int))), ()))
            else
              some (Sum.inr (v1, (v2_0, v2_1, v2_2, v2_3, ()), (List.take (List.length v7) (List.drop 0 v7)), (List.take (List.length v8) (List.drop 0 v8)), v9, v10, ()))
        else
          none
    else
      none
  else
    none
theorem impl_SplitOf_l9_eq : loopStep E35 L35_0 (loopOf f35 9) sh35_9 xs35_9 = impl_SplitOf_l9 := by kernel_rfl
theorem loop35_9 {L : Nat → Option LoopD} (h : L 9 = some ⟨sh35_9, xs35_9, impl_SplitOf_l9⟩) : LoopOk prog L (loopOf f35 9) :=
  loopOk (tysOk_of tyl_ok) E35_ok (codeOk_in (L := L35_0) (tysOk_of tyl_ok) E35_ok mixed (c := loopOf f35 9) (bs := []) (by kernel_rfl) allNil (by kernel_rfl)) (by kernel_rfl) (by kernel_rfl) impl_SplitOf_l9_eq (by rw [show firstId (loopOf f35 9) = 9 from by kernel_rfl]; exact h)
noncomputable def L35_1 : Nat → Option LoopD := fun n => ifEq n 9 (some ⟨sh35_9, xs35_9, impl_SplitOf_l9⟩) (L35_0 n)
def sh35_7 : List Fm := [d, .cell (.val .str), .box 100200 [.val (.int .i64), .val (.sl (.int .i64)), .val (.sl (.int .i64)), .val (.sl (.pair (.int .i64) (.pair .str (.pair (.int .i64) (.int .i64)))))], d, d, d, d, .cell (.own (.int .i64) 100700 false), .cell (.own .str 100800 false), .cell (.val (.int .i64)), d, d, d, d, d, d, d, d, d, d, d, d, d, d, d, d, d, d, d, d, d, d, d, d, d, d, d, d, d, d, d, d, d, d, d, d, d, d, d, d, d, d, d, d, d, d, d, d, d, d]
def xs35_7 : List (Ex × List Fm) := [(.exit 0, [d, d, d, d, d, d, d, d, .cell (.own .str 100800 false), d, d, d, d, d, d, d, d, d, d, d, d, d, d, d, d, d, d, d, d, d, d, d, d, d, d, d, d, d, d, d, d, d, d, d, d, d, d, d, d, d, d, d, d, d, d, d, d, d, d, d])]
noncomputable def impl_SplitOf_l7 : (ByteArray × (Int × (List Int) × (List Int) × (List (Int × (ByteArray × (Int × Int)))) × Unit) × (List Int) × (List ByteArray) × Int × Unit) → Option ((ByteArray × (Int × (List Int) × (List Int) × (List (Int × (ByteArray × (Int × Int)))) × Unit) × (List Int) × (List ByteArray) × Int × Unit) ⊕ (((List ByteArray) × Unit))) := fun (v1, (v2_0, v2_1, v2_2, v2_3, _), v7, v8, v9, _) =>
  bif (decide (v9 < (((ByteArray.size v1) : Nat) : Int))) then
    Option.bind (loopF impl_SplitOf_l9 (v1, (v2_0, v2_1, v2_2, v2_3, ()), (List.take (List.length v7) (List.drop 0 v7)), (List.take (List.length v8) (List.drop 0 v8)), v9, (IntKind.wrap .i64 (v9 + (1 : Int))), ())) fun (r0, (r1, r2, r3, r4, _), r5, r6, r7, r8, _) =>
      if (((0 : Int) ≤ r7) ∧ ((r7 ≤ r8) ∧ (r8 ≤ (((ByteArray.size r0) : Nat) : Int)))) then
        if (((0 + (List.length r6)) = (List.length r6)) ∧ ((((List.length r6) + (List.length (List.take 1 (List.drop 0 [(ByteArray.extract r0 (Int.toNat r7) (Int.toNat r8))])))) * 16) ≤ 140737488355328)) then
          some (Sum.inl (r0, (r1, r2, r3, r4, ()), (List.take (List.length r5) (List.drop 0 r5)), (List.take ((List.length r6) + (List.length (List.take 1 (List.drop 0 [(ByteArray.extract r0 (Int.toNat r7) (Int.toNat r8))])))) (List.drop 0 ((List.drop 0 r6) ++ (List.take 1 (List.drop 0 [(ByteArray.extract r0 (Int.toNat r7) (Int.toNat r8))]))))), r8, ()))
        else
          none
      else
        none
  else
    some (Sum.inr ((List.take (List.length v8) (List.drop 0 v8)), ()))
theorem impl_SplitOf_l7_eq : loopStep E35 L35_1 (loopOf f35 7) sh35_7 xs35_7 = impl_SplitOf_l7 := by kernel_rfl
theorem loop35_7 {L : Nat → Option LoopD} (h : L 7 = some ⟨sh35_7, xs35_7, impl_SplitOf_l7⟩) : LoopOk prog L (loopOf f35 7) :=
  loopOk (tysOk_of tyl_ok) E35_ok (codeOk_in (L := L35_1) (tysOk_of tyl_ok) E35_ok mixed (c := loopOf f35 7) (bs := [loopOf f35 9]) (by kernel_rfl) (allCons (loop35_9 rfl) allNil) (by kernel_rfl)) (by kernel_rfl) (by kernel_rfl) impl_SplitOf_l7_eq (by rw [show firstId (loopOf f35 7) = 7 from by kernel_rfl]; exact h)
noncomputable def L35_2 : Nat → Option LoopD := fun n => ifEq n 7 (some ⟨sh35_7, xs35_7, impl_SplitOf_l7⟩) (L35_1 n)
noncomputable def impl_SplitOf : (Int × ((List Int) × ((List Int) × (List (Int × (ByteArray × (Int × Int))))))) → ByteArray → Option ((List ByteArray) × Bool) := fun (a0_0, a0_1, a0_2, a0_3) a1 =>
  Option.bind (impl_FactorsOf (a0_0, a0_1, a0_2, a0_3) a1) fun r0 =>
    bif (decide (r0 < (0 : Int))) then
      some ([], false)
    else
      bif (r0 == (1000000 : Int)) then
        some ([], false)
      else
        Option.bind (impl_factors (a0_0, a0_1, a0_2, a0_3) a1) fun r1 =>
          Option.bind (loopF impl_SplitOf_l7 (a1, (a0_0, a0_1, a0_2, a0_3, ()), (List.take (List.length r1) (List.drop 0 r1)), (List.take 0 (List.drop 0 [])), (0 : Int), ())) fun (r2, _) =>
            some ((List.take (List.length r2) (List.drop 0 r2)), true)
noncomputable def A35 : FnA := ⟨[.v (.pair (.int .i64) (.pair (.sl (.int .i64)) (.pair (.sl (.int .i64)) (.sl (.pair (.int .i64) (.pair .str (.pair (.int .i64) (.int .i64)))))))), .v .str], true, [.sl .str, .bool], fun x => impl_SplitOf x.1 x.2.1⟩
theorem impl_SplitOf_eq : fnF E35 L35_2 [.v (.pair (.int .i64) (.pair (.sl (.int .i64)) (.pair (.sl (.int .i64)) (.sl (.pair (.int .i64) (.pair .str (.pair (.int .i64) (.int .i64)))))))), .v .str] true [.sl .str, .bool] f35.ntmps f35.results.toList (codeOf f35) = fun x => impl_SplitOf x.1 x.2.1 := by kernel_rfl
theorem A35_ok : FnOk prog 35 A35 := by
  have h := fnOk_of_run (P := prog) (E := E35) (tysOk_of tyl_ok) E35_ok (L := L35_2) (ps := [.v (.pair (.int .i64) (.pair (.sl (.int .i64)) (.pair (.sl (.int .i64)) (.sl (.pair (.int .i64) (.pair .str (.pair (.int .i64) (.int .i64)))))))), .v .str]) (own := true) (outs := [.sl .str, .bool]) func35 (c := codeOf f35) (by kernel_rfl) (codeOk_in (L := L35_2) (tysOk_of tyl_ok) E35_ok mixed (c := codeOf f35) (bs := [loopOf f35 7]) (by kernel_rfl) (allCons (loop35_7 rfl) allNil) (by kernel_rfl))
  rw [impl_SplitOf_eq] at h
  exact h
/-! laws.FnExactSplitOf -/
noncomputable def E6 : Env := ⟨ty0, fun g => ifEq g 20 (some A20) (ifEq g 22 (some A22) (ifEq g 34 (some A34) (ifEq g 35 (some A35) (ifEq g 24 (some A24) (ifEq g 25 (some A25) (ifEq g 28 (some A28) (none))))))), fun g => ifEq g 26 (some A26) (ifEq g 27 (some A27) (none)), fun _ => none⟩
theorem E6_ok : FnsOk prog E6 := (oneFn A20_ok func20 (by kernel_rfl) (by kernel_rfl) (oneFn A22_ok func22 (by kernel_rfl) (by kernel_rfl) (oneFn A34_ok func34 (by kernel_rfl) (by kernel_rfl) (oneFn A35_ok func35 (by kernel_rfl) (by kernel_rfl) (oneFn A24_ok func24 (by kernel_rfl) (by kernel_rfl) (oneFn A25_ok func25 (by kernel_rfl) (by kernel_rfl) (oneFn A28_ok func28 (by kernel_rfl) (by kernel_rfl) (oneMs A26_ok (by kernel_rfl) func26 (by kernel_rfl) (by kernel_rfl) (oneMs A27_ok (by kernel_rfl) func27 (by kernel_rfl) (by kernel_rfl) (noFns _ _))))))))))
noncomputable def L6_0 : Nat → Option LoopD := fun _ => none
noncomputable def laws_FnExactSplitOf : (Int × ((List Int) × ((List Int) × (List (Int × (ByteArray × (Int × Int))))))) → ByteArray → Option (Bool) := fun (a0_0, a0_1, a0_2, a0_3) a1 =>
  bif (decide ((((ByteArray.size a1) : Nat) : Int) > (1048576 : Int))) then
    some true
  else
    Option.bind (laws_szAutomaton (a0_0, a0_1, a0_2, a0_3) (1048576 : Int)) fun r0 =>
      bif (decide (r0 < (0 : Int))) then
        some true
      else
        Option.bind (laws_toAutomaton (a0_0, a0_1, a0_2, a0_3)) fun (r1, r2, r3, r4) =>
          Option.bind (spec_SplitOf (r1, (List.take (List.length r2) (List.drop 0 r2)), (List.take (List.length r3) (List.drop 0 r3)), (List.take (List.length r4) (List.drop 0 r4))) a1) fun (r5, r6) =>
            Option.bind (laws_toAutomaton (a0_0, a0_1, a0_2, a0_3)) fun (r7, r8, r9, r10) =>
              Option.bind (impl_SplitOf (r7, (List.take (List.length r8) (List.drop 0 r8)), (List.take (List.length r9) (List.drop 0 r9)), (List.take (List.length r10) (List.drop 0 r10))) a1) fun (r11, r12) =>
                Option.bind (laws_eqStringS (List.take (List.length r11) (List.drop 0 r11)) (List.take (List.length r5) (List.drop 0 r5))) fun r13 =>
                  bif (!r13) then
                    some false
                  else
                    bif (!(r12 == r6)) then
                      some false
                    else
                      Option.bind (laws_toAutomaton (a0_0, a0_1, a0_2, a0_3)) fun (r14, r15, r16, r17) =>
                        Option.bind (laws_eqAutomaton (r7, (List.take (List.length r8) (List.drop 0 r8)), (List.take (List.length r9) (List.drop 0 r9)), (List.take (List.length r10) (List.drop 0 r10))) (r14, (List.take (List.length r15) (List.drop 0 r15)), (List.take (List.length r16) (List.drop 0 r16)), (List.take (List.length r17) (List.drop 0 r17)))) fun r18 =>
                          bif (!r18) then
                            some false
                          else
                            if ((List.length r8) = (List.length r8)) then
                              if ((List.length r9) = (List.length r9)) then
                                if ((List.length r10) = (List.length r10)) then
                                  Option.bind (laws_markAutomaton (r7, r8, r9, r10) (1 : Int)) fun (r19, (r20, r21, r22, r23), _) =>
                                    bif (decide (r19 < (0 : Int))) then
                                      some false
                                    else
                                      Option.bind (laws_eqStringS (List.take (List.length r11) (List.drop 0 r11)) (List.take (List.length r5) (List.drop 0 r5))) fun r24 =>
                                        bif (!r24) then
                                          some false
                                        else
                                          bif (!(r12 == r6)) then
                                            some false
                                          else
                                            if ((List.length r11) = (List.length r11)) then
                                              Option.bind (laws_markStringS r11 (1 : Int)) fun (r25, r26, _) =>
                                                Option.bind (laws_heldStringS (List.take (List.length r11) (List.drop 0 r26)) (1 : Int)) fun r27 =>
                                                  bif (decide (r27 < (0 : Int))) then
                                                    some false
                                                  else
                                                    bif (r27 != r25) then
                                                      some false
                                                    else
                                                      Option.bind (laws_toAutomaton (a0_0, a0_1, a0_2, a0_3)) fun (r28, r29, r30, r31) =>
                                                        Option.bind (impl_SplitOf (r28, (List.take (List.length r29) (List.drop 0 r29)), (List.take (List.length r30) (List.drop 0 r30)), (List.take (List.length r31) (List.drop 0 r31))) a1) fun (r32, r33) =>
                                                          Option.bind (laws_eqStringS (List.take (List.length r32) (List.drop 0 r32)) (List.take (List.length r5) (List.drop 0 r5))) fun r34 =>
                                                            bif (!r34) then
                                                              some false
                                                            else
                                                              bif (!(r33 == r6)) then
                                                                some false
                                                              else
                                                                Option.bind (laws_heldStringS (List.take (List.length r11) (List.drop 0 r26)) (1 : Int)) fun r35 =>
                                                                  bif (decide (r35 < (0 : Int))) then
                                                                    some false
                                                                  else
                                                                    bif (r35 != r25) then
                                                                      some false
                                                                    else
                                                                      some true
                                            else
                                              none
                                else
                                  none
                              else
                                none
                            else
                              none
noncomputable def A6 : FnA := ⟨[.v (.pair (.int .i64) (.pair (.sl (.int .i64)) (.pair (.sl (.int .i64)) (.sl (.pair (.int .i64) (.pair .str (.pair (.int .i64) (.int .i64)))))))), .v .str], true, [.bool], fun x => laws_FnExactSplitOf x.1 x.2.1⟩
theorem laws_FnExactSplitOf_eq : fnF E6 L6_0 [.v (.pair (.int .i64) (.pair (.sl (.int .i64)) (.pair (.sl (.int .i64)) (.sl (.pair (.int .i64) (.pair .str (.pair (.int .i64) (.int .i64)))))))), .v .str] true [.bool] f6.ntmps f6.results.toList (codeOf f6) = fun x => laws_FnExactSplitOf x.1 x.2.1 := by kernel_rfl
theorem A6_ok : FnOk prog 6 A6 := by
  have h := fnOk_of_run (P := prog) (E := E6) (tysOk_of tyl_ok) E6_ok (L := L6_0) (ps := [.v (.pair (.int .i64) (.pair (.sl (.int .i64)) (.pair (.sl (.int .i64)) (.sl (.pair (.int .i64) (.pair .str (.pair (.int .i64) (.int .i64)))))))), .v .str]) (own := true) (outs := [.bool]) func6 (c := codeOf f6) (by kernel_rfl) (codeOk_in (L := L6_0) (tysOk_of tyl_ok) E6_ok mixed (c := codeOf f6) (bs := []) (by kernel_rfl) allNil (by kernel_rfl))
  rw [laws_FnExactSplitOf_eq] at h
  exact h
end Go.Proofs.Ytooigaliccnldaa
