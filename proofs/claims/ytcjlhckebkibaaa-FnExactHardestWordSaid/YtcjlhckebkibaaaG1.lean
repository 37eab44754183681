/- What Go functions that the laws reach compute, and that they do: written by a program of this session. -/
import Derived.Test.YtcjlhckebkibaaaG0
import Derived.KernelRfl
set_option linter.unusedVariables false
namespace Go.Proofs.Ytcjlhckebkibaaa
open Go Go.Proofs.Ytcjlhckebkibaaa.Am Go.Proofs.Try
set_option maxRecDepth 100000
/-! spec.FactorsOf -/
noncomputable def E30 : Env := ⟨ty0, fun g => ifEq g 61 (some A61) (ifEq g 62 (some A62) (none))⟩
theorem E30_ok : FnsOk prog E30 := (oneFn A61_ok func61 (by kernel_rfl) (by kernel_rfl) (oneFn A62_ok func62 (by kernel_rfl) (by kernel_rfl) (noFns _ _)))
noncomputable def L30_0 : Nat → Option LoopD := fun _ => none
noncomputable def spec_FactorsOf : (Int × ((List Int) × ((List Int) × (List (Int × (ByteArray × (Int × Int))))))) → ByteArray → Option (Int) := fun (a0_0, a0_1, a0_2, a0_3) a1 =>
  Option.bind (spec_SplitOf (a0_0, a0_1, a0_2, a0_3) a1) fun (r0, r1) =>
    Option.bind (spec_l4Asked (a0_0, a0_1, a0_2, a0_3) a1) fun r2 =>
      bif (!r2) then
        some (-1 : Int)
      else
        bif (decide ((((ByteArray.size a1) : Nat) : Int) > (40 : Int))) then
          some (-1 : Int)
        else
          bif (!r1) then
            some (1000000 : Int)
          else
            some (((List.length r0) : Nat) : Int)
noncomputable def A30 : FnA := ⟨[.v (.pair (.int .i64) (.pair (.sl (.int .i64)) (.pair (.sl (.int .i64)) (.sl (.pair (.int .i64) (.pair .str (.pair (.int .i64) (.int .i64)))))))), .v .str], true, [.int .i64], fun x => spec_FactorsOf x.1 x.2.1⟩
theorem spec_FactorsOf_eq : fnF E30 L30_0 [.v (.pair (.int .i64) (.pair (.sl (.int .i64)) (.pair (.sl (.int .i64)) (.sl (.pair (.int .i64) (.pair .str (.pair (.int .i64) (.int .i64)))))))), .v .str] true [.int .i64] f30.ntmps f30.results.toList (codeOf f30) = fun x => spec_FactorsOf x.1 x.2.1 := by kernel_rfl
theorem A30_ok : FnOk prog 30 A30 := by
  have h := fnOk_of_run (P := prog) (E := E30) (tysOk_of tyl_ok) E30_ok (L := L30_0) (ps := [.v (.pair (.int .i64) (.pair (.sl (.int .i64)) (.pair (.sl (.int .i64)) (.sl (.pair (.int .i64) (.pair .str (.pair (.int .i64) (.int .i64)))))))), .v .str]) (own := true) (outs := [.int .i64]) func30 (c := codeOf f30) (by kernel_rfl) (codeOk_in (L := L30_0) (tysOk_of tyl_ok) E30_ok mixed (c := codeOf f30) (bs := []) (by kernel_rfl) allNil (by kernel_rfl))
  rw [spec_FactorsOf_eq] at h
  exact h
/-! impl.factors -/
noncomputable def E65 : Env := ⟨ty0, fun g => ifEq g 90 (some A90) (ifEq g 59 (some A59) (none))⟩
theorem E65_ok : FnsOk prog E65 := (oneFn A90_ok func90 (by kernel_rfl) (by kernel_rfl) (oneFn A59_ok func59 (by kernel_rfl) (by kernel_rfl) (noFns _ _)))
noncomputable def L65_0 : Nat → Option LoopD := fun _ => none
def sh65_7 : List Fm := [d, .cell (.val .str), .box 100200 [.val (.int .i64), .val (.sl (.int .i64)), .val (.sl (.int .i64)), .val (.sl (.pair (.int .i64) (.pair .str (.pair (.int .i64) (.int .i64)))))], d, d, .cell (.own (.int .i64) 100500 false), .cell (.val (.int .i64)), .cell (.val (.int .i64)), d, d, d, d, d, d, d, d, d, d, d, d, d, d, d, d, d, d, d, d, d, d, d, d, d, d, d, d, d, d, d, d, d, d, d, d, d, d, d, d, d, d, d, d, d, d, d, d, d, d, d, d]
def xs65_7 : List (Ex × List Fm) := [(.exit 2, [d, .cell (.val .str), .box 100200 [.val (.int .i64), .val (.sl (.int .i64)), .val (.sl (.int .i64)), .val (.sl (.pair (.int .i64) (.pair .str (.pair (.int .i64) (.int .i64)))))], d, d, .cell (.own (.int .i64) 100500 false), .cell (.val (.int .i64)), d, d, d, d, d, d, d, d, d, d, d, d, d, d, d, d, d, d, d, d, d, d, d, d, d, d, d, d, d, d, d, d, d, d, d, d, d, d, d, d, d, d, d, d, d, d, d, d, d, d, d, d, d])]
noncomputable def impl_factors_l7 : (ByteArray × (Int × (List Int) × (List Int) × (List (Int × (ByteArray × (Int × Int)))) × Unit) × (List Int) × Int × Int × Unit) → Option ((ByteArray × (Int × (List Int) × (List Int) × (List (Int × (ByteArray × (Int × Int)))) × Unit) × (List Int) × Int × Int × Unit) ⊕ ((ByteArray × (Int × (List Int) × (List Int) × (List (Int × (ByteArray × (Int × Int)))) × Unit) × (List Int) × Int × Unit))) := fun (v1, (v2_0, v2_1, v2_2, v2_3, _), v5, v6, v7, _) =>
  bif (decide (v7 ≤ (((ByteArray.size v1) : Nat) : Int))) then
    if (((0 : Int) ≤ v7) ∧ (v7 < (((List.length v5) : Nat) : Int))) then
      bif (decide ((List.getD v5 (0 + (Int.toNat v7)) (0 : Int)) < (1000000 : Int))) then
        if (((0 : Int) ≤ v6) ∧ ((v6 ≤ v7) ∧ (v7 ≤ (((ByteArray.size v1) : Nat) : Int)))) then
          Option.bind (impl_CostOf (v2_0, v2_1, v2_2, v2_3) (ByteArray.extract v1 (Int.toNat v6) (Int.toNat v7))) fun r0 =>
            bif (decide (r0 < (1000000 : Int))) then
              if (((0 : Int) ≤ v6) ∧ (v6 < (((List.length v5) : Nat) : Int))) then
                if (((0 : Int) ≤ v7) ∧ (v7 < (((List.length v5) : Nat) : Int))) then
                  if (((0 : Int) ≤ v6) ∧ (v6 < (((List.length v5) : Nat) : Int))) then
                    some (Sum.inl (v1, (v2_0, v2_1, v2_2, v2_3, ()), (List.take (List.length v5) (List.drop 0 (List.set v5 (0 + (Int.toNat v6)) (if ((IntKind.wrap .i64 ((List.getD v5 (0 + (Int.toNat v7)) (0 : Int)) + (1 : Int))) < (List.getD v5 (0 + (Int.toNat v6)) (0 : Int))) then (IntKind.wrap .i64 ((List.getD v5 (0 + (Int.toNat v7)) (0 : Int)) + (1 : Int))) else (List.getD v5 (0 + (Int.toNat v6)) (0 : Int)))))), v6, (IntKind.wrap .i64 (v7 + (1 : Int))), ()))
                  else
                    none
                else
                  none
              else
                none
            else
              some (Sum.inl (v1, (v2_0, v2_1, v2_2, v2_3, ()), (List.take (List.length v5) (List.drop 0 v5)), v6, (IntKind.wrap .i64 (v7 + (1 : Int))), ()))
        else
          none
      else
        some (Sum.inl (v1, (v2_0, v2_1, v2_2, v2_3, ()), (List.take (List.length v5) (List.drop 0 v5)), v6, (IntKind.wrap .i64 (v7 + (1 : Int))), ()))
    else
      none
  else
    some (Sum.inr (v1, (v2_0, v2_1, v2_2, v2_3, ()), (List.take (List.length v5) (List.drop 0 v5)), v6, ()))
theorem impl_factors_l7_eq : loopStep E65 L65_0 (loopOf f65 7) sh65_7 xs65_7 = impl_factors_l7 := by kernel_rfl
theorem loop65_7 {L : Nat → Option LoopD} (h : L 7 = some ⟨sh65_7, xs65_7, impl_factors_l7⟩) : LoopOk prog L (loopOf f65 7) :=
  loopOk (tysOk_of tyl_ok) E65_ok (codeOk_in (L := L65_0) (tysOk_of tyl_ok) E65_ok mixed (c := loopOf f65 7) (bs := []) (by kernel_rfl) allNil (by kernel_rfl)) (by kernel_rfl) (by kernel_rfl) impl_factors_l7_eq (by rw [show firstId (loopOf f65 7) = 7 from by kernel_rfl]; exact h)
noncomputable def L65_1 : Nat → Option LoopD := fun n => ifEq n 7 (some ⟨sh65_7, xs65_7, impl_factors_l7⟩) (L65_0 n)
def sh65_4 : List Fm := [d, .cell (.val .str), .box 100200 [.val (.int .i64), .val (.sl (.int .i64)), .val (.sl (.int .i64)), .val (.sl (.pair (.int .i64) (.pair .str (.pair (.int .i64) (.int .i64)))))], d, d, .cell (.own (.int .i64) 100500 false), .cell (.val (.int .i64)), d, d, d, d, d, d, d, d, d, d, d, d, d, d, d, d, d, d, d, d, d, d, d, d, d, d, d, d, d, d, d, d, d, d, d, d, d, d, d, d, d, d, d, d, d, d, d, d, d, d, d, d, d]
def xs65_4 : List (Ex × List Fm) := [(.exit 0, [d, d, d, d, d, .cell (.own (.int .i64) 100500 false), d, d, d, d, d, d, d, d, d, d, d, d, d, d, d, d, d, d, d, d, d, d, d, d, d, d, d, d, d, d, d, d, d, d, d, d, d, d, d, d, d, d, d, d, d, d, d, d, d, d, d, d, d, d])]
noncomputable def impl_factors_l4 : (ByteArray × (Int × (List Int) × (List Int) × (List (Int × (ByteArray × (Int × Int)))) × Unit) × (List Int) × Int × Unit) → Option ((ByteArray × (Int × (List Int) × (List Int) × (List (Int × (ByteArray × (Int × Int)))) × Unit) × (List Int) × Int × Unit) ⊕ (((List Int) × Unit))) := fun (v1, (v2_0, v2_1, v2_2, v2_3, _), v5, v6, _) =>
  bif (decide (v6 ≥ (0 : Int))) then
    Option.bind (loopF impl_factors_l7 (v1, (v2_0, v2_1, v2_2, v2_3, ()), (List.take (List.length v5) (List.drop 0 v5)), v6, (IntKind.wrap .i64 (v6 + (1 : Int))), ())) fun (r0, (r1, r2, r3, r4, _), r5, r6, _) =>
      some (Sum.inl (r0, (r1, r2, r3, r4, ()), (List.take (List.length r5) (List.drop 0 r5)), (IntKind.wrap .i64 (r6 - (1 : Int))), ()))
  else
    some (Sum.inr ((List.take (List.length v5) (List.drop 0 v5)), ()))
theorem impl_factors_l4_eq : loopStep E65 L65_1 (loopOf f65 4) sh65_4 xs65_4 = impl_factors_l4 := by kernel_rfl
theorem loop65_4 {L : Nat → Option LoopD} (h : L 4 = some ⟨sh65_4, xs65_4, impl_factors_l4⟩) : LoopOk prog L (loopOf f65 4) :=
  loopOk (tysOk_of tyl_ok) E65_ok (codeOk_in (L := L65_1) (tysOk_of tyl_ok) E65_ok mixed (c := loopOf f65 4) (bs := [loopOf f65 7]) (by kernel_rfl) (allCons (loop65_7 rfl) allNil) (by kernel_rfl)) (by kernel_rfl) (by kernel_rfl) impl_factors_l4_eq (by rw [show firstId (loopOf f65 4) = 4 from by kernel_rfl]; exact h)
noncomputable def L65_2 : Nat → Option LoopD := fun n => ifEq n 4 (some ⟨sh65_4, xs65_4, impl_factors_l4⟩) (L65_1 n)
noncomputable def impl_factors : (Int × ((List Int) × ((List Int) × (List (Int × (ByteArray × (Int × Int))))))) → ByteArray → Option ((List Int)) := fun (a0_0, a0_1, a0_2, a0_3) a1 =>
  Option.bind (slices_Repeat (List.take 1 (List.drop 0 [(1000000 : Int)])) (IntKind.wrap .i64 ((((ByteArray.size a1) : Nat) : Int) + (1 : Int)))) fun r0 =>
    if (((0 : Int) ≤ (((ByteArray.size a1) : Nat) : Int)) ∧ ((((ByteArray.size a1) : Nat) : Int) < (((List.length r0) : Nat) : Int))) then
      Option.bind (loopF impl_factors_l4 (a1, (a0_0, a0_1, a0_2, a0_3, ()), (List.take (List.length r0) (List.drop 0 (List.set r0 (0 + (Int.toNat (((ByteArray.size a1) : Nat) : Int))) (0 : Int)))), (IntKind.wrap .i64 ((((ByteArray.size a1) : Nat) : Int) - (1 : Int))), ())) fun (r1, _) =>
        some (List.take (List.length r1) (List.drop 0 r1))
    else
      none
noncomputable def A65 : FnA := ⟨[.v (.pair (.int .i64) (.pair (.sl (.int .i64)) (.pair (.sl (.int .i64)) (.sl (.pair (.int .i64) (.pair .str (.pair (.int .i64) (.int .i64)))))))), .v .str], true, [.sl (.int .i64)], fun x => impl_factors x.1 x.2.1⟩
theorem impl_factors_eq : fnF E65 L65_2 [.v (.pair (.int .i64) (.pair (.sl (.int .i64)) (.pair (.sl (.int .i64)) (.sl (.pair (.int .i64) (.pair .str (.pair (.int .i64) (.int .i64)))))))), .v .str] true [.sl (.int .i64)] f65.ntmps f65.results.toList (codeOf f65) = fun x => impl_factors x.1 x.2.1 := by kernel_rfl
theorem A65_ok : FnOk prog 65 A65 := by
  have h := fnOk_of_run (P := prog) (E := E65) (tysOk_of tyl_ok) E65_ok (L := L65_2) (ps := [.v (.pair (.int .i64) (.pair (.sl (.int .i64)) (.pair (.sl (.int .i64)) (.sl (.pair (.int .i64) (.pair .str (.pair (.int .i64) (.int .i64)))))))), .v .str]) (own := true) (outs := [.sl (.int .i64)]) func65 (c := codeOf f65) (by kernel_rfl) (codeOk_in (L := L65_2) (tysOk_of tyl_ok) E65_ok mixed (c := codeOf f65) (bs := [loopOf f65 4]) (by kernel_rfl) (allCons (loop65_4 rfl) allNil) (by kernel_rfl))
  rw [impl_factors_eq] at h
  exact h
/-! impl.FactorsOf -/
noncomputable def E31 : Env := ⟨ty0, fun g => ifEq g 63 (some A63) (ifEq g 64 (some A64) (ifEq g 65 (some A65) (none)))⟩
theorem E31_ok : FnsOk prog E31 := (oneFn A63_ok func63 (by kernel_rfl) (by kernel_rfl) (oneFn A64_ok func64 (by kernel_rfl) (by kernel_rfl) (oneFn A65_ok func65 (by kernel_rfl) (by kernel_rfl) (noFns _ _))))
noncomputable def L31_0 : Nat → Option LoopD := fun _ => none
noncomputable def impl_FactorsOf : (Int × ((List Int) × ((List Int) × (List (Int × (ByteArray × (Int × Int))))))) → ByteArray → Option (Int) := fun (a0_0, a0_1, a0_2, a0_3) a1 =>
  Option.bind (impl_AutomatonValid (a0_0, a0_1, a0_2, a0_3)) fun r0 =>
    bif (!r0) then
      some (-1 : Int)
    else
      Option.bind (impl_WordValid a1) fun r1 =>
        bif (!r1) then
          some (-1 : Int)
        else
          bif (decide ((((ByteArray.size a1) : Nat) : Int) > (40 : Int))) then
            some (-1 : Int)
          else
            Option.bind (impl_factors (a0_0, a0_1, a0_2, a0_3) a1) fun r2 =>
              if (((0 : Int) ≤ (0 : Int)) ∧ ((0 : Int) < (((List.length r2) : Nat) : Int))) then
                some (List.getD r2 (0 + (Int.toNat (0 : Int))) (0 : Int))
              else
                none
noncomputable def A31 : FnA := ⟨[.v (.pair (.int .i64) (.pair (.sl (.int .i64)) (.pair (.sl (.int .i64)) (.sl (.pair (.int .i64) (.pair .str (.pair (.int .i64) (.int .i64)))))))), .v .str], true, [.int .i64], fun x => impl_FactorsOf x.1 x.2.1⟩
theorem impl_FactorsOf_eq : fnF E31 L31_0 [.v (.pair (.int .i64) (.pair (.sl (.int .i64)) (.pair (.sl (.int .i64)) (.sl (.pair (.int .i64) (.pair .str (.pair (.int .i64) (.int .i64)))))))), .v .str] true [.int .i64] f31.ntmps f31.results.toList (codeOf f31) = fun x => impl_FactorsOf x.1 x.2.1 := by kernel_rfl
theorem A31_ok : FnOk prog 31 A31 := by
  have h := fnOk_of_run (P := prog) (E := E31) (tysOk_of tyl_ok) E31_ok (L := L31_0) (ps := [.v (.pair (.int .i64) (.pair (.sl (.int .i64)) (.pair (.sl (.int .i64)) (.sl (.pair (.int .i64) (.pair .str (.pair (.int .i64) (.int .i64)))))))), .v .str]) (own := true) (outs := [.int .i64]) func31 (c := codeOf f31) (by kernel_rfl) (codeOk_in (L := L31_0) (tysOk_of tyl_ok) E31_ok mixed (c := codeOf f31) (bs := []) (by kernel_rfl) allNil (by kernel_rfl))
  rw [impl_FactorsOf_eq] at h
  exact h
/-! laws.FnExactFactorsOf -/
noncomputable def E8 : Env := ⟨ty0, fun g => ifEq g 21 (some A21) (ifEq g 23 (some A23) (ifEq g 30 (some A30) (ifEq g 31 (some A31) (ifEq g 25 (some A25) (none)))))⟩
theorem E8_ok : FnsOk prog E8 := (oneFn A21_ok func21 (by kernel_rfl) (by kernel_rfl) (oneFn A23_ok func23 (by kernel_rfl) (by kernel_rfl) (oneFn A30_ok func30 (by kernel_rfl) (by kernel_rfl) (oneFn A31_ok func31 (by kernel_rfl) (by kernel_rfl) (oneFn A25_ok func25 (by kernel_rfl) (by kernel_rfl) (noFns _ _))))))
noncomputable def L8_0 : Nat → Option LoopD := fun _ => none
noncomputable def laws_FnExactFactorsOf : (Int × ((List Int) × ((List Int) × (List (Int × (ByteArray × (Int × Int))))))) → ByteArray → Option (Bool) := fun (a0_0, a0_1, a0_2, a0_3) a1 =>
  bif (decide ((((ByteArray.size a1) : Nat) : Int) > (1048576 : Int))) then
    some true
  else
    Option.bind (laws_szAutomaton (a0_0, a0_1, a0_2, a0_3) (1048576 : Int)) fun r0 =>
      bif (decide (r0 < (0 : Int))) then
        some true
      else
        Option.bind (laws_toAutomaton (a0_0, a0_1, a0_2, a0_3)) fun (r1, r2, r3, r4) =>
          Option.bind (spec_FactorsOf (r1, (List.take (List.length r2) (List.drop 0 r2)), (List.take (List.length r3) (List.drop 0 r3)), (List.take (List.length r4) (List.drop 0 r4))) a1) fun r5 =>
            Option.bind (laws_toAutomaton (a0_0, a0_1, a0_2, a0_3)) fun (r6, r7, r8, r9) =>
              Option.bind (impl_FactorsOf (r6, (List.take (List.length r7) (List.drop 0 r7)), (List.take (List.length r8) (List.drop 0 r8)), (List.take (List.length r9) (List.drop 0 r9))) a1) fun r10 =>
                bif (r10 != r5) then
                  some false
                else
                  Option.bind (laws_toAutomaton (a0_0, a0_1, a0_2, a0_3)) fun (r11, r12, r13, r14) =>
                    Option.bind (laws_eqAutomaton (r6, (List.take (List.length r7) (List.drop 0 r7)), (List.take (List.length r8) (List.drop 0 r8)), (List.take (List.length r9) (List.drop 0 r9))) (r11, (List.take (List.length r12) (List.drop 0 r12)), (List.take (List.length r13) (List.drop 0 r13)), (List.take (List.length r14) (List.drop 0 r14)))) fun r15 =>
                      bif (!r15) then
                        some false
                      else
                        some true
noncomputable def A8 : FnA := ⟨[.v (.pair (.int .i64) (.pair (.sl (.int .i64)) (.pair (.sl (.int .i64)) (.sl (.pair (.int .i64) (.pair .str (.pair (.int .i64) (.int .i64)))))))), .v .str], true, [.bool], fun x => laws_FnExactFactorsOf x.1 x.2.1⟩
theorem laws_FnExactFactorsOf_eq : fnF E8 L8_0 [.v (.pair (.int .i64) (.pair (.sl (.int .i64)) (.pair (.sl (.int .i64)) (.sl (.pair (.int .i64) (.pair .str (.pair (.int .i64) (.int .i64)))))))), .v .str] true [.bool] f8.ntmps f8.results.toList (codeOf f8) = fun x => laws_FnExactFactorsOf x.1 x.2.1 := by kernel_rfl
theorem A8_ok : FnOk prog 8 A8 := by
  have h := fnOk_of_run (P := prog) (E := E8) (tysOk_of tyl_ok) E8_ok (L := L8_0) (ps := [.v (.pair (.int .i64) (.pair (.sl (.int .i64)) (.pair (.sl (.int .i64)) (.sl (.pair (.int .i64) (.pair .str (.pair (.int .i64) (.int .i64)))))))), .v .str]) (own := true) (outs := [.bool]) func8 (c := codeOf f8) (by kernel_rfl) (codeOk_in (L := L8_0) (tysOk_of tyl_ok) E8_ok mixed (c := codeOf f8) (bs := []) (by kernel_rfl) allNil (by kernel_rfl))
  rw [laws_FnExactFactorsOf_eq] at h
  exact h
/-! spec.HardestWord -/
noncomputable def E32 : Env := ⟨ty0, fun g => ifEq g 66 (some A66) (ifEq g 67 (some A67) (ifEq g 54 (some A54) (ifEq g 68 (some A68) (none))))⟩
theorem E32_ok : FnsOk prog E32 := (oneFn A66_ok func66 (by kernel_rfl) (by kernel_rfl) (oneFn A67_ok func67 (by kernel_rfl) (by kernel_rfl) (oneFn A54_ok func54 (by kernel_rfl) (by kernel_rfl) (oneFn A68_ok func68 (by kernel_rfl) (by kernel_rfl) (noFns _ _)))))
noncomputable def L32_0 : Nat → Option LoopD := fun _ => none
def sh32_5 : List Fm := [d, d, .box 100200 [.val (.int .i64), .val (.sl (.int .i64)), .val (.sl (.int .i64)), .val (.sl (.pair (.int .i64) (.pair .str (.pair (.int .i64) (.int .i64)))))], d, d, d, .cell (.val .str), .cell (.val (.int .i64)), d, d, d, d, d, d, d, d, d, d, d, d, .cell (.val (.sl .str)), .cell (.val (.int .i64)), .cell (.val (.int .i64)), d, d, d, d, d, d, d, d, d, d, d, d, d, d, d, d, d, d, d, d, d]
def xs32_5 : List (Ex × List Fm) := [(.exit 0, [d, d, d, d, d, d, .cell (.val .str), d, d, d, d, d, d, d, d, d, d, d, d, d, d, d, d, d, d, d, d, d, d, d, d, d, d, d, d, d, d, d, d, d, d, d, d, d])]
noncomputable def spec_HardestWord_l5 : ((Int × (List Int) × (List Int) × (List (Int × (ByteArray × (Int × Int)))) × Unit) × ByteArray × Int × (List ByteArray) × Int × Int × Unit) → Option (((Int × (List Int) × (List Int) × (List (Int × (ByteArray × (Int × Int)))) × Unit) × ByteArray × Int × (List ByteArray) × Int × Int × Unit) ⊕ ((ByteArray × Unit))) := fun ((v2_0, v2_1, v2_2, v2_3, _), v6, v7, v20, v21, v22, _) =>
  bif (decide (v22 < v21)) then
    if (((0 : Int) ≤ v22) ∧ (v22 < (((List.length v20) : Nat) : Int))) then
      Option.bind (spec_l10Least (v2_0, v2_1, v2_2, v2_3) (List.getD v20 (Int.toNat v22) (⟨Array.empty⟩ : ByteArray))) fun r0 =>
        if (((0 : Int) ≤ (((ByteArray.size (List.getD v20 (Int.toNat v22) (⟨Array.empty⟩ : ByteArray))) : Nat) : Int)) ∧ ((((ByteArray.size (List.getD v20 (Int.toNat v22) (⟨Array.empty⟩ : ByteArray))) : Nat) : Int) < (((List.length r0) : Nat) : Int))) then
          bif (decide ((List.getD r0 (0 + (Int.toNat (((ByteArray.size (List.getD v20 (Int.toNat v22) (⟨Array.empty⟩ : ByteArray))) : Nat) : Int))) (0 : Int)) < (1000000 : Int))) then
            bif (decide ((List.getD r0 (0 + (Int.toNat (((ByteArray.size (List.getD v20 (Int.toNat v22) (⟨Array.empty⟩ : ByteArray))) : Nat) : Int))) (0 : Int)) > v7)) then
              some (Sum.inl ((v2_0, v2_1, v2_2, v2_3, ()), (List.getD v20 (Int.toNat v22) (⟨Array.empty⟩ : ByteArray)), (List.getD r0 (0 + (Int.toNat (((ByteArray.size (List.getD v20 (Int.toNat v22) (⟨Array.empty⟩ : ByteArray))) : Nat) : Int))) (0 : Int)), v20, v21, (IntKind.wrap .i64 (v22 + (1 : Int))), ()))
            else
              some (Sum.inl ((v2_0, v2_1, v2_2, v2_3, ()), v6, v7, v20, v21, (IntKind.wrap .i64 (v22 + (1 : Int))), ()))
          else
            some (Sum.inl ((v2_0, v2_1, v2_2, v2_3, ()), v6, v7, v20, v21, (IntKind.wrap .i64 (v22 + (1 : Int))), ()))
        else
          none
    else
      none
  else
    some (Sum.inr (v6, ()))
theorem spec_HardestWord_l5_eq : loopStep E32 L32_0 (loopOf f32 5) sh32_5 xs32_5 = spec_HardestWord_l5 := by kernel_rfl
theorem loop32_5 {L : Nat → Option LoopD} (h : L 5 = some ⟨sh32_5, xs32_5, spec_HardestWord_l5⟩) : LoopOk prog L (loopOf f32 5) :=
  loopOk (tysOk_of tyl_ok) E32_ok (codeOk_in (L := L32_0) (tysOk_of tyl_ok) E32_ok mixed (c := loopOf f32 5) (bs := []) (by kernel_rfl) allNil (by kernel_rfl)) (by kernel_rfl) (by kernel_rfl) spec_HardestWord_l5_eq (by rw [show firstId (loopOf f32 5) = 5 from by kernel_rfl]; exact h)
noncomputable def L32_1 : Nat → Option LoopD := fun n => ifEq n 5 (some ⟨sh32_5, xs32_5, spec_HardestWord_l5⟩) (L32_0 n)
noncomputable def spec_HardestWord : (Int × ((List Int) × ((List Int) × (List (Int × (ByteArray × (Int × Int))))))) → Int → Option (ByteArray × Bool) := fun (a0_0, a0_1, a0_2, a0_3) a1 =>
  Option.bind (spec_AutomatonValid (a0_0, a0_1, a0_2, a0_3)) fun r0 =>
    bif (!r0) then
      some ((⟨#[]⟩ : ByteArray), false)
    else
      Option.bind (spec_l1In a1 (0 : Int) (7 : Int)) fun r1 =>
        bif (!r1) then
          some ((⟨#[]⟩ : ByteArray), false)
        else
          Option.bind (spec_l4Words a1) fun r2 =>
            Option.bind (loopF spec_HardestWord_l5 ((a0_0, a0_1, a0_2, a0_3, ()), (⟨#[]⟩ : ByteArray), (-1 : Int), r2, (((List.length r2) : Nat) : Int), (0 : Int), ())) fun (r3, _) =>
              some (r3, true)
noncomputable def A32 : FnA := ⟨[.v (.pair (.int .i64) (.pair (.sl (.int .i64)) (.pair (.sl (.int .i64)) (.sl (.pair (.int .i64) (.pair .str (.pair (.int .i64) (.int .i64)))))))), .v (.int .i64)], true, [.str, .bool], fun x => spec_HardestWord x.1 x.2.1⟩
theorem spec_HardestWord_eq : fnF E32 L32_1 [.v (.pair (.int .i64) (.pair (.sl (.int .i64)) (.pair (.sl (.int .i64)) (.sl (.pair (.int .i64) (.pair .str (.pair (.int .i64) (.int .i64)))))))), .v (.int .i64)] true [.str, .bool] f32.ntmps f32.results.toList (codeOf f32) = fun x => spec_HardestWord x.1 x.2.1 := by kernel_rfl
theorem A32_ok : FnOk prog 32 A32 := by
  have h := fnOk_of_run (P := prog) (E := E32) (tysOk_of tyl_ok) E32_ok (L := L32_1) (ps := [.v (.pair (.int .i64) (.pair (.sl (.int .i64)) (.pair (.sl (.int .i64)) (.sl (.pair (.int .i64) (.pair .str (.pair (.int .i64) (.int .i64)))))))), .v (.int .i64)]) (own := true) (outs := [.str, .bool]) func32 (c := codeOf f32) (by kernel_rfl) (codeOk_in (L := L32_1) (tysOk_of tyl_ok) E32_ok mixed (c := codeOf f32) (bs := [loopOf f32 5]) (by kernel_rfl) (allCons (loop32_5 rfl) allNil) (by kernel_rfl))
  rw [spec_HardestWord_eq] at h
  exact h
/-! impl.HardestWord -/
noncomputable def E33 : Env := ⟨ty0, fun g => ifEq g 69 (some A69) (ifEq g 63 (some A63) (ifEq g 31 (some A31) (none)))⟩
theorem E33_ok : FnsOk prog E33 := (oneFn A69_ok func69 (by kernel_rfl) (by kernel_rfl) (oneFn A63_ok func63 (by kernel_rfl) (by kernel_rfl) (oneFn A31_ok func31 (by kernel_rfl) (by kernel_rfl) (noFns _ _))))
noncomputable def L33_0 : Nat → Option LoopD := fun _ => none
def sh33_6 : List Fm := [d, d, .box 100200 [.val (.int .i64), .val (.sl (.int .i64)), .val (.sl (.int .i64)), .val (.sl (.pair (.int .i64) (.pair .str (.pair (.int .i64) (.int .i64)))))], d, d, d, d, d, .cell (.val .str), .cell (.val (.int .i64)), d, d, d, d, d, d, d, d, d, d, d, d, d, d, d, .cell (.val (.sl .str)), .cell (.val (.int .i64)), .cell (.val (.int .i64)), d, d, d, d, d, d, d, d, d, d, d, d, d, d, d, d, d]
def xs33_6 : List (Ex × List Fm) := [(.exit 0, [d, d, d, d, d, d, d, d, .cell (.val .str), d, d, d, d, d, d, d, d, d, d, d, d, d, d, d, d, d, d, d, d, d, d, d, d, d, d, d, d, d, d, d, d, d, d, d, d])]
noncomputable def impl_HardestWord_l6 : ((Int × (List Int) × (List Int) × (List (Int × (ByteArray × (Int × Int)))) × Unit) × ByteArray × Int × (List ByteArray) × Int × Int × Unit) → Option (((Int × (List Int) × (List Int) × (List (Int × (ByteArray × (Int × Int)))) × Unit) × ByteArray × Int × (List ByteArray) × Int × Int × Unit) ⊕ ((ByteArray × Unit))) := fun ((v2_0, v2_1, v2_2, v2_3, _), v8, v9, v25, v26, v27, _) =>
  bif (decide (v27 < v26)) then
    if (((0 : Int) ≤ v27) ∧ (v27 < (((List.length v25) : Nat) : Int))) then
      Option.bind (impl_FactorsOf (v2_0, v2_1, v2_2, v2_3) (List.getD v25 (Int.toNat v27) (⟨Array.empty⟩ : ByteArray))) fun r0 =>
        bif (decide (r0 > v9)) then
          bif (decide (r0 < (1000000 : Int))) then
            some (Sum.inl ((v2_0, v2_1, v2_2, v2_3, ()), (List.getD v25 (Int.toNat v27) (⟨Array.empty⟩ : ByteArray)), r0, v25, v26, (IntKind.wrap .i64 (v27 + (1 : Int))), ()))
          else
            some (Sum.inl ((v2_0, v2_1, v2_2, v2_3, ()), v8, v9, v25, v26, (IntKind.wrap .i64 (v27 + (1 : Int))), ()))
        else
          some (Sum.inl ((v2_0, v2_1, v2_2, v2_3, ()), v8, v9, v25, v26, (IntKind.wrap .i64 (v27 + (1 : Int))), ()))
    else
      none
  else
    some (Sum.inr (v8, ()))
theorem impl_HardestWord_l6_eq : loopStep E33 L33_0 (loopOf f33 6) sh33_6 xs33_6 = impl_HardestWord_l6 := by kernel_rfl
theorem loop33_6 {L : Nat → Option LoopD} (h : L 6 = some ⟨sh33_6, xs33_6, impl_HardestWord_l6⟩) : LoopOk prog L (loopOf f33 6) :=
  loopOk (tysOk_of tyl_ok) E33_ok (codeOk_in (L := L33_0) (tysOk_of tyl_ok) E33_ok mixed (c := loopOf f33 6) (bs := []) (by kernel_rfl) allNil (by kernel_rfl)) (by kernel_rfl) (by kernel_rfl) impl_HardestWord_l6_eq (by rw [show firstId (loopOf f33 6) = 6 from by kernel_rfl]; exact h)
noncomputable def L33_1 : Nat → Option LoopD := fun n => ifEq n 6 (some ⟨sh33_6, xs33_6, impl_HardestWord_l6⟩) (L33_0 n)
noncomputable def impl_HardestWord : (Int × ((List Int) × ((List Int) × (List (Int × (ByteArray × (Int × Int))))))) → Int → Option (ByteArray × Bool) := fun (a0_0, a0_1, a0_2, a0_3) a1 =>
  Option.bind (impl_ShortWords a1) fun (r0, r1) =>
    bif (!r1) then
      some ((⟨#[]⟩ : ByteArray), false)
    else
      Option.bind (impl_AutomatonValid (a0_0, a0_1, a0_2, a0_3)) fun r2 =>
        bif (!r2) then
          some ((⟨#[]⟩ : ByteArray), false)
        else
          Option.bind (loopF impl_HardestWord_l6 ((a0_0, a0_1, a0_2, a0_3, ()), (⟨#[]⟩ : ByteArray), (0 : Int), r0, (((List.length r0) : Nat) : Int), (0 : Int), ())) fun (r3, _) =>
            some (r3, true)
noncomputable def A33 : FnA := ⟨[.v (.pair (.int .i64) (.pair (.sl (.int .i64)) (.pair (.sl (.int .i64)) (.sl (.pair (.int .i64) (.pair .str (.pair (.int .i64) (.int .i64)))))))), .v (.int .i64)], true, [.str, .bool], fun x => impl_HardestWord x.1 x.2.1⟩
theorem impl_HardestWord_eq : fnF E33 L33_1 [.v (.pair (.int .i64) (.pair (.sl (.int .i64)) (.pair (.sl (.int .i64)) (.sl (.pair (.int .i64) (.pair .str (.pair (.int .i64) (.int .i64)))))))), .v (.int .i64)] true [.str, .bool] f33.ntmps f33.results.toList (codeOf f33) = fun x => impl_HardestWord x.1 x.2.1 := by kernel_rfl
theorem A33_ok : FnOk prog 33 A33 := by
  have h := fnOk_of_run (P := prog) (E := E33) (tysOk_of tyl_ok) E33_ok (L := L33_1) (ps := [.v (.pair (.int .i64) (.pair (.sl (.int .i64)) (.pair (.sl (.int .i64)) (.sl (.pair (.int .i64) (.pair .str (.pair (.int .i64) (.int .i64)))))))), .v (.int .i64)]) (own := true) (outs := [.str, .bool]) func33 (c := codeOf f33) (by kernel_rfl) (codeOk_in (L := L33_1) (tysOk_of tyl_ok) E33_ok mixed (c := codeOf f33) (bs := [loopOf f33 6]) (by kernel_rfl) (allCons (loop33_6 rfl) allNil) (by kernel_rfl))
  rw [impl_HardestWord_eq] at h
  exact h
/-! laws.FnExactHardestWord -/
noncomputable def E9 : Env := ⟨ty0, fun g => ifEq g 21 (some A21) (ifEq g 23 (some A23) (ifEq g 32 (some A32) (ifEq g 33 (some A33) (ifEq g 25 (some A25) (none)))))⟩
theorem E9_ok : FnsOk prog E9 := (oneFn A21_ok func21 (by kernel_rfl) (by kernel_rfl) (oneFn A23_ok func23 (by kernel_rfl) (by kernel_rfl) (oneFn A32_ok func32 (by kernel_rfl) (by kernel_rfl) (oneFn A33_ok func33 (by kernel_rfl) (by kernel_rfl) (oneFn A25_ok func25 (by kernel_rfl) (by kernel_rfl) (noFns _ _))))))
noncomputable def L9_0 : Nat → Option LoopD := fun _ => none
noncomputable def laws_FnExactHardestWord : (Int × ((List Int) × ((List Int) × (List (Int × (ByteArray × (Int × Int))))))) → Int → Option (Bool) := fun (a0_0, a0_1, a0_2, a0_3) a1 =>
  Option.bind (laws_szAutomaton (a0_0, a0_1, a0_2, a0_3) (1048576 : Int)) fun r0 =>
    bif (decide (r0 < (0 : Int))) then
      some true
    else
      Option.bind (laws_toAutomaton (a0_0, a0_1, a0_2, a0_3)) fun (r1, r2, r3, r4) =>
        Option.bind (spec_HardestWord (r1, (List.take (List.length r2) (List.drop 0 r2)), (List.take (List.length r3) (List.drop 0 r3)), (List.take (List.length r4) (List.drop 0 r4))) a1) fun (r5, r6) =>
          Option.bind (laws_toAutomaton (a0_0, a0_1, a0_2, a0_3)) fun (r7, r8, r9, r10) =>
            Option.bind (impl_HardestWord (r7, (List.take (List.length r8) (List.drop 0 r8)), (List.take (List.length r9) (List.drop 0 r9)), (List.take (List.length r10) (List.drop 0 r10))) a1) fun (r11, r12) =>
              bif (!((ByteArray.toList r11) == (ByteArray.toList r5))) then
                some false
              else
                bif (!(r12 == r6)) then
                  some false
                else
                  Option.bind (laws_toAutomaton (a0_0, a0_1, a0_2, a0_3)) fun (r13, r14, r15, r16) =>
                    Option.bind (laws_eqAutomaton (r7, (List.take (List.length r8) (List.drop 0 r8)), (List.take (List.length r9) (List.drop 0 r9)), (List.take (List.length r10) (List.drop 0 r10))) (r13, (List.take (List.length r14) (List.drop 0 r14)), (List.take (List.length r15) (List.drop 0 r15)), (List.take (List.length r16) (List.drop 0 r16)))) fun r17 =>
                      bif (!r17) then
                        some false
                      else
                        some true
noncomputable def A9 : FnA := ⟨[.v (.pair (.int .i64) (.pair (.sl (.int .i64)) (.pair (.sl (.int .i64)) (.sl (.pair (.int .i64) (.pair .str (.pair (.int .i64) (.int .i64)))))))), .v (.int .i64)], true, [.bool], fun x => laws_FnExactHardestWord x.1 x.2.1⟩
theorem laws_FnExactHardestWord_eq : fnF E9 L9_0 [.v (.pair (.int .i64) (.pair (.sl (.int .i64)) (.pair (.sl (.int .i64)) (.sl (.pair (.int .i64) (.pair .str (.pair (.int .i64) (.int .i64)))))))), .v (.int .i64)] true [.bool] f9.ntmps f9.results.toList (codeOf f9) = fun x => laws_FnExactHardestWord x.1 x.2.1 := by kernel_rfl
theorem A9_ok : FnOk prog 9 A9 := by
  have h := fnOk_of_run (P := prog) (E := E9) (tysOk_of tyl_ok) E9_ok (L := L9_0) (ps := [.v (.pair (.int .i64) (.pair (.sl (.int .i64)) (.pair (.sl (.int .i64)) (.sl (.pair (.int .i64) (.pair .str (.pair (.int .i64) (.int .i64)))))))), .v (.int .i64)]) (own := true) (outs := [.bool]) func9 (c := codeOf f9) (by kernel_rfl) (codeOk_in (L := L9_0) (tysOk_of tyl_ok) E9_ok mixed (c := codeOf f9) (bs := []) (by kernel_rfl) allNil (by kernel_rfl))
  rw [laws_FnExactHardestWord_eq] at h
  exact h
/-! spec.MostFactors -/
noncomputable def E44 : Env := ⟨ty0, fun g => ifEq g 32 (some A32) (ifEq g 66 (some A66) (ifEq g 67 (some A67) (ifEq g 30 (some A30) (none))))⟩
theorem E44_ok : FnsOk prog E44 := (oneFn A32_ok func32 (by kernel_rfl) (by kernel_rfl) (oneFn A66_ok func66 (by kernel_rfl) (by kernel_rfl) (oneFn A67_ok func67 (by kernel_rfl) (by kernel_rfl) (oneFn A30_ok func30 (by kernel_rfl) (by kernel_rfl) (noFns _ _)))))
noncomputable def L44_0 : Nat → Option LoopD := fun _ => none
noncomputable def spec_MostFactors : (Int × ((List Int) × ((List Int) × (List (Int × (ByteArray × (Int × Int))))))) → Int → Option (Int) := fun (a0_0, a0_1, a0_2, a0_3) a1 =>
  Option.bind (spec_HardestWord (a0_0, a0_1, a0_2, a0_3) a1) fun (r0, r1) =>
    Option.bind (spec_AutomatonValid (a0_0, a0_1, a0_2, a0_3)) fun r2 =>
      bif (!r2) then
        some (-1 : Int)
      else
        Option.bind (spec_l1In a1 (0 : Int) (7 : Int)) fun r3 =>
          bif (!r3) then
            some (-1 : Int)
          else
            bif (!r1) then
              some (0 : Int)
            else
              Option.bind (spec_FactorsOf (a0_0, a0_1, a0_2, a0_3) r0) fun r4 =>
                some r4
noncomputable def A44 : FnA := ⟨[.v (.pair (.int .i64) (.pair (.sl (.int .i64)) (.pair (.sl (.int .i64)) (.sl (.pair (.int .i64) (.pair .str (.pair (.int .i64) (.int .i64)))))))), .v (.int .i64)], true, [.int .i64], fun x => spec_MostFactors x.1 x.2.1⟩
theorem spec_MostFactors_eq : fnF E44 L44_0 [.v (.pair (.int .i64) (.pair (.sl (.int .i64)) (.pair (.sl (.int .i64)) (.sl (.pair (.int .i64) (.pair .str (.pair (.int .i64) (.int .i64)))))))), .v (.int .i64)] true [.int .i64] f44.ntmps f44.results.toList (codeOf f44) = fun x => spec_MostFactors x.1 x.2.1 := by kernel_rfl
theorem A44_ok : FnOk prog 44 A44 := by
  have h := fnOk_of_run (P := prog) (E := E44) (tysOk_of tyl_ok) E44_ok (L := L44_0) (ps := [.v (.pair (.int .i64) (.pair (.sl (.int .i64)) (.pair (.sl (.int .i64)) (.sl (.pair (.int .i64) (.pair .str (.pair (.int .i64) (.int .i64)))))))), .v (.int .i64)]) (own := true) (outs := [.int .i64]) func44 (c := codeOf f44) (by kernel_rfl) (codeOk_in (L := L44_0) (tysOk_of tyl_ok) E44_ok mixed (c := codeOf f44) (bs := []) (by kernel_rfl) allNil (by kernel_rfl))
  rw [spec_MostFactors_eq] at h
  exact h
/-! impl.MostFactors -/
noncomputable def E45 : Env := ⟨ty0, fun g => ifEq g 33 (some A33) (ifEq g 31 (some A31) (none))⟩
theorem E45_ok : FnsOk prog E45 := (oneFn A33_ok func33 (by kernel_rfl) (by kernel_rfl) (oneFn A31_ok func31 (by kernel_rfl) (by kernel_rfl) (noFns _ _)))
noncomputable def L45_0 : Nat → Option LoopD := fun _ => none
noncomputable def impl_MostFactors : (Int × ((List Int) × ((List Int) × (List (Int × (ByteArray × (Int × Int))))))) → Int → Option (Int) := fun (a0_0, a0_1, a0_2, a0_3) a1 =>
  Option.bind (impl_HardestWord (a0_0, a0_1, a0_2, a0_3) a1) fun (r0, r1) =>
    bif (!r1) then
      some (-1 : Int)
    else
      Option.bind (impl_FactorsOf (a0_0, a0_1, a0_2, a0_3) r0) fun r2 =>
        some r2
noncomputable def A45 : FnA := ⟨[.v (.pair (.int .i64) (.pair (.sl (.int .i64)) (.pair (.sl (.int .i64)) (.sl (.pair (.int .i64) (.pair .str (.pair (.int .i64) (.int .i64)))))))), .v (.int .i64)], true, [.int .i64], fun x => impl_MostFactors x.1 x.2.1⟩
theorem impl_MostFactors_eq : fnF E45 L45_0 [.v (.pair (.int .i64) (.pair (.sl (.int .i64)) (.pair (.sl (.int .i64)) (.sl (.pair (.int .i64) (.pair .str (.pair (.int .i64) (.int .i64)))))))), .v (.int .i64)] true [.int .i64] f45.ntmps f45.results.toList (codeOf f45) = fun x => impl_MostFactors x.1 x.2.1 := by kernel_rfl
theorem A45_ok : FnOk prog 45 A45 := by
  have h := fnOk_of_run (P := prog) (E := E45) (tysOk_of tyl_ok) E45_ok (L := L45_0) (ps := [.v (.pair (.int .i64) (.pair (.sl (.int .i64)) (.pair (.sl (.int .i64)) (.sl (.pair (.int .i64) (.pair .str (.pair (.int .i64) (.int .i64)))))))), .v (.int .i64)]) (own := true) (outs := [.int .i64]) func45 (c := codeOf f45) (by kernel_rfl) (codeOk_in (L := L45_0) (tysOk_of tyl_ok) E45_ok mixed (c := codeOf f45) (bs := []) (by kernel_rfl) allNil (by kernel_rfl))
  rw [impl_MostFactors_eq] at h
  exact h
/-! laws.FnExactMostFactors -/
noncomputable def E13 : Env := ⟨ty0, fun g => ifEq g 21 (some A21) (ifEq g 23 (some A23) (ifEq g 44 (some A44) (ifEq g 45 (some A45) (ifEq g 25 (some A25) (none)))))⟩
theorem E13_ok : FnsOk prog E13 := (oneFn A21_ok func21 (by kernel_rfl) (by kernel_rfl) (oneFn A23_ok func23 (by kernel_rfl) (by kernel_rfl) (oneFn A44_ok func44 (by kernel_rfl) (by kernel_rfl) (oneFn A45_ok func45 (by kernel_rfl) (by kernel_rfl) (oneFn A25_ok func25 (by kernel_rfl) (by kernel_rfl) (noFns _ _))))))
noncomputable def L13_0 : Nat → Option LoopD := fun _ => none
noncomputable def laws_FnExactMostFactors : (Int × ((List Int) × ((List Int) × (List (Int × (ByteArray × (Int × Int))))))) → Int → Option (Bool) := fun (a0_0, a0_1, a0_2, a0_3) a1 =>
  Option.bind (laws_szAutomaton (a0_0, a0_1, a0_2, a0_3) (1048576 : Int)) fun r0 =>
    bif (decide (r0 < (0 : Int))) then
      some true
    else
      Option.bind (laws_toAutomaton (a0_0, a0_1, a0_2, a0_3)) fun (r1, r2, r3, r4) =>
        Option.bind (spec_MostFactors (r1, (List.take (List.length r2) (List.drop 0 r2)), (List.take (List.length r3) (List.drop 0 r3)), (List.take (List.length r4) (List.drop 0 r4))) a1) fun r5 =>
          Option.bind (laws_toAutomaton (a0_0, a0_1, a0_2, a0_3)) fun (r6, r7, r8, r9) =>
            Option.bind (impl_MostFactors (r6, (List.take (List.length r7) (List.drop 0 r7)), (List.take (List.length r8) (List.drop 0 r8)), (List.take (List.length r9) (List.drop 0 r9))) a1) fun r10 =>
              bif (r10 != r5) then
                some false
              else
                Option.bind (laws_toAutomaton (a0_0, a0_1, a0_2, a0_3)) fun (r11, r12, r13, r14) =>
                  Option.bind (laws_eqAutomaton (r6, (List.take (List.length r7) (List.drop 0 r7)), (List.take (List.length r8) (List.drop 0 r8)), (List.take (List.length r9) (List.drop 0 r9))) (r11, (List.take (List.length r12) (List.drop 0 r12)), (List.take (List.length r13) (List.drop 0 r13)), (List.take (List.length r14) (List.drop 0 r14)))) fun r15 =>
                    bif (!r15) then
                      some false
                    else
                      some true
noncomputable def A13 : FnA := ⟨[.v (.pair (.int .i64) (.pair (.sl (.int .i64)) (.pair (.sl (.int .i64)) (.sl (.pair (.int .i64) (.pair .str (.pair (.int .i64) (.int .i64)))))))), .v (.int .i64)], true, [.bool], fun x => laws_FnExactMostFactors x.1 x.2.1⟩
theorem laws_FnExactMostFactors_eq : fnF E13 L13_0 [.v (.pair (.int .i64) (.pair (.sl (.int .i64)) (.pair (.sl (.int .i64)) (.sl (.pair (.int .i64) (.pair .str (.pair (.int .i64) (.int .i64)))))))), .v (.int .i64)] true [.bool] f13.ntmps f13.results.toList (codeOf f13) = fun x => laws_FnExactMostFactors x.1 x.2.1 := by kernel_rfl
theorem A13_ok : FnOk prog 13 A13 := by
  have h := fnOk_of_run (P := prog) (E := E13) (tysOk_of tyl_ok) E13_ok (L := L13_0) (ps := [.v (.pair (.int .i64) (.pair (.sl (.int .i64)) (.pair (.sl (.int .i64)) (.sl (.pair (.int .i64) (.pair .str (.pair (.int .i64) (.int .i64)))))))), .v (.int .i64)]) (own := true) (outs := [.bool]) func13 (c := codeOf f13) (by kernel_rfl) (codeOk_in (L := L13_0) (tysOk_of tyl_ok) E13_ok mixed (c := codeOf f13) (bs := []) (by kernel_rfl) allNil (by kernel_rfl))
  rw [laws_FnExactMostFactors_eq] at h
  exact h
end Go.Proofs.Ytcjlhckebkibaaa
