/- What Go functions that the laws reach compute, and that they do: written by a program of this session. -/
import Derived.Test.YtooigaliccnldaaG0
import Derived.KernelRfl
set_option linter.unusedVariables false
namespace Go.Proofs.Ytooigaliccnldaa
open Go Go.Proofs.Ytooigaliccnldaa.Am Go.Proofs.Try
set_option maxRecDepth 100000
/-! spec.l4Matrix -/
noncomputable def E131 : Env := ⟨ty0, fun g => ifEq g 106 (some A106) (ifEq g 105 (some A105) (ifEq g 108 (some A108) (none))), fun _ => none, fun _ => none, fun _ => none⟩
theorem E131_ok : FnsOk prog E131 := (oneFn A106_ok func106 (by kernel_rfl) (by kernel_rfl) (oneFn A105_ok func105 (by kernel_rfl) (by kernel_rfl) (oneFn A108_ok func108 (by kernel_rfl) (by kernel_rfl) (noFns _ _))))
noncomputable def L131_0 : Nat → Option LoopD := fun _ => none
def sh131_4 : List Fm := [d, .cell (.val .str), d, d, .box 100400 [.val (.int .i64), .own (.int .i64) 100402 false], .box 100500 [.val (.int .i64), .own (.int .i64) 100502 false], .box 100600 [.val (.int .i64), .own (.int .i64) 100602 false], .box 100700 [.val (.int .i64), .own (.int .i64) 100702 false], d, d, d, d, d, d, d, d, d, .cell (.val (.int .i64)), .cell (.val (.int .i64)), d, d, d, d, d, d, d, d, d, d, d, d, d, d]
def xs131_4 : List (Ex × List Fm) := [(.exit 0, [d, d, d, d, .box 100400 [.val (.int .i64), .own (.int .i64) 100402 false], .box 100500 [.val (.int .i64), .own (.int .i64) 100502 false], d, d, d, d, d, d, d, d, d, d, d, d, d, d, d, d, d, d, d, d, d, d, d, d, d, d, d])]
noncomputable def spec_l4Matrix_l4 : (ByteArray × (Int × (List Int) × Unit) × (Int × (List Int) × Unit) × (Int × (List Int) × Unit) × (Int × (List Int) × Unit) × Int × Int × Unit) → Option ((ByteArray × (Int × (List Int) × Unit) × (Int × (List Int) × Unit) × (Int × (List Int) × Unit) × (Int × (List Int) × Unit) × Int × Int × Unit) ⊕ (((Int × (List Int) × Unit) × (Int × (List Int) × Unit) × Unit))) := fun (v1, (v4_0, v4_1, _), (v5_0, v5_1, _), (v6_0, v6_1, _), (v7_0, v7_1, _), v17, v18, _) =>
  bif (decide (v18 < v17)) then
    if (((0 : Int) ≤ v18) ∧ (v18 < (((ByteArray.size v1) : Nat) : Int))) then
      bif ((((UInt8.toNat (Array.getD (ByteArray.data v1) (Int.toNat v18) (0 : UInt8))) : Nat) : Int) == (97 : Int)) then
        Option.bind (spec_l2Mul (v5_0, (List.take (List.length v5_1) (List.drop 0 v5_1))) (v6_0, (List.take (List.length v6_1) (List.drop 0 v6_1)))) fun (r0, r1) =>
          some (Sum.inl (v1, (v4_0, (List.take (List.length v4_1) (List.drop 0 v4_1)), ()), (r0, (List.take (List.length r1) (List.drop 0 r1)), ()), (v6_0, (List.take (List.length v6_1) (List.drop 0 v6_1)), ()), (v7_0, (List.take (List.length v7_1) (List.drop 0 v7_1)), ()), v17, (IntKind.wrap .i64 (v18 + (1 : Int))), ()))
      else
        Option.bind (spec_l2Mul (v5_0, (List.take (List.length v5_1) (List.drop 0 v5_1))) (v7_0, (List.take (List.length v7_1) (List.drop 0 v7_1)))) fun (r2, r3) =>
          some (Sum.inl (v1, (v4_0, (List.take (List.length v4_1) (List.drop 0 v4_1)), ()), (r2, (List.take (List.length r3) (List.drop 0 r3)), ()), (v6_0, (List.take (List.length v6_1) (List.drop 0 v6_1)), ()), (v7_0, (List.take (List.length v7_1) (List.drop 0 v7_1)), ()), v17, (IntKind.wrap .i64 (v18 + (1 : Int))), ()))
    else
      none
  else
    some (Sum.inr ((v4_0, (List.take (List.length v4_1) (List.drop 0 v4_1)), ()), (v5_0, (List.take (List.length v5_1) (List.drop 0 v5_1)), ()), ()))
theorem spec_l4Matrix_l4_eq : loopStep 33 E131 L131_0 (loopOf f131 4) sh131_4 xs131_4 = spec_l4Matrix_l4 := by kernel_rfl
theorem loop131_4 {L : Nat → Option LoopD} (h : L 4 = some ⟨33, sh131_4, xs131_4, spec_l4Matrix_l4⟩) : LoopOk prog L (loopOf f131 4) :=
  loopOk (tysOk_of tyl_ok) E131_ok (codeOk_in (L := L131_0) (tysOk_of tyl_ok) E131_ok mixed (c := loopOf f131 4) (bs := []) (by kernel_rfl) allNil (by kernel_rfl)) (by kernel_rfl) (by kernel_rfl) spec_l4Matrix_l4_eq (by rw [show firstId (loopOf f131 4) = 4 from by kernel_rfl]; exact h)
noncomputable def L131_1 : Nat → Option LoopD := fun n => ifEq n 4 (some ⟨33, sh131_4, xs131_4, spec_l4Matrix_l4⟩) (L131_0 n)
noncomputable def spec_l4Matrix : (Int × ((List Int) × ((List Int) × (List (Int × (ByteArray × (Int × Int))))))) → ByteArray → Option ((Int × (List Int))) := fun (a0_0, a0_1, a0_2, a0_3) a1 =>
  Option.bind (spec_l2Unit a0_0) fun (r0, r1) =>
    Option.bind (spec_l3Matrix (a0_0, a0_1, a0_2, a0_3) (⟨#[(97 : UInt8)]⟩ : ByteArray)) fun (r2, r3) =>
      Option.bind (spec_l3Matrix (a0_0, a0_1, a0_2, a0_3) (⟨#[(98 : UInt8)]⟩ : ByteArray)) fun (r4, r5) =>
        Option.bind (loopF spec_l4Matrix_l4 (a1, ((0 : Int), [], ()), (r0, (List.take (List.length r1) (List.drop 0 r1)), ()), (r2, (List.take (List.length r3) (List.drop 0 r3)), ()), (r4, (List.take (List.length r5) (List.drop 0 r5)), ()), (((ByteArray.size a1) : Nat) : Int), (0 : Int), ())) fun ((r6, r7, _), (r8, r9, _), _) =>
          some (r8, (List.take (List.length r9) (List.drop 0 r9)))
noncomputable def A131 : FnA := ⟨[.v (.pair (.int .i64) (.pair (.sl (.int .i64)) (.pair (.sl (.int .i64)) (.sl (.pair (.int .i64) (.pair .str (.pair (.int .i64) (.int .i64)))))))), .v .str], true, [.pair (.int .i64) (.sl (.int .i64))], fun x => spec_l4Matrix x.1 x.2.1⟩
theorem spec_l4Matrix_eq : fnF E131 L131_1 [.v (.pair (.int .i64) (.pair (.sl (.int .i64)) (.pair (.sl (.int .i64)) (.sl (.pair (.int .i64) (.pair .str (.pair (.int .i64) (.int .i64)))))))), .v .str] true [.pair (.int .i64) (.sl (.int .i64))] f131.ntmps f131.results.toList (codeOf f131) = fun x => spec_l4Matrix x.1 x.2.1 := by kernel_rfl
theorem A131_ok : FnOk prog 131 A131 := by
  have h := fnOk_of_run (P := prog) (E := E131) (tysOk_of tyl_ok) E131_ok (L := L131_1) (ps := [.v (.pair (.int .i64) (.pair (.sl (.int .i64)) (.pair (.sl (.int .i64)) (.sl (.pair (.int .i64) (.pair .str (.pair (.int .i64) (.int .i64)))))))), .v .str]) (own := true) (outs := [.pair (.int .i64) (.sl (.int .i64))]) func131 (c := codeOf f131) (by kernel_rfl) (codeOk_in (L := L131_1) (tysOk_of tyl_ok) E131_ok mixed (c := codeOf f131) (bs := [loopOf f131 4]) (by kernel_rfl) (allCons (loop131_4 rfl) allNil) (by kernel_rfl))
  rw [spec_l4Matrix_eq] at h
  exact h
/-! spec.l4Least -/
noncomputable def E107 : Env := ⟨ty0, fun _ => none, fun _ => none, fun _ => none, fun _ => none⟩
theorem E107_ok : FnsOk prog E107 := (noFns _ _)
noncomputable def L107_0 : Nat → Option LoopD := fun _ => none
def sh107_6 : List Fm := [d, d, .box 100200 [.val (.int .i64), .val (.sl (.int .i64)), .val (.sl (.int .i64)), .val (.sl (.pair (.int .i64) (.pair .str (.pair (.int .i64) (.int .i64)))))], .box 100300 [.val (.int .i64), .val (.sl (.int .i64))], d, .cell (.val (.int .i64)), d, .cell (.val (.int .i64)), d, d, d, .cell (.val (.sl (.int .i64))), .cell (.val (.int .i64)), .cell (.val (.int .i64)), d, d, d, d, .cell (.val (.sl (.int .i64))), .cell (.val (.int .i64)), .cell (.val (.int .i64)), d, d, d, d, d, d, d, d, d, d, d, d, d, d, d, d, d, d]
def xs107_6 : List (Ex × List Fm) := [(.exit 2, [d, d, .box 100200 [.val (.int .i64), .val (.sl (.int .i64)), .val (.sl (.int .i64)), .val (.sl (.pair (.int .i64) (.pair .str (.pair (.int .i64) (.int .i64)))))], .box 100300 [.val (.int .i64), .val (.sl (.int .i64))], d, .cell (.val (.int .i64)), d, d, d, d, d, .cell (.val (.sl (.int .i64))), .cell (.val (.int .i64)), .cell (.val (.int .i64)), d, d, d, d, d, d, d, d, d, d, d, d, d, d, d, d, d, d, d, d, d, d, d, d, d])]
noncomputable def spec_l4Least_l6 : ((Int × (List Int) × (List Int) × (List (Int × (ByteArray × (Int × Int)))) × Unit) × (Int × (List Int) × Unit) × Int × Int × (List Int) × Int × Int × (List Int) × Int × Int × Unit) → Option (((Int × (List Int) × (List Int) × (List (Int × (ByteArray × (Int × Int)))) × Unit) × (Int × (List Int) × Unit) × Int × Int × (List Int) × Int × Int × (List Int) × Int × Int × Unit) ⊕ (((Int × (List Int) × (List Int) × (List (Int × (ByteArray × (Int × Int)))) × Unit) × (Int × (List Int) × Unit) × Int × (List Int) × Int × Int × Unit))) := fun ((v2_0, v2_1, v2_2, v2_3, _), (v3_0, v3_1, _), v5, v7, v11, v12, v13, v18, v19, v20, _) =>
  bif (decide (v20 < v19)) then
    if (((0 : Int) ≤ v20) ∧ (v20 < (((List.length v18) : Nat) : Int))) then
      if (((0 : Int) ≤ (IntKind.wrap .i64 ((IntKind.wrap .i64 (v7 * v2_0)) + (List.getD v18 (Int.toNat v20) (0 : Int))))) ∧ ((IntKind.wrap .i64 ((IntKind.wrap .i64 (v7 * v2_0)) + (List.getD v18 (Int.toNat v20) (0 : Int)))) < (((List.length v3_1) : Nat) : Int))) then
        some (Sum.inl ((v2_0, v2_1, v2_2, v2_3, ()), (v3_0, v3_1, ()), (if ((List.getD v3_1 (Int.toNat (IntKind.wrap .i64 ((IntKind.wrap .i64 (v7 * v2_0)) + (List.getD v18 (Int.toNat v20) (0 : Int))))) (0 : Int)) < v5) then (List.getD v3_1 (Int.toNat (IntKind.wrap .i64 ((IntKind.wrap .i64 (v7 * v2_0)) + (List.getD v18 (Int.toNat v20) (0 : Int))))) (0 : Int)) else v5), v7, v11, v12, v13, v18, v19, (IntKind.wrap .i64 (v20 + (1 : Int))), ()))
      else
        none
    else
      none
  else
    some (Sum.inr ((v2_0, v2_1, v2_2, v2_3, ()), (v3_0, v3_1, ()), v5, v11, v12, v13, ()))
theorem spec_l4Least_l6_eq : loopStep 39 E107 L107_0 (loopOf f107 6) sh107_6 xs107_6 = spec_l4Least_l6 := by kernel_rfl
theorem loop107_6 {L : Nat → Option LoopD} (h : L 6 = some ⟨39, sh107_6, xs107_6, spec_l4Least_l6⟩) : LoopOk prog L (loopOf f107 6) :=
  loopOk (tysOk_of tyl_ok) E107_ok (codeOk_in (L := L107_0) (tysOk_of tyl_ok) E107_ok mixed (c := loopOf f107 6) (bs := []) (by kernel_rfl) allNil (by kernel_rfl)) (by kernel_rfl) (by kernel_rfl) spec_l4Least_l6_eq (by rw [show firstId (loopOf f107 6) = 6 from by kernel_rfl]; exact h)
noncomputable def L107_1 : Nat → Option LoopD := fun n => ifEq n 6 (some ⟨39, sh107_6, xs107_6, spec_l4Least_l6⟩) (L107_0 n)
def sh107_3 : List Fm := [d, d, .box 100200 [.val (.int .i64), .val (.sl (.int .i64)), .val (.sl (.int .i64)), .val (.sl (.pair (.int .i64) (.pair .str (.pair (.int .i64) (.int .i64)))))], .box 100300 [.val (.int .i64), .val (.sl (.int .i64))], d, .cell (.val (.int .i64)), d, d, d, d, d, .cell (.val (.sl (.int .i64))), .cell (.val (.int .i64)), .cell (.val (.int .i64)), d, d, d, d, d, d, d, d, d, d, d, d, d, d, d, d, d, d, d, d, d, d, d, d, d]
def xs107_3 : List (Ex × List Fm) := [(.exit 0, [d, d, d, d, d, .cell (.val (.int .i64)), d, d, d, d, d, d, d, d, d, d, d, d, d, d, d, d, d, d, d, d, d, d, d, d, d, d, d, d, d, d, d, d, d])]
noncomputable def spec_l4Least_l3 : ((Int × (List Int) × (List Int) × (List (Int × (ByteArray × (Int × Int)))) × Unit) × (Int × (List Int) × Unit) × Int × (List Int) × Int × Int × Unit) → Option (((Int × (List Int) × (List Int) × (List (Int × (ByteArray × (Int × Int)))) × Unit) × (Int × (List Int) × Unit) × Int × (List Int) × Int × Int × Unit) ⊕ ((Int × Unit))) := fun ((v2_0, v2_1, v2_2, v2_3, _), (v3_0, v3_1, _), v5, v11, v12, v13, _) =>
  bif (decide (v13 < v12)) then
    if (((0 : Int) ≤ v13) ∧ (v13 < (((List.length v11) : Nat) : Int))) then
      Option.bind (loopF spec_l4Least_l6 ((v2_0, v2_1, v2_2, v2_3, ()), (v3_0, v3_1, ()), v5, (List.getD v11 (Int.toNat v13) (0 : Int)), v11, v12, v13, v2_2, (((List.length v2_2) : Nat) : Int), (0 : Int), ())) fun ((r0, r1, r2, r3, _), (r4, r5, _), r6, r7, r8, r9, _) =>
        some (Sum.inl ((r0, r1, r2, r3, ()), (r4, r5, ()), r6, r7, r8, (IntKind.wrap .i64 (r9 + (1 : Int))), ()))
    else
      none
  else
    some (Sum.inr (v5, ()))
theorem spec_l4Least_l3_eq : loopStep 39 E107 L107_1 (loopOf f107 3) sh107_3 xs107_3 = spec_l4Least_l3 := by kernel_rfl
theorem loop107_3 {L : Nat → Option LoopD} (h : L 3 = some ⟨39, sh107_3, xs107_3, spec_l4Least_l3⟩) : LoopOk prog L (loopOf f107 3) :=
  loopOk (tysOk_of tyl_ok) E107_ok (codeOk_in (L := L107_1) (tysOk_of tyl_ok) E107_ok mixed (c := loopOf f107 3) (bs := [loopOf f107 6]) (by kernel_rfl) (allCons (loop107_6 rfl) allNil) (by kernel_rfl)) (by kernel_rfl) (by kernel_rfl) spec_l4Least_l3_eq (by rw [show firstId (loopOf f107 3) = 3 from by kernel_rfl]; exact h)
noncomputable def L107_2 : Nat → Option LoopD := fun n => ifEq n 3 (some ⟨39, sh107_3, xs107_3, spec_l4Least_l3⟩) (L107_1 n)
noncomputable def spec_l4Least : (Int × ((List Int) × ((List Int) × (List (Int × (ByteArray × (Int × Int))))))) → (Int × (List Int)) → Option (Int) := fun (a0_0, a0_1, a0_2, a0_3) (a1_0, a1_1) =>
  Option.bind (loopF spec_l4Least_l3 ((a0_0, a0_1, a0_2, a0_3, ()), (a1_0, a1_1, ()), (1000000 : Int), a0_1, (((List.length a0_1) : Nat) : Int), (0 : Int), ())) fun (r0, _) =>
    some r0
noncomputable def A107 : FnA := ⟨[.v (.pair (.int .i64) (.pair (.sl (.int .i64)) (.pair (.sl (.int .i64)) (.sl (.pair (.int .i64) (.pair .str (.pair (.int .i64) (.int .i64)))))))), .v (.pair (.int .i64) (.sl (.int .i64)))], true, [.int .i64], fun x => spec_l4Least x.1 x.2.1⟩
theorem spec_l4Least_eq : fnF E107 L107_2 [.v (.pair (.int .i64) (.pair (.sl (.int .i64)) (.pair (.sl (.int .i64)) (.sl (.pair (.int .i64) (.pair .str (.pair (.int .i64) (.int .i64)))))))), .v (.pair (.int .i64) (.sl (.int .i64)))] true [.int .i64] f107.ntmps f107.results.toList (codeOf f107) = fun x => spec_l4Least x.1 x.2.1 := by kernel_rfl
theorem A107_ok : FnOk prog 107 A107 := by
  have h := fnOk_of_run (P := prog) (E := E107) (tysOk_of tyl_ok) E107_ok (L := L107_2) (ps := [.v (.pair (.int .i64) (.pair (.sl (.int .i64)) (.pair (.sl (.int .i64)) (.sl (.pair (.int .i64) (.pair .str (.pair (.int .i64) (.int .i64)))))))), .v (.pair (.int .i64) (.sl (.int .i64)))]) (own := true) (outs := [.int .i64]) func107 (c := codeOf f107) (by kernel_rfl) (codeOk_in (L := L107_2) (tysOk_of tyl_ok) E107_ok mixed (c := codeOf f107) (bs := [loopOf f107 3]) (by kernel_rfl) (allCons (loop107_3 rfl) allNil) (by kernel_rfl))
  rw [spec_l4Least_eq] at h
  exact h
/-! spec.l4Cost -/
noncomputable def E81 : Env := ⟨ty0, fun g => ifEq g 131 (some A131) (ifEq g 107 (some A107) (none)), fun _ => none, fun _ => none, fun _ => none⟩
theorem E81_ok : FnsOk prog E81 := (oneFn A131_ok func131 (by kernel_rfl) (by kernel_rfl) (oneFn A107_ok func107 (by kernel_rfl) (by kernel_rfl) (noFns _ _)))
noncomputable def L81_0 : Nat → Option LoopD := fun _ => none
noncomputable def spec_l4Cost : (Int × ((List Int) × ((List Int) × (List (Int × (ByteArray × (Int × Int))))))) → ByteArray → Option (Int) := fun (a0_0, a0_1, a0_2, a0_3) a1 =>
  Option.bind (spec_l4Matrix (a0_0, a0_1, a0_2, a0_3) a1) fun (r0, r1) =>
    Option.bind (spec_l4Least (a0_0, a0_1, a0_2, a0_3) (r0, (List.take (List.length r1) (List.drop 0 r1)))) fun r2 =>
      some r2
noncomputable def A81 : FnA := ⟨[.v (.pair (.int .i64) (.pair (.sl (.int .i64)) (.pair (.sl (.int .i64)) (.sl (.pair (.int .i64) (.pair .str (.pair (.int .i64) (.int .i64)))))))), .v .str], true, [.int .i64], fun x => spec_l4Cost x.1 x.2.1⟩
theorem spec_l4Cost_eq : fnF E81 L81_0 [.v (.pair (.int .i64) (.pair (.sl (.int .i64)) (.pair (.sl (.int .i64)) (.sl (.pair (.int .i64) (.pair .str (.pair (.int .i64) (.int .i64)))))))), .v .str] true [.int .i64] f81.ntmps f81.results.toList (codeOf f81) = fun x => spec_l4Cost x.1 x.2.1 := by kernel_rfl
theorem A81_ok : FnOk prog 81 A81 := by
  have h := fnOk_of_run (P := prog) (E := E81) (tysOk_of tyl_ok) E81_ok (L := L81_0) (ps := [.v (.pair (.int .i64) (.pair (.sl (.int .i64)) (.pair (.sl (.int .i64)) (.sl (.pair (.int .i64) (.pair .str (.pair (.int .i64) (.int .i64)))))))), .v .str]) (own := true) (outs := [.int .i64]) func81 (c := codeOf f81) (by kernel_rfl) (codeOk_in (L := L81_0) (tysOk_of tyl_ok) E81_ok mixed (c := codeOf f81) (bs := []) (by kernel_rfl) allNil (by kernel_rfl))
  rw [spec_l4Cost_eq] at h
  exact h
/-! spec.GreatestOf -/
noncomputable def E29 : Env := ⟨ty0, fun g => ifEq g 87 (some A87) (ifEq g 80 (some A80) (ifEq g 81 (some A81) (none))), fun _ => none, fun _ => none, fun _ => none⟩
theorem E29_ok : FnsOk prog E29 := (oneFn A87_ok func87 (by kernel_rfl) (by kernel_rfl) (oneFn A80_ok func80 (by kernel_rfl) (by kernel_rfl) (oneFn A81_ok func81 (by kernel_rfl) (by kernel_rfl) (noFns _ _))))
noncomputable def L29_0 : Nat → Option LoopD := fun _ => none
def sh29_6 : List Fm := [d, d, .box 100200 [.val (.int .i64), .val (.sl (.int .i64)), .val (.sl (.int .i64)), .val (.sl (.pair (.int .i64) (.pair .str (.pair (.int .i64) (.int .i64)))))], d, d, d, .cell (.own (.int .i64) 100600 false), .cell (.own .bool 100700 false), d, d, d, d, d, d, d, d, d, d, d, d, d, d, d, d, .cell (.val (.sl .str)), .cell (.val (.int .i64)), .cell (.val (.int .i64)), d, d, d, d, d, d, d, d, d, d, d, d, d, d, d, d, d, d, d, d, d, d, d, d, d, d, d, d, d, d, d, d, d, d, d, d, d, d, d]
def xs29_6 : List (Ex × List Fm) := [(.exit 0, [d, d, d, d, d, d, .cell (.own (.int .i64) 100600 false), .cell (.own .bool 100700 false), d, d, d, d, d, d, d, d, d, d, d, d, d, d, d, d, d, d, d, d, d, d, d, d, d, d, d, d, d, d, d, d, d, d, d, d, d, d, d, d, d, d, d, d, d, d, d, d, d, d, d, d, d, d, d, d, d, d])]
noncomputable def spec_GreatestOf_l6 : ((Int × (List Int) × (List Int) × (List (Int × (ByteArray × (Int × Int)))) × Unit) × (List Int) × (List Bool) × (List ByteArray) × Int × Int × Unit) → Option (((Int × (List Int) × (List Int) × (List (Int × (ByteArray × (Int × Int)))) × Unit) × (List Int) × (List Bool) × (List ByteArray) × Int × Int × Unit) ⊕ (((List Int) × (List Bool) × Unit))) := fun ((v2_0, v2_1, v2_2, v2_3, _), v6, v7, v24, v25, v26, _) =>
  bif (decide (v26 < v25)) then
    if (((0 : Int) ≤ v26) ∧ (v26 < (((List.length v24) : Nat) : Int))) then
      Option.bind (spec_l4Cost (v2_0, v2_1, v2_2, v2_3) (List.getD v24 (Int.toNat v26) (⟨Array.empty⟩ : ByteArray))) fun r0 =>
        bif (decide (r0 < (1000000 : Int))) then
          if (((0 : Int) ≤ (((ByteArray.size (List.getD v24 (Int.toNat v26) (⟨Array.empty⟩ : ByteArray))) : Nat) : Int)) ∧ ((((ByteArray.size (List.getD v24 (Int.toNat v26) (⟨Array.empty⟩ : ByteArray))) : Nat) : Int) < (((List.length v6) : Nat) : Int))) then
            if (((0 : Int) ≤ (((ByteArray.size (List.getD v24 (Int.toNat v26) (⟨Array.empty⟩ : ByteArray))) : Nat) : Int)) ∧ ((((ByteArray.size (List.getD v24 (Int.toNat v26) (⟨Array.empty⟩ : ByteArray))) : Nat) : Int) < (((List.length v6) : Nat) : Int))) then
              if (((0 : Int) ≤ (((ByteArray.size (List.getD v24 (Int.toNat v26) (⟨Array.empty⟩ : ByteArray))) : Nat) : Int)) ∧ ((((ByteArray.size (List.getD v24 (Int.toNat v26) (⟨Array.empty⟩ : ByteArray))) : Nat) : Int) < (((List.length v7) : Nat) : Int))) then
                some (Sum.inl ((v2_0, v2_1, v2_2, v2_3, ()), (List.take (List.length v6) (List.drop 0 (List.set v6 (0 + (Int.toNat (((ByteArray.size (List.getD v24 (Int.toNat v26) (⟨Array.empty⟩ : ByteArray))) : Nat) : Int))) (if (r0 > (List.getD v6 (0 + (Int.toNat (((ByteArray.size (List.getD v24 (Int.toNat v26) (⟨Array.empty⟩ : ByteArray))) : Nat) : Int))) (0 : Int))) then r0 else (List.getD v6 (0 + (Int.toNat (((ByteArray.size (List.getD v24 (Int.toNat v26) (⟨Array.empty⟩ : ByteArray))) : Nat) : Int))) (0 : Int)))))), (List.take (List.length v7) (List.drop 0 (List.set v7 (0 + (Int.toNat (((ByteArray.size (List.getD v24 (Int.toNat v26) (⟨Array.empty⟩ : ByteArray))) : Nat) : Int))) true))), v24, v25, (IntKind.wrap .i64 (v26 + (1 : Int))), ()))
              else
                none
            else
              none
          else
            none
        else
          some (Sum.inl ((v2_0, v2_1, v2_2, v2_3, ()), (List.take (List.length v6) (List.drop 0 v6)), (List.take (List.length v7) (List.drop 0 v7)), v24, v25, (IntKind.wrap .i64 (v26 + (1 : Int))), ()))
    else
      none
  else
    some (Sum.inr ((List.take (List.length v6) (List.drop 0 v6)), (List.take (List.length v7) (List.drop 0 v7)), ()))
theorem spec_GreatestOf_l6_eq : loopStep 66 E29 L29_0 (loopOf f29 6) sh29_6 xs29_6 = spec_GreatestOf_l6 := by kernel_rfl
theorem loop29_6 {L : Nat → Option LoopD} (h : L 6 = some ⟨66, sh29_6, xs29_6, spec_GreatestOf_l6⟩) : LoopOk prog L (loopOf f29 6) :=
  loopOk (tysOk_of tyl_ok) E29_ok (codeOk_in (L := L29_0) (tysOk_of tyl_ok) E29_ok mixed (c := loopOf f29 6) (bs := []) (by kernel_rfl) allNil (by kernel_rfl)) (by kernel_rfl) (by kernel_rfl) spec_GreatestOf_l6_eq (by rw [show firstId (loopOf f29 6) = 6 from by kernel_rfl]; exact h)
noncomputable def L29_1 : Nat → Option LoopD := fun n => ifEq n 6 (some ⟨66, sh29_6, xs29_6, spec_GreatestOf_l6⟩) (L29_0 n)
def sh29_14 : List Fm := [d, d, d, d, d, d, .cell (.own (.int .i64) 100600 false), .cell (.own .bool 100700 false), d, d, d, d, d, d, d, d, d, d, d, d, d, d, d, d, d, d, d, d, d, d, d, d, d, d, d, d, d, d, d, d, d, d, d, d, d, d, d, d, d, d, d, d, .cell (.val (.int .i64)), .cell (.val (.int .i64)), d, d, d, d, d, d, d, d, d, d, d, d]
def xs29_14 : List (Ex × List Fm) := [(.exit 2, [d, d, d, d, d, d, .cell (.own (.int .i64) 100600 false), d, d, d, d, d, d, d, d, d, d, d, d, d, d, d, d, d, d, d, d, d, d, d, d, d, d, d, d, d, d, d, d, d, d, d, d, d, d, d, d, d, d, d, d, d, d, d, d, d, d, d, d, d, d, d, d, d, d, d])]
noncomputable def spec_GreatestOf_l14 : ((List Int) × (List Bool) × Int × Int × Unit) → Option (((List Int) × (List Bool) × Int × Int × Unit) ⊕ (((List Int) × Unit))) := fun (v6, v7, v52, v53, _) =>
  bif (decide (v53 < v52)) then
    if (((0 : Int) ≤ v53) ∧ (v53 < (((List.length v7) : Nat) : Int))) then
      bif (!(List.getD v7 (0 + (Int.toNat v53)) false)) then
        if (((0 : Int) ≤ v53) ∧ (v53 < (((List.length v6) : Nat) : Int))) then
          some (Sum.inl ((List.take (List.length v6) (List.drop 0 (List.set v6 (0 + (Int.toNat v53)) (1000000 : Int)))), (List.take (List.length v7) (List.drop 0 v7)), v52, (IntKind.wrap .i64 (v53 + (1 : Int))), ()))
        else
          none
      else
        some (Sum.inl ((List.take (List.length v6) (List.drop 0 v6)), (List.take (List.length v7) (List.drop 0 v7)), v52, (IntKind.wrap .i64 (v53 + (1 : Int))), ()))
    else
      none
  else
    some (Sum.inr ((List.take (List.length v6) (List.drop 0 v6)), ()))
theorem spec_GreatestOf_l14_eq : loopStep 66 E29 L29_1 (loopOf f29 14) sh29_14 xs29_14 = spec_GreatestOf_l14 := by kernel_rfl
theorem loop29_14 {L : Nat → Option LoopD} (h : L 14 = some ⟨66, sh29_14, xs29_14, spec_GreatestOf_l14⟩) : LoopOk prog L (loopOf f29 14) :=
  loopOk (tysOk_of tyl_ok) E29_ok (codeOk_in (L := L29_1) (tysOk_of tyl_ok) E29_ok mixed (c := loopOf f29 14) (bs := []) (by kernel_rfl) allNil (by kernel_rfl)) (by kernel_rfl) (by kernel_rfl) spec_GreatestOf_l14_eq (by rw [show firstId (loopOf f29 14) = 14 from by kernel_rfl]; exact h)
noncomputable def L29_2 : Nat → Option LoopD := fun n => ifEq n 14 (some ⟨66, sh29_14, xs29_14, spec_GreatestOf_l14⟩) (L29_1 n)
noncomputable def spec_GreatestOf : (Int × ((List Int) × ((List Int) × (List (Int × (ByteArray × (Int × Int))))))) → Int → Option ((List Int) × Bool) := fun (a0_0, a0_1, a0_2, a0_3) a1 =>
  Option.bind (spec_l11Short (a0_0, a0_1, a0_2, a0_3) a1) fun r0 =>
    bif (!r0) then
      some ((List.take 0 (List.drop 0 [])), false)
    else
      if (((0 : Int) ≤ (IntKind.wrap .i64 (a1 + (1 : Int)))) ∧ (((IntKind.wrap .i64 (a1 + (1 : Int))) = (IntKind.wrap .i64 (a1 + (1 : Int)))) ∧ (((IntKind.wrap .i64 (a1 + (1 : Int))) * ((8 : Nat) : Int)) ≤ (140737488355328 : Int)))) then
        if (((0 : Int) ≤ (IntKind.wrap .i64 (a1 + (1 : Int)))) ∧ (((IntKind.wrap .i64 (a1 + (1 : Int))) = (IntKind.wrap .i64 (a1 + (1 : Int)))) ∧ (((IntKind.wrap .i64 (a1 + (1 : Int))) * ((1 : Nat) : Int)) ≤ (140737488355328 : Int)))) then
          Option.bind (spec_l4Words a1) fun r1 =>
            Option.bind (loopF spec_GreatestOf_l6 ((a0_0, a0_1, a0_2, a0_3, ()), (List.take (Int.toNat (IntKind.wrap .i64 (a1 + (1 : Int)))) (List.drop 0 (List.replicate (Int.toNat (IntKind.wrap .i64 (a1 + (1 : Int)))) (0 : Int)))), (List.take (Int.toNat (IntKind.wrap .i64 (a1 + (1 : Int)))) (List.drop 0 (List.replicate (Int.toNat (IntKind.wrap .i64 (a1 + (1 : Int)))) false))), r1, (((List.length r1) : Nat) : Int), (0 : Int), ())) fun (r2, r3, _) =>
              Option.bind (loopF spec_GreatestOf_l14 ((List.take (List.length r2) (List.drop 0 r2)), (List.take (List.length r3) (List.drop 0 r3)), (((List.length r2) : Nat) : Int), (0 : Int), ())) fun (r4, _) =>
                some ((List.take (List.length r4) (List.drop 0 r4)), true)
        else
          none
      else
        none
noncomputable def A29 : FnA := ⟨[.v (.pair (.int .i64) (.pair (.sl (.int .i64)) (.pair (.sl (.int .i64)) (.sl (.pair (.int .i64) (.pair .str (.pair (.int .i64) (.int .i64)))))))), .v (.int .i64)], true, [.sl (.int .i64), .bool], fun x => spec_GreatestOf x.1 x.2.1⟩
theorem spec_GreatestOf_eq : fnF E29 L29_2 [.v (.pair (.int .i64) (.pair (.sl (.int .i64)) (.pair (.sl (.int .i64)) (.sl (.pair (.int .i64) (.pair .str (.pair (.int .i64) (.int .i64)))))))), .v (.int .i64)] true [.sl (.int .i64), .bool] f29.ntmps f29.results.toList (codeOf f29) = fun x => spec_GreatestOf x.1 x.2.1 := by kernel_rfl
theorem A29_ok : FnOk prog 29 A29 := by
  have h := fnOk_of_run (P := prog) (E := E29) (tysOk_of tyl_ok) E29_ok (L := L29_2) (ps := [.v (.pair (.int .i64) (.pair (.sl (.int .i64)) (.pair (.sl (.int .i64)) (.sl (.pair (.int .i64) (.pair .str (.pair (.int .i64) (.int .i64)))))))), .v (.int .i64)]) (own := true) (outs := [.sl (.int .i64), .bool]) func29 (c := codeOf f29) (by kernel_rfl) (codeOk_in (L := L29_2) (tysOk_of tyl_ok) E29_ok mixed (c := codeOf f29) (bs := [loopOf f29 6, loopOf f29 14]) (by kernel_rfl) (allCons (loop29_6 rfl) (allCons (loop29_14 rfl) allNil)) (by kernel_rfl))
  rw [spec_GreatestOf_eq] at h
  exact h
/-! spec.l2Min -/
noncomputable def E104 : Env := ⟨ty0, fun _ => none, fun _ => none, fun _ => none, fun _ => none⟩
theorem E104_ok : FnsOk prog E104 := (noFns _ _)
noncomputable def L104_0 : Nat → Option LoopD := fun _ => none
def sh104_3 : List Fm := [d, d, .box 100200 [.val (.int .i64), .val (.sl (.int .i64))], .box 100300 [.val (.int .i64), .val (.sl (.int .i64))], .box 100400 [.val (.int .i64), .own (.int .i64) 100402 false], .box 100500 [.val (.int .i64), .own (.int .i64) 100502 false], d, d, d, d, d, d, .cell (.val (.int .i64)), .cell (.val (.int .i64)), d, d, d, d, d, d, d, d, d, d, d, d, d, d, d, d, d, d, d, d]
def xs104_3 : List (Ex × List Fm) := [(.exit 0, [d, d, d, d, .box 100400 [.val (.int .i64), .own (.int .i64) 100402 false], .box 100500 [.val (.int .i64), .own (.int .i64) 100502 false], d, d, d, d, d, d, d, d, d, d, d, d, d, d, d, d, d, d, d, d, d, d, d, d, d, d, d, d])]
noncomputable def spec_l2Min_l3 : ((Int × (List Int) × Unit) × (Int × (List Int) × Unit) × (Int × (List Int) × Unit) × (Int × (List Int) × Unit) × Int × Int × Unit) → Option (((Int × (List Int) × Unit) × (Int × (List Int) × Unit) × (Int × (List Int) × Unit) × (Int × (List Int) × Unit) × Int × Int × Unit) ⊕ (((Int × (List Int) × Unit) × (Int × (List Int) × Unit) × Unit))) := fun ((v2_0, v2_1, _), (v3_0, v3_1, _), (v4_0, v4_1, _), (v5_0, v5_1, _), v12, v13, _) =>
  bif (decide (v13 < v12)) then
    if (((0 : Int) ≤ v13) ∧ (v13 < (((List.length v2_1) : Nat) : Int))) then
      if (((0 : Int) ≤ v13) ∧ (v13 < (((List.length v3_1) : Nat) : Int))) then
        if (((0 + (List.length v5_1)) = (List.length v5_1)) ∧ ((((List.length v5_1) + (List.length (List.take 1 (List.drop 0 [(if ((List.getD v3_1 (Int.toNat v13) (0 : Int)) < (List.getD v2_1 (Int.toNat v13) (0 : Int))) then (List.getD v3_1 (Int.toNat v13) (0 : Int)) else (List.getD v2_1 (Int.toNat v13) (0 : Int)))])))) * 8) ≤ 140737488355328)) then
          some (Sum.inl ((v2_0, v2_1, ()), (v3_0, v3_1, ()), (v4_0, (List.take (List.length v4_1) (List.drop 0 v4_1)), ()), (v5_0, (List.take ((List.length v5_1) + (List.length (List.take 1 (List.drop 0 [(if ((List.getD v3_1 (Int.toNat v13) (0 : Int)) < (List.getD v2_1 (Int.toNat v13) (0 : Int))) then (List.getD v3_1 (Int.toNat v13) (0 : Int)) else (List.getD v2_1 (Int.toNat v13) (0 : Int)))])))) (List.drop 0 ((List.drop 0 v5_1) ++ (List.take 1 (List.drop 0 [(if ((List.getD v3_1 (Int.toNat v13) (0 : Int)) < (List.getD v2_1 (Int.toNat v13) (0 : Int))) then (List.getD v3_1 (Int.toNat v13) (0 : Int)) else (List.getD v2_1 (Int.toNat v13) (0 : Int)))]))))), ()), v12, (IntKind.wrap .i64 (v13 + (1 : Int))), ()))
        else
          none
      else
        none
    else
      none
  else
    some (Sum.inr ((v4_0, (List.take (List.length v4_1) (List.drop 0 v4_1)), ()), (v5_0, (List.take (List.length v5_1) (List.drop 0 v5_1)), ()), ()))
theorem spec_l2Min_l3_eq : loopStep 34 E104 L104_0 (loopOf f104 3) sh104_3 xs104_3 = spec_l2Min_l3 := by kernel_rfl
theorem loop104_3 {L : Nat → Option LoopD} (h : L 3 = some ⟨34, sh104_3, xs104_3, spec_l2Min_l3⟩) : LoopOk prog L (loopOf f104 3) :=
  loopOk (tysOk_of tyl_ok) E104_ok (codeOk_in (L := L104_0) (tysOk_of tyl_ok) E104_ok mixed (c := loopOf f104 3) (bs := []) (by kernel_rfl) allNil (by kernel_rfl)) (by kernel_rfl) (by kernel_rfl) spec_l2Min_l3_eq (by rw [show firstId (loopOf f104 3) = 3 from by kernel_rfl]; exact h)
noncomputable def L104_1 : Nat → Option LoopD := fun n => ifEq n 3 (some ⟨34, sh104_3, xs104_3, spec_l2Min_l3⟩) (L104_0 n)
noncomputable def spec_l2Min : (Int × (List Int)) → (Int × (List Int)) → Option ((Int × (List Int))) := fun (a0_0, a0_1) (a1_0, a1_1) =>
  Option.bind (loopF spec_l2Min_l3 ((a0_0, a0_1, ()), (a1_0, a1_1, ()), ((0 : Int), [], ()), (a0_0, [], ()), (((List.length a0_1) : Nat) : Int), (0 : Int), ())) fun ((r0, r1, _), (r2, r3, _), _) =>
    some (r2, (List.take (List.length r3) (List.drop 0 r3)))
noncomputable def A104 : FnA := ⟨[.v (.pair (.int .i64) (.sl (.int .i64))), .v (.pair (.int .i64) (.sl (.int .i64)))], true, [.pair (.int .i64) (.sl (.int .i64))], fun x => spec_l2Min x.1 x.2.1⟩
theorem spec_l2Min_eq : fnF E104 L104_1 [.v (.pair (.int .i64) (.sl (.int .i64))), .v (.pair (.int .i64) (.sl (.int .i64)))] true [.pair (.int .i64) (.sl (.int .i64))] f104.ntmps f104.results.toList (codeOf f104) = fun x => spec_l2Min x.1 x.2.1 := by kernel_rfl
theorem A104_ok : FnOk prog 104 A104 := by
  have h := fnOk_of_run (P := prog) (E := E104) (tysOk_of tyl_ok) E104_ok (L := L104_1) (ps := [.v (.pair (.int .i64) (.sl (.int .i64))), .v (.pair (.int .i64) (.sl (.int .i64)))]) (own := true) (outs := [.pair (.int .i64) (.sl (.int .i64))]) func104 (c := codeOf f104) (by kernel_rfl) (codeOk_in (L := L104_1) (tysOk_of tyl_ok) E104_ok mixed (c := codeOf f104) (bs := [loopOf f104 3]) (by kernel_rfl) (allCons (loop104_3 rfl) allNil) (by kernel_rfl))
  rw [spec_l2Min_eq] at h
  exact h
/-! spec.LeastOf -/
noncomputable def E63 : Env := ⟨ty0, fun g => ifEq g 87 (some A87) (ifEq g 105 (some A105) (ifEq g 104 (some A104) (ifEq g 106 (some A106) (ifEq g 107 (some A107) (ifEq g 108 (some A108) (none)))))), fun _ => none, fun _ => none, fun _ => none⟩
theorem E63_ok : FnsOk prog E63 := (oneFn A87_ok func87 (by kernel_rfl) (by kernel_rfl) (oneFn A105_ok func105 (by kernel_rfl) (by kernel_rfl) (oneFn A104_ok func104 (by kernel_rfl) (by kernel_rfl) (oneFn A106_ok func106 (by kernel_rfl) (by kernel_rfl) (oneFn A107_ok func107 (by kernel_rfl) (by kernel_rfl) (oneFn A108_ok func108 (by kernel_rfl) (by kernel_rfl) (noFns _ _)))))))
noncomputable def L63_0 : Nat → Option LoopD := fun _ => none
def sh63_7 : List Fm := [d, d, .box 100200 [.val (.int .i64), .val (.sl (.int .i64)), .val (.sl (.int .i64)), .val (.sl (.pair (.int .i64) (.pair .str (.pair (.int .i64) (.int .i64)))))], d, d, d, .cell (.own (.int .i64) 100600 false), .box 100700 [.val (.int .i64), .own (.int .i64) 100702 false], .box 100800 [.val (.int .i64), .own (.int .i64) 100802 false], d, d, d, d, d, d, d, d, d, d, d, d, d, d, d, .cell (.val (.int .i64)), .cell (.val (.int .i64)), d, d, d, d, d, d, d, d, d, d, d, d]
def xs63_7 : List (Ex × List Fm) := [(.exit 0, [d, d, d, d, d, d, .cell (.own (.int .i64) 100600 false), d, d, d, d, d, d, d, d, d, d, d, d, d, d, d, d, d, d, d, d, d, d, d, d, d, d, d, d, d, d, d])]
noncomputable def spec_LeastOf_l7 : ((Int × (List Int) × (List Int) × (List (Int × (ByteArray × (Int × Int)))) × Unit) × (List Int) × (Int × (List Int) × Unit) × (Int × (List Int) × Unit) × Int × Int × Unit) → Option (((Int × (List Int) × (List Int) × (List (Int × (ByteArray × (Int × Int)))) × Unit) × (List Int) × (Int × (List Int) × Unit) × (Int × (List Int) × Unit) × Int × Int × Unit) ⊕ (((List Int) × Unit))) := fun ((v2_0, v2_1, v2_2, v2_3, _), v6, (v7_0, v7_1, _), (v8_0, v8_1, _), v24, v25, _) =>
  bif (decide (v25 < v24)) then
    Option.bind (spec_l4Least (v2_0, v2_1, v2_2, v2_3) (v8_0, (List.take (List.length v8_1) (List.drop 0 v8_1)))) fun r0 =>
      if (((0 + (List.length v6)) = (List.length v6)) ∧ ((((List.length v6) + (List.length (List.take 1 (List.drop 0 [r0])))) * 8) ≤ 140737488355328)) then
        Option.bind (spec_l2Mul (v8_0, (List.take (List.length v8_1) (List.drop 0 v8_1))) (v7_0, (List.take (List.length v7_1) (List.drop 0 v7_1)))) fun (r1, r2) =>
          some (Sum.inl ((v2_0, v2_1, v2_2, v2_3, ()), (List.take ((List.length v6) + (List.length (List.take 1 (List.drop 0 [r0])))) (List.drop 0 ((List.drop 0 v6) ++ (List.take 1 (List.drop 0 [r0]))))), (v7_0, (List.take (List.length v7_1) (List.drop 0 v7_1)), ()), (r1, (List.take (List.length r2) (List.drop 0 r2)), ()), v24, (IntKind.wrap .i64 (v25 + (1 : Int))), ()))
      else
        none
  else
    some (Sum.inr ((List.take (List.length v6) (List.drop 0 v6)), ()))
theorem spec_LeastOf_l7_eq : loopStep 38 E63 L63_0 (loopOf f63 7) sh63_7 xs63_7 = spec_LeastOf_l7 := by kernel_rfl
theorem loop63_7 {L : Nat → Option LoopD} (h : L 7 = some ⟨38, sh63_7, xs63_7, spec_LeastOf_l7⟩) : LoopOk prog L (loopOf f63 7) :=
  loopOk (tysOk_of tyl_ok) E63_ok (codeOk_in (L := L63_0) (tysOk_of tyl_ok) E63_ok mixed (c := loopOf f63 7) (bs := []) (by kernel_rfl) allNil (by kernel_rfl)) (by kernel_rfl) (by kernel_rfl) spec_LeastOf_l7_eq (by rw [show firstId (loopOf f63 7) = 7 from by kernel_rfl]; exact h)
noncomputable def L63_1 : Nat → Option LoopD := fun n => ifEq n 7 (some ⟨38, sh63_7, xs63_7, spec_LeastOf_l7⟩) (L63_0 n)
noncomputable def spec_LeastOf : (Int × ((List Int) × ((List Int) × (List (Int × (ByteArray × (Int × Int))))))) → Int → Option ((List Int) × Bool) := fun (a0_0, a0_1, a0_2, a0_3) a1 =>
  Option.bind (spec_l11Short (a0_0, a0_1, a0_2, a0_3) a1) fun r0 =>
    bif (!r0) then
      some ((List.take 0 (List.drop 0 [])), false)
    else
      Option.bind (spec_l3Matrix (a0_0, a0_1, a0_2, a0_3) (⟨#[(97 : UInt8)]⟩ : ByteArray)) fun (r1, r2) =>
        Option.bind (spec_l3Matrix (a0_0, a0_1, a0_2, a0_3) (⟨#[(98 : UInt8)]⟩ : ByteArray)) fun (r3, r4) =>
          Option.bind (spec_l2Min (r1, (List.take (List.length r2) (List.drop 0 r2))) (r3, (List.take (List.length r4) (List.drop 0 r4)))) fun (r5, r6) =>
            Option.bind (spec_l2Unit a0_0) fun (r7, r8) =>
              Option.bind (loopF spec_LeastOf_l7 ((a0_0, a0_1, a0_2, a0_3, ()), (List.take 0 (List.drop 0 [])), (r5, (List.take (List.length r6) (List.drop 0 r6)), ()), (r7, (List.take (List.length r8) (List.drop 0 r8)), ()), (IntKind.wrap .i64 (a1 + (1 : Int))), (0 : Int), ())) fun (r9, _) =>
                some ((List.take (List.length r9) (List.drop 0 r9)), true)
noncomputable def A63 : FnA := ⟨[.v (.pair (.int .i64) (.pair (.sl (.int .i64)) (.pair (.sl (.int .i64)) (.sl (.pair (.int .i64) (.pair .str (.pair (.int .i64) (.int .i64)))))))), .v (.int .i64)], true, [.sl (.int .i64), .bool], fun x => spec_LeastOf x.1 x.2.1⟩
theorem spec_LeastOf_eq : fnF E63 L63_1 [.v (.pair (.int .i64) (.pair (.sl (.int .i64)) (.pair (.sl (.int .i64)) (.sl (.pair (.int .i64) (.pair .str (.pair (.int .i64) (.int .i64)))))))), .v (.int .i64)] true [.sl (.int .i64), .bool] f63.ntmps f63.results.toList (codeOf f63) = fun x => spec_LeastOf x.1 x.2.1 := by kernel_rfl
theorem A63_ok : FnOk prog 63 A63 := by
  have h := fnOk_of_run (P := prog) (E := E63) (tysOk_of tyl_ok) E63_ok (L := L63_1) (ps := [.v (.pair (.int .i64) (.pair (.sl (.int .i64)) (.pair (.sl (.int .i64)) (.sl (.pair (.int .i64) (.pair .str (.pair (.int .i64) (.int .i64)))))))), .v (.int .i64)]) (own := true) (outs := [.sl (.int .i64), .bool]) func63 (c := codeOf f63) (by kernel_rfl) (codeOk_in (L := L63_1) (tysOk_of tyl_ok) E63_ok mixed (c := codeOf f63) (bs := [loopOf f63 7]) (by kernel_rfl) (allCons (loop63_7 rfl) allNil) (by kernel_rfl))
  rw [spec_LeastOf_eq] at h
  exact h
/-! laws.daSame -/
noncomputable def E39 : Env := ⟨ty0, fun _ => none, fun _ => none, fun _ => none, fun _ => none⟩
theorem E39_ok : FnsOk prog E39 := (noFns _ _)
noncomputable def L39_0 : Nat → Option LoopD := fun _ => none
def sh39_2 : List Fm := [.cell (.val (.sl (.int .i64))), .cell (.val (.sl (.int .i64))), d, d, d, d, d, d, d, d, .cell (.val (.int .i64)), .cell (.val (.int .i64)), d, d, d, d, d, d, d, d, d, d, d, d, d, d, d, d, d]
def xs39_2 : List (Ex × List Fm) := [(.ret, [d, d, d, d, .cell (.val .bool), d, d, d, d, d, d, d, d, d, d, d, d, d, d, d, d, d, d, d, d, d, d, d, d]), (.exit 0, [.cell (.val (.sl (.int .i64))), .cell (.val (.sl (.int .i64))), d, d, d, d, d, d, d, d, d, d, d, d, d, d, d, d, d, d, d, d, d, d, d, d, d, d, d])]
noncomputable def laws_daSame_l2 : ((List Int) × (List Int) × Int × Int × Unit) → Option (((List Int) × (List Int) × Int × Int × Unit) ⊕ ((Bool × Unit) ⊕ ((List Int) × (List Int) × Unit))) := fun (v0, v1, v10, v11, _) =>
  bif (decide (v11 < v10)) then
    if (((0 : Int) ≤ v11) ∧ (v11 < (((List.length v0) : Nat) : Int))) then
      if (((0 : Int) ≤ v11) ∧ (v11 < (((List.length v1) : Nat) : Int))) then
        bif ((List.getD v0 (Int.toNat v11) (0 : Int)) != (List.getD v1 (Int.toNat v11) (0 : Int))) then
          some (Sum.inr (Sum.inl (false, ())))
        else
          some (Sum.inl (v0, v1, v10, (IntKind.wrap .i64 (v11 + (1 : Int))), ()))
      else
        none
    else
      none
  else
    some (Sum.inr (Sum.inr (v0, v1, ())))
theorem laws_daSame_l2_eq : loopStep 29 E39 L39_0 (loopOf f39 2) sh39_2 xs39_2 = laws_daSame_l2 := by kernel_rfl
theorem loop39_2 {L : Nat → Option LoopD} (h : L 2 = some ⟨29, sh39_2, xs39_2, laws_daSame_l2⟩) : LoopOk prog L (loopOf f39 2) :=
  loopOk (tysOk_of tyl_ok) E39_ok (codeOk_in (L := L39_0) (tysOk_of tyl_ok) E39_ok mixed (c := loopOf f39 2) (bs := []) (by kernel_rfl) allNil (by kernel_rfl)) (by kernel_rfl) (by kernel_rfl) laws_daSame_l2_eq (by rw [show firstId (loopOf f39 2) = 2 from by kernel_rfl]; exact h)
noncomputable def L39_1 : Nat → Option LoopD := fun n => ifEq n 2 (some ⟨29, sh39_2, xs39_2, laws_daSame_l2⟩) (L39_0 n)
noncomputable def laws_daSame : (List Int) → (List Int) → Option (Bool) := fun a0 a1 =>
  Option.bind (loopF laws_daSame_l2 (a0, a1, (if ((((List.length a1) : Nat) : Int) < (((List.length a0) : Nat) : Int)) then (((List.length a1) : Nat) : Int) else (((List.length a0) : Nat) : Int)), (0 : Int), ())) fun r0 =>
    (match r0 with
    | .inl (d1, _) =>
        some d1
    | .inr (d2, d3, _) =>
        some ((((List.length d2) : Nat) : Int) == (((List.length d3) : Nat) : Int)))
noncomputable def A39 : FnA := ⟨[.v (.sl (.int .i64)), .v (.sl (.int .i64))], true, [.bool], fun x => laws_daSame x.1 x.2.1⟩
theorem laws_daSame_eq : fnF E39 L39_1 [.v (.sl (.int .i64)), .v (.sl (.int .i64))] true [.bool] f39.ntmps f39.results.toList (codeOf f39) = fun x => laws_daSame x.1 x.2.1 := by kernel_rfl
theorem A39_ok : FnOk prog 39 A39 := by
  have h := fnOk_of_run (P := prog) (E := E39) (tysOk_of tyl_ok) E39_ok (L := L39_1) (ps := [.v (.sl (.int .i64)), .v (.sl (.int .i64))]) (own := true) (outs := [.bool]) func39 (c := codeOf f39) (by kernel_rfl) (codeOk_in (L := L39_1) (tysOk_of tyl_ok) E39_ok mixed (c := codeOf f39) (bs := [loopOf f39 2]) (by kernel_rfl) (allCons (loop39_2 rfl) allNil) (by kernel_rfl))
  rw [laws_daSame_eq] at h
  exact h
/-! impl.filled -/
noncomputable def E109 : Env := ⟨ty0, fun _ => none, fun _ => none, fun _ => none, fun _ => none⟩
theorem E109_ok : FnsOk prog E109 := (noFns _ _)
noncomputable def L109_0 : Nat → Option LoopD := fun _ => none
def sh109_6 : List Fm := [.cell (.val (.int .i64)), .clo [.int .i64, .int .i64] (.int .i64), d, d, .box 100400 [.val (.int .i64), .own (.int .i64) 100402 false], .box 100500 [.val (.int .i64), .own (.int .i64) 100502 false], .cell (.val (.int .i64)), d, d, d, .cell (.val (.int .i64)), .cell (.val (.int .i64)), d, d, .cell (.val (.int .i64)), .cell (.val (.int .i64)), d, d, d, d, d, d, d, d, d, d, d, d, d, d]
def xs109_6 : List (Ex × List Fm) := [(.exit 2, [.cell (.val (.int .i64)), .clo [.int .i64, .int .i64] (.int .i64), d, d, .box 100400 [.val (.int .i64), .own (.int .i64) 100402 false], .box 100500 [.val (.int .i64), .own (.int .i64) 100502 false], d, d, d, d, .cell (.val (.int .i64)), .cell (.val (.int .i64)), d, d, d, d, d, d, d, d, d, d, d, d, d, d, d, d, d, d])]
noncomputable def impl_filled_l6 : (Int × ((Int × Int × Unit) → Option (Int)) × (Int × (List Int) × Unit) × (Int × (List Int) × Unit) × Int × Int × Int × Int × Int × Unit) → Option ((Int × ((Int × Int × Unit) → Option (Int)) × (Int × (List Int) × Unit) × (Int × (List Int) × Unit) × Int × Int × Int × Int × Int × Unit) ⊕ ((Int × ((Int × Int × Unit) → Option (Int)) × (Int × (List Int) × Unit) × (Int × (List Int) × Unit) × Int × Int × Unit))) := fun (v0, v1, (v4_0, v4_1, _), (v5_0, v5_1, _), v6, v10, v11, v14, v15, _) =>
  bif (decide (v15 < v14)) then
    Option.bind (v1 (v6, v15, ())) fun r0 =>
      if (((0 + (List.length v5_1)) = (List.length v5_1)) ∧ ((((List.length v5_1) + (List.length (List.take 1 (List.drop 0 [r0])))) * 8) ≤ 140737488355328)) then
        some (Sum.inl (v0, v1, (v4_0, (List.take (List.length v4_1) (List.drop 0 v4_1)), ()), (v5_0, (List.take ((List.length v5_1) + (List.length (List.take 1 (List.drop 0 [r0])))) (List.drop 0 ((List.drop 0 v5_1) ++ (List.take 1 (List.drop 0 [r0]))))), ()), v6, v10, v11, v14, (IntKind.wrap .i64 (v15 + (1 : Int))), ()))
      else
        none
  else
    some (Sum.inr (v0, v1, (v4_0, (List.take (List.length v4_1) (List.drop 0 v4_1)), ()), (v5_0, (List.take (List.length v5_1) (List.drop 0 v5_1)), ()), v10, v11, ()))
theorem impl_filled_l6_eq : loopStep 30 E109 L109_0 (loopOf f109 6) sh109_6 xs109_6 = impl_filled_l6 := by kernel_rfl
theorem loop109_6 {L : Nat → Option LoopD} (h : L 6 = some ⟨30, sh109_6, xs109_6, impl_filled_l6⟩) : LoopOk prog L (loopOf f109 6) :=
  loopOk (tysOk_of tyl_ok) E109_ok (codeOk_in (L := L109_0) (tysOk_of tyl_ok) E109_ok mixed (c := loopOf f109 6) (bs := []) (by kernel_rfl) allNil (by kernel_rfl)) (by kernel_rfl) (by kernel_rfl) impl_filled_l6_eq (by rw [show firstId (loopOf f109 6) = 6 from by kernel_rfl]; exact h)
noncomputable def L109_1 : Nat → Option LoopD := fun n => ifEq n 6 (some ⟨30, sh109_6, xs109_6, impl_filled_l6⟩) (L109_0 n)
def sh109_3 : List Fm := [.cell (.val (.int .i64)), .clo [.int .i64, .int .i64] (.int .i64), d, d, .box 100400 [.val (.int .i64), .own (.int .i64) 100402 false], .box 100500 [.val (.int .i64), .own (.int .i64) 100502 false], d, d, d, d, .cell (.val (.int .i64)), .cell (.val (.int .i64)), d, d, d, d, d, d, d, d, d, d, d, d, d, d, d, d, d, d]
def xs109_3 : List (Ex × List Fm) := [(.exit 0, [d, d, d, d, .box 100400 [.val (.int .i64), .own (.int .i64) 100402 false], .box 100500 [.val (.int .i64), .own (.int .i64) 100502 false], d, d, d, d, d, d, d, d, d, d, d, d, d, d, d, d, d, d, d, d, d, d, d, d])]
noncomputable def impl_filled_l3 : (Int × ((Int × Int × Unit) → Option (Int)) × (Int × (List Int) × Unit) × (Int × (List Int) × Unit) × Int × Int × Unit) → Option ((Int × ((Int × Int × Unit) → Option (Int)) × (Int × (List Int) × Unit) × (Int × (List Int) × Unit) × Int × Int × Unit) ⊕ (((Int × (List Int) × Unit) × (Int × (List Int) × Unit) × Unit))) := fun (v0, v1, (v4_0, v4_1, _), (v5_0, v5_1, _), v10, v11, _) =>
  bif (decide (v11 < v10)) then
    Option.bind (loopF impl_filled_l6 (v0, v1, (v4_0, (List.take (List.length v4_1) (List.drop 0 v4_1)), ()), (v5_0, (List.take (List.length v5_1) (List.drop 0 v5_1)), ()), v11, v10, v11, v0, (0 : Int), ())) fun (r0, r1, (r2, r3, _), (r4, r5, _), r6, r7, _) =>
      some (Sum.inl (r0, r1, (r2, (List.take (List.length r3) (List.drop 0 r3)), ()), (r4, (List.take (List.length r5) (List.drop 0 r5)), ()), r6, (IntKind.wrap .i64 (r7 + (1 : Int))), ()))
  else
    some (Sum.inr ((v4_0, (List.take (List.length v4_1) (List.drop 0 v4_1)), ()), (v5_0, (List.take (List.length v5_1) (List.drop 0 v5_1)), ()), ()))
theorem impl_filled_l3_eq : loopStep 30 E109 L109_1 (loopOf f109 3) sh109_3 xs109_3 = impl_filled_l3 := by kernel_rfl
theorem loop109_3 {L : Nat → Option LoopD} (h : L 3 = some ⟨30, sh109_3, xs109_3, impl_filled_l3⟩) : LoopOk prog L (loopOf f109 3) :=
  loopOk (tysOk_of tyl_ok) E109_ok (codeOk_in (L := L109_1) (tysOk_of tyl_ok) E109_ok mixed (c := loopOf f109 3) (bs := [loopOf f109 6]) (by kernel_rfl) (allCons (loop109_6 rfl) allNil) (by kernel_rfl)) (by kernel_rfl) (by kernel_rfl) impl_filled_l3_eq (by rw [show firstId (loopOf f109 3) = 3 from by kernel_rfl]; exact h)
noncomputable def L109_2 : Nat → Option LoopD := fun n => ifEq n 3 (some ⟨30, sh109_3, xs109_3, impl_filled_l3⟩) (L109_1 n)
noncomputable def impl_filled : Int → ((Int × Int × Unit) → Option (Int)) → Option ((Int × (List Int))) := fun a0 a1 =>
  Option.bind (loopF impl_filled_l3 (a0, a1, ((0 : Int), [], ()), (a0, [], ()), a0, (0 : Int), ())) fun ((r0, r1, _), (r2, r3, _), _) =>
    some (r2, (List.take (List.length r3) (List.drop 0 r3)))
noncomputable def A109 : FnA := ⟨[.v (.int .i64), .clo [.int .i64, .int .i64] (.int .i64)], true, [.pair (.int .i64) (.sl (.int .i64))], fun x => impl_filled x.1 x.2.1⟩
theorem impl_filled_eq : fnF E109 L109_2 [.v (.int .i64), .clo [.int .i64, .int .i64] (.int .i64)] true [.pair (.int .i64) (.sl (.int .i64))] f109.ntmps f109.results.toList (codeOf f109) = fun x => impl_filled x.1 x.2.1 := by kernel_rfl
theorem A109_ok : FnOk prog 109 A109 := by
  have h := fnOk_of_run (P := prog) (E := E109) (tysOk_of tyl_ok) E109_ok (L := L109_2) (ps := [.v (.int .i64), .clo [.int .i64, .int .i64] (.int .i64)]) (own := true) (outs := [.pair (.int .i64) (.sl (.int .i64))]) func109 (c := codeOf f109) (by kernel_rfl) (codeOk_in (L := L109_2) (tysOk_of tyl_ok) E109_ok mixed (c := codeOf f109) (bs := [loopOf f109 3]) (by kernel_rfl) (allCons (loop109_3 rfl) allNil) (by kernel_rfl))
  rw [impl_filled_eq] at h
  exact h
/-! impl.StepMatrix$1 -/
noncomputable def E110 : Env := ⟨ty0, fun _ => none, fun _ => none, fun _ => none, fun _ => none⟩
theorem E110_ok : FnsOk prog E110 := (noFns _ _)
noncomputable def L110_0 : Nat → Option LoopD := fun _ => none
noncomputable def impl_StepMatrix_1 : Int → Int → Option (Int) := fun a0 a1 =>
  some (1000000 : Int)
noncomputable def A110 : FnA := ⟨[.v (.int .i64), .v (.int .i64)], true, [.int .i64], fun x => impl_StepMatrix_1 x.1 x.2.1⟩
theorem impl_StepMatrix_1_eq : fnF E110 L110_0 [.v (.int .i64), .v (.int .i64)] true [.int .i64] f110.ntmps f110.results.toList (codeOf f110) = fun x => impl_StepMatrix_1 x.1 x.2.1 := by kernel_rfl
theorem A110_ok : FnOk prog 110 A110 := by
  have h := fnOk_of_run (P := prog) (E := E110) (tysOk_of tyl_ok) E110_ok (L := L110_0) (ps := [.v (.int .i64), .v (.int .i64)]) (own := true) (outs := [.int .i64]) func110 (c := codeOf f110) (by kernel_rfl) (codeOk_in (L := L110_0) (tysOk_of tyl_ok) E110_ok mixed (c := codeOf f110) (bs := []) (by kernel_rfl) allNil (by kernel_rfl))
  rw [impl_StepMatrix_1_eq] at h
  exact h
/-! impl.StepMatrix -/
noncomputable def E64 : Env := ⟨ty0, fun g => ifEq g 60 (some A60) (ifEq g 109 (some A109) (ifEq g 110 (some A110) (none))), fun _ => none, fun _ => none, fun _ => none⟩
theorem E64_ok : FnsOk prog E64 := (oneFn A60_ok func60 (by kernel_rfl) (by kernel_rfl) (oneFn A109_ok func109 (by kernel_rfl) (by kernel_rfl) (oneFn A110_ok func110 (by kernel_rfl) (by kernel_rfl) (noFns _ _))))
noncomputable def L64_0 : Nat → Option LoopD := fun _ => none
def sh64_5 : List Fm := [d, .cell (.val .str), d, d, .box 100400 [.val (.int .i64), .own (.int .i64) 100402 false], d, .box 100600 [.val (.int .i64), .own (.int .i64) 100602 false], d, d, d, d, d, d, d, d, d, d, d, d, d, d, d, d, d, d, .cell (.val (.sl (.pair (.int .i64) (.pair .str (.pair (.int .i64) (.int .i64)))))), .cell (.val (.int .i64)), .cell (.val (.int .i64)), d, d, d, d, d, d, d, d, d, d, d, d, d, d, d, d, d, d, d, d, d, d]
def xs64_5 : List (Ex × List Fm) := [(.exit 0, [d, d, d, d, .box 100400 [.val (.int .i64), .own (.int .i64) 100402 false], d, .box 100600 [.val (.int .i64), .own (.int .i64) 100602 false], d, d, d, d, d, d, d, d, d, d, d, d, d, d, d, d, d, d, d, d, d, d, d, d, d, d, d, d, d, d, d, d, d, d, d, d, d, d, d, d, d, d, d])]
noncomputable def impl_StepMatrix_l5 : (ByteArray × (Int × (List Int) × Unit) × (Int × (List Int) × Unit) × (List (Int × (ByteArray × (Int × Int)))) × Int × Int × Unit) → Option ((ByteArray × (Int × (List Int) × Unit) × (Int × (List Int) × Unit) × (List (Int × (ByteArray × (Int × Int)))) × Int × Int × Unit) ⊕ (((Int × (List Int) × Unit) × (Int × (List Int) × Unit) × Unit))) := fun (v1, (v4_0, v4_1, _), (v6_0, v6_1, _), v25, v26, v27, _) =>
  bif (decide (v27 < v26)) then
    if (((0 : Int) ≤ v27) ∧ (v27 < (((List.length v25) : Nat) : Int))) then
      bif ((ByteArray.toList (List.getD v25 (Int.toNat v27) ((0 : Int), (⟨Array.empty⟩ : ByteArray), (0 : Int), (0 : Int))).2.1) == (ByteArray.toList v1)) then
        if (((0 : Int) ≤ (IntKind.wrap .i64 ((IntKind.wrap .i64 ((List.getD v25 (Int.toNat v27) ((0 : Int), (⟨Array.empty⟩ : ByteArray), (0 : Int), (0 : Int))).1 * v6_0)) + (List.getD v25 (Int.toNat v27) ((0 : Int), (⟨Array.empty⟩ : ByteArray), (0 : Int), (0 : Int))).2.2.1))) ∧ ((IntKind.wrap .i64 ((IntKind.wrap .i64 ((List.getD v25 (Int.toNat v27) ((0 : Int), (⟨Array.empty⟩ : ByteArray), (0 : Int), (0 : Int))).1 * v6_0)) + (List.getD v25 (Int.toNat v27) ((0 : Int), (⟨Array.empty⟩ : ByteArray), (0 : Int), (0 : Int))).2.2.1)) < (((List.length v6_1) : Nat) : Int))) then
          some (Sum.inl (v1, (v4_0, (List.take (List.length v4_1) (List.drop 0 v4_1)), ()), (v6_0, (List.take (List.length v6_1) (List.drop 0 (List.set v6_1 (0 + (Int.toNat (IntKind.wrap .i64 ((IntKind.wrap .i64 ((List.getD v25 (Int.toNat v27) ((0 : Int), (⟨Array.empty⟩ : ByteArray), (0 : Int), (0 : Int))).1 * v6_0)) + (List.getD v25 (Int.toNat v27) ((0 : Int), (⟨Array.empty⟩ : ByteArray), (0 : Int), (0 : Int))).2.2.1)))) (List.getD v25 (Int.toNat v27) ((0 : Int), (⟨Array.empty⟩ : ByteArray), (0 : Int), (0 : Int))).2.2.2))), ()), v25, v26, (IntKind.wrap .i64 (v27 + (1 : Int))), ()))
        else
          none
      else
        some (Sum.inl (v1, (v4_0, (List.take (List.length v4_1) (List.drop 0 v4_1)), ()), (v6_0, (List.take (List.length v6_1) (List.drop 0 v6_1)), ()), v25, v26, (IntKind.wrap .i64 (v27 + (1 : Int))), ()))
    else
      none
  else
    some (Sum.inr ((v4_0, (List.take (List.length v4_1) (List.drop 0 v4_1)), ()), (v6_0, (List.take (List.length v6_1) (List.drop 0 v6_1)), ()), ()))
theorem impl_StepMatrix_l5_eq : loopStep 50 E64 L64_0 (loopOf f64 5) sh64_5 xs64_5 = impl_StepMatrix_l5 := by kernel_rfl
theorem loop64_5 {L : Nat → Option LoopD} (h : L 5 = some ⟨50, sh64_5, xs64_5, impl_StepMatrix_l5⟩) : LoopOk prog L (loopOf f64 5) :=
  loopOk (tysOk_of tyl_ok) E64_ok (codeOk_in (L := L64_0) (tysOk_of tyl_ok) E64_ok mixed (c := loopOf f64 5) (bs := []) (by kernel_rfl) allNil (by kernel_rfl)) (by kernel_rfl) (by kernel_rfl) impl_StepMatrix_l5_eq (by rw [show firstId (loopOf f64 5) = 5 from by kernel_rfl]; exact h)
noncomputable def L64_1 : Nat → Option LoopD := fun n => ifEq n 5 (some ⟨50, sh64_5, xs64_5, impl_StepMatrix_l5⟩) (L64_0 n)
noncomputable def impl_StepMatrix : (Int × ((List Int) × ((List Int) × (List (Int × (ByteArray × (Int × Int))))))) → ByteArray → Option ((Int × (List Int)) × Bool) := fun (a0_0, a0_1, a0_2, a0_3) a1 =>
  Option.bind (impl_AutomatonValid (a0_0, a0_1, a0_2, a0_3)) fun r0 =>
    bif (!r0) then
      some (((0 : Int), []), false)
    else
      bif (!((ByteArray.toList a1) == (ByteArray.toList (⟨#[(97 : UInt8)]⟩ : ByteArray)))) then
        bif (!((ByteArray.toList a1) == (ByteArray.toList (⟨#[(98 : UInt8)]⟩ : ByteArray)))) then
          some (((0 : Int), []), false)
        else
          Option.bind (impl_filled a0_0 (fun y1 => (impl_StepMatrix_1 y1.1 y1.2.1))) fun (r2, r3) =>
            Option.bind (loopF impl_StepMatrix_l5 (a1, ((0 : Int), [], ()), (r2, (List.take (List.length r3) (List.drop 0 r3)), ()), a0_3, (((List.length a0_3) : Nat) : Int), (0 : Int), ())) fun ((r4, r5, _), (r6, r7, _), _) =>
              some ((r6, (List.take (List.length r7) (List.drop 0 r7))), true)
      else
        Option.bind (impl_filled a0_0 (fun y8 => (impl_StepMatrix_1 y8.1 y8.2.1))) fun (r9, r10) =>
          Option.bind (loopF impl_StepMatrix_l5 (a1, ((0 : Int), [], ()), (r9, (List.take (List.length r10) (List.drop 0 r10)), ()), a0_3, (((List.length a0_3) : Nat) : Int), (0 : Int), ())) fun ((r11, r12, _), (r13, r14, _), _) =>
            some ((r13, (List.take (List.length r14) (List.drop 0 r14))), true)
noncomputable def A64 : FnA := ⟨[.v (.pair (.int .i64) (.pair (.sl (.int .i64)) (.pair (.sl (.int .i64)) (.sl (.pair (.int .i64) (.pair .str (.pair (.int .i64) (.int .i64)))))))), .v .str], true, [.pair (.int .i64) (.sl (.int .i64)), .bool], fun x => impl_StepMatrix x.1 x.2.1⟩
theorem impl_StepMatrix_eq : fnF E64 L64_1 [.v (.pair (.int .i64) (.pair (.sl (.int .i64)) (.pair (.sl (.int .i64)) (.sl (.pair (.int .i64) (.pair .str (.pair (.int .i64) (.int .i64)))))))), .v .str] true [.pair (.int .i64) (.sl (.int .i64)), .bool] f64.ntmps f64.results.toList (codeOf f64) = fun x => impl_StepMatrix x.1 x.2.1 := by kernel_rfl
theorem A64_ok : FnOk prog 64 A64 := by
  have h := fnOk_of_run (P := prog) (E := E64) (tysOk_of tyl_ok) E64_ok (L := L64_1) (ps := [.v (.pair (.int .i64) (.pair (.sl (.int .i64)) (.pair (.sl (.int .i64)) (.sl (.pair (.int .i64) (.pair .str (.pair (.int .i64) (.int .i64)))))))), .v .str]) (own := true) (outs := [.pair (.int .i64) (.sl (.int .i64)), .bool]) func64 (c := codeOf f64) (by kernel_rfl) (codeOk_in (L := L64_1) (tysOk_of tyl_ok) E64_ok mixed (c := codeOf f64) (bs := [loopOf f64 5]) (by kernel_rfl) (allCons (loop64_5 rfl) allNil) (by kernel_rfl))
  rw [impl_StepMatrix_eq] at h
  exact h
/-! slices.IndexFunc[[]int,int] -/
noncomputable def E176 : Env := ⟨ty0, fun _ => none, fun _ => none, fun _ => none, fun _ => none⟩
theorem E176_ok : FnsOk prog E176 := (noFns _ _)
noncomputable def L176_0 : Nat → Option LoopD := fun _ => none
def sh176_2 : List Fm := [.cell (.val (.sl (.int .i64))), .clo [.int .i64] .bool, d, d, d, d, d, .cell (.val (.int .i64)), .cell (.val (.int .i64)), d, d, d, d, d, d, d, d, d, d]
def xs176_2 : List (Ex × List Fm) := [(.ret, [d, d, d, d, .cell (.val (.int .i64)), d, d, d, d, d, d, d, d, d, d, d, d, d, d]), (.exit 0, [d, d, d, d, d, d, d, d, d, d, d, d, d, d, d, d, d, d, d])]
noncomputable def slices_IndexFunc_l2 : ((List Int) × ((Int × Unit) → Option (Bool)) × Int × Int × Unit) → Option (((List Int) × ((Int × Unit) → Option (Bool)) × Int × Int × Unit) ⊕ ((Int × Unit) ⊕ (Unit))) := fun (v0, v1, v7, v8, _) =>
  bif (decide (v8 < v7)) then
    if (((0 : Int) ≤ v8) ∧ (v8 < (((List.length v0) : Nat) : Int))) then
      Option.bind (v1 ((List.getD v0 (Int.toNat v8) (0 : Int)), ())) fun r0 =>
        bif r0 then
          some (Sum.inr (Sum.inl (v8, ())))
        else
          some (Sum.inl (v0, v1, v7, (IntKind.wrap .i64 (v8 + (1 : Int))), ()))
    else
      none
  else
    some (Sum.inr (Sum.inr ()))
theorem slices_IndexFunc_l2_eq : loopStep 19 E176 L176_0 (loopOf f176 2) sh176_2 xs176_2 = slices_IndexFunc_l2 := by kernel_rfl
theorem loop176_2 {L : Nat → Option LoopD} (h : L 2 = some ⟨19, sh176_2, xs176_2, slices_IndexFunc_l2⟩) : LoopOk prog L (loopOf f176 2) :=
  loopOk (tysOk_of tyl_ok) E176_ok (codeOk_in (L := L176_0) (tysOk_of tyl_ok) E176_ok mixed (c := loopOf f176 2) (bs := []) (by kernel_rfl) allNil (by kernel_rfl)) (by kernel_rfl) (by kernel_rfl) slices_IndexFunc_l2_eq (by rw [show firstId (loopOf f176 2) = 2 from by kernel_rfl]; exact h)
noncomputable def L176_1 : Nat → Option LoopD := fun n => ifEq n 2 (some ⟨19, sh176_2, xs176_2, slices_IndexFunc_l2⟩) (L176_0 n)
noncomputable def slices_IndexFunc : (List Int) → ((Int × Unit) → Option (Bool)) → Option (Int) := fun a0 a1 =>
  Option.bind (loopF slices_IndexFunc_l2 (a0, a1, (((List.length a0) : Nat) : Int), (0 : Int), ())) fun r0 =>
    (match r0 with
    | .inl (d1, _) =>
        some d1
    | .inr _ =>
        some (-1 : Int))
noncomputable def A176 : FnA := ⟨[.v (.sl (.int .i64)), .clo [.int .i64] .bool], true, [.int .i64], fun x => slices_IndexFunc x.1 x.2.1⟩
theorem slices_IndexFunc_eq : fnF E176 L176_1 [.v (.sl (.int .i64)), .clo [.int .i64] .bool] true [.int .i64] f176.ntmps f176.results.toList (codeOf f176) = fun x => slices_IndexFunc x.1 x.2.1 := by kernel_rfl
theorem A176_ok : FnOk prog 176 A176 := by
  have h := fnOk_of_run (P := prog) (E := E176) (tysOk_of tyl_ok) E176_ok (L := L176_1) (ps := [.v (.sl (.int .i64)), .clo [.int .i64] .bool]) (own := true) (outs := [.int .i64]) func176 (c := codeOf f176) (by kernel_rfl) (codeOk_in (L := L176_1) (tysOk_of tyl_ok) E176_ok mixed (c := codeOf f176) (bs := [loopOf f176 2]) (by kernel_rfl) (allCons (loop176_2 rfl) allNil) (by kernel_rfl))
  rw [slices_IndexFunc_eq] at h
  exact h
/-! slices.ContainsFunc[[]int,int] -/
noncomputable def E147 : Env := ⟨ty0, fun g => ifEq g 176 (some A176) (none), fun _ => none, fun _ => none, fun _ => none⟩
theorem E147_ok : FnsOk prog E147 := (oneFn A176_ok func176 (by kernel_rfl) (by kernel_rfl) (noFns _ _))
noncomputable def L147_0 : Nat → Option LoopD := fun _ => none
noncomputable def slices_ContainsFunc : (List Int) → ((Int × Unit) → Option (Bool)) → Option (Bool) := fun a0 a1 =>
  Option.bind (slices_IndexFunc a0 a1) fun r0 =>
    some (decide (r0 ≥ (0 : Int)))
noncomputable def A147 : FnA := ⟨[.v (.sl (.int .i64)), .clo [.int .i64] .bool], true, [.bool], fun x => slices_ContainsFunc x.1 x.2.1⟩
theorem slices_ContainsFunc_eq : fnF E147 L147_0 [.v (.sl (.int .i64)), .clo [.int .i64] .bool] true [.bool] f147.ntmps f147.results.toList (codeOf f147) = fun x => slices_ContainsFunc x.1 x.2.1 := by kernel_rfl
theorem A147_ok : FnOk prog 147 A147 := by
  have h := fnOk_of_run (P := prog) (E := E147) (tysOk_of tyl_ok) E147_ok (L := L147_0) (ps := [.v (.sl (.int .i64)), .clo [.int .i64] .bool]) (own := true) (outs := [.bool]) func147 (c := codeOf f147) (by kernel_rfl) (codeOk_in (L := L147_0) (tysOk_of tyl_ok) E147_ok mixed (c := codeOf f147) (bs := []) (by kernel_rfl) allNil (by kernel_rfl))
  rw [slices_ContainsFunc_eq] at h
  exact h
/-! impl.CostValid -/
noncomputable def E149 : Env := ⟨ty0, fun _ => none, fun _ => none, fun _ => none, fun _ => none⟩
theorem E149_ok : FnsOk prog E149 := (noFns _ _)
noncomputable def L149_0 : Nat → Option LoopD := fun _ => none
noncomputable def impl_CostValid : Int → Option (Bool) := fun a0 =>
  bif (decide (a0 ≥ (0 : Int))) then
    some (decide (a0 ≤ (1000000 : Int)))
  else
    some false
noncomputable def A149 : FnA := ⟨[.v (.int .i64)], true, [.bool], fun x => impl_CostValid x.1⟩
theorem impl_CostValid_eq : fnF E149 L149_0 [.v (.int .i64)] true [.bool] f149.ntmps f149.results.toList (codeOf f149) = fun x => impl_CostValid x.1 := by kernel_rfl
theorem A149_ok : FnOk prog 149 A149 := by
  have h := fnOk_of_run (P := prog) (E := E149) (tysOk_of tyl_ok) E149_ok (L := L149_0) (ps := [.v (.int .i64)]) (own := true) (outs := [.bool]) func149 (c := codeOf f149) (by kernel_rfl) (codeOk_in (L := L149_0) (tysOk_of tyl_ok) E149_ok mixed (c := codeOf f149) (bs := []) (by kernel_rfl) allNil (by kernel_rfl))
  rw [impl_CostValid_eq] at h
  exact h
/-! impl.MatrixValid$1 -/
noncomputable def E148 : Env := ⟨ty0, fun g => ifEq g 149 (some A149) (none), fun _ => none, fun _ => none, fun _ => none⟩
theorem E148_ok : FnsOk prog E148 := (oneFn A149_ok func149 (by kernel_rfl) (by kernel_rfl) (noFns _ _))
noncomputable def L148_0 : Nat → Option LoopD := fun _ => none
noncomputable def impl_MatrixValid_1 : Int → Option (Bool) := fun a0 =>
  Option.bind (impl_CostValid a0) fun r0 =>
    some (!r0)
noncomputable def A148 : FnA := ⟨[.v (.int .i64)], true, [.bool], fun x => impl_MatrixValid_1 x.1⟩
theorem impl_MatrixValid_1_eq : fnF E148 L148_0 [.v (.int .i64)] true [.bool] f148.ntmps f148.results.toList (codeOf f148) = fun x => impl_MatrixValid_1 x.1 := by kernel_rfl
theorem A148_ok : FnOk prog 148 A148 := by
  have h := fnOk_of_run (P := prog) (E := E148) (tysOk_of tyl_ok) E148_ok (L := L148_0) (ps := [.v (.int .i64)]) (own := true) (outs := [.bool]) func148 (c := codeOf f148) (by kernel_rfl) (codeOk_in (L := L148_0) (tysOk_of tyl_ok) E148_ok mixed (c := codeOf f148) (bs := []) (by kernel_rfl) allNil (by kernel_rfl))
  rw [impl_MatrixValid_1_eq] at h
  exact h
/-! impl.MatrixValid -/
noncomputable def E114 : Env := ⟨ty0, fun g => ifEq g 147 (some A147) (ifEq g 148 (some A148) (none)), fun _ => none, fun _ => none, fun _ => none⟩
theorem E114_ok : FnsOk prog E114 := (oneFn A147_ok func147 (by kernel_rfl) (by kernel_rfl) (oneFn A148_ok func148 (by kernel_rfl) (by kernel_rfl) (noFns _ _)))
noncomputable def L114_0 : Nat → Option LoopD := fun _ => none
noncomputable def impl_MatrixValid : (Int × (List Int)) → Option (Bool) := fun (a0_0, a0_1) =>
  bif (decide (a0_0 < (1 : Int))) then
    some false
  else
    bif (decide (a0_0 > (4 : Int))) then
      some false
    else
      bif ((((List.length a0_1) : Nat) : Int) != (IntKind.wrap .i64 (a0_0 * a0_0))) then
        some false
      else
        Option.bind (slices_ContainsFunc a0_1 (fun y0 => (impl_MatrixValid_1 y0.1))) fun r1 =>
          some (!r1)
noncomputable def A114 : FnA := ⟨[.v (.pair (.int .i64) (.sl (.int .i64)))], true, [.bool], fun x => impl_MatrixValid x.1⟩
theorem impl_MatrixValid_eq : fnF E114 L114_0 [.v (.pair (.int .i64) (.sl (.int .i64)))] true [.bool] f114.ntmps f114.results.toList (codeOf f114) = fun x => impl_MatrixValid x.1 := by kernel_rfl
theorem A114_ok : FnOk prog 114 A114 := by
  have h := fnOk_of_run (P := prog) (E := E114) (tysOk_of tyl_ok) E114_ok (L := L114_0) (ps := [.v (.pair (.int .i64) (.sl (.int .i64)))]) (own := true) (outs := [.bool]) func114 (c := codeOf f114) (by kernel_rfl) (codeOk_in (L := L114_0) (tysOk_of tyl_ok) E114_ok mixed (c := codeOf f114) (bs := []) (by kernel_rfl) allNil (by kernel_rfl))
  rw [impl_MatrixValid_eq] at h
  exact h
/-! impl.alike -/
noncomputable def E111 : Env := ⟨ty0, fun g => ifEq g 114 (some A114) (none), fun _ => none, fun _ => none, fun _ => none⟩
theorem E111_ok : FnsOk prog E111 := (oneFn A114_ok func114 (by kernel_rfl) (by kernel_rfl) (noFns _ _))
noncomputable def L111_0 : Nat → Option LoopD := fun _ => none
noncomputable def impl_alike : (Int × (List Int)) → (Int × (List Int)) → Option (Bool) := fun (a0_0, a0_1) (a1_0, a1_1) =>
  Option.bind (impl_MatrixValid (a0_0, a0_1)) fun r0 =>
    bif r0 then
      Option.bind (impl_MatrixValid (a1_0, a1_1)) fun r1 =>
        bif r1 then
          some (a0_0 == a1_0)
        else
          some false
    else
      some false
noncomputable def A111 : FnA := ⟨[.v (.pair (.int .i64) (.sl (.int .i64))), .v (.pair (.int .i64) (.sl (.int .i64)))], true, [.bool], fun x => impl_alike x.1 x.2.1⟩
theorem impl_alike_eq : fnF E111 L111_0 [.v (.pair (.int .i64) (.sl (.int .i64))), .v (.pair (.int .i64) (.sl (.int .i64)))] true [.bool] f111.ntmps f111.results.toList (codeOf f111) = fun x => impl_alike x.1 x.2.1 := by kernel_rfl
theorem A111_ok : FnOk prog 111 A111 := by
  have h := fnOk_of_run (P := prog) (E := E111) (tysOk_of tyl_ok) E111_ok (L := L111_0) (ps := [.v (.pair (.int .i64) (.sl (.int .i64))), .v (.pair (.int .i64) (.sl (.int .i64)))]) (own := true) (outs := [.bool]) func111 (c := codeOf f111) (by kernel_rfl) (codeOk_in (L := L111_0) (tysOk_of tyl_ok) E111_ok mixed (c := codeOf f111) (bs := []) (by kernel_rfl) allNil (by kernel_rfl))
  rw [impl_alike_eq] at h
  exact h
/-! (impl.Matrix).at -/
noncomputable def E113 : Env := ⟨ty0, fun _ => none, fun _ => none, fun _ => none, fun _ => none⟩
theorem E113_ok : FnsOk prog E113 := (noFns _ _)
noncomputable def L113_0 : Nat → Option LoopD := fun _ => none
noncomputable def impl_Matrix_at : (Int × (List Int)) → Int → Int → Option (Int) := fun (a0_0, a0_1) a1 a2 =>
  if (((0 : Int) ≤ (IntKind.wrap .i64 ((IntKind.wrap .i64 (a1 * a0_0)) + a2))) ∧ ((IntKind.wrap .i64 ((IntKind.wrap .i64 (a1 * a0_0)) + a2)) < (((List.length a0_1) : Nat) : Int))) then
    some (List.getD a0_1 (Int.toNat (IntKind.wrap .i64 ((IntKind.wrap .i64 (a1 * a0_0)) + a2))) (0 : Int))
  else
    none
noncomputable def A113 : FnA := ⟨[.v (.pair (.int .i64) (.sl (.int .i64))), .v (.int .i64), .v (.int .i64)], true, [.int .i64], fun x => impl_Matrix_at x.1 x.2.1 x.2.2.1⟩
theorem impl_Matrix_at_eq : fnF E113 L113_0 [.v (.pair (.int .i64) (.sl (.int .i64))), .v (.int .i64), .v (.int .i64)] true [.int .i64] f113.ntmps f113.results.toList (codeOf f113) = fun x => impl_Matrix_at x.1 x.2.1 x.2.2.1 := by kernel_rfl
theorem A113_ok : FnOk prog 113 A113 := by
  have h := fnOk_of_run (P := prog) (E := E113) (tysOk_of tyl_ok) E113_ok (L := L113_0) (ps := [.v (.pair (.int .i64) (.sl (.int .i64))), .v (.int .i64), .v (.int .i64)]) (own := true) (outs := [.int .i64]) func113 (c := codeOf f113) (by kernel_rfl) (codeOk_in (L := L113_0) (tysOk_of tyl_ok) E113_ok mixed (c := codeOf f113) (bs := []) (by kernel_rfl) allNil (by kernel_rfl))
  rw [impl_Matrix_at_eq] at h
  exact h
/-! impl.MinMatrix$1 -/
noncomputable def E112 : Env := ⟨ty0, fun g => ifEq g 113 (some A113) (none), fun _ => none, fun _ => none, fun _ => none⟩
theorem E112_ok : FnsOk prog E112 := (oneFn A113_ok func113 (by kernel_rfl) (by kernel_rfl) (noFns _ _))
noncomputable def L112_0 : Nat → Option LoopD := fun _ => none
noncomputable def impl_MinMatrix_1 : Int → Int → (Int × (List Int)) → (Int × (List Int)) → Option (Int) := fun a0 a1 (a2_0, a2_1) (a3_0, a3_1) =>
  Option.bind (impl_Matrix_at (a2_0, a2_1) a0 a1) fun r0 =>
    Option.bind (impl_Matrix_at (a3_0, a3_1) a0 a1) fun r1 =>
      some (if (r1 < r0) then r1 else r0)
noncomputable def A112 : FnA := ⟨[.v (.int .i64), .v (.int .i64), .cap (.pair (.int .i64) (.sl (.int .i64))), .cap (.pair (.int .i64) (.sl (.int .i64)))], true, [.int .i64], fun x => impl_MinMatrix_1 x.1 x.2.1 x.2.2.1 x.2.2.2.1⟩
theorem impl_MinMatrix_1_eq : fnF E112 L112_0 [.v (.int .i64), .v (.int .i64), .cap (.pair (.int .i64) (.sl (.int .i64))), .cap (.pair (.int .i64) (.sl (.int .i64)))] true [.int .i64] f112.ntmps f112.results.toList (codeOf f112) = fun x => impl_MinMatrix_1 x.1 x.2.1 x.2.2.1 x.2.2.2.1 := by kernel_rfl
theorem A112_ok : FnOk prog 112 A112 := by
  have h := fnOk_of_run (P := prog) (E := E112) (tysOk_of tyl_ok) E112_ok (L := L112_0) (ps := [.v (.int .i64), .v (.int .i64), .cap (.pair (.int .i64) (.sl (.int .i64))), .cap (.pair (.int .i64) (.sl (.int .i64)))]) (own := true) (outs := [.int .i64]) func112 (c := codeOf f112) (by kernel_rfl) (codeOk_in (L := L112_0) (tysOk_of tyl_ok) E112_ok mixed (c := codeOf f112) (bs := []) (by kernel_rfl) allNil (by kernel_rfl))
  rw [impl_MinMatrix_1_eq] at h
  exact h
/-! impl.MinMatrix -/
noncomputable def E65 : Env := ⟨ty0, fun g => ifEq g 111 (some A111) (ifEq g 109 (some A109) (ifEq g 112 (some A112) (none))), fun _ => none, fun _ => none, fun _ => none⟩
theorem E65_ok : FnsOk prog E65 := (oneFn A111_ok func111 (by kernel_rfl) (by kernel_rfl) (oneFn A109_ok func109 (by kernel_rfl) (by kernel_rfl) (oneFn A112_ok func112 (by kernel_rfl) (by kernel_rfl) (noFns _ _))))
noncomputable def L65_0 : Nat → Option LoopD := fun _ => none
noncomputable def impl_MinMatrix : (Int × (List Int)) → (Int × (List Int)) → Option ((Int × (List Int)) × Bool) := fun (a0_0, a0_1) (a1_0, a1_1) =>
  Option.bind (impl_alike (a0_0, a0_1) (a1_0, a1_1)) fun r0 =>
    bif (!r0) then
      some (((0 : Int), []), false)
    else
      Option.bind (impl_filled a0_0 (fun y1 => (impl_MinMatrix_1 y1.1 y1.2.1 (a0_0, a0_1) (a1_0, a1_1)))) fun (r2, r3) =>
        some ((r2, (List.take (List.length r3) (List.drop 0 r3))), true)
noncomputable def A65 : FnA := ⟨[.v (.pair (.int .i64) (.sl (.int .i64))), .v (.pair (.int .i64) (.sl (.int .i64)))], true, [.pair (.int .i64) (.sl (.int .i64)), .bool], fun x => impl_MinMatrix x.1 x.2.1⟩
theorem impl_MinMatrix_eq : fnF E65 L65_0 [.v (.pair (.int .i64) (.sl (.int .i64))), .v (.pair (.int .i64) (.sl (.int .i64)))] true [.pair (.int .i64) (.sl (.int .i64)), .bool] f65.ntmps f65.results.toList (codeOf f65) = fun x => impl_MinMatrix x.1 x.2.1 := by kernel_rfl
theorem A65_ok : FnOk prog 65 A65 := by
  have h := fnOk_of_run (P := prog) (E := E65) (tysOk_of tyl_ok) E65_ok (L := L65_0) (ps := [.v (.pair (.int .i64) (.sl (.int .i64))), .v (.pair (.int .i64) (.sl (.int .i64)))]) (own := true) (outs := [.pair (.int .i64) (.sl (.int .i64)), .bool]) func65 (c := codeOf f65) (by kernel_rfl) (codeOk_in (L := L65_0) (tysOk_of tyl_ok) E65_ok mixed (c := codeOf f65) (bs := []) (by kernel_rfl) allNil (by kernel_rfl))
  rw [impl_MinMatrix_eq] at h
  exact h
/-! impl.UnitMatrix$1 -/
noncomputable def E150 : Env := ⟨ty0, fun _ => none, fun _ => none, fun _ => none, fun _ => none⟩
theorem E150_ok : FnsOk prog E150 := (noFns _ _)
noncomputable def L150_0 : Nat → Option LoopD := fun _ => none
noncomputable def impl_UnitMatrix_1 : Int → Int → Option (Int) := fun a0 a1 =>
  bif (a0 == a1) then
    some (0 : Int)
  else
    some (1000000 : Int)
noncomputable def A150 : FnA := ⟨[.v (.int .i64), .v (.int .i64)], true, [.int .i64], fun x => impl_UnitMatrix_1 x.1 x.2.1⟩
theorem impl_UnitMatrix_1_eq : fnF E150 L150_0 [.v (.int .i64), .v (.int .i64)] true [.int .i64] f150.ntmps f150.results.toList (codeOf f150) = fun x => impl_UnitMatrix_1 x.1 x.2.1 := by kernel_rfl
theorem A150_ok : FnOk prog 150 A150 := by
  have h := fnOk_of_run (P := prog) (E := E150) (tysOk_of tyl_ok) E150_ok (L := L150_0) (ps := [.v (.int .i64), .v (.int .i64)]) (own := true) (outs := [.int .i64]) func150 (c := codeOf f150) (by kernel_rfl) (codeOk_in (L := L150_0) (tysOk_of tyl_ok) E150_ok mixed (c := codeOf f150) (bs := []) (by kernel_rfl) allNil (by kernel_rfl))
  rw [impl_UnitMatrix_1_eq] at h
  exact h
/-! impl.UnitMatrix -/
noncomputable def E115 : Env := ⟨ty0, fun g => ifEq g 109 (some A109) (ifEq g 150 (some A150) (none)), fun _ => none, fun _ => none, fun _ => none⟩
theorem E115_ok : FnsOk prog E115 := (oneFn A109_ok func109 (by kernel_rfl) (by kernel_rfl) (oneFn A150_ok func150 (by kernel_rfl) (by kernel_rfl) (noFns _ _)))
noncomputable def L115_0 : Nat → Option LoopD := fun _ => none
noncomputable def impl_UnitMatrix : Int → Option ((Int × (List Int)) × Bool) := fun a0 =>
  bif (decide (a0 < (1 : Int))) then
    some (((0 : Int), []), false)
  else
    bif (decide (a0 > (4 : Int))) then
      some (((0 : Int), []), false)
    else
      Option.bind (impl_filled a0 (fun y0 => (impl_UnitMatrix_1 y0.1 y0.2.1))) fun (r1, r2) =>
        some ((r1, (List.take (List.length r2) (List.drop 0 r2))), true)
noncomputable def A115 : FnA := ⟨[.v (.int .i64)], true, [.pair (.int .i64) (.sl (.int .i64)), .bool], fun x => impl_UnitMatrix x.1⟩
theorem impl_UnitMatrix_eq : fnF E115 L115_0 [.v (.int .i64)] true [.pair (.int .i64) (.sl (.int .i64)), .bool] f115.ntmps f115.results.toList (codeOf f115) = fun x => impl_UnitMatrix x.1 := by kernel_rfl
theorem A115_ok : FnOk prog 115 A115 := by
  have h := fnOk_of_run (P := prog) (E := E115) (tysOk_of tyl_ok) E115_ok (L := L115_0) (ps := [.v (.int .i64)]) (own := true) (outs := [.pair (.int .i64) (.sl (.int .i64)), .bool]) func115 (c := codeOf f115) (by kernel_rfl) (codeOk_in (L := L115_0) (tysOk_of tyl_ok) E115_ok mixed (c := codeOf f115) (bs := []) (by kernel_rfl) allNil (by kernel_rfl))
  rw [impl_UnitMatrix_eq] at h
  exact h
/-! impl.AddCost -/
noncomputable def E152 : Env := ⟨ty0, fun g => ifEq g 149 (some A149) (none), fun _ => none, fun _ => none, fun _ => none⟩
theorem E152_ok : FnsOk prog E152 := (oneFn A149_ok func149 (by kernel_rfl) (by kernel_rfl) (noFns _ _))
noncomputable def L152_0 : Nat → Option LoopD := fun _ => none
noncomputable def impl_AddCost : Int → Int → Option (Int) := fun a0 a1 =>
  Option.bind (impl_CostValid a0) fun r0 =>
    bif (!r0) then
      some (-1 : Int)
    else
      Option.bind (impl_CostValid a1) fun r1 =>
        bif (!r1) then
          some (-1 : Int)
        else
          some (if ((1000000 : Int) < (IntKind.wrap .i64 (a0 + a1))) then (1000000 : Int) else (IntKind.wrap .i64 (a0 + a1)))
noncomputable def A152 : FnA := ⟨[.v (.int .i64), .v (.int .i64)], true, [.int .i64], fun x => impl_AddCost x.1 x.2.1⟩
theorem impl_AddCost_eq : fnF E152 L152_0 [.v (.int .i64), .v (.int .i64)] true [.int .i64] f152.ntmps f152.results.toList (codeOf f152) = fun x => impl_AddCost x.1 x.2.1 := by kernel_rfl
theorem A152_ok : FnOk prog 152 A152 := by
  have h := fnOk_of_run (P := prog) (E := E152) (tysOk_of tyl_ok) E152_ok (L := L152_0) (ps := [.v (.int .i64), .v (.int .i64)]) (own := true) (outs := [.int .i64]) func152 (c := codeOf f152) (by kernel_rfl) (codeOk_in (L := L152_0) (tysOk_of tyl_ok) E152_ok mixed (c := codeOf f152) (bs := []) (by kernel_rfl) allNil (by kernel_rfl))
  rw [impl_AddCost_eq] at h
  exact h
/-! impl.MulMatrix$1 -/
noncomputable def E151 : Env := ⟨ty0, fun g => ifEq g 113 (some A113) (ifEq g 152 (some A152) (none)), fun _ => none, fun _ => none, fun _ => none⟩
theorem E151_ok : FnsOk prog E151 := (oneFn A113_ok func113 (by kernel_rfl) (by kernel_rfl) (oneFn A152_ok func152 (by kernel_rfl) (by kernel_rfl) (noFns _ _)))
noncomputable def L151_0 : Nat → Option LoopD := fun _ => none
def sh151_3 : List Fm := [.cell (.val (.int .i64)), .cell (.val (.int .i64)), .fp (.pair (.int .i64) (.sl (.int .i64))), .fp (.pair (.int .i64) (.sl (.int .i64))), d, d, d, .cell (.val (.int .i64)), d, d, .cell (.val (.int .i64)), .cell (.val (.int .i64)), d, d, d, d, d, d, d, d, d, d, d, d, d, d, d]
def xs151_3 : List (Ex × List Fm) := [(.exit 0, [d, d, d, d, d, d, d, .cell (.val (.int .i64)), d, d, d, d, d, d, d, d, d, d, d, d, d, d, d, d, d, d, d])]
noncomputable def impl_MulMatrix_1_l3 : (Int × Int × (Int × (List Int)) × (Int × (List Int)) × Int × Int × Int × Unit) → Option ((Int × Int × (Int × (List Int)) × (Int × (List Int)) × Int × Int × Int × Unit) ⊕ ((Int × Unit))) := fun (v0, v1, (v2_0, v2_1), (v3_0, v3_1), v7, v10, v11, _) =>
  bif (decide (v11 < v10)) then
    Option.bind (impl_Matrix_at (v2_0, v2_1) v0 v11) fun r0 =>
      Option.bind (impl_Matrix_at (v3_0, v3_1) v11 v1) fun r1 =>
        Option.bind (impl_AddCost r0 r1) fun r2 =>
          some (Sum.inl (v0, v1, (v2_0, v2_1), (v3_0, v3_1), (if (r2 < v7) then r2 else v7), v10, (IntKind.wrap .i64 (v11 + (1 : Int))), ()))
  else
    some (Sum.inr (v7, ()))
theorem impl_MulMatrix_1_l3_eq : loopStep 27 E151 L151_0 (loopOf f151 3) sh151_3 xs151_3 = impl_MulMatrix_1_l3 := by kernel_rfl
theorem loop151_3 {L : Nat → Option LoopD} (h : L 3 = some ⟨27, sh151_3, xs151_3, impl_MulMatrix_1_l3⟩) : LoopOk prog L (loopOf f151 3) :=
  loopOk (tysOk_of tyl_ok) E151_ok (codeOk_in (L := L151_0) (tysOk_of tyl_ok) E151_ok mixed (c := loopOf f151 3) (bs := []) (by kernel_rfl) allNil (by kernel_rfl)) (by kernel_rfl) (by kernel_rfl) impl_MulMatrix_1_l3_eq (by rw [show firstId (loopOf f151 3) = 3 from by kernel_rfl]; exact h)
noncomputable def L151_1 : Nat → Option LoopD := fun n => ifEq n 3 (some ⟨27, sh151_3, xs151_3, impl_MulMatrix_1_l3⟩) (L151_0 n)
noncomputable def impl_MulMatrix_1 : Int → Int → (Int × (List Int)) → (Int × (List Int)) → Option (Int) := fun a0 a1 (a2_0, a2_1) (a3_0, a3_1) =>
  Option.bind (loopF impl_MulMatrix_1_l3 (a0, a1, (a2_0, a2_1), (a3_0, a3_1), (1000000 : Int), a2_0, (0 : Int), ())) fun (r0, _) =>
    some r0
noncomputable def A151 : FnA := ⟨[.v (.int .i64), .v (.int .i64), .cap (.pair (.int .i64) (.sl (.int .i64))), .cap (.pair (.int .i64) (.sl (.int .i64)))], true, [.int .i64], fun x => impl_MulMatrix_1 x.1 x.2.1 x.2.2.1 x.2.2.2.1⟩
theorem impl_MulMatrix_1_eq : fnF E151 L151_1 [.v (.int .i64), .v (.int .i64), .cap (.pair (.int .i64) (.sl (.int .i64))), .cap (.pair (.int .i64) (.sl (.int .i64)))] true [.int .i64] f151.ntmps f151.results.toList (codeOf f151) = fun x => impl_MulMatrix_1 x.1 x.2.1 x.2.2.1 x.2.2.2.1 := by kernel_rfl
theorem A151_ok : FnOk prog 151 A151 := by
  have h := fnOk_of_run (P := prog) (E := E151) (tysOk_of tyl_ok) E151_ok (L := L151_1) (ps := [.v (.int .i64), .v (.int .i64), .cap (.pair (.int .i64) (.sl (.int .i64))), .cap (.pair (.int .i64) (.sl (.int .i64)))]) (own := true) (outs := [.int .i64]) func151 (c := codeOf f151) (by kernel_rfl) (codeOk_in (L := L151_1) (tysOk_of tyl_ok) E151_ok mixed (c := codeOf f151) (bs := [loopOf f151 3]) (by kernel_rfl) (allCons (loop151_3 rfl) allNil) (by kernel_rfl))
  rw [impl_MulMatrix_1_eq] at h
  exact h
/-! impl.MulMatrix -/
noncomputable def E116 : Env := ⟨ty0, fun g => ifEq g 111 (some A111) (ifEq g 109 (some A109) (ifEq g 151 (some A151) (none))), fun _ => none, fun _ => none, fun _ => none⟩
theorem E116_ok : FnsOk prog E116 := (oneFn A111_ok func111 (by kernel_rfl) (by kernel_rfl) (oneFn A109_ok func109 (by kernel_rfl) (by kernel_rfl) (oneFn A151_ok func151 (by kernel_rfl) (by kernel_rfl) (noFns _ _))))
noncomputable def L116_0 : Nat → Option LoopD := fun _ => none
noncomputable def impl_MulMatrix : (Int × (List Int)) → (Int × (List Int)) → Option ((Int × (List Int)) × Bool) := fun (a0_0, a0_1) (a1_0, a1_1) =>
  Option.bind (impl_alike (a0_0, a0_1) (a1_0, a1_1)) fun r0 =>
    bif (!r0) then
      some (((0 : Int), []), false)
    else
      Option.bind (impl_filled a0_0 (fun y1 => (impl_MulMatrix_1 y1.1 y1.2.1 (a0_0, a0_1) (a1_0, a1_1)))) fun (r2, r3) =>
        some ((r2, (List.take (List.length r3) (List.drop 0 r3))), true)
noncomputable def A116 : FnA := ⟨[.v (.pair (.int .i64) (.sl (.int .i64))), .v (.pair (.int .i64) (.sl (.int .i64)))], true, [.pair (.int .i64) (.sl (.int .i64)), .bool], fun x => impl_MulMatrix x.1 x.2.1⟩
theorem impl_MulMatrix_eq : fnF E116 L116_0 [.v (.pair (.int .i64) (.sl (.int .i64))), .v (.pair (.int .i64) (.sl (.int .i64)))] true [.pair (.int .i64) (.sl (.int .i64)), .bool] f116.ntmps f116.results.toList (codeOf f116) = fun x => impl_MulMatrix x.1 x.2.1 := by kernel_rfl
theorem A116_ok : FnOk prog 116 A116 := by
  have h := fnOk_of_run (P := prog) (E := E116) (tysOk_of tyl_ok) E116_ok (L := L116_0) (ps := [.v (.pair (.int .i64) (.sl (.int .i64))), .v (.pair (.int .i64) (.sl (.int .i64)))]) (own := true) (outs := [.pair (.int .i64) (.sl (.int .i64)), .bool]) func116 (c := codeOf f116) (by kernel_rfl) (codeOk_in (L := L116_0) (tysOk_of tyl_ok) E116_ok mixed (c := codeOf f116) (bs := []) (by kernel_rfl) allNil (by kernel_rfl))
  rw [impl_MulMatrix_eq] at h
  exact h
/-! impl.PowerMatrix -/
noncomputable def E66 : Env := ⟨ty0, fun g => ifEq g 114 (some A114) (ifEq g 115 (some A115) (ifEq g 116 (some A116) (none))), fun _ => none, fun _ => none, fun _ => none⟩
theorem E66_ok : FnsOk prog E66 := (oneFn A114_ok func114 (by kernel_rfl) (by kernel_rfl) (oneFn A115_ok func115 (by kernel_rfl) (by kernel_rfl) (oneFn A116_ok func116 (by kernel_rfl) (by kernel_rfl) (noFns _ _))))
noncomputable def L66_0 : Nat → Option LoopD := fun _ => none
def sh66_4 : List Fm := [d, .cell (.val (.int .i64)), .box 100200 [.val (.int .i64), .val (.sl (.int .i64))], d, .box 100400 [.val (.int .i64), .own (.int .i64) 100402 false], d, .box 100600 [.val (.int .i64), .own (.int .i64) 100602 false], d, d, d, d, d, d, d, d, d, d, d, d, d, d, d, d, d, d, d, d, d, d, d, d, d, d, d, d, d, d, d, d, d, d, d]
def xs66_4 : List (Ex × List Fm) := [(.exit 0, [d, d, d, d, .box 100400 [.val (.int .i64), .own (.int .i64) 100402 false], d, .box 100600 [.val (.int .i64), .own (.int .i64) 100602 false], d, d, d, d, d, d, d, d, d, d, d, d, d, d, d, d, d, d, d, d, d, d, d, d, d, d, d, d, d, d, d, d, d, d, d])]
noncomputable def impl_PowerMatrix_l4 : (Int × (Int × (List Int) × Unit) × (Int × (List Int) × Unit) × (Int × (List Int) × Unit) × Unit) → Option ((Int × (Int × (List Int) × Unit) × (Int × (List Int) × Unit) × (Int × (List Int) × Unit) × Unit) ⊕ (((Int × (List Int) × Unit) × (Int × (List Int) × Unit) × Unit))) := fun (v1, (v2_0, v2_1, _), (v4_0, v4_1, _), (v6_0, v6_1, _), _) =>
  bif (decide (v1 > (0 : Int))) then
    if ((2 : Int) = (0 : Int)) then
      none
    else
      bif ((Int.tmod v1 (2 : Int)) == (1 : Int)) then
        Option.bind (impl_MulMatrix (v6_0, (List.take (List.length v6_1) (List.drop 0 v6_1))) (v2_0, v2_1)) fun ((r0, r1), r2) =>
          Option.bind (impl_MulMatrix (v2_0, v2_1) (v2_0, v2_1)) fun ((r3, r4), r5) =>
            if ((2 : Int) = (0 : Int)) then
              none
            else
              some (Sum.inl ((IntKind.wrap .i64 (Int.tdiv v1 (2 : Int))), (r3, (List.take (List.length r4) (List.drop 0 r4)), ()), (v4_0, (List.take (List.length v4_1) (List.drop 0 v4_1)), ()), (r0, (List.take (List.length r1) (List.drop 0 r1)), ()), ()))
      else
        Option.bind (impl_MulMatrix (v2_0, v2_1) (v2_0, v2_1)) fun ((r6, r7), r8) =>
          if ((2 : Int) = (0 : Int)) then
            none
          else
            some (Sum.inl ((IntKind.wrap .i64 (Int.tdiv v1 (2 : Int))), (r6, (List.take (List.length r7) (List.drop 0 r7)), ()), (v4_0, (List.take (List.length v4_1) (List.drop 0 v4_1)), ()), (v6_0, (List.take (List.length v6_1) (List.drop 0 v6_1)), ()), ()))
  else
    some (Sum.inr ((v4_0, (List.take (List.length v4_1) (List.drop 0 v4_1)), ()), (v6_0, (List.take (List.length v6_1) (List.drop 0 v6_1)), ()), ()))
theorem impl_PowerMatrix_l4_eq : loopStep 42 E66 L66_0 (loopOf f66 4) sh66_4 xs66_4 = impl_PowerMatrix_l4 := by kernel_rfl
theorem loop66_4 {L : Nat → Option LoopD} (h : L 4 = some ⟨42, sh66_4, xs66_4, impl_PowerMatrix_l4⟩) : LoopOk prog L (loopOf f66 4) :=
  loopOk (tysOk_of tyl_ok) E66_ok (codeOk_in (L := L66_0) (tysOk_of tyl_ok) E66_ok mixed (c := loopOf f66 4) (bs := []) (by kernel_rfl) allNil (by kernel_rfl)) (by kernel_rfl) (by kernel_rfl) impl_PowerMatrix_l4_eq (by rw [show firstId (loopOf f66 4) = 4 from by kernel_rfl]; exact h)
noncomputable def L66_1 : Nat → Option LoopD := fun n => ifEq n 4 (some ⟨42, sh66_4, xs66_4, impl_PowerMatrix_l4⟩) (L66_0 n)
noncomputable def impl_PowerMatrix : (Int × (List Int)) → Int → Option ((Int × (List Int)) × Bool) := fun (a0_0, a0_1) a1 =>
  Option.bind (impl_MatrixValid (a0_0, a0_1)) fun r0 =>
    bif (!r0) then
      some (((0 : Int), []), false)
    else
      bif (decide (a1 < (0 : Int))) then
        some (((0 : Int), []), false)
      else
        Option.bind (impl_UnitMatrix a0_0) fun ((r1, r2), r3) =>
          Option.bind (loopF impl_PowerMatrix_l4 (a1, (a0_0, a0_1, ()), ((0 : Int), [], ()), (r1, (List.take (List.length r2) (List.drop 0 r2)), ()), ())) fun ((r4, r5, _), (r6, r7, _), _) =>
            some ((r6, (List.take (List.length r7) (List.drop 0 r7))), true)
noncomputable def A66 : FnA := ⟨[.v (.pair (.int .i64) (.sl (.int .i64))), .v (.int .i64)], true, [.pair (.int .i64) (.sl (.int .i64)), .bool], fun x => impl_PowerMatrix x.1 x.2.1⟩
theorem impl_PowerMatrix_eq : fnF E66 L66_1 [.v (.pair (.int .i64) (.sl (.int .i64))), .v (.int .i64)] true [.pair (.int .i64) (.sl (.int .i64)), .bool] f66.ntmps f66.results.toList (codeOf f66) = fun x => impl_PowerMatrix x.1 x.2.1 := by kernel_rfl
theorem A66_ok : FnOk prog 66 A66 := by
  have h := fnOk_of_run (P := prog) (E := E66) (tysOk_of tyl_ok) E66_ok (L := L66_1) (ps := [.v (.pair (.int .i64) (.sl (.int .i64))), .v (.int .i64)]) (own := true) (outs := [.pair (.int .i64) (.sl (.int .i64)), .bool]) func66 (c := codeOf f66) (by kernel_rfl) (codeOk_in (L := L66_1) (tysOk_of tyl_ok) E66_ok mixed (c := codeOf f66) (bs := [loopOf f66 4]) (by kernel_rfl) (allCons (loop66_4 rfl) allNil) (by kernel_rfl))
  rw [impl_PowerMatrix_eq] at h
  exact h
/-! laws.FnGreatest -/
noncomputable def E12 : Env := ⟨ty0, fun g => ifEq g 61 (some A61) (ifEq g 30 (some A30) (ifEq g 62 (some A62) (ifEq g 29 (some A29) (ifEq g 63 (some A63) (ifEq g 39 (some A39) (ifEq g 40 (some A40) (ifEq g 64 (some A64) (ifEq g 65 (some A65) (ifEq g 41 (some A41) (ifEq g 66 (some A66) (none))))))))))), fun _ => none, fun _ => none, fun _ => none⟩
theorem E12_ok : FnsOk prog E12 := (oneFn A61_ok func61 (by kernel_rfl) (by kernel_rfl) (oneFn A30_ok func30 (by kernel_rfl) (by kernel_rfl) (oneFn A62_ok func62 (by kernel_rfl) (by kernel_rfl) (oneFn A29_ok func29 (by kernel_rfl) (by kernel_rfl) (oneFn A63_ok func63 (by kernel_rfl) (by kernel_rfl) (oneFn A39_ok func39 (by kernel_rfl) (by kernel_rfl) (oneFn A40_ok func40 (by kernel_rfl) (by kernel_rfl) (oneFn A64_ok func64 (by kernel_rfl) (by kernel_rfl) (oneFn A65_ok func65 (by kernel_rfl) (by kernel_rfl) (oneFn A41_ok func41 (by kernel_rfl) (by kernel_rfl) (oneFn A66_ok func66 (by kernel_rfl) (by kernel_rfl) (noFns _ _))))))))))))
noncomputable def L12_0 : Nat → Option LoopD := fun _ => none
def sh12_19 : List Fm := [d, d, d, .box 100300 [.val (.int .i64), .val (.sl (.int .i64)), .val (.sl (.int .i64)), .val (.sl (.pair (.int .i64) (.pair .str (.pair (.int .i64) (.int .i64)))))], .cell (.val (.int .i64)), .cell (.own (.int .i64) 100500 false), d, .cell (.own (.int .i64) 100700 false), d, d, d, d, d, .cell (.val (.sl .str)), d, d, d, d, d, .box 101900 [.val (.int .i64), .own (.int .i64) 101902 false], d, .cell (.val (.int .i64)), .cell (.val (.int .i64)), .cell (.val (.int .i64)), d, d, d, d, d, d, d, d, d, d, d, d, d, d, d, d, d, d, d, d, d, d, d, d, d, d, d, d, d, d, d, d, d, d, d, d, d, d, d, d, d, d, d, d, d, d, d, d, d, d, d, d, d, d, d, d, d, d, d, d, d, d, d, d, d, d, d, d, d, d, d, d, d, d, d, d, d, d, d, d, d, d, d, d, d, d, d, d, d, d, d, d, d, d, d, d, d, d, d, d, d, d, d, d, d, d, .cell (.val (.int .i64)), .cell (.val (.int .i64)), d, d, .cell (.val (.sl .str)), .cell (.val (.int .i64)), .cell (.val (.int .i64)), d, d, d, d, d, d, d, d, d, d, d, d, d, d, d, d, d, d, d, d, d, d, d, d, d, d, d, d, d, d, d, d, d, d, d, d, d, d, d, d, d, d, d, d, d, d, d, d, d, d, d, d, d, d, d, d, d, d, d, d, d, d, d, d, d, d, d, d, d, d, d, d, d, d, d, d, d, d, d, d, d, d, d, d, d, d, d, d, d, d, d, d, d, d, d, d, d, d, d, d, d, d, d]
def xs12_19 : List (Ex × List Fm) := [(.exit 2, [d, d, d, .box 100300 [.val (.int .i64), .val (.sl (.int .i64)), .val (.sl (.int .i64)), .val (.sl (.pair (.int .i64) (.pair .str (.pair (.int .i64) (.int .i64)))))], .cell (.val (.int .i64)), .cell (.own (.int .i64) 100500 false), d, .cell (.own (.int .i64) 100700 false), d, d, d, d, d, .cell (.val (.sl .str)), d, d, d, d, d, .box 101900 [.val (.int .i64), .own (.int .i64) 101902 false], d, .cell (.val (.int .i64)), .cell (.val (.int .i64)), .cell (.val (.int .i64)), d, d, d, d, d, d, d, d, d, d, d, d, d, d, d, d, d, d, d, d, d, d, d, d, d, d, d, d, d, d, d, d, d, d, d, d, d, d, d, d, d, d, d, d, d, d, d, d, d, d, d, d, d, d, d, d, d, d, d, d, d, d, d, d, d, d, d, d, d, d, d, d, d, d, d, d, d, d, d, d, d, d, d, d, d, d, d, d, d, d, d, d, d, d, d, d, d, d, d, d, d, d, d, d, d, d, .cell (.val (.int .i64)), .cell (.val (.int .i64)), d, d, d, d, d, d, d, d, d, d, d, d, d, d, d, d, d, d, d, d, d, d, d, d, d, d, d, d, d, d, d, d, d, d, d, d, d, d, d, d, d, d, d, d, d, d, d, d, d, d, d, d, d, d, d, d, d, d, d, d, d, d, d, d, d, d, d, d, d, d, d, d, d, d, d, d, d, d, d, d, d, d, d, d, d, d, d, d, d, d, d, d, d, d, d, d, d, d, d, d, d, d, d, d, d, d, d, d])]
noncomputable def laws_FnGreatest_l19 : ((Int × (List Int) × (List Int) × (List (Int × (ByteArray × (Int × Int)))) × Unit) × Int × (List Int) × (List Int) × (List ByteArray) × (Int × (List Int) × Unit) × Int × Int × Int × Int × Int × (List ByteArray) × Int × Int × Unit) → Option (((Int × (List Int) × (List Int) × (List (Int × (ByteArray × (Int × Int)))) × Unit) × Int × (List Int) × (List Int) × (List ByteArray) × (Int × (List Int) × Unit) × Int × Int × Int × Int × Int × (List ByteArray) × Int × Int × Unit) ⊕ (((Int × (List Int) × (List Int) × (List (Int × (ByteArray × (Int × Int)))) × Unit) × Int × (List Int) × (List Int) × (List ByteArray) × (Int × (List Int) × Unit) × Int × Int × Int × Int × Int × Unit))) := fun ((v3_0, v3_1, v3_2, v3_3, _), v4, v5, v7, v13, (v19_0, v19_1, _), v21, v22, v23, v130, v131, v134, v135, v136, _) =>
  bif (decide (v136 < v135)) then
    if (((0 : Int) ≤ v136) ∧ (v136 < (((List.length v134) : Nat) : Int))) then
      Option.bind (impl_CostOf (v3_0, v3_1, v3_2, v3_3) (List.getD v134 (Int.toNat v136) (⟨Array.empty⟩ : ByteArray))) fun r0 =>
        bif ((((ByteArray.size (List.getD v134 (Int.toNat v136) (⟨Array.empty⟩ : ByteArray))) : Nat) : Int) == v21) then
          bif (decide (r0 < (1000000 : Int))) then
            some (Sum.inl ((v3_0, v3_1, v3_2, v3_3, ()), v4, (List.take (List.length v5) (List.drop 0 v5)), (List.take (List.length v7) (List.drop 0 v7)), v13, (v19_0, (List.take (List.length v19_1) (List.drop 0 v19_1)), ()), v21, (if (r0 < v22) then r0 else v22), (if (r0 > v23) then r0 else v23), v130, v131, v134, v135, (IntKind.wrap .i64 (v136 + (1 : Int))), ()))
          else
            some (Sum.inl ((v3_0, v3_1, v3_2, v3_3, ()), v4, (List.take (List.length v5) (List.drop 0 v5)), (List.take (List.length v7) (List.drop 0 v7)), v13, (v19_0, (List.take (List.length v19_1) (List.drop 0 v19_1)), ()), v21, v22, v23, v130, v131, v134, v135, (IntKind.wrap .i64 (v136 + (1 : Int))), ()))
        else
          some (Sum.inl ((v3_0, v3_1, v3_2, v3_3, ()), v4, (List.take (List.length v5) (List.drop 0 v5)), (List.take (List.length v7) (List.drop 0 v7)), v13, (v19_0, (List.take (List.length v19_1) (List.drop 0 v19_1)), ()), v21, v22, v23, v130, v131, v134, v135, (IntKind.wrap .i64 (v136 + (1 : Int))), ()))
    else
      none
  else
    some (Sum.inr ((v3_0, v3_1, v3_2, v3_3, ()), v4, (List.take (List.length v5) (List.drop 0 v5)), (List.take (List.length v7) (List.drop 0 v7)), v13, (v19_0, (List.take (List.length v19_1) (List.drop 0 v19_1)), ()), v21, v22, v23, v130, v131, ()))
theorem laws_FnGreatest_l19_eq : loopStep 240 E12 L12_0 (loopOf f12 19) sh12_19 xs12_19 = laws_FnGreatest_l19 := by kernel_rfl
theorem loop12_19 {L : Nat → Option LoopD} (h : L 19 = some ⟨240, sh12_19, xs12_19, laws_FnGreatest_l19⟩) : LoopOk prog L (loopOf f12 19) :=
  loopOk (tysOk_of tyl_ok) E12_ok (codeOk_in (L := L12_0) (tysOk_of tyl_ok) E12_ok mixed (c := loopOf f12 19) (bs := []) (by kernel_rfl) allNil (by kernel_rfl)) (by kernel_rfl) (by kernel_rfl) laws_FnGreatest_l19_eq (by rw [show firstId (loopOf f12 19) = 19 from by kernel_rfl]; exact h)
noncomputable def L12_1 : Nat → Option LoopD := fun n => ifEq n 19 (some ⟨240, sh12_19, xs12_19, laws_FnGreatest_l19⟩) (L12_0 n)
def sh12_34 : List Fm := [d, d, d, .box 100300 [.val (.int .i64), .val (.sl (.int .i64)), .val (.sl (.int .i64)), .val (.sl (.pair (.int .i64) (.pair .str (.pair (.int .i64) (.int .i64)))))], .cell (.val (.int .i64)), .cell (.own (.int .i64) 100500 false), d, .cell (.own (.int .i64) 100700 false), d, d, d, d, d, .cell (.val (.sl .str)), d, d, d, d, d, .box 101900 [.val (.int .i64), .own (.int .i64) 101902 false], d, .cell (.val (.int .i64)), d, d, d, d, d, .box 102700 [.val (.int .i64), .own (.int .i64) 102702 false], d, .cell (.val (.int .i64)), d, .cell (.val (.int .i64)), d, d, d, d, d, d, d, d, d, d, d, d, d, d, d, d, d, d, d, d, d, d, d, d, d, d, d, d, d, d, d, d, d, d, d, d, d, d, d, d, d, d, d, d, d, d, d, d, d, d, d, d, d, d, d, d, d, d, d, d, d, d, d, d, d, d, d, d, d, d, d, d, d, d, d, d, d, d, d, d, d, d, d, d, d, d, d, d, d, d, d, d, d, d, d, d, d, d, .cell (.val (.int .i64)), .cell (.val (.int .i64)), d, d, d, d, d, d, d, d, d, d, d, d, d, d, d, d, d, d, d, d, d, d, d, d, d, d, d, d, d, d, d, d, d, d, d, d, d, d, d, d, d, d, d, d, d, d, d, d, d, d, d, d, d, d, d, d, d, d, d, d, d, d, .cell (.val (.sl (.int .i64))), .cell (.val (.int .i64)), .cell (.val (.int .i64)), d, d, d, d, .cell (.val (.sl (.int .i64))), .cell (.val (.int .i64)), .cell (.val (.int .i64)), d, d, d, d, d, d, d, d, d, d, d, d, d, d, d, d, d, d, d, d, d, d, d, d, d, d, d, d, d, d, d, d, d, d, d, d]
def xs12_34 : List (Ex × List Fm) := [(.exit 6, [d, d, d, .box 100300 [.val (.int .i64), .val (.sl (.int .i64)), .val (.sl (.int .i64)), .val (.sl (.pair (.int .i64) (.pair .str (.pair (.int .i64) (.int .i64)))))], .cell (.val (.int .i64)), .cell (.own (.int .i64) 100500 false), d, .cell (.own (.int .i64) 100700 false), d, d, d, d, d, .cell (.val (.sl .str)), d, d, d, d, d, .box 101900 [.val (.int .i64), .own (.int .i64) 101902 false], d, .cell (.val (.int .i64)), d, d, d, d, d, .box 102700 [.val (.int .i64), .own (.int .i64) 102702 false], d, .cell (.val (.int .i64)), d, d, d, d, d, d, d, d, d, d, d, d, d, d, d, d, d, d, d, d, d, d, d, d, d, d, d, d, d, d, d, d, d, d, d, d, d, d, d, d, d, d, d, d, d, d, d, d, d, d, d, d, d, d, d, d, d, d, d, d, d, d, d, d, d, d, d, d, d, d, d, d, d, d, d, d, d, d, d, d, d, d, d, d, d, d, d, d, d, d, d, d, d, d, d, d, d, d, d, d, .cell (.val (.int .i64)), .cell (.val (.int .i64)), d, d, d, d, d, d, d, d, d, d, d, d, d, d, d, d, d, d, d, d, d, d, d, d, d, d, d, d, d, d, d, d, d, d, d, d, d, d, d, d, d, d, d, d, d, d, d, d, d, d, d, d, d, d, d, d, d, d, d, d, d, d, .cell (.val (.sl (.int .i64))), .cell (.val (.int .i64)), .cell (.val (.int .i64)), d, d, d, d, d, d, d, d, d, d, d, d, d, d, d, d, d, d, d, d, d, d, d, d, d, d, d, d, d, d, d, d, d, d, d, d, d, d, d, d, d, d, d])]
noncomputable def laws_FnGreatest_l34 : ((Int × (List Int) × (List Int) × (List (Int × (ByteArray × (Int × Int)))) × Unit) × Int × (List Int) × (List Int) × (List ByteArray) × (Int × (List Int) × Unit) × Int × (Int × (List Int) × Unit) × Int × Int × Int × Int × (List Int) × Int × Int × (List Int) × Int × Int × Unit) → Option (((Int × (List Int) × (List Int) × (List (Int × (ByteArray × (Int × Int)))) × Unit) × Int × (List Int) × (List Int) × (List ByteArray) × (Int × (List Int) × Unit) × Int × (Int × (List Int) × Unit) × Int × Int × Int × Int × (List Int) × Int × Int × (List Int) × Int × Int × Unit) ⊕ (((Int × (List Int) × (List Int) × (List (Int × (ByteArray × (Int × Int)))) × Unit) × Int × (List Int) × (List Int) × (List ByteArray) × (Int × (List Int) × Unit) × Int × (Int × (List Int) × Unit) × Int × Int × Int × (List Int) × Int × Int × Unit))) := fun ((v3_0, v3_1, v3_2, v3_3, _), v4, v5, v7, v13, (v19_0, v19_1, _), v21, (v27_0, v27_1, _), v29, v31, v130, v131, v194, v195, v196, v201, v202, v203, _) =>
  bif (decide (v203 < v202)) then
    if (((0 : Int) ≤ v203) ∧ (v203 < (((List.length v201) : Nat) : Int))) then
      if (((0 : Int) ≤ (IntKind.wrap .i64 ((IntKind.wrap .i64 (v31 * v3_0)) + (List.getD v201 (Int.toNat v203) (0 : Int))))) ∧ ((IntKind.wrap .i64 ((IntKind.wrap .i64 (v31 * v3_0)) + (List.getD v201 (Int.toNat v203) (0 : Int)))) < (((List.length v27_1) : Nat) : Int))) then
        some (Sum.inl ((v3_0, v3_1, v3_2, v3_3, ()), v4, (List.take (List.length v5) (List.drop 0 v5)), (List.take (List.length v7) (List.drop 0 v7)), v13, (v19_0, (List.take (List.length v19_1) (List.drop 0 v19_1)), ()), v21, (v27_0, (List.take (List.length v27_1) (List.drop 0 v27_1)), ()), (if ((List.getD v27_1 (0 + (Int.toNat (IntKind.wrap .i64 ((IntKind.wrap .i64 (v31 * v3_0)) + (List.getD v201 (Int.toNat v203) (0 : Int)))))) (0 : Int)) < v29) then (List.getD v27_1 (0 + (Int.toNat (IntKind.wrap .i64 ((IntKind.wrap .i64 (v31 * v3_0)) + (List.getD v201 (Int.toNat v203) (0 : Int)))))) (0 : Int)) else v29), v31, v130, v131, v194, v195, v196, v201, v202, (IntKind.wrap .i64 (v203 + (1 : Int))), ()))
      else
        none
    else
      none
  else
    some (Sum.inr ((v3_0, v3_1, v3_2, v3_3, ()), v4, (List.take (List.length v5) (List.drop 0 v5)), (List.take (List.length v7) (List.drop 0 v7)), v13, (v19_0, (List.take (List.length v19_1) (List.drop 0 v19_1)), ()), v21, (v27_0, (List.take (List.length v27_1) (List.drop 0 v27_1)), ()), v29, v130, v131, v194, v195, v196, ()))
theorem laws_FnGreatest_l34_eq : loopStep 240 E12 L12_1 (loopOf f12 34) sh12_34 xs12_34 = laws_FnGreatest_l34 := by kernel_rfl
theorem loop12_34 {L : Nat → Option LoopD} (h : L 34 = some ⟨240, sh12_34, xs12_34, laws_FnGreatest_l34⟩) : LoopOk prog L (loopOf f12 34) :=
  loopOk (tysOk_of tyl_ok) E12_ok (codeOk_in (L := L12_1) (tysOk_of tyl_ok) E12_ok mixed (c := loopOf f12 34) (bs := []) (by kernel_rfl) allNil (by kernel_rfl)) (by kernel_rfl) (by kernel_rfl) laws_FnGreatest_l34_eq (by rw [show firstId (loopOf f12 34) = 34 from by kernel_rfl]; exact h)
noncomputable def L12_2 : Nat → Option LoopD := fun n => ifEq n 34 (some ⟨240, sh12_34, xs12_34, laws_FnGreatest_l34⟩) (L12_1 n)
def sh12_31 : List Fm := [d, d, d, .box 100300 [.val (.int .i64), .val (.sl (.int .i64)), .val (.sl (.int .i64)), .val (.sl (.pair (.int .i64) (.pair .str (.pair (.int .i64) (.int .i64)))))], .cell (.val (.int .i64)), .cell (.own (.int .i64) 100500 false), d, .cell (.own (.int .i64) 100700 false), d, d, d, d, d, .cell (.val (.sl .str)), d, d, d, d, d, .box 101900 [.val (.int .i64), .own (.int .i64) 101902 false], d, .cell (.val (.int .i64)), d, d, d, d, d, .box 102700 [.val (.int .i64), .own (.int .i64) 102702 false], d, .cell (.val (.int .i64)), d, d, d, d, d, d, d, d, d, d, d, d, d, d, d, d, d, d, d, d, d, d, d, d, d, d, d, d, d, d, d, d, d, d, d, d, d, d, d, d, d, d, d, d, d, d, d, d, d, d, d, d, d, d, d, d, d, d, d, d, d, d, d, d, d, d, d, d, d, d, d, d, d, d, d, d, d, d, d, d, d, d, d, d, d, d, d, d, d, d, d, d, d, d, d, d, d, d, d, d, .cell (.val (.int .i64)), .cell (.val (.int .i64)), d, d, d, d, d, d, d, d, d, d, d, d, d, d, d, d, d, d, d, d, d, d, d, d, d, d, d, d, d, d, d, d, d, d, d, d, d, d, d, d, d, d, d, d, d, d, d, d, d, d, d, d, d, d, d, d, d, d, d, d, d, d, .cell (.val (.sl (.int .i64))), .cell (.val (.int .i64)), .cell (.val (.int .i64)), d, d, d, d, d, d, d, d, d, d, d, d, d, d, d, d, d, d, d, d, d, d, d, d, d, d, d, d, d, d, d, d, d, d, d, d, d, d, d, d, d, d, d]
def xs12_31 : List (Ex × List Fm) := [(.exit 4, [d, d, d, .box 100300 [.val (.int .i64), .val (.sl (.int .i64)), .val (.sl (.int .i64)), .val (.sl (.pair (.int .i64) (.pair .str (.pair (.int .i64) (.int .i64)))))], .cell (.val (.int .i64)), .cell (.own (.int .i64) 100500 false), d, .cell (.own (.int .i64) 100700 false), d, d, d, d, d, .cell (.val (.sl .str)), d, d, d, d, d, .box 101900 [.val (.int .i64), .own (.int .i64) 101902 false], d, .cell (.val (.int .i64)), d, d, d, d, d, d, d, .cell (.val (.int .i64)), d, d, d, d, d, d, d, d, d, d, d, d, d, d, d, d, d, d, d, d, d, d, d, d, d, d, d, d, d, d, d, d, d, d, d, d, d, d, d, d, d, d, d, d, d, d, d, d, d, d, d, d, d, d, d, d, d, d, d, d, d, d, d, d, d, d, d, d, d, d, d, d, d, d, d, d, d, d, d, d, d, d, d, d, d, d, d, d, d, d, d, d, d, d, d, d, d, d, d, d, .cell (.val (.int .i64)), .cell (.val (.int .i64)), d, d, d, d, d, d, d, d, d, d, d, d, d, d, d, d, d, d, d, d, d, d, d, d, d, d, d, d, d, d, d, d, d, d, d, d, d, d, d, d, d, d, d, d, d, d, d, d, d, d, d, d, d, d, d, d, d, d, d, d, d, d, d, d, d, d, d, d, d, d, d, d, d, d, d, d, d, d, d, d, d, d, d, d, d, d, d, d, d, d, d, d, d, d, d, d, d, d, d, d, d, d, d, d, d, d, d, d])]
noncomputable def laws_FnGreatest_l31 : ((Int × (List Int) × (List Int) × (List (Int × (ByteArray × (Int × Int)))) × Unit) × Int × (List Int) × (List Int) × (List ByteArray) × (Int × (List Int) × Unit) × Int × (Int × (List Int) × Unit) × Int × Int × Int × (List Int) × Int × Int × Unit) → Option (((Int × (List Int) × (List Int) × (List (Int × (ByteArray × (Int × Int)))) × Unit) × Int × (List Int) × (List Int) × (List ByteArray) × (Int × (List Int) × Unit) × Int × (Int × (List Int) × Unit) × Int × Int × Int × (List Int) × Int × Int × Unit) ⊕ (((Int × (List Int) × (List Int) × (List (Int × (ByteArray × (Int × Int)))) × Unit) × Int × (List Int) × (List Int) × (List ByteArray) × (Int × (List Int) × Unit) × Int × Int × Int × Int × Unit))) := fun ((v3_0, v3_1, v3_2, v3_3, _), v4, v5, v7, v13, (v19_0, v19_1, _), v21, (v27_0, v27_1, _), v29, v130, v131, v194, v195, v196, _) =>
  bif (decide (v196 < v195)) then
    if (((0 : Int) ≤ v196) ∧ (v196 < (((List.length v194) : Nat) : Int))) then
      Option.bind (loopF laws_FnGreatest_l34 ((v3_0, v3_1, v3_2, v3_3, ()), v4, (List.take (List.length v5) (List.drop 0 v5)), (List.take (List.length v7) (List.drop 0 v7)), v13, (v19_0, (List.take (List.length v19_1) (List.drop 0 v19_1)), ()), v21, (v27_0, (List.take (List.length v27_1) (List.drop 0 v27_1)), ()), v29, (List.getD v194 (Int.toNat v196) (0 : Int)), v130, v131, v194, v195, v196, v3_2, (((List.length v3_2) : Nat) : Int), (0 : Int), ())) fun ((r0, r1, r2, r3, _), r4, r5, r6, r7, (r8, r9, _), r10, (r11, r12, _), r13, r14, r15, r16, r17, r18, _) =>
        some (Sum.inl ((r0, r1, r2, r3, ()), r4, (List.take (List.length r5) (List.drop 0 r5)), (List.take (List.length r6) (List.drop 0 r6)), r7, (r8, (List.take (List.length r9) (List.drop 0 r9)), ()), r10, (r11, (List.take (List.length r12) (List.drop 0 r12)), ()), r13, r14, r15, r16, r17, (IntKind.wrap .i64 (r18 + (1 : Int))), ()))
    else
      none
  else
    some (Sum.inr ((v3_0, v3_1, v3_2, v3_3, ()), v4, (List.take (List.length v5) (List.drop 0 v5)), (List.take (List.length v7) (List.drop 0 v7)), v13, (v19_0, (List.take (List.length v19_1) (List.drop 0 v19_1)), ()), v21, v29, v130, v131, ()))
theorem laws_FnGreatest_l31_eq : loopStep 240 E12 L12_2 (loopOf f12 31) sh12_31 xs12_31 = laws_FnGreatest_l31 := by kernel_rfl
theorem loop12_31 {L : Nat → Option LoopD} (h : L 31 = some ⟨240, sh12_31, xs12_31, laws_FnGreatest_l31⟩) : LoopOk prog L (loopOf f12 31) :=
  loopOk (tysOk_of tyl_ok) E12_ok (codeOk_in (L := L12_2) (tysOk_of tyl_ok) E12_ok mixed (c := loopOf f12 31) (bs := [loopOf f12 34]) (by kernel_rfl) (allCons (loop12_34 rfl) allNil) (by kernel_rfl)) (by kernel_rfl) (by kernel_rfl) laws_FnGreatest_l31_eq (by rw [show firstId (loopOf f12 31) = 31 from by kernel_rfl]; exact h)
noncomputable def L12_3 : Nat → Option LoopD := fun n => ifEq n 31 (some ⟨240, sh12_31, xs12_31, laws_FnGreatest_l31⟩) (L12_2 n)
def sh12_15 : List Fm := [d, d, d, .box 100300 [.val (.int .i64), .val (.sl (.int .i64)), .val (.sl (.int .i64)), .val (.sl (.pair (.int .i64) (.pair .str (.pair (.int .i64) (.int .i64)))))], .cell (.val (.int .i64)), .cell (.own (.int .i64) 100500 false), d, .cell (.own (.int .i64) 100700 false), d, d, d, d, d, .cell (.val (.sl .str)), d, d, d, d, d, .box 101900 [.val (.int .i64), .own (.int .i64) 101902 false], d, d, d, d, d, d, d, d, d, d, d, d, d, d, d, d, d, d, d, d, d, d, d, d, d, d, d, d, d, d, d, d, d, d, d, d, d, d, d, d, d, d, d, d, d, d, d, d, d, d, d, d, d, d, d, d, d, d, d, d, d, d, d, d, d, d, d, d, d, d, d, d, d, d, d, d, d, d, d, d, d, d, d, d, d, d, d, d, d, d, d, d, d, d, d, d, d, d, d, d, d, d, d, d, d, d, d, d, d, d, .cell (.val (.int .i64)), .cell (.val (.int .i64)), d, d, d, d, d, d, d, d, d, d, d, d, d, d, d, d, d, d, d, d, d, d, d, d, d, d, d, d, d, d, d, d, d, d, d, d, d, d, d, d, d, d, d, d, d, d, d, d, d, d, d, d, d, d, d, d, d, d, d, d, d, d, d, d, d, d, d, d, d, d, d, d, d, d, d, d, d, d, d, d, d, d, d, d, d, d, d, d, d, d, d, d, d, d, d, d, d, d, d, d, d, d, d, d, d, d, d, d]
def xs12_15 : List (Ex × List Fm) := [(.ret, [d, d, .cell (.val .bool), d, d, d, d, d, d, d, d, d, d, d, d, d, d, d, d, d, d, d, d, d, d, d, d, d, d, d, d, d, d, d, d, d, d, d, d, d, d, d, d, d, d, d, d, d, d, d, d, d, d, d, d, d, d, d, d, d, d, d, d, d, d, d, d, d, d, d, d, d, d, d, d, d, d, d, d, d, d, d, d, d, d, d, d, d, d, d, d, d, d, d, d, d, d, d, d, d, d, d, d, d, d, d, d, d, d, d, d, d, d, d, d, d, d, d, d, d, d, d, d, d, d, d, d, d, d, d, d, d, d, d, d, d, d, d, d, d, d, d, d, d, d, d, d, d, d, d, d, d, d, d, d, d, d, d, d, d, d, d, d, d, d, d, d, d, d, d, d, d, d, d, d, d, d, d, d, d, d, d, d, d, d, d, d, d, d, d, d, d, d, d, d, d, d, d, d, d, d, d, d, d, d, d, d, d, d, d, d, d, d, d, d, d, d, d, d, d, d, d, d, d, d, d, d, d, d, d, d, d, d, d, d, d, d, d, d, d]), (.exit 0, [d, d, d, d, .cell (.val (.int .i64)), .cell (.own (.int .i64) 100500 false), d, .cell (.own (.int .i64) 100700 false), d, d, d, d, d, d, d, d, d, d, d, d, d, d, d, d, d, d, d, d, d, d, d, d, d, d, d, d, d, d, d, d, d, d, d, d, d, d, d, d, d, d, d, d, d, d, d, d, d, d, d, d, d, d, d, d, d, d, d, d, d, d, d, d, d, d, d, d, d, d, d, d, d, d, d, d, d, d, d, d, d, d, d, d, d, d, d, d, d, d, d, d, d, d, d, d, d, d, d, d, d, d, d, d, d, d, d, d, d, d, d, d, d, d, d, d, d, d, d, d, d, d, d, d, d, d, d, d, d, d, d, d, d, d, d, d, d, d, d, d, d, d, d, d, d, d, d, d, d, d, d, d, d, d, d, d, d, d, d, d, d, d, d, d, d, d, d, d, d, d, d, d, d, d, d, d, d, d, d, d, d, d, d, d, d, d, d, d, d, d, d, d, d, d, d, d, d, d, d, d, d, d, d, d, d, d, d, d, d, d, d, d, d, d, d, d, d, d, d, d, d, d, d, d, d, d, d, d, d, d, d, d])]
noncomputable def laws_FnGreatest_l15 : ((Int × (List Int) × (List Int) × (List (Int × (ByteArray × (Int × Int)))) × Unit) × Int × (List Int) × (List Int) × (List ByteArray) × (Int × (List Int) × Unit) × Int × Int × Unit) → Option (((Int × (List Int) × (List Int) × (List (Int × (ByteArray × (Int × Int)))) × Unit) × Int × (List Int) × (List Int) × (List ByteArray) × (Int × (List Int) × Unit) × Int × Int × Unit) ⊕ ((Bool × Unit) ⊕ (Int × (List Int) × (List Int) × Unit))) := fun ((v3_0, v3_1, v3_2, v3_3, _), v4, v5, v7, v13, (v19_0, v19_1, _), v130, v131, _) =>
  bif (decide (v131 < v130)) then
    Option.bind (loopF laws_FnGreatest_l19 ((v3_0, v3_1, v3_2, v3_3, ()), v4, (List.take (List.length v5) (List.drop 0 v5)), (List.take (List.length v7) (List.drop 0 v7)), v13, (v19_0, (List.take (List.length v19_1) (List.drop 0 v19_1)), ()), v131, (1000000 : Int), (-1 : Int), v130, v131, v13, (((List.length v13) : Nat) : Int), (0 : Int), ())) fun ((r0, r1, r2, r3, _), r4, r5, r6, r7, (r8, r9, _), r10, r11, r12, r13, r14, _) =>
      if (((0 : Int) ≤ r10) ∧ (r10 < (((List.length r6) : Nat) : Int))) then
        bif (r11 != (List.getD r6 (0 + (Int.toNat r10)) (0 : Int))) then
          some (Sum.inr (Sum.inl (false, ())))
        else
          bif (decide (r12 ≥ (0 : Int))) then
            if (((0 : Int) ≤ r10) ∧ (r10 < (((List.length r5) : Nat) : Int))) then
              bif (r12 != (List.getD r5 (0 + (Int.toNat r10)) (0 : Int))) then
                some (Sum.inr (Sum.inl (false, ())))
              else
                bif (decide (r12 < (0 : Int))) then
                  if (((0 : Int) ≤ r10) ∧ (r10 < (((List.length r5) : Nat) : Int))) then
                    bif ((List.getD r5 (0 + (Int.toNat r10)) (0 : Int)) != (1000000 : Int)) then
                      some (Sum.inr (Sum.inl (false, ())))
                    else
                      Option.bind (impl_PowerMatrix (r8, (List.take (List.length r9) (List.drop 0 r9))) r10) fun ((r15, r16), r17) =>
                        Option.bind (loopF laws_FnGreatest_l31 ((r0, r1, r2, r3, ()), r4, (List.take (List.length r5) (List.drop 0 r5)), (List.take (List.length r6) (List.drop 0 r6)), r7, (r8, (List.take (List.length r9) (List.drop 0 r9)), ()), r10, (r15, (List.take (List.length r16) (List.drop 0 r16)), ()), (1000000 : Int), r13, r14, r1, (((List.length r1) : Nat) : Int), (0 : Int), ())) fun ((r18, r19, r20, r21, _), r22, r23, r24, r25, (r26, r27, _), r28, r29, r30, r31, _) =>
                          if (((0 : Int) ≤ r28) ∧ (r28 < (((List.length r24) : Nat) : Int))) then
                            bif (r29 != (List.getD r24 (0 + (Int.toNat r28)) (0 : Int))) then
                              some (Sum.inr (Sum.inl (false, ())))
                            else
                              some (Sum.inl ((r18, r19, r20, r21, ()), r22, (List.take (List.length r23) (List.drop 0 r23)), (List.take (List.length r24) (List.drop 0 r24)), r25, (r26, (List.take (List.length r27) (List.drop 0 r27)), ()), r30, (IntKind.wrap .i64 (r31 + (1 : Int))), ()))
                          else
                            none
                  else
                    none
                else
                  Option.bind (impl_PowerMatrix (r8, (List.take (List.length r9) (List.drop 0 r9))) r10) fun ((r32, r33), r34) =>
                    Option.bind (loopF laws_FnGreatest_l31 ((r0, r1, r2, r3, ()), r4, (List.take (List.length r5) (List.drop 0 r5)), (List.take (List.length r6) (List.drop 0 r6)), r7, (r8, (List.take (List.length r9) (List.drop 0 r9)), ()), r10, (r32, (List.take (List.length r33) (List.drop 0 r33)), ()), (1000000 : Int), r13, r14, r1, (((List.length r1) : Nat) : Int), (0 : Int), ())) fun ((r35, r36, r37, r38, _), r39, r40, r41, r42, (r43, r44, _), r45, r46, r47, r48, _) =>
                      if (((0 : Int) ≤ r45) ∧ (r45 < (((List.length r41) : Nat) : Int))) then
                        bif (r46 != (List.getD r41 (0 + (Int.toNat r45)) (0 : Int))) then
                          some (Sum.inr (Sum.inl (false, ())))
                        else
                          some (Sum.inl ((r35, r36, r37, r38, ()), r39, (List.take (List.length r40) (List.drop 0 r40)), (List.take (List.length r41) (List.drop 0 r41)), r42, (r43, (List.take (List.length r44) (List.drop 0 r44)), ()), r47, (IntKind.wrap .i64 (r48 + (1 : Int))), ()))
                      else
                        none
            else
              none
          else
            bif (decide (r12 < (0 : Int))) then
              if (((0 : Int) ≤ r10) ∧ (r10 < (((List.length r5) : Nat) : Int))) then
                bif ((List.getD r5 (0 + (Int.toNat r10)) (0 : Int)) != (1000000 : Int)) then
                  some (Sum.inr (Sum.inl (false, ())))
                else
                  Option.bind (impl_PowerMatrix (r8, (List.take (List.length r9) (List.drop 0 r9))) r10) fun ((r49, r50), r51) =>
                    Option.bind (loopF laws_FnGreatest_l31 ((r0, r1, r2, r3, ()), r4, (List.take (List.length r5) (List.drop 0 r5)), (List.take (List.length r6) (List.drop 0 r6)), r7, (r8, (List.take (List.length r9) (List.drop 0 r9)), ()), r10, (r49, (List.take (List.length r50) (List.drop 0 r50)), ()), (1000000 : Int), r13, r14, r1, (((List.length r1) : Nat) : Int), (0 : Int), ())) fun ((r52, r53, r54, r55, _), r56, r57, r58, r59, (r60, r61, _), r62, r63, r64, r65, _) =>
                      if (((0 : Int) ≤ r62) ∧ (r62 < (((List.length r58) : Nat) : Int))) then
                        bif (r63 != (List.getD r58 (0 + (Int.toNat r62)) (0 : Int))) then
                          some (Sum.inr (Sum.inl (false, ())))
                        else
                          some (Sum.inl ((r52, r53, r54, r55, ()), r56, (List.take (List.length r57) (List.drop 0 r57)), (List.take (List.length r58) (List.drop 0 r58)), r59, (r60, (List.take (List.length r61) (List.drop 0 r61)), ()), r64, (IntKind.wrap .i64 (r65 + (1 : Int))), ()))
                      else
                        none
              else
                none
            else
              Option.bind (impl_PowerMatrix (r8, (List.take (List.length r9) (List.drop 0 r9))) r10) fun ((r66, r67), r68) =>
                Option.bind (loopF laws_FnGreatest_l31 ((r0, r1, r2, r3, ()), r4, (List.take (List.length r5) (List.drop 0 r5)), (List.take (List.length r6) (List.drop 0 r6)), r7, (r8, (List.take (List.length r9) (List.drop 0 r9)), ()), r10, (r66, (List.take (List.length r67) (List.drop 0 r67)), ()), (1000000 : Int), r13, r14, r1, (((List.length r1) : Nat) : Int), (0 : Int), ())) fun ((r69, r70, r71, r72, _), r73, r74, r75, r76, (r77, r78, _), r79, r80, r81, r82, _) =>
                  if (((0 : Int) ≤ r79) ∧ (r79 < (((List.length r75) : Nat) : Int))) then
                    bif (r80 != (List.getD r75 (0 + (Int.toNat r79)) (0 : Int))) then
                      some (Sum.inr (Sum.inl (false, ())))
                    else
                      some (Sum.inl ((r69, r70, r71, r72, ()), r73, (List.take (List.length r74) (List.drop 0 r74)), (List.take (List.length r75) (List.drop 0 r75)), r76, (r77, (List.take (List.length r78) (List.drop 0 r78)), ()), r81, (IntKind.wrap .i64 (r82 + (1 : Int))), ()))
                  else
                    none
      else
        none
  else
    some (Sum.inr (Sum.inr (v4, (List.take (List.length v5) (List.drop 0 v5)), (List.take (List.length v7) (List.drop 0 v7)), ())))
theorem laws_FnGreatest_l15_eq : loopStep 240 E12 L12_3 (loopOf f12 15) sh12_15 xs12_15 = laws_FnGreatest_l15 := by kernel_rfl
theorem loop12_15 {L : Nat → Option LoopD} (h : L 15 = some ⟨240, sh12_15, xs12_15, laws_FnGreatest_l15⟩) : LoopOk prog L (loopOf f12 15) :=
  loopOk (tysOk_of tyl_ok) E12_ok (codeOk_in (L := L12_3) (tysOk_of tyl_ok) E12_ok mixed (c := loopOf f12 15) (bs := [loopOf f12 19, loopOf f12 31]) (by kernel_rfl) (allCons (loop12_19 rfl) (allCons (loop12_31 rfl) allNil)) (by kernel_rfl)) (by kernel_rfl) (by kernel_rfl) laws_FnGreatest_l15_eq (by rw [show firstId (loopOf f12 15) = 15 from by kernel_rfl]; exact h)
noncomputable def L12_4 : Nat → Option LoopD := fun n => ifEq n 15 (some ⟨240, sh12_15, xs12_15, laws_FnGreatest_l15⟩) (L12_3 n)
noncomputable def laws_FnGreatest : (List Int) → Option (Bool) := fun a0 =>
  bif (decide ((((List.length a0) : Nat) : Int) > (1048576 : Int))) then
    some true
  else
    Option.bind (spec_DrawGreatestOf a0) fun ((r0, r1, r2, r3), r4) =>
      Option.bind (impl_GreatestOf (r0, r1, r2, r3) r4) fun (r5, r6) =>
        Option.bind (impl_LeastOf (r0, r1, r2, r3) r4) fun (r7, r8) =>
          Option.bind (spec_GreatestOf (r0, r1, r2, r3) r4) fun (r9, r10) =>
            Option.bind (spec_LeastOf (r0, r1, r2, r3) r4) fun (r11, r12) =>
              Option.bind (laws_daSame (List.take (List.length r5) (List.drop 0 r5)) (List.take (List.length r9) (List.drop 0 r9))) fun r13 =>
                bif (!r13) then
                  Option.bind (laws_daSame (List.take (List.length r5) (List.drop 0 r5)) (List.take (List.length r9) (List.drop 0 r9))) fun r14 =>
                    bif r14 then
                      bif (r6 == r10) then
                        Option.bind (laws_daSame (List.take (List.length r7) (List.drop 0 r7)) (List.take (List.length r11) (List.drop 0 r11))) fun r15 =>
                          bif r15 then
                            some (r8 == r6)
                          else
                            some false
                      else
                        some false
                    else
                      some false
                else
                  bif (!(r6 == r10)) then
                    Option.bind (laws_daSame (List.take (List.length r5) (List.drop 0 r5)) (List.take (List.length r9) (List.drop 0 r9))) fun r16 =>
                      bif r16 then
                        bif (r6 == r10) then
                          Option.bind (laws_daSame (List.take (List.length r7) (List.drop 0 r7)) (List.take (List.length r11) (List.drop 0 r11))) fun r17 =>
                            bif r17 then
                              some (r8 == r6)
                            else
                              some false
                        else
                          some false
                      else
                        some false
                  else
                    Option.bind (laws_daSame (List.take (List.length r7) (List.drop 0 r7)) (List.take (List.length r11) (List.drop 0 r11))) fun r18 =>
                      bif (!r18) then
                        Option.bind (laws_daSame (List.take (List.length r5) (List.drop 0 r5)) (List.take (List.length r9) (List.drop 0 r9))) fun r19 =>
                          bif r19 then
                            bif (r6 == r10) then
                              Option.bind (laws_daSame (List.take (List.length r7) (List.drop 0 r7)) (List.take (List.length r11) (List.drop 0 r11))) fun r20 =>
                                bif r20 then
                                  some (r8 == r6)
                                else
                                  some false
                            else
                              some false
                          else
                            some false
                      else
                        bif (!(r8 == r6)) then
                          Option.bind (laws_daSame (List.take (List.length r5) (List.drop 0 r5)) (List.take (List.length r9) (List.drop 0 r9))) fun r21 =>
                            bif r21 then
                              bif (r6 == r10) then
                                Option.bind (laws_daSame (List.take (List.length r7) (List.drop 0 r7)) (List.take (List.length r11) (List.drop 0 r11))) fun r22 =>
                                  bif r22 then
                                    some (r8 == r6)
                                  else
                                    some false
                              else
                                some false
                            else
                              some false
                        else
                          bif (!r6) then
                            Option.bind (laws_daSame (List.take (List.length r5) (List.drop 0 r5)) (List.take (List.length r9) (List.drop 0 r9))) fun r23 =>
                              bif r23 then
                                bif (r6 == r10) then
                                  Option.bind (laws_daSame (List.take (List.length r7) (List.drop 0 r7)) (List.take (List.length r11) (List.drop 0 r11))) fun r24 =>
                                    bif r24 then
                                      some (r8 == r6)
                                    else
                                      some false
                                else
                                  some false
                              else
                                some false
                          else
                            Option.bind (impl_ShortWords r4) fun (r25, r26) =>
                              Option.bind (impl_StepMatrix (r0, r1, r2, r3) (⟨#[(97 : UInt8)]⟩ : ByteArray)) fun ((r27, r28), r29) =>
                                Option.bind (impl_StepMatrix (r0, r1, r2, r3) (⟨#[(98 : UInt8)]⟩ : ByteArray)) fun ((r30, r31), r32) =>
                                  Option.bind (impl_MinMatrix (r27, (List.take (List.length r28) (List.drop 0 r28))) (r30, (List.take (List.length r31) (List.drop 0 r31)))) fun ((r33, r34), r35) =>
                                    Option.bind (loopF laws_FnGreatest_l15 ((r0, r1, r2, r3, ()), r4, (List.take (List.length r5) (List.drop 0 r5)), (List.take (List.length r7) (List.drop 0 r7)), r25, (r33, (List.take (List.length r34) (List.drop 0 r34)), ()), (IntKind.wrap .i64 (r4 + (1 : Int))), (0 : Int), ())) fun r36 =>
                                      (match r36 with
                                      | .inl (d37, _) =>
                                          some d37
                                      | .inr (d38, d39, d40, _) =>
                                          bif ((((List.length d39) : Nat) : Int) == (IntKind.wrap .i64 (d38 + (1 : Int)))) then
                                            some ((((List.length d40) : Nat) : Int) == (IntKind.wrap .i64 (d38 + (1 : Int))))
                                          else
                                            some false)
noncomputable def A12 : FnA := ⟨[.v (.sl (.int .u8))], true, [.bool], fun x => laws_FnGreatest x.1⟩
theorem laws_FnGreatest_eq : fnF E12 L12_4 [.v (.sl (.int .u8))] true [.bool] f12.ntmps f12.results.toList (codeOf f12) = fun x => laws_FnGreatest x.1 := by kernel_rfl
theorem A12_ok : FnOk prog 12 A12 := by
  have h := fnOk_of_run (P := prog) (E := E12) (tysOk_of tyl_ok) E12_ok (L := L12_4) (ps := [.v (.sl (.int .u8))]) (own := true) (outs := [.bool]) func12 (c := codeOf f12) (by kernel_rfl) (codeOk_in (L := L12_4) (tysOk_of tyl_ok) E12_ok mixed (c := codeOf f12) (bs := [loopOf f12 15]) (by kernel_rfl) (allCons (loop12_15 rfl) allNil) (by kernel_rfl))
  rw [laws_FnGreatest_eq] at h
  exact h
end Go.Proofs.Ytooigaliccnldaa
