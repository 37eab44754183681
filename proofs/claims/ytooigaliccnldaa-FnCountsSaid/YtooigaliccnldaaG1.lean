/- What Go functions that the laws reach compute, and that they do: written by a program of this session. -/
import Derived.Test.YtooigaliccnldaaG0
import Derived.KernelRfl
set_option linter.unusedVariables false
namespace Go.Proofs.Ytooigaliccnldaa
open Go Go.Proofs.Ytooigaliccnldaa.Am Go.Proofs.Try
set_option maxRecDepth 100000
/-! spec.l4Least -/
noncomputable def E107 : Env := ⟨ty0, fun _ => none, fun _ => none, fun _ => none, fun _ => none⟩
theorem E107_ok : FnsOk prog E107 := (noFns _ _)
noncomputable def L107_0 : Nat → Option LoopD := fun _ => none
def sh107_6 : List Fm := [d, d, .box 100200 [.val (.int .i64), .val (.sl (.int .i64)), .val (.sl (.int .i64)), .val (.sl (.pair (.int .i64) (.pair .str (.pair (.int .i64) (.int .i64)))))], .box 100300 [.val (.int .i64), .val (.sl (.int .i64))], d, .cell (.val (.int .i64)), d, .cell (.val (.int .i64)), d, d, d, .cell (.val (.sl (.int .i64))), .cell (.val (.int .i64)), .cell (.val (.int .i64)), d, d, d, d, .cell (.val (.sl (.int .i64))), .cell (.val (.int .i64)), .cell (.val (.int .i64)), d, d, d, d, d, d, d, d, d, d, d, d, d, d, d, d, d, d]
def xs107_6 : List (Ex × List Fm) := [(.exit 2, [d, d, .box 100200 [.val (.int .i64), .val (.sl (.int .i64)), .val (.sl (.int .i64)), .val (.sl (.pair (.int .i64) (.pair .str (.pair (.int .i64) (.int .i64)))))], .box 100300 [.val (.int .i64), .val (.sl (.int .i64))], d, .cell (.val (.int .i64)), d, d, d, d, d, .cell (.val (.sl (.int .i64))), .cell (.val (.int .i64)), .cell (.val (.int .i64)), d, d, d, d, d, d, d, d, d, d, d, d, d, d, d, d, d, d, d, d, d, d, d, d, d])]
noncomputable def spec_l4Least_l6 : ((Int × (List Int) × (List Int) × (List (Int × (ByteArray × (Int × Int)))) × Unit) × (Int × (List Int) × Unit) × Int × Int × (List Int) × Int × Int × (List Int) × Int × Int × Unit) → Option (((Int × (List Int) × (List Int) × (List (Int × (ByteArray × (Int × Int)))) × Unit) × (Int × (List Int) × Unit) × Int × Int × (List Int) × Int × Int × (List Int) × Int × Int × Unit) ⊕ (((Int × (List Int) × (List Int) × (List (Int × (ByteArray × (Int × Int)))) × Unit) × (Int × (List Int) × Unit) × Int × (List Int) × Int × Int × Unit))) := fun ((v2_0, v2_1, v2_2, v2_3, _), (v3_0, v3_1, _), v5, v7, v11, v12, v13, v18, v19, v20, _) =>
  bif (decide (v20 < v19)) then
    if (((0 : Int) ≤ v20) ∧ (v20 < (((List.length v18) : Nat) : Int))) then
      if (((0 : Int) ≤ (IntKind.wrap .i64 ((IntKind.wrap .i64 (v7 * v2_0)) + (List.getD v18 (Int.toNat v20) (0 : Int))))) ∧ ((IntKind.wrap .i64 ((IntKind.wrap .i64 (v7 * v2_0)) + (List.getD v18 (Int.toNat v20) (0 : Int)))) < (((List.length v3_1) : Nat) : Int))) then
        some (Sum.inl ((v2_0, v2_1, v2_2, v2_3, ()), (v3_0, v3_1, ()), (if ((List.getD v3_1 (Int.toNat (IntKind.wrap .i64 ((IntKind.wrap .i64 (v7 * v2_0)) + (List.getD v18 (Int.toNat v20) (0 : Int))))) (0 : Int)) < v5) then (List.getD v3_1 (Int.toNat (IntKind.wrap .i64 ((IntKind.wrap .i64 (v7 * v2_0)) + (List.getD v18 (Int.toNat v20) (0 : Int))))) (0 : Int)) else v5), v7, v11, v12, v13, v18, v19, (IntKind.wrap .i64 (v20 + (1 : Int))), ()))
      else
        none
    else
      none
  else
    some (Sum.inr ((v2_0, v2_1, v2_2, v2_3, ()), (v3_0, v3_1, ()), v5, v11, v12, v13, ()))
theorem spec_l4Least_l6_eq : loopStep 39 E107 L107_0 (loopOf f107 6) sh107_6 xs107_6 = spec_l4Least_l6 := by kernel_rfl
theorem loop107_6 {L : Nat → Option LoopD} (h : L 6 = some ⟨39, sh107_6, xs107_6, spec_l4Least_l6⟩) : LoopOk prog L (loopOf f107 6) :=
  loopOk (tysOk_of tyl_ok) E107_ok (codeOk_in (L := L107_0) (tysOk_of tyl_ok) E107_ok mixed (c := loopOf f107 6) (bs := []) (by kernel_rfl) allNil (by kernel_rfl)) (by kernel_rfl) (by kernel_rfl) spec_l4Least_l6_eq (by rw [show firstId (loopOf f107 6) = 6 from by kernel_rfl]; exact h)
noncomputable def L107_1 : Nat → Option LoopD := fun n => ifEq n 6 (some ⟨39, sh107_6, xs107_6, spec_l4Least_l6⟩) (L107_0 n)
def sh107_3 : List Fm := [d, d, .box 100200 [.val (.int .i64), .val (.sl (.int .i64)), .val (.sl (.int .i64)), .val (.sl (.pair (.int .i64) (.pair .str (.pair (.int .i64) (.int .i64)))))], .box 100300 [.val (.int .i64), .val (.sl (.int .i64))], d, .cell (.val (.int .i64)), d, d, d, d, d, .cell (.val (.sl (.int .i64))), .cell (.val (.int .i64)), .cell (.val (.int .i64)), d, d, d, d, d, d, d, d, d, d, d, d, d, d, d, d, d, d, d, d, d, d, d, d, d]
def xs107_3 : List (Ex × List Fm) := [(.exit 0, [d, d, d, d, d, .cell (.val (.int .i64)), d, d, d, d, d, d, d, d, d, d, d, d, d, d, d, d, d, d, d, d, d, d, d, d, d, d, d, d, d, d, d, d, d])]
noncomputable def spec_l4Least_l3 : ((Int × (List Int) × (List Int) × (List (Int × (ByteArray × (Int × Int)))) × Unit) × (Int × (List Int) × Unit) × Int × (List Int) × Int × Int × Unit) → Option (((Int × (List Int) × (List Int) × (List (Int × (ByteArray × (Int × Int)))) × Unit) × (Int × (List Int) × Unit) × Int × (List Int) × Int × Int × Unit) ⊕ ((Int × Unit))) := fun ((v2_0, v2_1, v2_2, v2_3, _), (v3_0, v3_1, _), v5, v11, v12, v13, _) =>
  bif (decide (v13 < v12)) then
    if (((0 : Int) ≤ v13) ∧ (v13 < (((List.length v11) : Nat) : Int))) then
      Option.bind (loopF spec_l4Least_l6 ((v2_0, v2_1, v2_2, v2_3, ()), (v3_0, v3_1, ()), v5, (List.getD v11 (Int.toNat v13) (0 : Int)), v11, v12, v13, v2_2, (((List.length v2_2) : Nat) : Int), (0 : Int), ())) fun ((r0, r1, r2, r3, _), (r4, r5, _), r6, r7, r8, r9, _) =>
        some (Sum.inl ((r0, r1, r2, r3, ()), (r4, r5, ()), r6, r7, r8, (IntKind.wrap .i64 (r9 + (1 : Int))), ()))
    else
      none
  else
    some (Sum.inr (v5, ()))
theorem spec_l4Least_l3_eq : loopStep 39 E107 L107_1 (loopOf f107 3) sh107_3 xs107_3 = spec_l4Least_l3 := by kernel_rfl
theorem loop107_3 {L : Nat → Option LoopD} (h : L 3 = some ⟨39, sh107_3, xs107_3, spec_l4Least_l3⟩) : LoopOk prog L (loopOf f107 3) :=
  loopOk (tysOk_of tyl_ok) E107_ok (codeOk_in (L := L107_1) (tysOk_of tyl_ok) E107_ok mixed (c := loopOf f107 3) (bs := [loopOf f107 6]) (by kernel_rfl) (allCons (loop107_6 rfl) allNil) (by kernel_rfl)) (by kernel_rfl) (by kernel_rfl) spec_l4Least_l3_eq (by rw [show firstId (loopOf f107 3) = 3 from by kernel_rfl]; exact h)
noncomputable def L107_2 : Nat → Option LoopD := fun n => ifEq n 3 (some ⟨39, sh107_3, xs107_3, spec_l4Least_l3⟩) (L107_1 n)
noncomputable def spec_l4Least : (Int × ((List Int) × ((List Int) × (List (Int × (ByteArray × (Int × Int))))))) → (Int × (List Int)) → Option (Int) := fun (a0_0, a0_1, a0_2, a0_3) (a1_0, a1_1) =>
  Option.bind (loopF spec_l4Least_l3 ((a0_0, a0_1, a0_2, a0_3, ()), (a1_0, a1_1, ()), (1000000 : Int), a0_1, (((List.length a0_1) : Nat) : Int), (0 : Int), ())) fun (r0, _) =>
    some r0
noncomputable def A107 : FnA := ⟨[.v (.pair (.int .i64) (.pair (.sl (.int .i64)) (.pair (.sl (.int .i64)) (.sl (.pair (.int .i64) (.pair .str (.pair (.int .i64) (.int .i64)))))))), .v (.pair (.int .i64) (.sl (.int .i64)))], true, [.int .i64], fun x => spec_l4Least x.1 x.2.1⟩
theorem spec_l4Least_eq : fnF E107 L107_2 [.v (.pair (.int .i64) (.pair (.sl (.int .i64)) (.pair (.sl (.int .i64)) (.sl (.pair (.int .i64) (.pair .str (.pair (.int .i64) (.int .i64)))))))), .v (.pair (.int .i64) (.sl (.int .i64)))] true [.int .i64] f107.ntmps f107.results.toList (codeOf f107) = fun x => spec_l4Least x.1 x.2.1 := by kernel_rfl
theorem A107_ok : FnOk prog 107 A107 := by
  have h := fnOk_of_run (P := prog) (E := E107) (tysOk_of tyl_ok) E107_ok (L := L107_2) (ps := [.v (.pair (.int .i64) (.pair (.sl (.int .i64)) (.pair (.sl (.int .i64)) (.sl (.pair (.int .i64) (.pair .str (.pair (.int .i64) (.int .i64)))))))), .v (.pair (.int .i64) (.sl (.int .i64)))]) (own := true) (outs := [.int .i64]) func107 (c := codeOf f107) (by kernel_rfl) (codeOk_in (L := L107_2) (tysOk_of tyl_ok) E107_ok mixed (c := codeOf f107) (bs := [loopOf f107 3]) (by kernel_rfl) (allCons (loop107_3 rfl) allNil) (by kernel_rfl))
  rw [spec_l4Least_eq] at h
  exact h
/-! spec.l4Cost -/
noncomputable def E81 : Env := ⟨ty0, fun g => ifEq g 131 (some A131) (ifEq g 107 (some A107) (none)), fun _ => none, fun _ => none, fun _ => none⟩
theorem E81_ok : FnsOk prog E81 := (oneFn A131_ok func131 (by kernel_rfl) (by kernel_rfl) (oneFn A107_ok func107 (by kernel_rfl) (by kernel_rfl) (noFns _ _)))
noncomputable def L81_0 : Nat → Option LoopD := fun _ => none
noncomputable def spec_l4Cost : (Int × ((List Int) × ((List Int) × (List (Int × (ByteArray × (Int × Int))))))) → ByteArray → Option (Int) := fun (a0_0, a0_1, a0_2, a0_3) a1 =>
  Option.bind (spec_l4Matrix (a0_0, a0_1, a0_2, a0_3) a1) fun (r0, r1) =>
    Option.bind (spec_l4Least (a0_0, a0_1, a0_2, a0_3) (r0, (List.take (List.length r1) (List.drop 0 r1)))) fun r2 =>
      some r2
noncomputable def A81 : FnA := ⟨[.v (.pair (.int .i64) (.pair (.sl (.int .i64)) (.pair (.sl (.int .i64)) (.sl (.pair (.int .i64) (.pair .str (.pair (.int .i64) (.int .i64)))))))), .v .str], true, [.int .i64], fun x => spec_l4Cost x.1 x.2.1⟩
theorem spec_l4Cost_eq : fnF E81 L81_0 [.v (.pair (.int .i64) (.pair (.sl (.int .i64)) (.pair (.sl (.int .i64)) (.sl (.pair (.int .i64) (.pair .str (.pair (.int .i64) (.int .i64)))))))), .v .str] true [.int .i64] f81.ntmps f81.results.toList (codeOf f81) = fun x => spec_l4Cost x.1 x.2.1 := by kernel_rfl
theorem A81_ok : FnOk prog 81 A81 := by
  have h := fnOk_of_run (P := prog) (E := E81) (tysOk_of tyl_ok) E81_ok (L := L81_0) (ps := [.v (.pair (.int .i64) (.pair (.sl (.int .i64)) (.pair (.sl (.int .i64)) (.sl (.pair (.int .i64) (.pair .str (.pair (.int .i64) (.int .i64)))))))), .v .str]) (own := true) (outs := [.int .i64]) func81 (c := codeOf f81) (by kernel_rfl) (codeOk_in (L := L81_0) (tysOk_of tyl_ok) E81_ok mixed (c := codeOf f81) (bs := []) (by kernel_rfl) allNil (by kernel_rfl))
  rw [spec_l4Cost_eq] at h
  exact h
/-! spec.TableOf -/
noncomputable def E38 : Env := ⟨ty0, fun g => ifEq g 87 (some A87) (ifEq g 80 (some A80) (ifEq g 81 (some A81) (none))), fun _ => none, fun _ => none, fun _ => none⟩
theorem E38_ok : FnsOk prog E38 := (oneFn A87_ok func87 (by kernel_rfl) (by kernel_rfl) (oneFn A80_ok func80 (by kernel_rfl) (by kernel_rfl) (oneFn A81_ok func81 (by kernel_rfl) (by kernel_rfl) (noFns _ _))))
noncomputable def L38_0 : Nat → Option LoopD := fun _ => none
def sh38_5 : List Fm := [d, d, .box 100200 [.val (.int .i64), .val (.sl (.int .i64)), .val (.sl (.int .i64)), .val (.sl (.pair (.int .i64) (.pair .str (.pair (.int .i64) (.int .i64)))))], d, d, d, .cell (.own (.int .i64) 100600 false), d, d, d, d, d, d, d, d, d, .cell (.val (.sl .str)), .cell (.val (.int .i64)), .cell (.val (.int .i64)), d, d, d, d, d, d, d, d, d, d, d]
def xs38_5 : List (Ex × List Fm) := [(.exit 0, [d, d, d, d, d, d, .cell (.own (.int .i64) 100600 false), d, d, d, d, d, d, d, d, d, d, d, d, d, d, d, d, d, d, d, d, d, d, d])]
noncomputable def spec_TableOf_l5 : ((Int × (List Int) × (List Int) × (List (Int × (ByteArray × (Int × Int)))) × Unit) × (List Int) × (List ByteArray) × Int × Int × Unit) → Option (((Int × (List Int) × (List Int) × (List (Int × (ByteArray × (Int × Int)))) × Unit) × (List Int) × (List ByteArray) × Int × Int × Unit) ⊕ (((List Int) × Unit))) := fun ((v2_0, v2_1, v2_2, v2_3, _), v6, v16, v17, v18, _) =>
  bif (decide (v18 < v17)) then
    if (((0 : Int) ≤ v18) ∧ (v18 < (((List.length v16) : Nat) : Int))) then
      Option.bind (spec_l4Cost (v2_0, v2_1, v2_2, v2_3) (List.getD v16 (Int.toNat v18) (⟨Array.empty⟩ : ByteArray))) fun r0 =>
        if (((0 + (List.length v6)) = (List.length v6)) ∧ ((((List.length v6) + (List.length (List.take 1 (List.drop 0 [r0])))) * 8) ≤ 140737488355328)) then
          some (Sum.inl ((v2_0, v2_1, v2_2, v2_3, ()), (List.take ((List.length v6) + (List.length (List.take 1 (List.drop 0 [r0])))) (List.drop 0 ((List.drop 0 v6) ++ (List.take 1 (List.drop 0 [r0]))))), v16, v17, (IntKind.wrap .i64 (v18 + (1 : Int))), ()))
        else
          none
    else
      none
  else
    some (Sum.inr ((List.take (List.length v6) (List.drop 0 v6)), ()))
theorem spec_TableOf_l5_eq : loopStep 30 E38 L38_0 (loopOf f38 5) sh38_5 xs38_5 = spec_TableOf_l5 := by kernel_rfl
theorem loop38_5 {L : Nat → Option LoopD} (h : L 5 = some ⟨30, sh38_5, xs38_5, spec_TableOf_l5⟩) : LoopOk prog L (loopOf f38 5) :=
  loopOk (tysOk_of tyl_ok) E38_ok (codeOk_in (L := L38_0) (tysOk_of tyl_ok) E38_ok mixed (c := loopOf f38 5) (bs := []) (by kernel_rfl) allNil (by kernel_rfl)) (by kernel_rfl) (by kernel_rfl) spec_TableOf_l5_eq (by rw [show firstId (loopOf f38 5) = 5 from by kernel_rfl]; exact h)
noncomputable def L38_1 : Nat → Option LoopD := fun n => ifEq n 5 (some ⟨30, sh38_5, xs38_5, spec_TableOf_l5⟩) (L38_0 n)
noncomputable def spec_TableOf : (Int × ((List Int) × ((List Int) × (List (Int × (ByteArray × (Int × Int))))))) → Int → Option ((List Int) × Bool) := fun (a0_0, a0_1, a0_2, a0_3) a1 =>
  Option.bind (spec_l11Short (a0_0, a0_1, a0_2, a0_3) a1) fun r0 =>
    bif (!r0) then
      some ((List.take 0 (List.drop 0 [])), false)
    else
      Option.bind (spec_l4Words a1) fun r1 =>
        Option.bind (loopF spec_TableOf_l5 ((a0_0, a0_1, a0_2, a0_3, ()), (List.take 0 (List.drop 0 [])), r1, (((List.length r1) : Nat) : Int), (0 : Int), ())) fun (r2, _) =>
          some ((List.take (List.length r2) (List.drop 0 r2)), true)
noncomputable def A38 : FnA := ⟨[.v (.pair (.int .i64) (.pair (.sl (.int .i64)) (.pair (.sl (.int .i64)) (.sl (.pair (.int .i64) (.pair .str (.pair (.int .i64) (.int .i64)))))))), .v (.int .i64)], true, [.sl (.int .i64), .bool], fun x => spec_TableOf x.1 x.2.1⟩
theorem spec_TableOf_eq : fnF E38 L38_1 [.v (.pair (.int .i64) (.pair (.sl (.int .i64)) (.pair (.sl (.int .i64)) (.sl (.pair (.int .i64) (.pair .str (.pair (.int .i64) (.int .i64)))))))), .v (.int .i64)] true [.sl (.int .i64), .bool] f38.ntmps f38.results.toList (codeOf f38) = fun x => spec_TableOf x.1 x.2.1 := by kernel_rfl
theorem A38_ok : FnOk prog 38 A38 := by
  have h := fnOk_of_run (P := prog) (E := E38) (tysOk_of tyl_ok) E38_ok (L := L38_1) (ps := [.v (.pair (.int .i64) (.pair (.sl (.int .i64)) (.pair (.sl (.int .i64)) (.sl (.pair (.int .i64) (.pair .str (.pair (.int .i64) (.int .i64)))))))), .v (.int .i64)]) (own := true) (outs := [.sl (.int .i64), .bool]) func38 (c := codeOf f38) (by kernel_rfl) (codeOk_in (L := L38_1) (tysOk_of tyl_ok) E38_ok mixed (c := codeOf f38) (bs := [loopOf f38 5]) (by kernel_rfl) (allCons (loop38_5 rfl) allNil) (by kernel_rfl))
  rw [spec_TableOf_eq] at h
  exact h
/-! laws.daSame -/
noncomputable def E39 : Env := ⟨ty0, fun _ => none, fun _ => none, fun _ => none, fun _ => none⟩
theorem E39_ok : FnsOk prog E39 := (noFns _ _)
noncomputable def L39_0 : Nat → Option LoopD := fun _ => none
def sh39_2 : List Fm := [.cell (.val (.sl (.int .i64))), .cell (.val (.sl (.int .i64))), d, d, d, d, d, d, d, d, .cell (.val (.int .i64)), .cell (.val (.int .i64)), d, d, d, d, d, d, d, d, d, d, d, d, d, d, d, d, d]
def xs39_2 : List (Ex × List Fm) := [(.ret, [d, d, d, d, .cell (.val .bool), d, d, d, d, d, d, d, d, d, d, d, d, d, d, d, d, d, d, d, d, d, d, d, d]), (.exit 0, [.cell (.val (.sl (.int .i64))), .cell (.val (.sl (.int .i64))), d, d, d, d, d, d, d, d, d, d, d, d, d, d, d, d, d, d, d, d, d, d, d, d, d, d, d])]
noncomputable def laws_daSame_l2 : ((List Int) × (List Int) × Int × Int × Unit) → Option (((List Int) × (List Int) × Int × Int × Unit) ⊕ ((Bool × Unit) ⊕ ((List Int) × (List Int) × Unit))) := fun (v0, v1, v10, v11, _) =>
  bif (decide (v11 < v10)) then
    if (((0 : Int) ≤ v11) ∧ (v11 < (((List.length v0) : Nat) : Int))) then
      if (((0 : Int) ≤ v11) ∧ (v11 < (((List.length v1) : Nat) : Int))) then
        bif ((List.getD v0 (Int.toNat v11) (0 : Int)) != (List.getD v1 (Int.toNat v11) (0 : Int))) then
          some (Sum.inr (Sum.inl (false, ())))
        else
          some (Sum.inl (v0, v1, v10, (IntKind.wrap .i64 (v11 + (1 : Int))), ()))
      else
        none
    else
      none
  else
    some (Sum.inr (Sum.inr (v0, v1, ())))
theorem laws_daSame_l2_eq : loopStep 29 E39 L39_0 (loopOf f39 2) sh39_2 xs39_2 = laws_daSame_l2 := by kernel_rfl
theorem loop39_2 {L : Nat → Option LoopD} (h : L 2 = some ⟨29, sh39_2, xs39_2, laws_daSame_l2⟩) : LoopOk prog L (loopOf f39 2) :=
  loopOk (tysOk_of tyl_ok) E39_ok (codeOk_in (L := L39_0) (tysOk_of tyl_ok) E39_ok mixed (c := loopOf f39 2) (bs := []) (by kernel_rfl) allNil (by kernel_rfl)) (by kernel_rfl) (by kernel_rfl) laws_daSame_l2_eq (by rw [show firstId (loopOf f39 2) = 2 from by kernel_rfl]; exact h)
noncomputable def L39_1 : Nat → Option LoopD := fun n => ifEq n 2 (some ⟨29, sh39_2, xs39_2, laws_daSame_l2⟩) (L39_0 n)
noncomputable def laws_daSame : (List Int) → (List Int) → Option (Bool) := fun a0 a1 =>
  Option.bind (loopF laws_daSame_l2 (a0, a1, (if ((((List.length a1) : Nat) : Int) < (((List.length a0) : Nat) : Int)) then (((List.length a1) : Nat) : Int) else (((List.length a0) : Nat) : Int)), (0 : Int), ())) fun r0 =>
    (match r0 with
    | .inl (d1, _) =>
        some d1
    | .inr (d2, d3, _) =>
        some ((((List.length d2) : Nat) : Int) == (((List.length d3) : Nat) : Int)))
noncomputable def A39 : FnA := ⟨[.v (.sl (.int .i64)), .v (.sl (.int .i64))], true, [.bool], fun x => laws_daSame x.1 x.2.1⟩
theorem laws_daSame_eq : fnF E39 L39_1 [.v (.sl (.int .i64)), .v (.sl (.int .i64))] true [.bool] f39.ntmps f39.results.toList (codeOf f39) = fun x => laws_daSame x.1 x.2.1 := by kernel_rfl
theorem A39_ok : FnOk prog 39 A39 := by
  have h := fnOk_of_run (P := prog) (E := E39) (tysOk_of tyl_ok) E39_ok (L := L39_1) (ps := [.v (.sl (.int .i64)), .v (.sl (.int .i64))]) (own := true) (outs := [.bool]) func39 (c := codeOf f39) (by kernel_rfl) (codeOk_in (L := L39_1) (tysOk_of tyl_ok) E39_ok mixed (c := codeOf f39) (bs := [loopOf f39 2]) (by kernel_rfl) (allCons (loop39_2 rfl) allNil) (by kernel_rfl))
  rw [laws_daSame_eq] at h
  exact h
/-! laws.FnTable -/
noncomputable def E7 : Env := ⟨ty0, fun g => ifEq g 36 (some A36) (ifEq g 37 (some A37) (ifEq g 38 (some A38) (ifEq g 39 (some A39) (ifEq g 40 (some A40) (ifEq g 41 (some A41) (none)))))), fun _ => none, fun _ => none, fun _ => none⟩
theorem E7_ok : FnsOk prog E7 := (oneFn A36_ok func36 (by kernel_rfl) (by kernel_rfl) (oneFn A37_ok func37 (by kernel_rfl) (by kernel_rfl) (oneFn A38_ok func38 (by kernel_rfl) (by kernel_rfl) (oneFn A39_ok func39 (by kernel_rfl) (by kernel_rfl) (oneFn A40_ok func40 (by kernel_rfl) (by kernel_rfl) (oneFn A41_ok func41 (by kernel_rfl) (by kernel_rfl) (noFns _ _)))))))
noncomputable def L7_0 : Nat → Option LoopD := fun _ => none
def sh7_10 : List Fm := [d, d, d, .box 100300 [.val (.int .i64), .val (.sl (.int .i64)), .val (.sl (.int .i64)), .val (.sl (.pair (.int .i64) (.pair .str (.pair (.int .i64) (.int .i64)))))], d, .cell (.own (.int .i64) 100500 false), d, d, d, .cell (.val (.sl .str)), d, d, d, d, d, d, d, d, d, d, d, d, d, d, d, d, d, d, d, d, d, d, d, d, d, d, d, d, d, d, d, d, d, d, d, d, d, d, d, d, d, d, d, d, d, d, d, d, d, .cell (.val (.sl .str)), .cell (.val (.int .i64)), .cell (.val (.int .i64)), d, d, d, d, d, d, d, d, d, d, d, d, d, d, d, d, d, d]
def xs7_10 : List (Ex × List Fm) := [(.ret, [d, d, .cell (.val .bool), d, d, d, d, d, d, d, d, d, d, d, d, d, d, d, d, d, d, d, d, d, d, d, d, d, d, d, d, d, d, d, d, d, d, d, d, d, d, d, d, d, d, d, d, d, d, d, d, d, d, d, d, d, d, d, d, d, d, d, d, d, d, d, d, d, d, d, d, d, d, d, d, d, d, d, d, d]), (.exit 0, [d, d, d, d, d, .cell (.own (.int .i64) 100500 false), d, d, d, .cell (.val (.sl .str)), d, d, d, d, d, d, d, d, d, d, d, d, d, d, d, d, d, d, d, d, d, d, d, d, d, d, d, d, d, d, d, d, d, d, d, d, d, d, d, d, d, d, d, d, d, d, d, d, d, d, d, d, d, d, d, d, d, d, d, d, d, d, d, d, d, d, d, d, d, d])]
noncomputable def laws_FnTable_l10 : ((Int × (List Int) × (List Int) × (List (Int × (ByteArray × (Int × Int)))) × Unit) × (List Int) × (List ByteArray) × (List ByteArray) × Int × Int × Unit) → Option (((Int × (List Int) × (List Int) × (List (Int × (ByteArray × (Int × Int)))) × Unit) × (List Int) × (List ByteArray) × (List ByteArray) × Int × Int × Unit) ⊕ ((Bool × Unit) ⊕ ((List Int) × (List ByteArray) × Unit))) := fun ((v3_0, v3_1, v3_2, v3_3, _), v5, v9, v59, v60, v61, _) =>
  bif (decide (v61 < v60)) then
    if (((0 : Int) ≤ v61) ∧ (v61 < (((List.length v59) : Nat) : Int))) then
      Option.bind (impl_CostOf (v3_0, v3_1, v3_2, v3_3) (List.getD v59 (Int.toNat v61) (⟨Array.empty⟩ : ByteArray))) fun r0 =>
        if (((0 : Int) ≤ v61) ∧ (v61 < (((List.length v5) : Nat) : Int))) then
          bif (r0 != (List.getD v5 (0 + (Int.toNat v61)) (0 : Int))) then
            some (Sum.inr (Sum.inl (false, ())))
          else
            some (Sum.inl ((v3_0, v3_1, v3_2, v3_3, ()), (List.take (List.length v5) (List.drop 0 v5)), v9, v59, v60, (IntKind.wrap .i64 (v61 + (1 : Int))), ()))
        else
          none
    else
      none
  else
    some (Sum.inr (Sum.inr ((List.take (List.length v5) (List.drop 0 v5)), v9, ())))
theorem laws_FnTable_l10_eq : loopStep 80 E7 L7_0 (loopOf f7 10) sh7_10 xs7_10 = laws_FnTable_l10 := by kernel_rfl
theorem loop7_10 {L : Nat → Option LoopD} (h : L 10 = some ⟨80, sh7_10, xs7_10, laws_FnTable_l10⟩) : LoopOk prog L (loopOf f7 10) :=
  loopOk (tysOk_of tyl_ok) E7_ok (codeOk_in (L := L7_0) (tysOk_of tyl_ok) E7_ok mixed (c := loopOf f7 10) (bs := []) (by kernel_rfl) allNil (by kernel_rfl)) (by kernel_rfl) (by kernel_rfl) laws_FnTable_l10_eq (by rw [show firstId (loopOf f7 10) = 10 from by kernel_rfl]; exact h)
noncomputable def L7_1 : Nat → Option LoopD := fun n => ifEq n 10 (some ⟨80, sh7_10, xs7_10, laws_FnTable_l10⟩) (L7_0 n)
noncomputable def laws_FnTable : (List Int) → Option (Bool) := fun a0 =>
  bif (decide ((((List.length a0) : Nat) : Int) > (1048576 : Int))) then
    some true
  else
    Option.bind (spec_DrawTableOf a0) fun ((r0, r1, r2, r3), r4) =>
      Option.bind (impl_TableOf (r0, r1, r2, r3) r4) fun (r5, r6) =>
        Option.bind (spec_TableOf (r0, r1, r2, r3) r4) fun (r7, r8) =>
          Option.bind (laws_daSame (List.take (List.length r5) (List.drop 0 r5)) (List.take (List.length r7) (List.drop 0 r7))) fun r9 =>
            bif (!r9) then
              Option.bind (laws_daSame (List.take (List.length r5) (List.drop 0 r5)) (List.take (List.length r7) (List.drop 0 r7))) fun r10 =>
                bif r10 then
                  some (r6 == r8)
                else
                  some false
            else
              bif (!(r6 == r8)) then
                Option.bind (laws_daSame (List.take (List.length r5) (List.drop 0 r5)) (List.take (List.length r7) (List.drop 0 r7))) fun r11 =>
                  bif r11 then
                    some (r6 == r8)
                  else
                    some false
              else
                bif (!r6) then
                  Option.bind (laws_daSame (List.take (List.length r5) (List.drop 0 r5)) (List.take (List.length r7) (List.drop 0 r7))) fun r12 =>
                    bif r12 then
                      some (r6 == r8)
                    else
                      some false
                else
                  Option.bind (impl_ShortWords r4) fun (r13, r14) =>
                    Option.bind (loopF laws_FnTable_l10 ((r0, r1, r2, r3, ()), (List.take (List.length r5) (List.drop 0 r5)), r13, r13, (((List.length r13) : Nat) : Int), (0 : Int), ())) fun r15 =>
                      (match r15 with
                      | .inl (d16, _) =>
                          some d16
                      | .inr (d17, d18, _) =>
                          some ((((List.length d17) : Nat) : Int) == (((List.length d18) : Nat) : Int)))
noncomputable def A7 : FnA := ⟨[.v (.sl (.int .u8))], true, [.bool], fun x => laws_FnTable x.1⟩
theorem laws_FnTable_eq : fnF E7 L7_1 [.v (.sl (.int .u8))] true [.bool] f7.ntmps f7.results.toList (codeOf f7) = fun x => laws_FnTable x.1 := by kernel_rfl
theorem A7_ok : FnOk prog 7 A7 := by
  have h := fnOk_of_run (P := prog) (E := E7) (tysOk_of tyl_ok) E7_ok (L := L7_1) (ps := [.v (.sl (.int .u8))]) (own := true) (outs := [.bool]) func7 (c := codeOf f7) (by kernel_rfl) (codeOk_in (L := L7_1) (tysOk_of tyl_ok) E7_ok mixed (c := codeOf f7) (bs := [loopOf f7 10]) (by kernel_rfl) (allCons (loop7_10 rfl) allNil) (by kernel_rfl))
  rw [laws_FnTable_eq] at h
  exact h
/-! spec.l4Draw -/
noncomputable def E168 : Env := ⟨ty0, fun _ => none, fun g => ifEq g 141 (some A141) (ifEq g 169 (some A169) (none)), fun _ => none, fun _ => none⟩
theorem E168_ok : FnsOk prog E168 := (oneMs A141_ok (by kernel_rfl) func141 (by kernel_rfl) (by kernel_rfl) (oneMs A169_ok (by kernel_rfl) func169 (by kernel_rfl) (by kernel_rfl) (noFns _ _)))
noncomputable def L168_0 : Nat → Option LoopD := fun _ => none
def sh168_3 : List Fm := [.box 200000 [.val (.sl (.int .u8)), .val (.int .i64)], d, d, d, d, .cell (.val .str), d, d, d, .cell (.val (.int .i64)), .cell (.val (.int .i64)), d, d, d, d, d, d, d, d]
def xs168_3 : List (Ex × List Fm) := [(.exit 0, [.box 200000 [.val (.sl (.int .u8)), .val (.int .i64)], d, d, d, d, .cell (.val .str), d, d, d, d, d, d, d, d, d, d, d, d, d])]
noncomputable def spec_l4Draw_l3 : (((List Int) × Int × Unit) × ByteArray × Int × Int × Unit) → Option ((((List Int) × Int × Unit) × ByteArray × Int × Int × Unit) ⊕ ((((List Int) × Int × Unit) × ByteArray × Unit))) := fun ((v0_0, v0_1, _), v5, v9, v10, _) =>
  bif (decide (v10 < v9)) then
    Option.bind (spec_l13Rd_of (v0_0, v0_1) (List.take 2 (List.drop 0 [(⟨#[(97 : UInt8)]⟩ : ByteArray), (⟨#[(98 : UInt8)]⟩ : ByteArray)]))) fun (r0, (r1, r2), _) =>
      if (((ByteArray.size v5) + (ByteArray.size r0)) ≤ 9223372036854775807) then
        some (Sum.inl ((r1, r2, ()), (v5 ++ r0), v9, (IntKind.wrap .i64 (v10 + (1 : Int))), ()))
      else
        none
  else
    some (Sum.inr ((v0_0, v0_1, ()), v5, ()))
theorem spec_l4Draw_l3_eq : loopStep 19 E168 L168_0 (loopOf f168 3) sh168_3 xs168_3 = spec_l4Draw_l3 := by kernel_rfl
theorem loop168_3 {L : Nat → Option LoopD} (h : L 3 = some ⟨19, sh168_3, xs168_3, spec_l4Draw_l3⟩) : LoopOk prog L (loopOf f168 3) :=
  loopOk (tysOk_of tyl_ok) E168_ok (codeOk_in (L := L168_0) (tysOk_of tyl_ok) E168_ok mixed (c := loopOf f168 3) (bs := []) (by kernel_rfl) allNil (by kernel_rfl)) (by kernel_rfl) (by kernel_rfl) spec_l4Draw_l3_eq (by rw [show firstId (loopOf f168 3) = 3 from by kernel_rfl]; exact h)
noncomputable def L168_1 : Nat → Option LoopD := fun n => ifEq n 3 (some ⟨19, sh168_3, xs168_3, spec_l4Draw_l3⟩) (L168_0 n)
noncomputable def spec_l4Draw : ((List Int) × Int) → Int → Option ((ByteArray) × (((List Int) × Int) × Unit)) := fun (a0_0, a0_1) a1 =>
  Option.bind (spec_l13Rd_pick (a0_0, a0_1) (IntKind.wrap .i64 (a1 + (1 : Int)))) fun (r0, (r1, r2), _) =>
    Option.bind (loopF spec_l4Draw_l3 ((r1, r2, ()), (⟨#[]⟩ : ByteArray), r0, (0 : Int), ())) fun ((r3, r4, _), r5, _) =>
      some (r5, (r3, r4), ())
noncomputable def A168 : FnM := ⟨[.bx (.pair (.sl (.int .u8)) (.int .i64)), .v (.int .i64)], true, [.str], fun x => spec_l4Draw x.1 x.2.1⟩
theorem spec_l4Draw_eq : fnMF E168 L168_1 [.bx (.pair (.sl (.int .u8)) (.int .i64)), .v (.int .i64)] true [.str] f168.ntmps f168.results.toList (codeOf f168) = fun x => spec_l4Draw x.1 x.2.1 := by kernel_rfl
theorem A168_ok : FnMOk prog 168 A168 := by
  have h := fnMOk_of_run (P := prog) (E := E168) (tysOk_of tyl_ok) E168_ok (L := L168_1) (ps := [.bx (.pair (.sl (.int .u8)) (.int .i64)), .v (.int .i64)]) (own := true) (outs := [.str]) func168 (c := codeOf f168) (by kernel_rfl) (codeOk_in (L := L168_1) (tysOk_of tyl_ok) E168_ok mixed (c := codeOf f168) (bs := [loopOf f168 3]) (by kernel_rfl) (allCons (loop168_3 rfl) allNil) (by kernel_rfl)) (by kernel_rfl)
  rw [spec_l4Draw_eq] at h
  exact h
/-! spec.l4Word -/
noncomputable def E139 : Env := ⟨ty0, fun _ => none, fun g => ifEq g 141 (some A141) (ifEq g 168 (some A168) (ifEq g 169 (some A169) (none))), fun _ => none, fun _ => none⟩
theorem E139_ok : FnsOk prog E139 := (oneMs A141_ok (by kernel_rfl) func141 (by kernel_rfl) (by kernel_rfl) (oneMs A168_ok (by kernel_rfl) func168 (by kernel_rfl) (by kernel_rfl) (oneMs A169_ok (by kernel_rfl) func169 (by kernel_rfl) (by kernel_rfl) (noFns _ _))))
noncomputable def L139_0 : Nat → Option LoopD := fun _ => none
noncomputable def spec_l4Word : ((List Int) × Int) → Option ((ByteArray) × (((List Int) × Int) × Unit)) := fun (a0_0, a0_1) =>
  Option.bind (spec_l13Rd_pick (a0_0, a0_1) (24 : Int)) fun (r0, (r1, r2), _) =>
    bif (r0 == (0 : Int)) then
      Option.bind (spec_l4Draw (r1, r2) (4 : Int)) fun (r3, (r4, r5), _) =>
        Option.bind (spec_l13Rd_of (r4, r5) (List.take 3 (List.drop 0 [(⟨#[(99 : UInt8)]⟩ : ByteArray), (⟨#[(32 : UInt8)]⟩ : ByteArray), (⟨#[(65 : UInt8)]⟩ : ByteArray)]))) fun (r6, (r7, r8), _) =>
          if (((ByteArray.size r3) + (ByteArray.size r6)) ≤ 9223372036854775807) then
            some ((r3 ++ r6), (r7, r8), ())
          else
            none
    else
      Option.bind (spec_l4Draw (r1, r2) (9 : Int)) fun (r9, (r10, r11), _) =>
        some (r9, (r10, r11), ())
noncomputable def A139 : FnM := ⟨[.bx (.pair (.sl (.int .u8)) (.int .i64))], true, [.str], fun x => spec_l4Word x.1⟩
theorem spec_l4Word_eq : fnMF E139 L139_0 [.bx (.pair (.sl (.int .u8)) (.int .i64))] true [.str] f139.ntmps f139.results.toList (codeOf f139) = fun x => spec_l4Word x.1 := by kernel_rfl
theorem A139_ok : FnMOk prog 139 A139 := by
  have h := fnMOk_of_run (P := prog) (E := E139) (tysOk_of tyl_ok) E139_ok (L := L139_0) (ps := [.bx (.pair (.sl (.int .u8)) (.int .i64))]) (own := true) (outs := [.str]) func139 (c := codeOf f139) (by kernel_rfl) (codeOk_in (L := L139_0) (tysOk_of tyl_ok) E139_ok mixed (c := codeOf f139) (bs := []) (by kernel_rfl) allNil (by kernel_rfl)) (by kernel_rfl)
  rw [spec_l4Word_eq] at h
  exact h
/-! spec.l4Some -/
noncomputable def E97 : Env := ⟨ty0, fun _ => none, fun g => ifEq g 137 (some A137) (ifEq g 139 (some A139) (none)), fun _ => none, fun _ => none⟩
theorem E97_ok : FnsOk prog E97 := (oneMs A137_ok (by kernel_rfl) func137 (by kernel_rfl) (by kernel_rfl) (oneMs A139_ok (by kernel_rfl) func139 (by kernel_rfl) (by kernel_rfl) (noFns _ _)))
noncomputable def L97_0 : Nat → Option LoopD := fun _ => none
noncomputable def spec_l4Some : ((List Int) × Int) → Option (((Int × ((List Int) × ((List Int) × (List (Int × (ByteArray × (Int × Int))))))) × ByteArray) × (((List Int) × Int) × Unit)) := fun (a0_0, a0_1) =>
  Option.bind (spec_l3Any (a0_0, a0_1)) fun ((r0, r1, r2, r3), (r4, r5), _) =>
    Option.bind (spec_l4Word (r4, r5)) fun (r6, (r7, r8), _) =>
      some (((r0, r1, r2, r3), r6), (r7, r8), ())
noncomputable def A97 : FnM := ⟨[.bx (.pair (.sl (.int .u8)) (.int .i64))], false, [.pair (.int .i64) (.pair (.sl (.int .i64)) (.pair (.sl (.int .i64)) (.sl (.pair (.int .i64) (.pair .str (.pair (.int .i64) (.int .i64))))))), .str], fun x => spec_l4Some x.1⟩
theorem spec_l4Some_eq : fnMF E97 L97_0 [.bx (.pair (.sl (.int .u8)) (.int .i64))] false [.pair (.int .i64) (.pair (.sl (.int .i64)) (.pair (.sl (.int .i64)) (.sl (.pair (.int .i64) (.pair .str (.pair (.int .i64) (.int .i64))))))), .str] f97.ntmps f97.results.toList (codeOf f97) = fun x => spec_l4Some x.1 := by kernel_rfl
theorem A97_ok : FnMOk prog 97 A97 := by
  have h := fnMOk_of_run (P := prog) (E := E97) (tysOk_of tyl_ok) E97_ok (L := L97_0) (ps := [.bx (.pair (.sl (.int .u8)) (.int .i64))]) (own := false) (outs := [.pair (.int .i64) (.pair (.sl (.int .i64)) (.pair (.sl (.int .i64)) (.sl (.pair (.int .i64) (.pair .str (.pair (.int .i64) (.int .i64))))))), .str]) func97 (c := codeOf f97) (by kernel_rfl) (codeOk_in (L := L97_0) (tysOk_of tyl_ok) E97_ok mixed (c := codeOf f97) (bs := []) (by kernel_rfl) allNil (by kernel_rfl)) (by kernel_rfl)
  rw [spec_l4Some_eq] at h
  exact h
/-! spec.DrawSplitOf -/
noncomputable def E42 : Env := ⟨ty0, fun _ => none, fun g => ifEq g 97 (some A97) (none), fun g => ifEq g 98 (some A98) (none), fun _ => none⟩
theorem E42_ok : FnsOk prog E42 := (oneBs A98_ok func98 (by kernel_rfl) (by kernel_rfl) (oneMs A97_ok (by kernel_rfl) func97 (by kernel_rfl) (by kernel_rfl) (noFns _ _)))
noncomputable def L42_0 : Nat → Option LoopD := fun _ => none
noncomputable def spec_DrawSplitOf : (List Int) → Option ((Int × ((List Int) × ((List Int) × (List (Int × (ByteArray × (Int × Int))))))) × ByteArray) := fun a0 =>
  Option.bind (spec_l13Open a0) fun (r0, r1) =>
    Option.bind (spec_l4Some (r0, r1)) fun (((r2, r3, r4, r5), r6), (r7, r8), _) =>
      some ((r2, r3, r4, r5), r6)
noncomputable def A42 : FnA := ⟨[.v (.sl (.int .u8))], false, [.pair (.int .i64) (.pair (.sl (.int .i64)) (.pair (.sl (.int .i64)) (.sl (.pair (.int .i64) (.pair .str (.pair (.int .i64) (.int .i64))))))), .str], fun x => spec_DrawSplitOf x.1⟩
theorem spec_DrawSplitOf_eq : fnF E42 L42_0 [.v (.sl (.int .u8))] false [.pair (.int .i64) (.pair (.sl (.int .i64)) (.pair (.sl (.int .i64)) (.sl (.pair (.int .i64) (.pair .str (.pair (.int .i64) (.int .i64))))))), .str] f42.ntmps f42.results.toList (codeOf f42) = fun x => spec_DrawSplitOf x.1 := by kernel_rfl
theorem A42_ok : FnOk prog 42 A42 := by
  have h := fnOk_of_run (P := prog) (E := E42) (tysOk_of tyl_ok) E42_ok (L := L42_0) (ps := [.v (.sl (.int .u8))]) (own := false) (outs := [.pair (.int .i64) (.pair (.sl (.int .i64)) (.pair (.sl (.int .i64)) (.sl (.pair (.int .i64) (.pair .str (.pair (.int .i64) (.int .i64))))))), .str]) func42 (c := codeOf f42) (by kernel_rfl) (codeOk_in (L := L42_0) (tysOk_of tyl_ok) E42_ok mixed (c := codeOf f42) (bs := []) (by kernel_rfl) allNil (by kernel_rfl))
  rw [spec_DrawSplitOf_eq] at h
  exact h
/-! impl.factors -/
noncomputable def E92 : Env := ⟨ty0, fun g => ifEq g 134 (some A134) (ifEq g 41 (some A41) (none)), fun _ => none, fun _ => none, fun _ => none⟩
theorem E92_ok : FnsOk prog E92 := (oneFn A134_ok func134 (by kernel_rfl) (by kernel_rfl) (oneFn A41_ok func41 (by kernel_rfl) (by kernel_rfl) (noFns _ _)))
noncomputable def L92_0 : Nat → Option LoopD := fun _ => none
def sh92_7 : List Fm := [d, .cell (.val .str), .box 100200 [.val (.int .i64), .val (.sl (.int .i64)), .val (.sl (.int .i64)), .val (.sl (.pair (.int .i64) (.pair .str (.pair (.int .i64) (.int .i64)))))], d, d, .cell (.own (.int .i64) 100500 false), .cell (.val (.int .i64)), .cell (.val (.int .i64)), d, d, d, d, d, d, d, d, d, d, d, d, d, d, d, d, d, d, d, d, d, d, d, d, d, d, d, d, d, d, d, d, d, d, d, d, d, d, d, d, d, d, d, d, d, d, d, d, d, d, d, d]
def xs92_7 : List (Ex × List Fm) := [(.exit 2, [d, .cell (.val .str), .box 100200 [.val (.int .i64), .val (.sl (.int .i64)), .val (.sl (.int .i64)), .val (.sl (.pair (.int .i64) (.pair .str (.pair (.int .i64) (.int .i64)))))], d, d, .cell (.own (.int .i64) 100500 false), .cell (.val (.int .i64)), d, d, d, d, d, d, d, d, d, d, d, d, d, d, d, d, d, d, d, d, d, d, d, d, d, d, d, d, d, d, d, d, d, d, d, d, d, d, d, d, d, d, d, d, d, d, d, d, d, d, d, d, d])]
noncomputable def impl_factors_l7 : (ByteArray × (Int × (List Int) × (List Int) × (List (Int × (ByteArray × (Int × Int)))) × Unit) × (List Int) × Int × Int × Unit) → Option ((ByteArray × (Int × (List Int) × (List Int) × (List (Int × (ByteArray × (Int × Int)))) × Unit) × (List Int) × Int × Int × Unit) ⊕ ((ByteArray × (Int × (List Int) × (List Int) × (List (Int × (ByteArray × (Int × Int)))) × Unit) × (List Int) × Int × Unit))) := fun (v1, (v2_0, v2_1, v2_2, v2_3, _), v5, v6, v7, _) =>
  bif (decide (v7 ≤ (((ByteArray.size v1) : Nat) : Int))) then
    if (((0 : Int) ≤ v7) ∧ (v7 < (((List.length v5) : Nat) : Int))) then
      bif (decide ((List.getD v5 (0 + (Int.toNat v7)) (0 : Int)) < (1000000 : Int))) then
        if (((0 : Int) ≤ v6) ∧ ((v6 ≤ v7) ∧ (v7 ≤ (((ByteArray.size v1) : Nat) : Int)))) then
          Option.bind (impl_CostOf (v2_0, v2_1, v2_2, v2_3) (ByteArray.extract v1 (Int.toNat v6) (Int.toNat v7))) fun r0 =>
            bif (decide (r0 < (1000000 : Int))) then
              if (((0 : Int) ≤ v6) ∧ (v6 < (((List.length v5) : Nat) : Int))) then
                if (((0 : Int) ≤ v7) ∧ (v7 < (((List.length v5) : Nat) : Int))) then
                  if (((0 : Int) ≤ v6) ∧ (v6 < (((List.length v5) : Nat) : Int))) then
                    some (Sum.inl (v1, (v2_0, v2_1, v2_2, v2_3, ()), (List.take (List.length v5) (List.drop 0 (List.set v5 (0 + (Int.toNat v6)) (if ((IntKind.wrap .i64 ((List.getD v5 (0 + (Int.toNat v7)) (0 : Int)) + (1 : Int))) < (List.getD v5 (0 + (Int.toNat v6)) (0 : Int))) then (IntKind.wrap .i64 ((List.getD v5 (0 + (Int.toNat v7)) (0 : Int)) + (1 : Int))) else (List.getD v5 (0 + (Int.toNat v6)) (0 : Int)))))), v6, (IntKind.wrap .i64 (v7 + (1 : Int))), ()))
                  else
                    none
                else
                  none
              else
                none
            else
              some (Sum.inl (v1, (v2_0, v2_1, v2_2, v2_3, ()), (List.take (List.length v5) (List.drop 0 v5)), v6, (IntKind.wrap .i64 (v7 + (1 : Int))), ()))
        else
          none
      else
        some (Sum.inl (v1, (v2_0, v2_1, v2_2, v2_3, ()), (List.take (List.length v5) (List.drop 0 v5)), v6, (IntKind.wrap .i64 (v7 + (1 : Int))), ()))
    else
      none
  else
    some (Sum.inr (v1, (v2_0, v2_1, v2_2, v2_3, ()), (List.take (List.length v5) (List.drop 0 v5)), v6, ()))
theorem impl_factors_l7_eq : loopStep 60 E92 L92_0 (loopOf f92 7) sh92_7 xs92_7 = impl_factors_l7 := by kernel_rfl
theorem loop92_7 {L : Nat → Option LoopD} (h : L 7 = some ⟨60, sh92_7, xs92_7, impl_factors_l7⟩) : LoopOk prog L (loopOf f92 7) :=
  loopOk (tysOk_of tyl_ok) E92_ok (codeOk_in (L := L92_0) (tysOk_of tyl_ok) E92_ok mixed (c := loopOf f92 7) (bs := []) (by kernel_rfl) allNil (by kernel_rfl)) (by kernel_rfl) (by kernel_rfl) impl_factors_l7_eq (by rw [show firstId (loopOf f92 7) = 7 from by kernel_rfl]; exact h)
noncomputable def L92_1 : Nat → Option LoopD := fun n => ifEq n 7 (some ⟨60, sh92_7, xs92_7, impl_factors_l7⟩) (L92_0 n)
def sh92_4 : List Fm := [d, .cell (.val .str), .box 100200 [.val (.int .i64), .val (.sl (.int .i64)), .val (.sl (.int .i64)), .val (.sl (.pair (.int .i64) (.pair .str (.pair (.int .i64) (.int .i64)))))], d, d, .cell (.own (.int .i64) 100500 false), .cell (.val (.int .i64)), d, d, d, d, d, d, d, d, d, d, d, d, d, d, d, d, d, d, d, d, d, d, d, d, d, d, d, d, d, d, d, d, d, d, d, d, d, d, d, d, d, d, d, d, d, d, d, d, d, d, d, d, d]
def xs92_4 : List (Ex × List Fm) := [(.exit 0, [d, d, d, d, d, .cell (.own (.int .i64) 100500 false), d, d, d, d, d, d, d, d, d, d, d, d, d, d, d, d, d, d, d, d, d, d, d, d, d, d, d, d, d, d, d, d, d, d, d, d, d, d, d, d, d, d, d, d, d, d, d, d, d, d, d, d, d, d])]
noncomputable def impl_factors_l4 : (ByteArray × (Int × (List Int) × (List Int) × (List (Int × (ByteArray × (Int × Int)))) × Unit) × (List Int) × Int × Unit) → Option ((ByteArray × (Int × (List Int) × (List Int) × (List (Int × (ByteArray × (Int × Int)))) × Unit) × (List Int) × Int × Unit) ⊕ (((List Int) × Unit))) := fun (v1, (v2_0, v2_1, v2_2, v2_3, _), v5, v6, _) =>
  bif (decide (v6 ≥ (0 : Int))) then
    Option.bind (loopF impl_factors_l7 (v1, (v2_0, v2_1, v2_2, v2_3, ()), (List.take (List.length v5) (List.drop 0 v5)), v6, (IntKind.wrap .i64 (v6 + (1 : Int))), ())) fun (r0, (r1, r2, r3, r4, _), r5, r6, _) =>
      some (Sum.inl (r0, (r1, r2, r3, r4, ()), (List.take (List.length r5) (List.drop 0 r5)), (IntKind.wrap .i64 (r6 - (1 : Int))), ()))
  else
    some (Sum.inr ((List.take (List.length v5) (List.drop 0 v5)), ()))
theorem impl_factors_l4_eq : loopStep 60 E92 L92_1 (loopOf f92 4) sh92_4 xs92_4 = impl_factors_l4 := by kernel_rfl
theorem loop92_4 {L : Nat → Option LoopD} (h : L 4 = some ⟨60, sh92_4, xs92_4, impl_factors_l4⟩) : LoopOk prog L (loopOf f92 4) :=
  loopOk (tysOk_of tyl_ok) E92_ok (codeOk_in (L := L92_1) (tysOk_of tyl_ok) E92_ok mixed (c := loopOf f92 4) (bs := [loopOf f92 7]) (by kernel_rfl) (allCons (loop92_7 rfl) allNil) (by kernel_rfl)) (by kernel_rfl) (by kernel_rfl) impl_factors_l4_eq (by rw [show firstId (loopOf f92 4) = 4 from by kernel_rfl]; exact h)
noncomputable def L92_2 : Nat → Option LoopD := fun n => ifEq n 4 (some ⟨60, sh92_4, xs92_4, impl_factors_l4⟩) (L92_1 n)
noncomputable def impl_factors : (Int × ((List Int) × ((List Int) × (List (Int × (ByteArray × (Int × Int))))))) → ByteArray → Option ((List Int)) := fun (a0_0, a0_1, a0_2, a0_3) a1 =>
  Option.bind (slices_Repeat (List.take 1 (List.drop 0 [(1000000 : Int)])) (IntKind.wrap .i64 ((((ByteArray.size a1) : Nat) : Int) + (1 : Int)))) fun r0 =>
    if (((0 : Int) ≤ (((ByteArray.size a1) : Nat) : Int)) ∧ ((((ByteArray.size a1) : Nat) : Int) < (((List.length r0) : Nat) : Int))) then
      Option.bind (loopF impl_factors_l4 (a1, (a0_0, a0_1, a0_2, a0_3, ()), (List.take (List.length r0) (List.drop 0 (List.set r0 (0 + (Int.toNat (((ByteArray.size a1) : Nat) : Int))) (0 : Int)))), (IntKind.wrap .i64 ((((ByteArray.size a1) : Nat) : Int) - (1 : Int))), ())) fun (r1, _) =>
        some (List.take (List.length r1) (List.drop 0 r1))
    else
      none
noncomputable def A92 : FnA := ⟨[.v (.pair (.int .i64) (.pair (.sl (.int .i64)) (.pair (.sl (.int .i64)) (.sl (.pair (.int .i64) (.pair .str (.pair (.int .i64) (.int .i64)))))))), .v .str], true, [.sl (.int .i64)], fun x => impl_factors x.1 x.2.1⟩
theorem impl_factors_eq : fnF E92 L92_2 [.v (.pair (.int .i64) (.pair (.sl (.int .i64)) (.pair (.sl (.int .i64)) (.sl (.pair (.int .i64) (.pair .str (.pair (.int .i64) (.int .i64)))))))), .v .str] true [.sl (.int .i64)] f92.ntmps f92.results.toList (codeOf f92) = fun x => impl_factors x.1 x.2.1 := by kernel_rfl
theorem A92_ok : FnOk prog 92 A92 := by
  have h := fnOk_of_run (P := prog) (E := E92) (tysOk_of tyl_ok) E92_ok (L := L92_2) (ps := [.v (.pair (.int .i64) (.pair (.sl (.int .i64)) (.pair (.sl (.int .i64)) (.sl (.pair (.int .i64) (.pair .str (.pair (.int .i64) (.int .i64)))))))), .v .str]) (own := true) (outs := [.sl (.int .i64)]) func92 (c := codeOf f92) (by kernel_rfl) (codeOk_in (L := L92_2) (tysOk_of tyl_ok) E92_ok mixed (c := codeOf f92) (bs := [loopOf f92 4]) (by kernel_rfl) (allCons (loop92_4 rfl) allNil) (by kernel_rfl))
  rw [impl_factors_eq] at h
  exact h
/-! impl.FactorsOf -/
noncomputable def E43 : Env := ⟨ty0, fun g => ifEq g 60 (some A60) (ifEq g 95 (some A95) (ifEq g 92 (some A92) (none))), fun _ => none, fun _ => none, fun _ => none⟩
theorem E43_ok : FnsOk prog E43 := (oneFn A60_ok func60 (by kernel_rfl) (by kernel_rfl) (oneFn A95_ok func95 (by kernel_rfl) (by kernel_rfl) (oneFn A92_ok func92 (by kernel_rfl) (by kernel_rfl) (noFns _ _))))
noncomputable def L43_0 : Nat → Option LoopD := fun _ => none
noncomputable def impl_FactorsOf : (Int × ((List Int) × ((List Int) × (List (Int × (ByteArray × (Int × Int))))))) → ByteArray → Option (Int) := fun (a0_0, a0_1, a0_2, a0_3) a1 =>
  Option.bind (impl_AutomatonValid (a0_0, a0_1, a0_2, a0_3)) fun r0 =>
    bif (!r0) then
      some (-1 : Int)
    else
      Option.bind (impl_WordValid a1) fun r1 =>
        bif (!r1) then
          some (-1 : Int)
        else
          bif (decide ((((ByteArray.size a1) : Nat) : Int) > (40 : Int))) then
            some (-1 : Int)
          else
            Option.bind (impl_factors (a0_0, a0_1, a0_2, a0_3) a1) fun r2 =>
              if (((0 : Int) ≤ (0 : Int)) ∧ ((0 : Int) < (((List.length r2) : Nat) : Int))) then
                some (List.getD r2 (0 + (Int.toNat (0 : Int))) (0 : Int))
              else
                none
noncomputable def A43 : FnA := ⟨[.v (.pair (.int .i64) (.pair (.sl (.int .i64)) (.pair (.sl (.int .i64)) (.sl (.pair (.int .i64) (.pair .str (.pair (.int .i64) (.int .i64)))))))), .v .str], true, [.int .i64], fun x => impl_FactorsOf x.1 x.2.1⟩
theorem impl_FactorsOf_eq : fnF E43 L43_0 [.v (.pair (.int .i64) (.pair (.sl (.int .i64)) (.pair (.sl (.int .i64)) (.sl (.pair (.int .i64) (.pair .str (.pair (.int .i64) (.int .i64)))))))), .v .str] true [.int .i64] f43.ntmps f43.results.toList (codeOf f43) = fun x => impl_FactorsOf x.1 x.2.1 := by kernel_rfl
theorem A43_ok : FnOk prog 43 A43 := by
  have h := fnOk_of_run (P := prog) (E := E43) (tysOk_of tyl_ok) E43_ok (L := L43_0) (ps := [.v (.pair (.int .i64) (.pair (.sl (.int .i64)) (.pair (.sl (.int .i64)) (.sl (.pair (.int .i64) (.pair .str (.pair (.int .i64) (.int .i64)))))))), .v .str]) (own := true) (outs := [.int .i64]) func43 (c := codeOf f43) (by kernel_rfl) (codeOk_in (L := L43_0) (tysOk_of tyl_ok) E43_ok mixed (c := codeOf f43) (bs := []) (by kernel_rfl) allNil (by kernel_rfl))
  rw [impl_FactorsOf_eq] at h
  exact h
/-! impl.SplitOf -/
noncomputable def E35 : Env := ⟨ty0, fun g => ifEq g 43 (some A43) (ifEq g 92 (some A92) (ifEq g 41 (some A41) (none))), fun _ => none, fun _ => none, fun _ => none⟩
theorem E35_ok : FnsOk prog E35 := (oneFn A43_ok func43 (by kernel_rfl) (by kernel_rfl) (oneFn A92_ok func92 (by kernel_rfl) (by kernel_rfl) (oneFn A41_ok func41 (by kernel_rfl) (by kernel_rfl) (noFns _ _))))
noncomputable def L35_0 : Nat → Option LoopD := fun _ => none
def sh35_9 : List Fm := [d, .cell (.val .str), .box 100200 [.val (.int .i64), .val (.sl (.int .i64)), .val (.sl (.int .i64)), .val (.sl (.pair (.int .i64) (.pair .str (.pair (.int .i64) (.int .i64)))))], d, d, d, d, .cell (.own (.int .i64) 100700 false), .cell (.own .str 100800 false), .cell (.val (.int .i64)), .cell (.val (.int .i64)), d, d, d, d, d, d, d, d, d, d, d, d, d, d, d, d, d, d, d, d, d, d, d, d, d, d, d, d, d, d, d, d, d, d, d, d, d, d, d, d, d, d, d, d, d, d, d, d, d]
def xs35_9 : List (Ex × List Fm) := [(.exit 2, [d, .cell (.val .str), .box 100200 [.val (.int .i64), .val (.sl (.int .i64)), .val (.sl (.int .i64)), .val (.sl (.pair (.int .i64) (.pair .str (.pair (.int .i64) (.int .i64)))))], d, d, d, d, .cell (.own (.int .i64) 100700 false), .cell (.own .str 100800 false), .cell (.val (.int .i64)), .cell (.val (.int .i64)), d, d, d, d, d, d, d, d, d, d, d, d, d, d, d, d, d, d, d, d, d, d, d, d, d, d, d, d, d, d, d, d, d, d, d, d, d, d, d, d, d, d, d, d, d, d, d, d, d])]
noncomputable def impl_SplitOf_l9 : (ByteArray × (Int × (List Int) × (List Int) × (List (Int × (ByteArray × (Int × Int)))) × Unit) × (List Int) × (List ByteArray) × Int × Int × Unit) → Option ((ByteArray × (Int × (List Int) × (List Int) × (List (Int × (ByteArray × (Int × Int)))) × Unit) × (List Int) × (List ByteArray) × Int × Int × Unit) ⊕ ((ByteArray × (Int × (List Int) × (List Int) × (List (Int × (ByteArray × (Int × Int)))) × Unit) × (List Int) × (List ByteArray) × Int × Int × Unit))) := fun (v1, (v2_0, v2_1, v2_2, v2_3, _), v7, v8, v9, v10, _) =>
  if (((0 : Int) ≤ v10) ∧ (v10 < (((List.length v7) : Nat) : Int))) then
    if (((0 : Int) ≤ v9) ∧ (v9 < (((List.length v7) : Nat) : Int))) then
      bif ((List.getD v7 (0 + (Int.toNat v10)) (0 : Int)) != (IntKind.wrap .i64 ((List.getD v7 (0 + (Int.toNat v9)) (0 : Int)) - (1 : Int)))) then
        some (Sum.inl (v1, (v2_0, v2_1, v2_2, v2_3, ()), (List.take (List.length v7) (List.drop 0 v7)), (List.take (List.length v8) (List.drop 0 v8)), v9, (IntKind.wrap .i64 (v10 + (1 : Int))), ()))
      else
        if (((0 : Int) ≤ v9) ∧ ((v9 ≤ v10) ∧ (v10 ≤ (((ByteArray.size v1) : Nat) : Int)))) then
          Option.bind (impl_CostOf (v2_0, v2_1, v2_2, v2_3) (ByteArray.extract v1 (Int.toNat v9) (Int.toNat v10))) fun r0 =>
            bif (r0 == (1000000 : Int)) then
              some (Sum.inl (v1, (v2_0, v2_1, v2_2, v2_3, ()), (List.take (List.length v7) (List.drop 0 v7)), (List.take (List.length v8) (List.drop 0 v8)), v9, (IntKind.wrap .i64 (v10 + (1 : Int))), ()))
            else
              some (Sum.inr (v1, (v2_0, v2_1, v2_2, v2_3, ()), (List.take (List.length v7) (List.drop 0 v7)), (List.take (List.length v8) (List.drop 0 v8)), v9, v10, ()))
        else
          none
    else
      none
  else
    none
theorem impl_SplitOf_l9_eq : loopStep 60 E35 L35_0 (loopOf f35 9) sh35_9 xs35_9 = impl_SplitOf_l9 := by kernel_rfl
theorem loop35_9 {L : Nat → Option LoopD} (h : L 9 = some ⟨60, sh35_9, xs35_9, impl_SplitOf_l9⟩) : LoopOk prog L (loopOf f35 9) :=
  loopOk (tysOk_of tyl_ok) E35_ok (codeOk_in (L := L35_0) (tysOk_of tyl_ok) E35_ok mixed (c := loopOf f35 9) (bs := []) (by kernel_rfl) allNil (by kernel_rfl)) (by kernel_rfl) (by kernel_rfl) impl_SplitOf_l9_eq (by rw [show firstId (loopOf f35 9) = 9 from by kernel_rfl]; exact h)
noncomputable def L35_1 : Nat → Option LoopD := fun n => ifEq n 9 (some ⟨60, sh35_9, xs35_9, impl_SplitOf_l9⟩) (L35_0 n)
def sh35_7 : List Fm := [d, .cell (.val .str), .box 100200 [.val (.int .i64), .val (.sl (.int .i64)), .val (.sl (.int .i64)), .val (.sl (.pair (.int .i64) (.pair .str (.pair (.int .i64) (.int .i64)))))], d, d, d, d, .cell (.own (.int .i64) 100700 false), .cell (.own .str 100800 false), .cell (.val (.int .i64)), d, d, d, d, d, d, d, d, d, d, d, d, d, d, d, d, d, d, d, d, d, d, d, d, d, d, d, d, d, d, d, d, d, d, d, d, d, d, d, d, d, d, d, d, d, d, d, d, d, d]
def xs35_7 : List (Ex × List Fm) := [(.exit 0, [d, d, d, d, d, d, d, d, .cell (.own .str 100800 false), d, d, d, d, d, d, d, d, d, d, d, d, d, d, d, d, d, d, d, d, d, d, d, d, d, d, d, d, d, d, d, d, d, d, d, d, d, d, d, d, d, d, d, d, d, d, d, d, d, d, d])]
noncomputable def impl_SplitOf_l7 : (ByteArray × (Int × (List Int) × (List Int) × (List (Int × (ByteArray × (Int × Int)))) × Unit) × (List Int) × (List ByteArray) × Int × Unit) → Option ((ByteArray × (Int × (List Int) × (List Int) × (List (Int × (ByteArray × (Int × Int)))) × Unit) × (List Int) × (List ByteArray) × Int × Unit) ⊕ (((List ByteArray) × Unit))) := fun (v1, (v2_0, v2_1, v2_2, v2_3, _), v7, v8, v9, _) =>
  bif (decide (v9 < (((ByteArray.size v1) : Nat) : Int))) then
    Option.bind (loopF impl_SplitOf_l9 (v1, (v2_0, v2_1, v2_2, v2_3, ()), (List.take (List.length v7) (List.drop 0 v7)), (List.take (List.length v8) (List.drop 0 v8)), v9, (IntKind.wrap .i64 (v9 + (1 : Int))), ())) fun (r0, (r1, r2, r3, r4, _), r5, r6, r7, r8, _) =>
      if (((0 : Int) ≤ r7) ∧ ((r7 ≤ r8) ∧ (r8 ≤ (((ByteArray.size r0) : Nat) : Int)))) then
        if (((0 + (List.length r6)) = (List.length r6)) ∧ ((((List.length r6) + (List.length (List.take 1 (List.drop 0 [(ByteArray.extract r0 (Int.toNat r7) (Int.toNat r8))])))) * 16) ≤ 140737488355328)) then
          some (Sum.inl (r0, (r1, r2, r3, r4, ()), (List.take (List.length r5) (List.drop 0 r5)), (List.take ((List.length r6) + (List.length (List.take 1 (List.drop 0 [(ByteArray.extract r0 (Int.toNat r7) (Int.toNat r8))])))) (List.drop 0 ((List.drop 0 r6) ++ (List.take 1 (List.drop 0 [(ByteArray.extract r0 (Int.toNat r7) (Int.toNat r8))]))))), r8, ()))
        else
          none
      else
        none
  else
    some (Sum.inr ((List.take (List.length v8) (List.drop 0 v8)), ()))
theorem impl_SplitOf_l7_eq : loopStep 60 E35 L35_1 (loopOf f35 7) sh35_7 xs35_7 = impl_SplitOf_l7 := by kernel_rfl
theorem loop35_7 {L : Nat → Option LoopD} (h : L 7 = some ⟨60, sh35_7, xs35_7, impl_SplitOf_l7⟩) : LoopOk prog L (loopOf f35 7) :=
  loopOk (tysOk_of tyl_ok) E35_ok (codeOk_in (L := L35_1) (tysOk_of tyl_ok) E35_ok mixed (c := loopOf f35 7) (bs := [loopOf f35 9]) (by kernel_rfl) (allCons (loop35_9 rfl) allNil) (by kernel_rfl)) (by kernel_rfl) (by kernel_rfl) impl_SplitOf_l7_eq (by rw [show firstId (loopOf f35 7) = 7 from by kernel_rfl]; exact h)
noncomputable def L35_2 : Nat → Option LoopD := fun n => ifEq n 7 (some ⟨60, sh35_7, xs35_7, impl_SplitOf_l7⟩) (L35_1 n)
noncomputable def impl_SplitOf : (Int × ((List Int) × ((List Int) × (List (Int × (ByteArray × (Int × Int))))))) → ByteArray → Option ((List ByteArray) × Bool) := fun (a0_0, a0_1, a0_2, a0_3) a1 =>
  Option.bind (impl_FactorsOf (a0_0, a0_1, a0_2, a0_3) a1) fun r0 =>
    bif (decide (r0 < (0 : Int))) then
      some ([], false)
    else
      bif (r0 == (1000000 : Int)) then
        some ([], false)
      else
        Option.bind (impl_factors (a0_0, a0_1, a0_2, a0_3) a1) fun r1 =>
          Option.bind (loopF impl_SplitOf_l7 (a1, (a0_0, a0_1, a0_2, a0_3, ()), (List.take (List.length r1) (List.drop 0 r1)), (List.take 0 (List.drop 0 [])), (0 : Int), ())) fun (r2, _) =>
            some ((List.take (List.length r2) (List.drop 0 r2)), true)
noncomputable def A35 : FnA := ⟨[.v (.pair (.int .i64) (.pair (.sl (.int .i64)) (.pair (.sl (.int .i64)) (.sl (.pair (.int .i64) (.pair .str (.pair (.int .i64) (.int .i64)))))))), .v .str], true, [.sl .str, .bool], fun x => impl_SplitOf x.1 x.2.1⟩
theorem impl_SplitOf_eq : fnF E35 L35_2 [.v (.pair (.int .i64) (.pair (.sl (.int .i64)) (.pair (.sl (.int .i64)) (.sl (.pair (.int .i64) (.pair .str (.pair (.int .i64) (.int .i64)))))))), .v .str] true [.sl .str, .bool] f35.ntmps f35.results.toList (codeOf f35) = fun x => impl_SplitOf x.1 x.2.1 := by kernel_rfl
theorem A35_ok : FnOk prog 35 A35 := by
  have h := fnOk_of_run (P := prog) (E := E35) (tysOk_of tyl_ok) E35_ok (L := L35_2) (ps := [.v (.pair (.int .i64) (.pair (.sl (.int .i64)) (.pair (.sl (.int .i64)) (.sl (.pair (.int .i64) (.pair .str (.pair (.int .i64) (.int .i64)))))))), .v .str]) (own := true) (outs := [.sl .str, .bool]) func35 (c := codeOf f35) (by kernel_rfl) (codeOk_in (L := L35_2) (tysOk_of tyl_ok) E35_ok mixed (c := codeOf f35) (bs := [loopOf f35 7]) (by kernel_rfl) (allCons (loop35_7 rfl) allNil) (by kernel_rfl))
  rw [impl_SplitOf_eq] at h
  exact h
/-! spec.WordValid -/
noncomputable def E135 : Env := ⟨ty0, fun _ => none, fun _ => none, fun _ => none, fun _ => none⟩
theorem E135_ok : FnsOk prog E135 := (noFns _ _)
noncomputable def L135_0 : Nat → Option LoopD := fun _ => none
def sh135_2 : List Fm := [.cell (.val .str), d, d, d, d, .cell (.val (.int .i64)), .cell (.val (.int .i64)), d, d, d, d, d, d, d, d, d, d, d, d, d, d, d, d]
def xs135_2 : List (Ex × List Fm) := [(.ret, [d, d, .cell (.val .bool), d, d, d, d, d, d, d, d, d, d, d, d, d, d, d, d, d, d, d, d]), (.exit 0, [.cell (.val .str), d, d, d, d, d, d, d, d, d, d, d, d, d, d, d, d, d, d, d, d, d, d])]
noncomputable def spec_WordValid_l2 : (ByteArray × Int × Int × Unit) → Option ((ByteArray × Int × Int × Unit) ⊕ ((Bool × Unit) ⊕ (ByteArray × Unit))) := fun (v0, v5, v6, _) =>
  bif (decide (v6 < v5)) then
    if (((0 : Int) ≤ v6) ∧ (v6 < (((ByteArray.size v0) : Nat) : Int))) then
      bif ((((UInt8.toNat (Array.getD (ByteArray.data v0) (Int.toNat v6) (0 : UInt8))) : Nat) : Int) != (97 : Int)) then
        if (((0 : Int) ≤ v6) ∧ (v6 < (((ByteArray.size v0) : Nat) : Int))) then
          bif ((((UInt8.toNat (Array.getD (ByteArray.data v0) (Int.toNat v6) (0 : UInt8))) : Nat) : Int) != (98 : Int)) then
            some (Sum.inr (Sum.inl (false, ())))
          else
            some (Sum.inl (v0, v5, (IntKind.wrap .i64 (v6 + (1 : Int))), ()))
        else
          none
      else
        some (Sum.inl (v0, v5, (IntKind.wrap .i64 (v6 + (1 : Int))), ()))
    else
      none
  else
    some (Sum.inr (Sum.inr (v0, ())))
theorem spec_WordValid_l2_eq : loopStep 23 E135 L135_0 (loopOf f135 2) sh135_2 xs135_2 = spec_WordValid_l2 := by kernel_rfl
theorem loop135_2 {L : Nat → Option LoopD} (h : L 2 = some ⟨23, sh135_2, xs135_2, spec_WordValid_l2⟩) : LoopOk prog L (loopOf f135 2) :=
  loopOk (tysOk_of tyl_ok) E135_ok (codeOk_in (L := L135_0) (tysOk_of tyl_ok) E135_ok mixed (c := loopOf f135 2) (bs := []) (by kernel_rfl) allNil (by kernel_rfl)) (by kernel_rfl) (by kernel_rfl) spec_WordValid_l2_eq (by rw [show firstId (loopOf f135 2) = 2 from by kernel_rfl]; exact h)
noncomputable def L135_1 : Nat → Option LoopD := fun n => ifEq n 2 (some ⟨23, sh135_2, xs135_2, spec_WordValid_l2⟩) (L135_0 n)
noncomputable def spec_WordValid : ByteArray → Option (Bool) := fun a0 =>
  Option.bind (loopF spec_WordValid_l2 (a0, (((ByteArray.size a0) : Nat) : Int), (0 : Int), ())) fun r0 =>
    (match r0 with
    | .inl (d1, _) =>
        some d1
    | .inr (d2, _) =>
        some (decide ((((ByteArray.size d2) : Nat) : Int) ≤ (1000 : Int))))
noncomputable def A135 : FnA := ⟨[.v .str], true, [.bool], fun x => spec_WordValid x.1⟩
theorem spec_WordValid_eq : fnF E135 L135_1 [.v .str] true [.bool] f135.ntmps f135.results.toList (codeOf f135) = fun x => spec_WordValid x.1 := by kernel_rfl
theorem A135_ok : FnOk prog 135 A135 := by
  have h := fnOk_of_run (P := prog) (E := E135) (tysOk_of tyl_ok) E135_ok (L := L135_1) (ps := [.v .str]) (own := true) (outs := [.bool]) func135 (c := codeOf f135) (by kernel_rfl) (codeOk_in (L := L135_1) (tysOk_of tyl_ok) E135_ok mixed (c := codeOf f135) (bs := [loopOf f135 2]) (by kernel_rfl) (allCons (loop135_2 rfl) allNil) (by kernel_rfl))
  rw [spec_WordValid_eq] at h
  exact h
/-! spec.l4Asked -/
noncomputable def E90 : Env := ⟨ty0, fun g => ifEq g 78 (some A78) (ifEq g 135 (some A135) (none)), fun _ => none, fun _ => none, fun _ => none⟩
theorem E90_ok : FnsOk prog E90 := (oneFn A78_ok func78 (by kernel_rfl) (by kernel_rfl) (oneFn A135_ok func135 (by kernel_rfl) (by kernel_rfl) (noFns _ _)))
noncomputable def L90_0 : Nat → Option LoopD := fun _ => none
noncomputable def spec_l4Asked : (Int × ((List Int) × ((List Int) × (List (Int × (ByteArray × (Int × Int))))))) → ByteArray → Option (Bool) := fun (a0_0, a0_1, a0_2, a0_3) a1 =>
  Option.bind (spec_AutomatonValid (a0_0, a0_1, a0_2, a0_3)) fun r0 =>
    bif r0 then
      Option.bind (spec_WordValid a1) fun r1 =>
        some r1
    else
      some false
noncomputable def A90 : FnA := ⟨[.v (.pair (.int .i64) (.pair (.sl (.int .i64)) (.pair (.sl (.int .i64)) (.sl (.pair (.int .i64) (.pair .str (.pair (.int .i64) (.int .i64)))))))), .v .str], true, [.bool], fun x => spec_l4Asked x.1 x.2.1⟩
theorem spec_l4Asked_eq : fnF E90 L90_0 [.v (.pair (.int .i64) (.pair (.sl (.int .i64)) (.pair (.sl (.int .i64)) (.sl (.pair (.int .i64) (.pair .str (.pair (.int .i64) (.int .i64)))))))), .v .str] true [.bool] f90.ntmps f90.results.toList (codeOf f90) = fun x => spec_l4Asked x.1 x.2.1 := by kernel_rfl
theorem A90_ok : FnOk prog 90 A90 := by
  have h := fnOk_of_run (P := prog) (E := E90) (tysOk_of tyl_ok) E90_ok (L := L90_0) (ps := [.v (.pair (.int .i64) (.pair (.sl (.int .i64)) (.pair (.sl (.int .i64)) (.sl (.pair (.int .i64) (.pair .str (.pair (.int .i64) (.int .i64)))))))), .v .str]) (own := true) (outs := [.bool]) func90 (c := codeOf f90) (by kernel_rfl) (codeOk_in (L := L90_0) (tysOk_of tyl_ok) E90_ok mixed (c := codeOf f90) (bs := []) (by kernel_rfl) allNil (by kernel_rfl))
  rw [spec_l4Asked_eq] at h
  exact h
/-! spec.l10Least -/
noncomputable def E91 : Env := ⟨ty0, fun g => ifEq g 81 (some A81) (ifEq g 136 (some A136) (none)), fun _ => none, fun _ => none, fun _ => none⟩
theorem E91_ok : FnsOk prog E91 := (oneFn A81_ok func81 (by kernel_rfl) (by kernel_rfl) (oneFn A136_ok func136 (by kernel_rfl) (by kernel_rfl) (noFns _ _)))
noncomputable def L91_0 : Nat → Option LoopD := fun _ => none
def sh91_7 : List Fm := [d, .cell (.val .str), .box 100200 [.val (.int .i64), .val (.sl (.int .i64)), .val (.sl (.int .i64)), .val (.sl (.pair (.int .i64) (.pair .str (.pair (.int .i64) (.int .i64)))))], d, d, .cell (.own (.int .i64) 100500 false), .cell (.val (.int .i64)), .cell (.val (.int .i64)), d, d, d, d, d, d, d, d, .cell (.val (.int .i64)), .cell (.val (.int .i64)), d, d, d, d, d, d, d, d, d, d, d, d, d, d, d, d, d, d, d, d, d, d]
def xs91_7 : List (Ex × List Fm) := [(.exit 2, [d, .cell (.val .str), .box 100200 [.val (.int .i64), .val (.sl (.int .i64)), .val (.sl (.int .i64)), .val (.sl (.pair (.int .i64) (.pair .str (.pair (.int .i64) (.int .i64)))))], d, d, .cell (.own (.int .i64) 100500 false), .cell (.val (.int .i64)), .cell (.val (.int .i64)), d, d, d, d, d, d, d, d, d, d, d, d, d, d, d, d, d, d, d, d, d, d, d, d, d, d, d, d, d, d, d, d])]
noncomputable def spec_l10Least_l7 : (ByteArray × (Int × (List Int) × (List Int) × (List (Int × (ByteArray × (Int × Int)))) × Unit) × (List Int) × Int × Int × Int × Int × Unit) → Option ((ByteArray × (Int × (List Int) × (List Int) × (List (Int × (ByteArray × (Int × Int)))) × Unit) × (List Int) × Int × Int × Int × Int × Unit) ⊕ ((ByteArray × (Int × (List Int) × (List Int) × (List (Int × (ByteArray × (Int × Int)))) × Unit) × (List Int) × Int × Int × Unit))) := fun (v1, (v2_0, v2_1, v2_2, v2_3, _), v5, v6, v7, v16, v17, _) =>
  bif (decide (v17 < v16)) then
    if (((0 : Int) ≤ v17) ∧ ((v17 ≤ v6) ∧ (v6 ≤ (((ByteArray.size v1) : Nat) : Int)))) then
      Option.bind (spec_l4Cost (v2_0, v2_1, v2_2, v2_3) (ByteArray.extract v1 (Int.toNat v17) (Int.toNat v6))) fun r0 =>
        bif (decide (r0 < (1000000 : Int))) then
          if (((0 : Int) ≤ v17) ∧ (v17 < (((List.length v5) : Nat) : Int))) then
            Option.bind (spec_l1Add (List.getD v5 (0 + (Int.toNat v17)) (0 : Int)) (1 : Int)) fun r1 =>
              some (Sum.inl (v1, (v2_0, v2_1, v2_2, v2_3, ()), (List.take (List.length v5) (List.drop 0 v5)), v6, (if (r1 < v7) then r1 else v7), v16, (IntKind.wrap .i64 (v17 + (1 : Int))), ()))
          else
            none
        else
          some (Sum.inl (v1, (v2_0, v2_1, v2_2, v2_3, ()), (List.take (List.length v5) (List.drop 0 v5)), v6, v7, v16, (IntKind.wrap .i64 (v17 + (1 : Int))), ()))
    else
      none
  else
    some (Sum.inr (v1, (v2_0, v2_1, v2_2, v2_3, ()), (List.take (List.length v5) (List.drop 0 v5)), v6, v7, ()))
theorem spec_l10Least_l7_eq : loopStep 40 E91 L91_0 (loopOf f91 7) sh91_7 xs91_7 = spec_l10Least_l7 := by kernel_rfl
theorem loop91_7 {L : Nat → Option LoopD} (h : L 7 = some ⟨40, sh91_7, xs91_7, spec_l10Least_l7⟩) : LoopOk prog L (loopOf f91 7) :=
  loopOk (tysOk_of tyl_ok) E91_ok (codeOk_in (L := L91_0) (tysOk_of tyl_ok) E91_ok mixed (c := loopOf f91 7) (bs := []) (by kernel_rfl) allNil (by kernel_rfl)) (by kernel_rfl) (by kernel_rfl) spec_l10Least_l7_eq (by rw [show firstId (loopOf f91 7) = 7 from by kernel_rfl]; exact h)
noncomputable def L91_1 : Nat → Option LoopD := fun n => ifEq n 7 (some ⟨40, sh91_7, xs91_7, spec_l10Least_l7⟩) (L91_0 n)
def sh91_3 : List Fm := [d, .cell (.val .str), .box 100200 [.val (.int .i64), .val (.sl (.int .i64)), .val (.sl (.int .i64)), .val (.sl (.pair (.int .i64) (.pair .str (.pair (.int .i64) (.int .i64)))))], d, d, .cell (.own (.int .i64) 100500 false), .cell (.val (.int .i64)), d, d, d, d, d, d, d, d, d, d, d, d, d, d, d, d, d, d, d, d, d, d, d, d, d, d, d, d, d, d, d, d, d]
def xs91_3 : List (Ex × List Fm) := [(.exit 0, [d, d, d, d, d, .cell (.own (.int .i64) 100500 false), d, d, d, d, d, d, d, d, d, d, d, d, d, d, d, d, d, d, d, d, d, d, d, d, d, d, d, d, d, d, d, d, d, d])]
noncomputable def spec_l10Least_l3 : (ByteArray × (Int × (List Int) × (List Int) × (List (Int × (ByteArray × (Int × Int)))) × Unit) × (List Int) × Int × Unit) → Option ((ByteArray × (Int × (List Int) × (List Int) × (List (Int × (ByteArray × (Int × Int)))) × Unit) × (List Int) × Int × Unit) ⊕ (((List Int) × Unit))) := fun (v1, (v2_0, v2_1, v2_2, v2_3, _), v5, v6, _) =>
  bif (decide (v6 ≤ (((ByteArray.size v1) : Nat) : Int))) then
    Option.bind (loopF spec_l10Least_l7 (v1, (v2_0, v2_1, v2_2, v2_3, ()), (List.take (List.length v5) (List.drop 0 v5)), v6, (1000000 : Int), v6, (0 : Int), ())) fun (r0, (r1, r2, r3, r4, _), r5, r6, r7, _) =>
      if (((0 + (List.length r5)) = (List.length r5)) ∧ ((((List.length r5) + (List.length (List.take 1 (List.drop 0 [r7])))) * 8) ≤ 140737488355328)) then
        some (Sum.inl (r0, (r1, r2, r3, r4, ()), (List.take ((List.length r5) + (List.length (List.take 1 (List.drop 0 [r7])))) (List.drop 0 ((List.drop 0 r5) ++ (List.take 1 (List.drop 0 [r7]))))), (IntKind.wrap .i64 (r6 + (1 : Int))), ()))
      else
        none
  else
    some (Sum.inr ((List.take (List.length v5) (List.drop 0 v5)), ()))
theorem spec_l10Least_l3_eq : loopStep 40 E91 L91_1 (loopOf f91 3) sh91_3 xs91_3 = spec_l10Least_l3 := by kernel_rfl
theorem loop91_3 {L : Nat → Option LoopD} (h : L 3 = some ⟨40, sh91_3, xs91_3, spec_l10Least_l3⟩) : LoopOk prog L (loopOf f91 3) :=
  loopOk (tysOk_of tyl_ok) E91_ok (codeOk_in (L := L91_1) (tysOk_of tyl_ok) E91_ok mixed (c := loopOf f91 3) (bs := [loopOf f91 7]) (by kernel_rfl) (allCons (loop91_7 rfl) allNil) (by kernel_rfl)) (by kernel_rfl) (by kernel_rfl) spec_l10Least_l3_eq (by rw [show firstId (loopOf f91 3) = 3 from by kernel_rfl]; exact h)
noncomputable def L91_2 : Nat → Option LoopD := fun n => ifEq n 3 (some ⟨40, sh91_3, xs91_3, spec_l10Least_l3⟩) (L91_1 n)
noncomputable def spec_l10Least : (Int × ((List Int) × ((List Int) × (List (Int × (ByteArray × (Int × Int))))))) → ByteArray → Option ((List Int)) := fun (a0_0, a0_1, a0_2, a0_3) a1 =>
  Option.bind (loopF spec_l10Least_l3 (a1, (a0_0, a0_1, a0_2, a0_3, ()), (List.take 1 (List.drop 0 [(0 : Int)])), (1 : Int), ())) fun (r0, _) =>
    some (List.take (List.length r0) (List.drop 0 r0))
noncomputable def A91 : FnA := ⟨[.v (.pair (.int .i64) (.pair (.sl (.int .i64)) (.pair (.sl (.int .i64)) (.sl (.pair (.int .i64) (.pair .str (.pair (.int .i64) (.int .i64)))))))), .v .str], true, [.sl (.int .i64)], fun x => spec_l10Least x.1 x.2.1⟩
theorem spec_l10Least_eq : fnF E91 L91_2 [.v (.pair (.int .i64) (.pair (.sl (.int .i64)) (.pair (.sl (.int .i64)) (.sl (.pair (.int .i64) (.pair .str (.pair (.int .i64) (.int .i64)))))))), .v .str] true [.sl (.int .i64)] f91.ntmps f91.results.toList (codeOf f91) = fun x => spec_l10Least x.1 x.2.1 := by kernel_rfl
theorem A91_ok : FnOk prog 91 A91 := by
  have h := fnOk_of_run (P := prog) (E := E91) (tysOk_of tyl_ok) E91_ok (L := L91_2) (ps := [.v (.pair (.int .i64) (.pair (.sl (.int .i64)) (.pair (.sl (.int .i64)) (.sl (.pair (.int .i64) (.pair .str (.pair (.int .i64) (.int .i64)))))))), .v .str]) (own := true) (outs := [.sl (.int .i64)]) func91 (c := codeOf f91) (by kernel_rfl) (codeOk_in (L := L91_2) (tysOk_of tyl_ok) E91_ok mixed (c := codeOf f91) (bs := [loopOf f91 3]) (by kernel_rfl) (allCons (loop91_3 rfl) allNil) (by kernel_rfl))
  rw [spec_l10Least_eq] at h
  exact h
/-! spec.SplitOf -/
noncomputable def E34 : Env := ⟨ty0, fun g => ifEq g 90 (some A90) (ifEq g 91 (some A91) (ifEq g 81 (some A81) (none))), fun _ => none, fun _ => none, fun _ => none⟩
theorem E34_ok : FnsOk prog E34 := (oneFn A90_ok func90 (by kernel_rfl) (by kernel_rfl) (oneFn A91_ok func91 (by kernel_rfl) (by kernel_rfl) (oneFn A81_ok func81 (by kernel_rfl) (by kernel_rfl) (noFns _ _))))
noncomputable def L34_0 : Nat → Option LoopD := fun _ => none
def sh34_10 : List Fm := [d, d, .box 100200 [.val (.int .i64), .val (.sl (.int .i64)), .val (.sl (.int .i64)), .val (.sl (.pair (.int .i64) (.pair .str (.pair (.int .i64) (.int .i64)))))], d, d, d, .cell (.own .str 100600 false), .cell (.val .str), .cell (.val (.int .i64)), .cell (.val (.int .i64)), d, d, d, d, d, d, d, d, d, d, d, d, d, d, d, d, d, d, d, d, d, d, d, d, d, d, d, d, d, d, d, d, d, d, d, d, d, d, d, d, d, d, d, d, d, d, d, d, d, d, d, d, d, d, d, d, d, d, d, d, d, d, d, d]
def xs34_10 : List (Ex × List Fm) := [(.exit 2, [d, d, .box 100200 [.val (.int .i64), .val (.sl (.int .i64)), .val (.sl (.int .i64)), .val (.sl (.pair (.int .i64) (.pair .str (.pair (.int .i64) (.int .i64)))))], d, d, d, .cell (.own .str 100600 false), .cell (.val .str), d, d, d, d, d, d, d, d, d, d, d, d, d, d, d, d, d, d, d, d, d, d, d, d, d, d, d, d, d, d, d, d, d, d, d, d, d, d, d, d, d, d, d, d, d, d, d, d, d, d, d, d, d, d, d, d, d, d, d, d, d, d, d, d, d, d])]
noncomputable def spec_SplitOf_l10 : ((Int × (List Int) × (List Int) × (List (Int × (ByteArray × (Int × Int)))) × Unit) × (List ByteArray) × ByteArray × Int × Int × Unit) → Option (((Int × (List Int) × (List Int) × (List (Int × (ByteArray × (Int × Int)))) × Unit) × (List ByteArray) × ByteArray × Int × Int × Unit) ⊕ (((Int × (List Int) × (List Int) × (List (Int × (ByteArray × (Int × Int)))) × Unit) × (List ByteArray) × ByteArray × Unit))) := fun ((v2_0, v2_1, v2_2, v2_3, _), v6, v7, v8, v9, _) =>
  bif (decide (v9 ≤ (((ByteArray.size v7) : Nat) : Int))) then
    if (((0 : Int) ≤ v9) ∧ (v9 ≤ (((ByteArray.size v7) : Nat) : Int))) then
      Option.bind (spec_l10Least (v2_0, v2_1, v2_2, v2_3) (ByteArray.extract v7 (Int.toNat v9) (ByteArray.size v7))) fun r0 =>
        if (((0 : Int) ≤ (IntKind.wrap .i64 ((((ByteArray.size v7) : Nat) : Int) - v9))) ∧ ((IntKind.wrap .i64 ((((ByteArray.size v7) : Nat) : Int) - v9)) < (((List.length r0) : Nat) : Int))) then
          if (((0 : Int) ≤ v9) ∧ (v9 ≤ (((ByteArray.size v7) : Nat) : Int))) then
            Option.bind (spec_l4Cost (v2_0, v2_1, v2_2, v2_3) (ByteArray.extract v7 0 (Int.toNat v9))) fun r1 =>
              bif (decide (r1 < (1000000 : Int))) then
                bif ((List.getD r0 (0 + (Int.toNat (IntKind.wrap .i64 ((((ByteArray.size v7) : Nat) : Int) - v9)))) (0 : Int)) == (IntKind.wrap .i64 (v8 - (1 : Int)))) then
                  if (((0 : Int) ≤ v9) ∧ (v9 ≤ (((ByteArray.size v7) : Nat) : Int))) then
                    if (((0 + (List.length v6)) = (List.length v6)) ∧ ((((List.length v6) + (List.length (List.take 1 (List.drop 0 [(ByteArray.extract v7 0 (Int.toNat v9))])))) * 16) ≤ 140737488355328)) then
                      if (((0 : Int) ≤ v9) ∧ (v9 ≤ (((ByteArray.size v7) : Nat) : Int))) then
                        some (Sum.inr ((v2_0, v2_1, v2_2, v2_3, ()), (List.take ((List.length v6) + (List.length (List.take 1 (List.drop 0 [(ByteArray.extract v7 0 (Int.toNat v9))])))) (List.drop 0 ((List.drop 0 v6) ++ (List.take 1 (List.drop 0 [(ByteArray.extract v7 0 (Int.toNat v9))]))))), (ByteArray.extract v7 (Int.toNat v9) (ByteArray.size v7)), ()))
                      else
                        none
                    else
                      none
                  else
                    none
                else
                  some (Sum.inl ((v2_0, v2_1, v2_2, v2_3, ()), (List.take (List.length v6) (List.drop 0 v6)), v7, v8, (IntKind.wrap .i64 (v9 + (1 : Int))), ()))
              else
                some (Sum.inl ((v2_0, v2_1, v2_2, v2_3, ()), (List.take (List.length v6) (List.drop 0 v6)), v7, v8, (IntKind.wrap .i64 (v9 + (1 : Int))), ()))
          else
            none
        else
          none
    else
      none
  else
    some (Sum.inr ((v2_0, v2_1, v2_2, v2_3, ()), (List.take (List.length v6) (List.drop 0 v6)), v7, ()))
theorem spec_SplitOf_l10_eq : loopStep 74 E34 L34_0 (loopOf f34 10) sh34_10 xs34_10 = spec_SplitOf_l10 := by kernel_rfl
theorem loop34_10 {L : Nat → Option LoopD} (h : L 10 = some ⟨74, sh34_10, xs34_10, spec_SplitOf_l10⟩) : LoopOk prog L (loopOf f34 10) :=
  loopOk (tysOk_of tyl_ok) E34_ok (codeOk_in (L := L34_0) (tysOk_of tyl_ok) E34_ok mixed (c := loopOf f34 10) (bs := []) (by kernel_rfl) allNil (by kernel_rfl)) (by kernel_rfl) (by kernel_rfl) spec_SplitOf_l10_eq (by rw [show firstId (loopOf f34 10) = 10 from by kernel_rfl]; exact h)
noncomputable def L34_1 : Nat → Option LoopD := fun n => ifEq n 10 (some ⟨74, sh34_10, xs34_10, spec_SplitOf_l10⟩) (L34_0 n)
def sh34_5 : List Fm := [d, d, .box 100200 [.val (.int .i64), .val (.sl (.int .i64)), .val (.sl (.int .i64)), .val (.sl (.pair (.int .i64) (.pair .str (.pair (.int .i64) (.int .i64)))))], d, d, d, .cell (.own .str 100600 false), .cell (.val .str), d, d, d, d, d, d, d, d, d, d, d, d, d, d, d, d, d, d, d, d, d, d, d, d, d, d, d, d, d, d, d, d, d, d, d, d, d, d, d, d, d, d, d, d, d, d, d, d, d, d, d, d, d, d, d, d, d, d, d, d, d, d, d, d, d, d]
def xs34_5 : List (Ex × List Fm) := [(.ret, [d, d, d, d, .cell (.own .str 100400 false), .cell (.val .bool), d, d, d, d, d, d, d, d, d, d, d, d, d, d, d, d, d, d, d, d, d, d, d, d, d, d, d, d, d, d, d, d, d, d, d, d, d, d, d, d, d, d, d, d, d, d, d, d, d, d, d, d, d, d, d, d, d, d, d, d, d, d, d, d, d, d, d, d]), (.exit 0, [d, d, d, d, d, d, .cell (.own .str 100600 false), d, d, d, d, d, d, d, d, d, d, d, d, d, d, d, d, d, d, d, d, d, d, d, d, d, d, d, d, d, d, d, d, d, d, d, d, d, d, d, d, d, d, d, d, d, d, d, d, d, d, d, d, d, d, d, d, d, d, d, d, d, d, d, d, d, d, d])]
noncomputable def spec_SplitOf_l5 : ((Int × (List Int) × (List Int) × (List (Int × (ByteArray × (Int × Int)))) × Unit) × (List ByteArray) × ByteArray × Unit) → Option (((Int × (List Int) × (List Int) × (List (Int × (ByteArray × (Int × Int)))) × Unit) × (List ByteArray) × ByteArray × Unit) ⊕ (((List ByteArray) × Bool × Unit) ⊕ ((List ByteArray) × Unit))) := fun ((v2_0, v2_1, v2_2, v2_3, _), v6, v7, _) =>
  bif (!((ByteArray.toList v7) == (ByteArray.toList (⟨#[]⟩ : ByteArray)))) then
    Option.bind (spec_l10Least (v2_0, v2_1, v2_2, v2_3) v7) fun r0 =>
      if (((0 : Int) ≤ (((ByteArray.size v7) : Nat) : Int)) ∧ ((((ByteArray.size v7) : Nat) : Int) < (((List.length r0) : Nat) : Int))) then
        bif ((List.getD r0 (0 + (Int.toNat (((ByteArray.size v7) : Nat) : Int))) (0 : Int)) == (1000000 : Int)) then
          some (Sum.inr (Sum.inl ((List.take 0 (List.drop 0 [])), false, ())))
        else
          Option.bind (loopF spec_SplitOf_l10 ((v2_0, v2_1, v2_2, v2_3, ()), (List.take (List.length v6) (List.drop 0 v6)), v7, (List.getD r0 (0 + (Int.toNat (((ByteArray.size v7) : Nat) : Int))) (0 : Int)), (1 : Int), ())) fun ((r1, r2, r3, r4, _), r5, r6, _) =>
            some (Sum.inl ((r1, r2, r3, r4, ()), (List.take (List.length r5) (List.drop 0 r5)), r6, ()))
      else
        none
  else
    some (Sum.inr (Sum.inr ((List.take (List.length v6) (List.drop 0 v6)), ())))
theorem spec_SplitOf_l5_eq : loopStep 74 E34 L34_1 (loopOf f34 5) sh34_5 xs34_5 = spec_SplitOf_l5 := by kernel_rfl
theorem loop34_5 {L : Nat → Option LoopD} (h : L 5 = some ⟨74, sh34_5, xs34_5, spec_SplitOf_l5⟩) : LoopOk prog L (loopOf f34 5) :=
  loopOk (tysOk_of tyl_ok) E34_ok (codeOk_in (L := L34_1) (tysOk_of tyl_ok) E34_ok mixed (c := loopOf f34 5) (bs := [loopOf f34 10]) (by kernel_rfl) (allCons (loop34_10 rfl) allNil) (by kernel_rfl)) (by kernel_rfl) (by kernel_rfl) spec_SplitOf_l5_eq (by rw [show firstId (loopOf f34 5) = 5 from by kernel_rfl]; exact h)
noncomputable def L34_2 : Nat → Option LoopD := fun n => ifEq n 5 (some ⟨74, sh34_5, xs34_5, spec_SplitOf_l5⟩) (L34_1 n)
noncomputable def spec_SplitOf : (Int × ((List Int) × ((List Int) × (List (Int × (ByteArray × (Int × Int))))))) → ByteArray → Option ((List ByteArray) × Bool) := fun (a0_0, a0_1, a0_2, a0_3) a1 =>
  Option.bind (spec_l4Asked (a0_0, a0_1, a0_2, a0_3) a1) fun r0 =>
    bif (!r0) then
      some ((List.take 0 (List.drop 0 [])), false)
    else
      bif (decide ((((ByteArray.size a1) : Nat) : Int) > (40 : Int))) then
        some ((List.take 0 (List.drop 0 [])), false)
      else
        Option.bind (loopF spec_SplitOf_l5 ((a0_0, a0_1, a0_2, a0_3, ()), (List.take 0 (List.drop 0 [])), a1, ())) fun r1 =>
          (match r1 with
          | .inl (d2, d3, _) =>
              some ((List.take (List.length d2) (List.drop 0 d2)), d3)
          | .inr (d4, _) =>
              some ((List.take (List.length d4) (List.drop 0 d4)), true))
noncomputable def A34 : FnA := ⟨[.v (.pair (.int .i64) (.pair (.sl (.int .i64)) (.pair (.sl (.int .i64)) (.sl (.pair (.int .i64) (.pair .str (.pair (.int .i64) (.int .i64)))))))), .v .str], true, [.sl .str, .bool], fun x => spec_SplitOf x.1 x.2.1⟩
theorem spec_SplitOf_eq : fnF E34 L34_2 [.v (.pair (.int .i64) (.pair (.sl (.int .i64)) (.pair (.sl (.int .i64)) (.sl (.pair (.int .i64) (.pair .str (.pair (.int .i64) (.int .i64)))))))), .v .str] true [.sl .str, .bool] f34.ntmps f34.results.toList (codeOf f34) = fun x => spec_SplitOf x.1 x.2.1 := by kernel_rfl
theorem A34_ok : FnOk prog 34 A34 := by
  have h := fnOk_of_run (P := prog) (E := E34) (tysOk_of tyl_ok) E34_ok (L := L34_2) (ps := [.v (.pair (.int .i64) (.pair (.sl (.int .i64)) (.pair (.sl (.int .i64)) (.sl (.pair (.int .i64) (.pair .str (.pair (.int .i64) (.int .i64)))))))), .v .str]) (own := true) (outs := [.sl .str, .bool]) func34 (c := codeOf f34) (by kernel_rfl) (codeOk_in (L := L34_2) (tysOk_of tyl_ok) E34_ok mixed (c := codeOf f34) (bs := [loopOf f34 5]) (by kernel_rfl) (allCons (loop34_5 rfl) allNil) (by kernel_rfl))
  rw [spec_SplitOf_eq] at h
  exact h
/-! spec.FactorsOf -/
noncomputable def E44 : Env := ⟨ty0, fun g => ifEq g 34 (some A34) (ifEq g 90 (some A90) (none)), fun _ => none, fun _ => none, fun _ => none⟩
theorem E44_ok : FnsOk prog E44 := (oneFn A34_ok func34 (by kernel_rfl) (by kernel_rfl) (oneFn A90_ok func90 (by kernel_rfl) (by kernel_rfl) (noFns _ _)))
noncomputable def L44_0 : Nat → Option LoopD := fun _ => none
noncomputable def spec_FactorsOf : (Int × ((List Int) × ((List Int) × (List (Int × (ByteArray × (Int × Int))))))) → ByteArray → Option (Int) := fun (a0_0, a0_1, a0_2, a0_3) a1 =>
  Option.bind (spec_SplitOf (a0_0, a0_1, a0_2, a0_3) a1) fun (r0, r1) =>
    Option.bind (spec_l4Asked (a0_0, a0_1, a0_2, a0_3) a1) fun r2 =>
      bif (!r2) then
        some (-1 : Int)
      else
        bif (decide ((((ByteArray.size a1) : Nat) : Int) > (40 : Int))) then
          some (-1 : Int)
        else
          bif (!r1) then
            some (1000000 : Int)
          else
            some (((List.length r0) : Nat) : Int)
noncomputable def A44 : FnA := ⟨[.v (.pair (.int .i64) (.pair (.sl (.int .i64)) (.pair (.sl (.int .i64)) (.sl (.pair (.int .i64) (.pair .str (.pair (.int .i64) (.int .i64)))))))), .v .str], true, [.int .i64], fun x => spec_FactorsOf x.1 x.2.1⟩
theorem spec_FactorsOf_eq : fnF E44 L44_0 [.v (.pair (.int .i64) (.pair (.sl (.int .i64)) (.pair (.sl (.int .i64)) (.sl (.pair (.int .i64) (.pair .str (.pair (.int .i64) (.int .i64)))))))), .v .str] true [.int .i64] f44.ntmps f44.results.toList (codeOf f44) = fun x => spec_FactorsOf x.1 x.2.1 := by kernel_rfl
theorem A44_ok : FnOk prog 44 A44 := by
  have h := fnOk_of_run (P := prog) (E := E44) (tysOk_of tyl_ok) E44_ok (L := L44_0) (ps := [.v (.pair (.int .i64) (.pair (.sl (.int .i64)) (.pair (.sl (.int .i64)) (.sl (.pair (.int .i64) (.pair .str (.pair (.int .i64) (.int .i64)))))))), .v .str]) (own := true) (outs := [.int .i64]) func44 (c := codeOf f44) (by kernel_rfl) (codeOk_in (L := L44_0) (tysOk_of tyl_ok) E44_ok mixed (c := codeOf f44) (bs := []) (by kernel_rfl) allNil (by kernel_rfl))
  rw [spec_FactorsOf_eq] at h
  exact h
/-! laws.FnSplitOf -/
noncomputable def E8 : Env := ⟨ty0, fun g => ifEq g 42 (some A42) (ifEq g 35 (some A35) (ifEq g 34 (some A34) (ifEq g 43 (some A43) (ifEq g 44 (some A44) (ifEq g 41 (some A41) (none)))))), fun _ => none, fun _ => none, fun _ => none⟩
theorem E8_ok : FnsOk prog E8 := (oneFn A42_ok func42 (by kernel_rfl) (by kernel_rfl) (oneFn A35_ok func35 (by kernel_rfl) (by kernel_rfl) (oneFn A34_ok func34 (by kernel_rfl) (by kernel_rfl) (oneFn A43_ok func43 (by kernel_rfl) (by kernel_rfl) (oneFn A44_ok func44 (by kernel_rfl) (by kernel_rfl) (oneFn A41_ok func41 (by kernel_rfl) (by kernel_rfl) (noFns _ _)))))))
noncomputable def L8_0 : Nat → Option LoopD := fun _ => none
def sh8_11 : List Fm := [d, d, d, .box 100300 [.val (.int .i64), .val (.sl (.int .i64)), .val (.sl (.int .i64)), .val (.sl (.pair (.int .i64) (.pair .str (.pair (.int .i64) (.int .i64)))))], .cell (.val .str), .cell (.val (.sl .str)), d, .cell (.own .str 100700 false), d, .cell (.val (.int .i64)), .cell (.val .str), d, d, d, d, d, d, d, d, d, d, d, d, d, d, d, d, d, d, d, d, d, d, d, d, d, d, d, d, d, d, d, d, d, d, d, d, d, d, d, d, d, d, d, d, d, d, d, d, d, d, d, d, d, d, d, d, d, d, d, d, d, d, d, d, d, d, d, d, d, d, d, .cell (.val (.sl .str)), .cell (.val (.int .i64)), .cell (.val (.int .i64)), d, d, d, d, d, d, d, d, d, d, d, d, d, d, d, d, d, d, d, d, d, d, d, d, d, d, d, d, d, d, d, d, d, d, d, d, d, d, d, d, d, d, d, d, d, d, d]
def xs8_11 : List (Ex × List Fm) := [(.ret, [d, d, .cell (.val .bool), d, d, d, d, d, d, d, d, d, d, d, d, d, d, d, d, d, d, d, d, d, d, d, d, d, d, d, d, d, d, d, d, d, d, d, d, d, d, d, d, d, d, d, d, d, d, d, d, d, d, d, d, d, d, d, d, d, d, d, d, d, d, d, d, d, d, d, d, d, d, d, d, d, d, d, d, d, d, d, d, d, d, d, d, d, d, d, d, d, d, d, d, d, d, d, d, d, d, d, d, d, d, d, d, d, d, d, d, d, d, d, d, d, d, d, d, d, d, d, d, d, d, d, d, d, d, d, d, d]), (.exit 0, [d, d, d, .box 100300 [.val (.int .i64), .val (.sl (.int .i64)), .val (.sl (.int .i64)), .val (.sl (.pair (.int .i64) (.pair .str (.pair (.int .i64) (.int .i64)))))], .cell (.val .str), .cell (.val (.sl .str)), d, d, d, .cell (.val (.int .i64)), .cell (.val .str), d, d, d, d, d, d, d, d, d, d, d, d, d, d, d, d, d, d, d, d, d, d, d, d, d, d, d, d, d, d, d, d, d, d, d, d, d, d, d, d, d, d, d, d, d, d, d, d, d, d, d, d, d, d, d, d, d, d, d, d, d, d, d, d, d, d, d, d, d, d, d, d, d, d, d, d, d, d, d, d, d, d, d, d, d, d, d, d, d, d, d, d, d, d, d, d, d, d, d, d, d, d, d, d, d, d, d, d, d, d, d, d, d, d, d, d, d, d, d, d, d])]
noncomputable def laws_FnSplitOf_l11 : ((Int × (List Int) × (List Int) × (List (Int × (ByteArray × (Int × Int)))) × Unit) × ByteArray × (List ByteArray) × (List ByteArray) × Int × ByteArray × (List ByteArray) × Int × Int × Unit) → Option (((Int × (List Int) × (List Int) × (List (Int × (ByteArray × (Int × Int)))) × Unit) × ByteArray × (List ByteArray) × (List ByteArray) × Int × ByteArray × (List ByteArray) × Int × Int × Unit) ⊕ ((Bool × Unit) ⊕ ((Int × (List Int) × (List Int) × (List (Int × (ByteArray × (Int × Int)))) × Unit) × ByteArray × (List ByteArray) × Int × ByteArray × Unit))) := fun ((v3_0, v3_1, v3_2, v3_3, _), v4, v5, v7, v9, v10, v82, v83, v84, _) =>
  bif (decide (v84 < v83)) then
    if (((0 : Int) ≤ v84) ∧ (v84 < (((List.length v82) : Nat) : Int))) then
      if (((0 : Int) ≤ v84) ∧ (v84 < (((List.length v7) : Nat) : Int))) then
        bif (!((ByteArray.toList (List.getD v82 (Int.toNat v84) (⟨Array.empty⟩ : ByteArray))) == (ByteArray.toList (List.getD v7 (0 + (Int.toNat v84)) (⟨Array.empty⟩ : ByteArray))))) then
          some (Sum.inr (Sum.inl (false, ())))
        else
          bif ((ByteArray.toList (List.getD v82 (Int.toNat v84) (⟨Array.empty⟩ : ByteArray))) == (ByteArray.toList (⟨#[]⟩ : ByteArray))) then
            some (Sum.inr (Sum.inl (false, ())))
          else
            Option.bind (impl_CostOf (v3_0, v3_1, v3_2, v3_3) (List.getD v82 (Int.toNat v84) (⟨Array.empty⟩ : ByteArray))) fun r0 =>
              bif (r0 == (1000000 : Int)) then
                some (Sum.inr (Sum.inl (false, ())))
              else
                if (((ByteArray.size v10) + (ByteArray.size (List.getD v82 (Int.toNat v84) (⟨Array.empty⟩ : ByteArray)))) ≤ 9223372036854775807) then
                  some (Sum.inl ((v3_0, v3_1, v3_2, v3_3, ()), v4, v5, (List.take (List.length v7) (List.drop 0 v7)), v9, (v10 ++ (List.getD v82 (Int.toNat v84) (⟨Array.empty⟩ : ByteArray))), v82, v83, (IntKind.wrap .i64 (v84 + (1 : Int))), ()))
                else
                  none
      else
        none
    else
      none
  else
    some (Sum.inr (Sum.inr ((v3_0, v3_1, v3_2, v3_3, ()), v4, v5, v9, v10, ())))
theorem laws_FnSplitOf_l11_eq : loopStep 132 E8 L8_0 (loopOf f8 11) sh8_11 xs8_11 = laws_FnSplitOf_l11 := by kernel_rfl
theorem loop8_11 {L : Nat → Option LoopD} (h : L 11 = some ⟨132, sh8_11, xs8_11, laws_FnSplitOf_l11⟩) : LoopOk prog L (loopOf f8 11) :=
  loopOk (tysOk_of tyl_ok) E8_ok (codeOk_in (L := L8_0) (tysOk_of tyl_ok) E8_ok mixed (c := loopOf f8 11) (bs := []) (by kernel_rfl) allNil (by kernel_rfl)) (by kernel_rfl) (by kernel_rfl) laws_FnSplitOf_l11_eq (by rw [show firstId (loopOf f8 11) = 11 from by kernel_rfl]; exact h)
noncomputable def L8_1 : Nat → Option LoopD := fun n => ifEq n 11 (some ⟨132, sh8_11, xs8_11, laws_FnSplitOf_l11⟩) (L8_0 n)
noncomputable def laws_FnSplitOf : (List Int) → Option (Bool) := fun a0 =>
  bif (decide ((((List.length a0) : Nat) : Int) > (1048576 : Int))) then
    some true
  else
    Option.bind (spec_DrawSplitOf a0) fun ((r0, r1, r2, r3), r4) =>
      Option.bind (impl_SplitOf (r0, r1, r2, r3) r4) fun (r5, r6) =>
        Option.bind (spec_SplitOf (r0, r1, r2, r3) r4) fun (r7, r8) =>
          Option.bind (impl_FactorsOf (r0, r1, r2, r3) r4) fun r9 =>
            bif ((((List.length r5) : Nat) : Int) != (((List.length r7) : Nat) : Int)) then
              bif ((((List.length r5) : Nat) : Int) == (((List.length r7) : Nat) : Int)) then
                bif (r6 == r8) then
                  Option.bind (spec_FactorsOf (r0, r1, r2, r3) r4) fun r10 =>
                    bif (r9 == r10) then
                      bif (r9 == (-1 : Int)) then
                        some true
                      else
                        some (r9 == (1000000 : Int))
                    else
                      some false
                else
                  some false
              else
                some false
            else
              bif (!(r6 == r8)) then
                bif ((((List.length r5) : Nat) : Int) == (((List.length r7) : Nat) : Int)) then
                  bif (r6 == r8) then
                    Option.bind (spec_FactorsOf (r0, r1, r2, r3) r4) fun r11 =>
                      bif (r9 == r11) then
                        bif (r9 == (-1 : Int)) then
                          some true
                        else
                          some (r9 == (1000000 : Int))
                      else
                        some false
                  else
                    some false
                else
                  some false
              else
                Option.bind (spec_FactorsOf (r0, r1, r2, r3) r4) fun r12 =>
                  bif (r9 != r12) then
                    bif ((((List.length r5) : Nat) : Int) == (((List.length r7) : Nat) : Int)) then
                      bif (r6 == r8) then
                        Option.bind (spec_FactorsOf (r0, r1, r2, r3) r4) fun r13 =>
                          bif (r9 == r13) then
                            bif (r9 == (-1 : Int)) then
                              some true
                            else
                              some (r9 == (1000000 : Int))
                          else
                            some false
                      else
                        some false
                    else
                      some false
                  else
                    bif (!r6) then
                      bif ((((List.length r5) : Nat) : Int) == (((List.length r7) : Nat) : Int)) then
                        bif (r6 == r8) then
                          Option.bind (spec_FactorsOf (r0, r1, r2, r3) r4) fun r14 =>
                            bif (r9 == r14) then
                              bif (r9 == (-1 : Int)) then
                                some true
                              else
                                some (r9 == (1000000 : Int))
                            else
                              some false
                        else
                          some false
                      else
                        some false
                    else
                      Option.bind (loopF laws_FnSplitOf_l11 ((r0, r1, r2, r3, ()), r4, (List.take (List.length r5) (List.drop 0 r5)), (List.take (List.length r7) (List.drop 0 r7)), r9, (⟨#[]⟩ : ByteArray), (List.take (List.length r5) (List.drop 0 r5)), (((List.length r5) : Nat) : Int), (0 : Int), ())) fun r15 =>
                        (match r15 with
                        | .inl (d16, _) =>
                            some d16
                        | .inr ((d17, d18, d19, d20, _), d21, d22, d23, d24, _) =>
                            bif ((ByteArray.toList d24) == (ByteArray.toList d21)) then
                              bif (d23 == (((List.length d22) : Nat) : Int)) then
                                bif ((ByteArray.toList d21) == (ByteArray.toList (⟨#[]⟩ : ByteArray))) then
                                  some true
                                else
                                  Option.bind (impl_CostOf (d17, d18, d19, d20) d21) fun r25 =>
                                    bif (r25 == (1000000 : Int)) then
                                      some true
                                    else
                                      some (d23 == (1 : Int))
                              else
                                some false
                            else
                              some false)
noncomputable def A8 : FnA := ⟨[.v (.sl (.int .u8))], true, [.bool], fun x => laws_FnSplitOf x.1⟩
theorem laws_FnSplitOf_eq : fnF E8 L8_1 [.v (.sl (.int .u8))] true [.bool] f8.ntmps f8.results.toList (codeOf f8) = fun x => laws_FnSplitOf x.1 := by kernel_rfl
theorem A8_ok : FnOk prog 8 A8 := by
  have h := fnOk_of_run (P := prog) (E := E8) (tysOk_of tyl_ok) E8_ok (L := L8_1) (ps := [.v (.sl (.int .u8))]) (own := true) (outs := [.bool]) func8 (c := codeOf f8) (by kernel_rfl) (codeOk_in (L := L8_1) (tysOk_of tyl_ok) E8_ok mixed (c := codeOf f8) (bs := [loopOf f8 11]) (by kernel_rfl) (allCons (loop8_11 rfl) allNil) (by kernel_rfl))
  rw [laws_FnSplitOf_eq] at h
  exact h
/-! spec.DrawCountsOf -/
noncomputable def E45 : Env := ⟨ty0, fun g => ifEq g 93 (some A93) (none), fun _ => none, fun _ => none, fun _ => none⟩
theorem E45_ok : FnsOk prog E45 := (oneFn A93_ok func93 (by kernel_rfl) (by kernel_rfl) (noFns _ _))
noncomputable def L45_0 : Nat → Option LoopD := fun _ => none
noncomputable def spec_DrawCountsOf : (List Int) → Option ((Int × ((List Int) × ((List Int) × (List (Int × (ByteArray × (Int × Int))))))) × Int) := fun a0 =>
  Option.bind (spec_DrawCostliestWord a0) fun ((r0, r1, r2, r3), r4) =>
    some ((r0, r1, r2, r3), r4)
noncomputable def A45 : FnA := ⟨[.v (.sl (.int .u8))], false, [.pair (.int .i64) (.pair (.sl (.int .i64)) (.pair (.sl (.int .i64)) (.sl (.pair (.int .i64) (.pair .str (.pair (.int .i64) (.int .i64))))))), .int .i64], fun x => spec_DrawCountsOf x.1⟩
theorem spec_DrawCountsOf_eq : fnF E45 L45_0 [.v (.sl (.int .u8))] false [.pair (.int .i64) (.pair (.sl (.int .i64)) (.pair (.sl (.int .i64)) (.sl (.pair (.int .i64) (.pair .str (.pair (.int .i64) (.int .i64))))))), .int .i64] f45.ntmps f45.results.toList (codeOf f45) = fun x => spec_DrawCountsOf x.1 := by kernel_rfl
theorem A45_ok : FnOk prog 45 A45 := by
  have h := fnOk_of_run (P := prog) (E := E45) (tysOk_of tyl_ok) E45_ok (L := L45_0) (ps := [.v (.sl (.int .u8))]) (own := false) (outs := [.pair (.int .i64) (.pair (.sl (.int .i64)) (.pair (.sl (.int .i64)) (.sl (.pair (.int .i64) (.pair .str (.pair (.int .i64) (.int .i64))))))), .int .i64]) func45 (c := codeOf f45) (by kernel_rfl) (codeOk_in (L := L45_0) (tysOk_of tyl_ok) E45_ok mixed (c := codeOf f45) (bs := []) (by kernel_rfl) allNil (by kernel_rfl))
  rw [spec_DrawCountsOf_eq] at h
  exact h
/-! impl.CountsOf -/
noncomputable def E46 : Env := ⟨ty0, fun g => ifEq g 37 (some A37) (none), fun _ => none, fun _ => none, fun _ => none⟩
theorem E46_ok : FnsOk prog E46 := (oneFn A37_ok func37 (by kernel_rfl) (by kernel_rfl) (noFns _ _))
noncomputable def L46_0 : Nat → Option LoopD := fun _ => none
def sh46_9 : List Fm := [d, d, d, d, d, d, d, d, .cell (.own (.int .i64) 100800 false), d, .cell (.val (.int .i64)), d, d, d, d, d, d, d, d, d, .cell (.own (.int .i64) 102000 false), .cell (.val (.int .i64)), .cell (.val (.int .i64)), d, d, d, d, d, d, d, d, d, d, d, d, d, d, d, d, d, d, d, d]
def xs46_9 : List (Ex × List Fm) := [(.exit 2, [d, d, d, d, d, d, d, d, .cell (.own (.int .i64) 100800 false), d, .cell (.val (.int .i64)), d, d, d, d, d, d, d, d, d, .cell (.own (.int .i64) 102000 false), .cell (.val (.int .i64)), .cell (.val (.int .i64)), d, d, d, d, d, d, d, d, d, d, d, d, d, d, d, d, d, d, d, d])]
noncomputable def impl_CountsOf_l9 : ((List Int) × Int × (List Int) × Int × Int × Unit) → Option (((List Int) × Int × (List Int) × Int × Int × Unit) ⊕ (((List Int) × Int × (List Int) × Int × Int × Unit))) := fun (v8, v10, v20, v21, v22, _) =>
  bif (decide ((((List.length v8) : Nat) : Int) ≤ v10)) then
    if (((0 + (List.length v8)) = (List.length v8)) ∧ ((((List.length v8) + (List.length (List.take 1 (List.drop 0 [(0 : Int)])))) * 8) ≤ 140737488355328)) then
      some (Sum.inl ((List.take ((List.length v8) + (List.length (List.take 1 (List.drop 0 [(0 : Int)])))) (List.drop 0 ((List.drop 0 v8) ++ (List.take 1 (List.drop 0 [(0 : Int)]))))), v10, (List.take (List.length v20) (List.drop 0 v20)), v21, v22, ()))
    else
      none
  else
    some (Sum.inr ((List.take (List.length v8) (List.drop 0 v8)), v10, (List.take (List.length v20) (List.drop 0 v20)), v21, v22, ()))
theorem impl_CountsOf_l9_eq : loopStep 43 E46 L46_0 (loopOf f46 9) sh46_9 xs46_9 = impl_CountsOf_l9 := by kernel_rfl
theorem loop46_9 {L : Nat → Option LoopD} (h : L 9 = some ⟨43, sh46_9, xs46_9, impl_CountsOf_l9⟩) : LoopOk prog L (loopOf f46 9) :=
  loopOk (tysOk_of tyl_ok) E46_ok (codeOk_in (L := L46_0) (tysOk_of tyl_ok) E46_ok mixed (c := loopOf f46 9) (bs := []) (by kernel_rfl) allNil (by kernel_rfl)) (by kernel_rfl) (by kernel_rfl) impl_CountsOf_l9_eq (by rw [show firstId (loopOf f46 9) = 9 from by kernel_rfl]; exact h)
noncomputable def L46_1 : Nat → Option LoopD := fun n => ifEq n 9 (some ⟨43, sh46_9, xs46_9, impl_CountsOf_l9⟩) (L46_0 n)
def sh46_6 : List Fm := [d, d, d, d, d, d, d, d, .cell (.own (.int .i64) 100800 false), d, d, d, d, d, d, d, d, d, d, d, .cell (.own (.int .i64) 102000 false), .cell (.val (.int .i64)), .cell (.val (.int .i64)), d, d, d, d, d, d, d, d, d, d, d, d, d, d, d, d, d, d, d, d]
def xs46_6 : List (Ex × List Fm) := [(.exit 0, [d, d, d, d, d, d, d, d, .cell (.own (.int .i64) 100800 false), d, d, d, d, d, d, d, d, d, d, d, d, d, d, d, d, d, d, d, d, d, d, d, d, d, d, d, d, d, d, d, d, d, d])]
noncomputable def impl_CountsOf_l6 : ((List Int) × (List Int) × Int × Int × Unit) → Option (((List Int) × (List Int) × Int × Int × Unit) ⊕ (((List Int) × Unit))) := fun (v8, v20, v21, v22, _) =>
  bif (decide (v22 < v21)) then
    if (((0 : Int) ≤ v22) ∧ (v22 < (((List.length v20) : Nat) : Int))) then
      bif ((List.getD v20 (0 + (Int.toNat v22)) (0 : Int)) == (1000000 : Int)) then
        some (Sum.inl ((List.take (List.length v8) (List.drop 0 v8)), (List.take (List.length v20) (List.drop 0 v20)), v21, (IntKind.wrap .i64 (v22 + (1 : Int))), ()))
      else
        Option.bind (loopF impl_CountsOf_l9 ((List.take (List.length v8) (List.drop 0 v8)), (List.getD v20 (0 + (Int.toNat v22)) (0 : Int)), (List.take (List.length v20) (List.drop 0 v20)), v21, v22, ())) fun (r0, r1, r2, r3, r4, _) =>
          if (((0 : Int) ≤ r1) ∧ (r1 < (((List.length r0) : Nat) : Int))) then
            if (((0 : Int) ≤ r1) ∧ (r1 < (((List.length r0) : Nat) : Int))) then
              some (Sum.inl ((List.take (List.length r0) (List.drop 0 (List.set r0 (0 + (Int.toNat r1)) (IntKind.wrap .i64 ((List.getD r0 (0 + (Int.toNat r1)) (0 : Int)) + (1 : Int)))))), (List.take (List.length r2) (List.drop 0 r2)), r3, (IntKind.wrap .i64 (r4 + (1 : Int))), ()))
            else
              none
          else
            none
    else
      none
  else
    some (Sum.inr ((List.take (List.length v8) (List.drop 0 v8)), ()))
theorem impl_CountsOf_l6_eq : loopStep 43 E46 L46_1 (loopOf f46 6) sh46_6 xs46_6 = impl_CountsOf_l6 := by kernel_rfl
theorem loop46_6 {L : Nat → Option LoopD} (h : L 6 = some ⟨43, sh46_6, xs46_6, impl_CountsOf_l6⟩) : LoopOk prog L (loopOf f46 6) :=
  loopOk (tysOk_of tyl_ok) E46_ok (codeOk_in (L := L46_1) (tysOk_of tyl_ok) E46_ok mixed (c := loopOf f46 6) (bs := [loopOf f46 9]) (by kernel_rfl) (allCons (loop46_9 rfl) allNil) (by kernel_rfl)) (by kernel_rfl) (by kernel_rfl) impl_CountsOf_l6_eq (by rw [show firstId (loopOf f46 6) = 6 from by kernel_rfl]; exact h)
noncomputable def L46_2 : Nat → Option LoopD := fun n => ifEq n 6 (some ⟨43, sh46_6, xs46_6, impl_CountsOf_l6⟩) (L46_1 n)
noncomputable def impl_CountsOf : (Int × ((List Int) × ((List Int) × (List (Int × (ByteArray × (Int × Int))))))) → Int → Option ((List Int) × Bool) := fun (a0_0, a0_1, a0_2, a0_3) a1 =>
  Option.bind (impl_TableOf (a0_0, a0_1, a0_2, a0_3) a1) fun (r0, r1) =>
    bif (!r1) then
      some ([], false)
    else
      Option.bind (loopF impl_CountsOf_l6 ((List.take 0 (List.drop 0 [])), (List.take (List.length r0) (List.drop 0 r0)), (((List.length r0) : Nat) : Int), (0 : Int), ())) fun (r2, _) =>
        some ((List.take (List.length r2) (List.drop 0 r2)), true)
noncomputable def A46 : FnA := ⟨[.v (.pair (.int .i64) (.pair (.sl (.int .i64)) (.pair (.sl (.int .i64)) (.sl (.pair (.int .i64) (.pair .str (.pair (.int .i64) (.int .i64)))))))), .v (.int .i64)], true, [.sl (.int .i64), .bool], fun x => impl_CountsOf x.1 x.2.1⟩
theorem impl_CountsOf_eq : fnF E46 L46_2 [.v (.pair (.int .i64) (.pair (.sl (.int .i64)) (.pair (.sl (.int .i64)) (.sl (.pair (.int .i64) (.pair .str (.pair (.int .i64) (.int .i64)))))))), .v (.int .i64)] true [.sl (.int .i64), .bool] f46.ntmps f46.results.toList (codeOf f46) = fun x => impl_CountsOf x.1 x.2.1 := by kernel_rfl
theorem A46_ok : FnOk prog 46 A46 := by
  have h := fnOk_of_run (P := prog) (E := E46) (tysOk_of tyl_ok) E46_ok (L := L46_2) (ps := [.v (.pair (.int .i64) (.pair (.sl (.int .i64)) (.pair (.sl (.int .i64)) (.sl (.pair (.int .i64) (.pair .str (.pair (.int .i64) (.int .i64)))))))), .v (.int .i64)]) (own := true) (outs := [.sl (.int .i64), .bool]) func46 (c := codeOf f46) (by kernel_rfl) (codeOk_in (L := L46_2) (tysOk_of tyl_ok) E46_ok mixed (c := codeOf f46) (bs := [loopOf f46 6]) (by kernel_rfl) (allCons (loop46_6 rfl) allNil) (by kernel_rfl))
  rw [impl_CountsOf_eq] at h
  exact h
/-! spec.CountsOf -/
noncomputable def E47 : Env := ⟨ty0, fun g => ifEq g 38 (some A38) (none), fun _ => none, fun _ => none, fun _ => none⟩
theorem E47_ok : FnsOk prog E47 := (oneFn A38_ok func38 (by kernel_rfl) (by kernel_rfl) (noFns _ _))
noncomputable def L47_0 : Nat → Option LoopD := fun _ => none
def sh47_7 : List Fm := [d, d, d, d, d, d, .cell (.own (.int .i64) 100600 false), d, .cell (.val .bool), d, .cell (.val (.int .i64)), d, d, d, d, d, d, d, .cell (.own (.int .i64) 101800 false), .cell (.val (.int .i64)), .cell (.val (.int .i64)), d, d, d, d, d, d, d, d, d, d, d, d, d, d, d, d, d, d, d, d, d]
def xs47_7 : List (Ex × List Fm) := [(.exit 2, [d, d, d, d, d, d, .cell (.own (.int .i64) 100600 false), d, .cell (.val .bool), d, .cell (.val (.int .i64)), d, d, d, d, d, d, d, .cell (.own (.int .i64) 101800 false), .cell (.val (.int .i64)), .cell (.val (.int .i64)), d, d, d, d, d, d, d, d, d, d, d, d, d, d, d, d, d, d, d, d, d])]
noncomputable def spec_CountsOf_l7 : ((List Int) × Bool × Int × (List Int) × Int × Int × Unit) → Option (((List Int) × Bool × Int × (List Int) × Int × Int × Unit) ⊕ (((List Int) × Bool × Int × (List Int) × Int × Int × Unit))) := fun (v6, v8, v10, v18, v19, v20, _) =>
  bif (decide ((((List.length v6) : Nat) : Int) ≤ v10)) then
    if (((0 + (List.length v6)) = (List.length v6)) ∧ ((((List.length v6) + (List.length (List.take 1 (List.drop 0 [(0 : Int)])))) * 8) ≤ 140737488355328)) then
      some (Sum.inl ((List.take ((List.length v6) + (List.length (List.take 1 (List.drop 0 [(0 : Int)])))) (List.drop 0 ((List.drop 0 v6) ++ (List.take 1 (List.drop 0 [(0 : Int)]))))), v8, v10, (List.take (List.length v18) (List.drop 0 v18)), v19, v20, ()))
    else
      none
  else
    some (Sum.inr ((List.take (List.length v6) (List.drop 0 v6)), v8, v10, (List.take (List.length v18) (List.drop 0 v18)), v19, v20, ()))
theorem spec_CountsOf_l7_eq : loopStep 42 E47 L47_0 (loopOf f47 7) sh47_7 xs47_7 = spec_CountsOf_l7 := by kernel_rfl
theorem loop47_7 {L : Nat → Option LoopD} (h : L 7 = some ⟨42, sh47_7, xs47_7, spec_CountsOf_l7⟩) : LoopOk prog L (loopOf f47 7) :=
  loopOk (tysOk_of tyl_ok) E47_ok (codeOk_in (L := L47_0) (tysOk_of tyl_ok) E47_ok mixed (c := loopOf f47 7) (bs := []) (by kernel_rfl) allNil (by kernel_rfl)) (by kernel_rfl) (by kernel_rfl) spec_CountsOf_l7_eq (by rw [show firstId (loopOf f47 7) = 7 from by kernel_rfl]; exact h)
noncomputable def L47_1 : Nat → Option LoopD := fun n => ifEq n 7 (some ⟨42, sh47_7, xs47_7, spec_CountsOf_l7⟩) (L47_0 n)
def sh47_4 : List Fm := [d, d, d, d, d, d, .cell (.own (.int .i64) 100600 false), d, .cell (.val .bool), d, d, d, d, d, d, d, d, d, .cell (.own (.int .i64) 101800 false), .cell (.val (.int .i64)), .cell (.val (.int .i64)), d, d, d, d, d, d, d, d, d, d, d, d, d, d, d, d, d, d, d, d, d]
def xs47_4 : List (Ex × List Fm) := [(.exit 0, [d, d, d, d, d, d, .cell (.own (.int .i64) 100600 false), d, .cell (.val .bool), d, d, d, d, d, d, d, d, d, d, d, d, d, d, d, d, d, d, d, d, d, d, d, d, d, d, d, d, d, d, d, d, d])]
noncomputable def spec_CountsOf_l4 : ((List Int) × Bool × (List Int) × Int × Int × Unit) → Option (((List Int) × Bool × (List Int) × Int × Int × Unit) ⊕ (((List Int) × Bool × Unit))) := fun (v6, v8, v18, v19, v20, _) =>
  bif (decide (v20 < v19)) then
    if (((0 : Int) ≤ v20) ∧ (v20 < (((List.length v18) : Nat) : Int))) then
      bif ((List.getD v18 (0 + (Int.toNat v20)) (0 : Int)) == (1000000 : Int)) then
        some (Sum.inl ((List.take (List.length v6) (List.drop 0 v6)), v8, (List.take (List.length v18) (List.drop 0 v18)), v19, (IntKind.wrap .i64 (v20 + (1 : Int))), ()))
      else
        Option.bind (loopF spec_CountsOf_l7 ((List.take (List.length v6) (List.drop 0 v6)), v8, (List.getD v18 (0 + (Int.toNat v20)) (0 : Int)), (List.take (List.length v18) (List.drop 0 v18)), v19, v20, ())) fun (r0, r1, r2, r3, r4, r5, _) =>
          if (((0 : Int) ≤ r2) ∧ (r2 < (((List.length r0) : Nat) : Int))) then
            if (((0 : Int) ≤ r2) ∧ (r2 < (((List.length r0) : Nat) : Int))) then
              some (Sum.inl ((List.take (List.length r0) (List.drop 0 (List.set r0 (0 + (Int.toNat r2)) (IntKind.wrap .i64 ((List.getD r0 (0 + (Int.toNat r2)) (0 : Int)) + (1 : Int)))))), r1, (List.take (List.length r3) (List.drop 0 r3)), r4, (IntKind.wrap .i64 (r5 + (1 : Int))), ()))
            else
              none
          else
            none
    else
      none
  else
    some (Sum.inr ((List.take (List.length v6) (List.drop 0 v6)), v8, ()))
theorem spec_CountsOf_l4_eq : loopStep 42 E47 L47_1 (loopOf f47 4) sh47_4 xs47_4 = spec_CountsOf_l4 := by kernel_rfl
theorem loop47_4 {L : Nat → Option LoopD} (h : L 4 = some ⟨42, sh47_4, xs47_4, spec_CountsOf_l4⟩) : LoopOk prog L (loopOf f47 4) :=
  loopOk (tysOk_of tyl_ok) E47_ok (codeOk_in (L := L47_1) (tysOk_of tyl_ok) E47_ok mixed (c := loopOf f47 4) (bs := [loopOf f47 7]) (by kernel_rfl) (allCons (loop47_7 rfl) allNil) (by kernel_rfl)) (by kernel_rfl) (by kernel_rfl) spec_CountsOf_l4_eq (by rw [show firstId (loopOf f47 4) = 4 from by kernel_rfl]; exact h)
noncomputable def L47_2 : Nat → Option LoopD := fun n => ifEq n 4 (some ⟨42, sh47_4, xs47_4, spec_CountsOf_l4⟩) (L47_1 n)
noncomputable def spec_CountsOf : (Int × ((List Int) × ((List Int) × (List (Int × (ByteArray × (Int × Int))))))) → Int → Option ((List Int) × Bool) := fun (a0_0, a0_1, a0_2, a0_3) a1 =>
  Option.bind (spec_TableOf (a0_0, a0_1, a0_2, a0_3) a1) fun (r0, r1) =>
    Option.bind (loopF spec_CountsOf_l4 ((List.take 0 (List.drop 0 [])), r1, (List.take (List.length r0) (List.drop 0 r0)), (((List.length r0) : Nat) : Int), (0 : Int), ())) fun (r2, r3, _) =>
      some ((List.take (List.length r2) (List.drop 0 r2)), r3)
noncomputable def A47 : FnA := ⟨[.v (.pair (.int .i64) (.pair (.sl (.int .i64)) (.pair (.sl (.int .i64)) (.sl (.pair (.int .i64) (.pair .str (.pair (.int .i64) (.int .i64)))))))), .v (.int .i64)], true, [.sl (.int .i64), .bool], fun x => spec_CountsOf x.1 x.2.1⟩
theorem spec_CountsOf_eq : fnF E47 L47_2 [.v (.pair (.int .i64) (.pair (.sl (.int .i64)) (.pair (.sl (.int .i64)) (.sl (.pair (.int .i64) (.pair .str (.pair (.int .i64) (.int .i64)))))))), .v (.int .i64)] true [.sl (.int .i64), .bool] f47.ntmps f47.results.toList (codeOf f47) = fun x => spec_CountsOf x.1 x.2.1 := by kernel_rfl
theorem A47_ok : FnOk prog 47 A47 := by
  have h := fnOk_of_run (P := prog) (E := E47) (tysOk_of tyl_ok) E47_ok (L := L47_2) (ps := [.v (.pair (.int .i64) (.pair (.sl (.int .i64)) (.pair (.sl (.int .i64)) (.sl (.pair (.int .i64) (.pair .str (.pair (.int .i64) (.int .i64)))))))), .v (.int .i64)]) (own := true) (outs := [.sl (.int .i64), .bool]) func47 (c := codeOf f47) (by kernel_rfl) (codeOk_in (L := L47_2) (tysOk_of tyl_ok) E47_ok mixed (c := codeOf f47) (bs := [loopOf f47 4]) (by kernel_rfl) (allCons (loop47_4 rfl) allNil) (by kernel_rfl))
  rw [spec_CountsOf_eq] at h
  exact h
/-! impl.CostliestWord -/
noncomputable def E48 : Env := ⟨ty0, fun g => ifEq g 40 (some A40) (ifEq g 41 (some A41) (none)), fun _ => none, fun _ => none, fun _ => none⟩
theorem E48_ok : FnsOk prog E48 := (oneFn A40_ok func40 (by kernel_rfl) (by kernel_rfl) (oneFn A41_ok func41 (by kernel_rfl) (by kernel_rfl) (noFns _ _)))
noncomputable def L48_0 : Nat → Option LoopD := fun _ => none
def sh48_4 : List Fm := [d, d, .box 100200 [.val (.int .i64), .val (.sl (.int .i64)), .val (.sl (.int .i64)), .val (.sl (.pair (.int .i64) (.pair .str (.pair (.int .i64) (.int .i64)))))], d, d, d, d, d, .cell (.val .str), .cell (.val (.int .i64)), d, d, d, d, d, d, d, d, .cell (.val (.sl .str)), .cell (.val (.int .i64)), .cell (.val (.int .i64)), d, d, d, d, d, d, d, d, d, d, d, d, d, d, d, d, d, d, d]
def xs48_4 : List (Ex × List Fm) := [(.exit 0, [d, d, d, d, d, d, d, d, .cell (.val .str), .cell (.val (.int .i64)), d, d, d, d, d, d, d, d, d, d, d, d, d, d, d, d, d, d, d, d, d, d, d, d, d, d, d, d, d, d])]
noncomputable def impl_CostliestWord_l4 : ((Int × (List Int) × (List Int) × (List (Int × (ByteArray × (Int × Int)))) × Unit) × ByteArray × Int × (List ByteArray) × Int × Int × Unit) → Option (((Int × (List Int) × (List Int) × (List (Int × (ByteArray × (Int × Int)))) × Unit) × ByteArray × Int × (List ByteArray) × Int × Int × Unit) ⊕ ((ByteArray × Int × Unit))) := fun ((v2_0, v2_1, v2_2, v2_3, _), v8, v9, v18, v19, v20, _) =>
  bif (decide (v20 < v19)) then
    if (((0 : Int) ≤ v20) ∧ (v20 < (((List.length v18) : Nat) : Int))) then
      Option.bind (impl_CostOf (v2_0, v2_1, v2_2, v2_3) (List.getD v18 (Int.toNat v20) (⟨Array.empty⟩ : ByteArray))) fun r0 =>
        bif (decide (r0 > v9)) then
          bif (decide (r0 < (1000000 : Int))) then
            some (Sum.inl ((v2_0, v2_1, v2_2, v2_3, ()), (List.getD v18 (Int.toNat v20) (⟨Array.empty⟩ : ByteArray)), r0, v18, v19, (IntKind.wrap .i64 (v20 + (1 : Int))), ()))
          else
            some (Sum.inl ((v2_0, v2_1, v2_2, v2_3, ()), v8, v9, v18, v19, (IntKind.wrap .i64 (v20 + (1 : Int))), ()))
        else
          some (Sum.inl ((v2_0, v2_1, v2_2, v2_3, ()), v8, v9, v18, v19, (IntKind.wrap .i64 (v20 + (1 : Int))), ()))
    else
      none
  else
    some (Sum.inr (v8, v9, ()))
theorem impl_CostliestWord_l4_eq : loopStep 40 E48 L48_0 (loopOf f48 4) sh48_4 xs48_4 = impl_CostliestWord_l4 := by kernel_rfl
theorem loop48_4 {L : Nat → Option LoopD} (h : L 4 = some ⟨40, sh48_4, xs48_4, impl_CostliestWord_l4⟩) : LoopOk prog L (loopOf f48 4) :=
  loopOk (tysOk_of tyl_ok) E48_ok (codeOk_in (L := L48_0) (tysOk_of tyl_ok) E48_ok mixed (c := loopOf f48 4) (bs := []) (by kernel_rfl) allNil (by kernel_rfl)) (by kernel_rfl) (by kernel_rfl) impl_CostliestWord_l4_eq (by rw [show firstId (loopOf f48 4) = 4 from by kernel_rfl]; exact h)
noncomputable def L48_1 : Nat → Option LoopD := fun n => ifEq n 4 (some ⟨40, sh48_4, xs48_4, impl_CostliestWord_l4⟩) (L48_0 n)
noncomputable def impl_CostliestWord : (Int × ((List Int) × ((List Int) × (List (Int × (ByteArray × (Int × Int))))))) → Int → Option (ByteArray × Bool) := fun (a0_0, a0_1, a0_2, a0_3) a1 =>
  Option.bind (impl_ShortWords a1) fun (r0, r1) =>
    Option.bind (loopF impl_CostliestWord_l4 ((a0_0, a0_1, a0_2, a0_3, ()), (⟨#[]⟩ : ByteArray), (-1 : Int), r0, (((List.length r0) : Nat) : Int), (0 : Int), ())) fun (r2, r3, _) =>
      some (r2, (decide (r3 ≥ (0 : Int))))
noncomputable def A48 : FnA := ⟨[.v (.pair (.int .i64) (.pair (.sl (.int .i64)) (.pair (.sl (.int .i64)) (.sl (.pair (.int .i64) (.pair .str (.pair (.int .i64) (.int .i64)))))))), .v (.int .i64)], true, [.str, .bool], fun x => impl_CostliestWord x.1 x.2.1⟩
theorem impl_CostliestWord_eq : fnF E48 L48_1 [.v (.pair (.int .i64) (.pair (.sl (.int .i64)) (.pair (.sl (.int .i64)) (.sl (.pair (.int .i64) (.pair .str (.pair (.int .i64) (.int .i64)))))))), .v (.int .i64)] true [.str, .bool] f48.ntmps f48.results.toList (codeOf f48) = fun x => impl_CostliestWord x.1 x.2.1 := by kernel_rfl
theorem A48_ok : FnOk prog 48 A48 := by
  have h := fnOk_of_run (P := prog) (E := E48) (tysOk_of tyl_ok) E48_ok (L := L48_1) (ps := [.v (.pair (.int .i64) (.pair (.sl (.int .i64)) (.pair (.sl (.int .i64)) (.sl (.pair (.int .i64) (.pair .str (.pair (.int .i64) (.int .i64)))))))), .v (.int .i64)]) (own := true) (outs := [.str, .bool]) func48 (c := codeOf f48) (by kernel_rfl) (codeOk_in (L := L48_1) (tysOk_of tyl_ok) E48_ok mixed (c := codeOf f48) (bs := [loopOf f48 4]) (by kernel_rfl) (allCons (loop48_4 rfl) allNil) (by kernel_rfl))
  rw [impl_CostliestWord_eq] at h
  exact h
/-! impl.CountAccepted -/
noncomputable def E49 : Env := ⟨ty0, fun g => ifEq g 40 (some A40) (ifEq g 60 (some A60) (ifEq g 41 (some A41) (none))), fun _ => none, fun _ => none, fun _ => none⟩
theorem E49_ok : FnsOk prog E49 := (oneFn A40_ok func40 (by kernel_rfl) (by kernel_rfl) (oneFn A60_ok func60 (by kernel_rfl) (by kernel_rfl) (oneFn A41_ok func41 (by kernel_rfl) (by kernel_rfl) (noFns _ _))))
noncomputable def L49_0 : Nat → Option LoopD := fun _ => none
def sh49_6 : List Fm := [d, d, .box 100200 [.val (.int .i64), .val (.sl (.int .i64)), .val (.sl (.int .i64)), .val (.sl (.pair (.int .i64) (.pair .str (.pair (.int .i64) (.int .i64)))))], d, d, d, d, .cell (.val (.int .i64)), d, d, d, d, d, d, d, d, d, d, d, d, d, d, .cell (.val (.sl .str)), .cell (.val (.int .i64)), .cell (.val (.int .i64)), d, d, d, d, d, d, d, d, d, d, d]
def xs49_6 : List (Ex × List Fm) := [(.exit 0, [d, d, d, d, d, d, d, .cell (.val (.int .i64)), d, d, d, d, d, d, d, d, d, d, d, d, d, d, d, d, d, d, d, d, d, d, d, d, d, d, d, d])]
noncomputable def impl_CountAccepted_l6 : ((Int × (List Int) × (List Int) × (List (Int × (ByteArray × (Int × Int)))) × Unit) × Int × (List ByteArray) × Int × Int × Unit) → Option (((Int × (List Int) × (List Int) × (List (Int × (ByteArray × (Int × Int)))) × Unit) × Int × (List ByteArray) × Int × Int × Unit) ⊕ ((Int × Unit))) := fun ((v2_0, v2_1, v2_2, v2_3, _), v7, v22, v23, v24, _) =>
  bif (decide (v24 < v23)) then
    if (((0 : Int) ≤ v24) ∧ (v24 < (((List.length v22) : Nat) : Int))) then
      Option.bind (impl_CostOf (v2_0, v2_1, v2_2, v2_3) (List.getD v22 (Int.toNat v24) (⟨Array.empty⟩ : ByteArray))) fun r0 =>
        bif (decide (r0 < (1000000 : Int))) then
          some (Sum.inl ((v2_0, v2_1, v2_2, v2_3, ()), (IntKind.wrap .i64 (v7 + (1 : Int))), v22, v23, (IntKind.wrap .i64 (v24 + (1 : Int))), ()))
        else
          some (Sum.inl ((v2_0, v2_1, v2_2, v2_3, ()), v7, v22, v23, (IntKind.wrap .i64 (v24 + (1 : Int))), ()))
    else
      none
  else
    some (Sum.inr (v7, ()))
theorem impl_CountAccepted_l6_eq : loopStep 36 E49 L49_0 (loopOf f49 6) sh49_6 xs49_6 = impl_CountAccepted_l6 := by kernel_rfl
theorem loop49_6 {L : Nat → Option LoopD} (h : L 6 = some ⟨36, sh49_6, xs49_6, impl_CountAccepted_l6⟩) : LoopOk prog L (loopOf f49 6) :=
  loopOk (tysOk_of tyl_ok) E49_ok (codeOk_in (L := L49_0) (tysOk_of tyl_ok) E49_ok mixed (c := loopOf f49 6) (bs := []) (by kernel_rfl) allNil (by kernel_rfl)) (by kernel_rfl) (by kernel_rfl) impl_CountAccepted_l6_eq (by rw [show firstId (loopOf f49 6) = 6 from by kernel_rfl]; exact h)
noncomputable def L49_1 : Nat → Option LoopD := fun n => ifEq n 6 (some ⟨36, sh49_6, xs49_6, impl_CountAccepted_l6⟩) (L49_0 n)
noncomputable def impl_CountAccepted : (Int × ((List Int) × ((List Int) × (List (Int × (ByteArray × (Int × Int))))))) → Int → Option (Int) := fun (a0_0, a0_1, a0_2, a0_3) a1 =>
  Option.bind (impl_ShortWords a1) fun (r0, r1) =>
    bif (!r1) then
      some (-1 : Int)
    else
      Option.bind (impl_AutomatonValid (a0_0, a0_1, a0_2, a0_3)) fun r2 =>
        bif (!r2) then
          some (-1 : Int)
        else
          Option.bind (loopF impl_CountAccepted_l6 ((a0_0, a0_1, a0_2, a0_3, ()), (0 : Int), r0, (((List.length r0) : Nat) : Int), (0 : Int), ())) fun (r3, _) =>
            some r3
noncomputable def A49 : FnA := ⟨[.v (.pair (.int .i64) (.pair (.sl (.int .i64)) (.pair (.sl (.int .i64)) (.sl (.pair (.int .i64) (.pair .str (.pair (.int .i64) (.int .i64)))))))), .v (.int .i64)], true, [.int .i64], fun x => impl_CountAccepted x.1 x.2.1⟩
theorem impl_CountAccepted_eq : fnF E49 L49_1 [.v (.pair (.int .i64) (.pair (.sl (.int .i64)) (.pair (.sl (.int .i64)) (.sl (.pair (.int .i64) (.pair .str (.pair (.int .i64) (.int .i64)))))))), .v (.int .i64)] true [.int .i64] f49.ntmps f49.results.toList (codeOf f49) = fun x => impl_CountAccepted x.1 x.2.1 := by kernel_rfl
theorem A49_ok : FnOk prog 49 A49 := by
  have h := fnOk_of_run (P := prog) (E := E49) (tysOk_of tyl_ok) E49_ok (L := L49_1) (ps := [.v (.pair (.int .i64) (.pair (.sl (.int .i64)) (.pair (.sl (.int .i64)) (.sl (.pair (.int .i64) (.pair .str (.pair (.int .i64) (.int .i64)))))))), .v (.int .i64)]) (own := true) (outs := [.int .i64]) func49 (c := codeOf f49) (by kernel_rfl) (codeOk_in (L := L49_1) (tysOk_of tyl_ok) E49_ok mixed (c := codeOf f49) (bs := [loopOf f49 6]) (by kernel_rfl) (allCons (loop49_6 rfl) allNil) (by kernel_rfl))
  rw [impl_CountAccepted_eq] at h
  exact h
/-! laws.FnCounts -/
noncomputable def E9 : Env := ⟨ty0, fun g => ifEq g 45 (some A45) (ifEq g 46 (some A46) (ifEq g 47 (some A47) (ifEq g 39 (some A39) (ifEq g 48 (some A48) (ifEq g 49 (some A49) (ifEq g 41 (some A41) (none))))))), fun _ => none, fun _ => none, fun _ => none⟩
theorem E9_ok : FnsOk prog E9 := (oneFn A45_ok func45 (by kernel_rfl) (by kernel_rfl) (oneFn A46_ok func46 (by kernel_rfl) (by kernel_rfl) (oneFn A47_ok func47 (by kernel_rfl) (by kernel_rfl) (oneFn A39_ok func39 (by kernel_rfl) (by kernel_rfl) (oneFn A48_ok func48 (by kernel_rfl) (by kernel_rfl) (oneFn A49_ok func49 (by kernel_rfl) (by kernel_rfl) (oneFn A41_ok func41 (by kernel_rfl) (by kernel_rfl) (noFns _ _))))))))
noncomputable def L9_0 : Nat → Option LoopD := fun _ => none
def sh9_10 : List Fm := [d, d, d, .box 100300 [.val (.int .i64), .val (.sl (.int .i64)), .val (.sl (.int .i64)), .val (.sl (.pair (.int .i64) (.pair .str (.pair (.int .i64) (.int .i64)))))], .cell (.val (.int .i64)), .cell (.val (.sl (.int .i64))), d, d, d, .cell (.val (.int .i64)), d, d, d, d, d, d, d, d, d, d, d, d, d, d, d, d, d, d, d, d, d, d, d, d, d, d, d, d, d, d, d, d, d, d, d, d, d, d, d, d, d, d, d, d, d, .cell (.val (.sl (.int .i64))), .cell (.val (.int .i64)), .cell (.val (.int .i64)), d, d, d, d, d, d, d, d, d, d, d, d, d, d, d, d, d, d, d, d, d, d, d, d, d, d, d, d, d, d, d, d, d, d, d, d, d, d, d, d, d, d, d, d, d, d, d]
def xs9_10 : List (Ex × List Fm) := [(.exit 0, [d, d, d, .box 100300 [.val (.int .i64), .val (.sl (.int .i64)), .val (.sl (.int .i64)), .val (.sl (.pair (.int .i64) (.pair .str (.pair (.int .i64) (.int .i64)))))], .cell (.val (.int .i64)), .cell (.val (.sl (.int .i64))), d, d, d, .cell (.val (.int .i64)), d, d, d, d, d, d, d, d, d, d, d, d, d, d, d, d, d, d, d, d, d, d, d, d, d, d, d, d, d, d, d, d, d, d, d, d, d, d, d, d, d, d, d, d, d, d, d, d, d, d, d, d, d, d, d, d, d, d, d, d, d, d, d, d, d, d, d, d, d, d, d, d, d, d, d, d, d, d, d, d, d, d, d, d, d, d, d, d, d, d, d, d, d, d, d])]
noncomputable def laws_FnCounts_l10 : ((Int × (List Int) × (List Int) × (List (Int × (ByteArray × (Int × Int)))) × Unit) × Int × (List Int) × Int × (List Int) × Int × Int × Unit) → Option (((Int × (List Int) × (List Int) × (List (Int × (ByteArray × (Int × Int)))) × Unit) × Int × (List Int) × Int × (List Int) × Int × Int × Unit) ⊕ (((Int × (List Int) × (List Int) × (List (Int × (ByteArray × (Int × Int)))) × Unit) × Int × (List Int) × Int × Unit))) := fun ((v3_0, v3_1, v3_2, v3_3, _), v4, v5, v9, v55, v56, v57, _) =>
  bif (decide (v57 < v56)) then
    if (((0 : Int) ≤ v57) ∧ (v57 < (((List.length v55) : Nat) : Int))) then
      some (Sum.inl ((v3_0, v3_1, v3_2, v3_3, ()), v4, v5, (IntKind.wrap .i64 (v9 + (List.getD v55 (Int.toNat v57) (0 : Int)))), v55, v56, (IntKind.wrap .i64 (v57 + (1 : Int))), ()))
    else
      none
  else
    some (Sum.inr ((v3_0, v3_1, v3_2, v3_3, ()), v4, v5, v9, ()))
theorem laws_FnCounts_l10_eq : loopStep 105 E9 L9_0 (loopOf f9 10) sh9_10 xs9_10 = laws_FnCounts_l10 := by kernel_rfl
theorem loop9_10 {L : Nat → Option LoopD} (h : L 10 = some ⟨105, sh9_10, xs9_10, laws_FnCounts_l10⟩) : LoopOk prog L (loopOf f9 10) :=
  loopOk (tysOk_of tyl_ok) E9_ok (codeOk_in (L := L9_0) (tysOk_of tyl_ok) E9_ok mixed (c := loopOf f9 10) (bs := []) (by kernel_rfl) allNil (by kernel_rfl)) (by kernel_rfl) (by kernel_rfl) laws_FnCounts_l10_eq (by rw [show firstId (loopOf f9 10) = 10 from by kernel_rfl]; exact h)
noncomputable def L9_1 : Nat → Option LoopD := fun n => ifEq n 10 (some ⟨105, sh9_10, xs9_10, laws_FnCounts_l10⟩) (L9_0 n)
noncomputable def laws_FnCounts : (List Int) → Option (Bool) := fun a0 =>
  bif (decide ((((List.length a0) : Nat) : Int) > (1048576 : Int))) then
    some true
  else
    Option.bind (spec_DrawCountsOf a0) fun ((r0, r1, r2, r3), r4) =>
      Option.bind (impl_CountsOf (r0, r1, r2, r3) r4) fun (r5, r6) =>
        Option.bind (spec_CountsOf (r0, r1, r2, r3) r4) fun (r7, r8) =>
          Option.bind (laws_daSame (List.take (List.length r5) (List.drop 0 r5)) (List.take (List.length r7) (List.drop 0 r7))) fun r9 =>
            bif (!r9) then
              Option.bind (laws_daSame (List.take (List.length r5) (List.drop 0 r5)) (List.take (List.length r7) (List.drop 0 r7))) fun r10 =>
                bif r10 then
                  some (r6 == r8)
                else
                  some false
            else
              bif (!(r6 == r8)) then
                Option.bind (laws_daSame (List.take (List.length r5) (List.drop 0 r5)) (List.take (List.length r7) (List.drop 0 r7))) fun r11 =>
                  bif r11 then
                    some (r6 == r8)
                  else
                    some false
              else
                bif (!r6) then
                  Option.bind (laws_daSame (List.take (List.length r5) (List.drop 0 r5)) (List.take (List.length r7) (List.drop 0 r7))) fun r12 =>
                    bif r12 then
                      some (r6 == r8)
                    else
                      some false
                else
                  Option.bind (loopF laws_FnCounts_l10 ((r0, r1, r2, r3, ()), r4, (List.take (List.length r5) (List.drop 0 r5)), (0 : Int), (List.take (List.length r5) (List.drop 0 r5)), (((List.length r5) : Nat) : Int), (0 : Int), ())) fun ((r13, r14, r15, r16, _), r17, r18, r19, _) =>
                    Option.bind (impl_CostliestWord (r13, r14, r15, r16) r17) fun (r20, r21) =>
                      Option.bind (impl_CountAccepted (r13, r14, r15, r16) r17) fun r22 =>
                        bif (r19 == r22) then
                          bif (r21 == (decide ((((List.length r18) : Nat) : Int) > (0 : Int)))) then
                            bif (!r21) then
                              some true
                            else
                              Option.bind (impl_CostOf (r13, r14, r15, r16) r20) fun r23 =>
                                bif (r23 == (IntKind.wrap .i64 ((((List.length r18) : Nat) : Int) - (1 : Int)))) then
                                  if (((0 : Int) ≤ (IntKind.wrap .i64 ((((List.length r18) : Nat) : Int) - (1 : Int)))) ∧ ((IntKind.wrap .i64 ((((List.length r18) : Nat) : Int) - (1 : Int))) < (((List.length r18) : Nat) : Int))) then
                                    some (decide ((List.getD r18 (Int.toNat (IntKind.wrap .i64 ((((List.length r18) : Nat) : Int) - (1 : Int)))) (0 : Int)) > (0 : Int)))
                                  else
                                    none
                                else
                                  some false
                          else
                            some false
                        else
                          some false
noncomputable def A9 : FnA := ⟨[.v (.sl (.int .u8))], true, [.bool], fun x => laws_FnCounts x.1⟩
theorem laws_FnCounts_eq : fnF E9 L9_1 [.v (.sl (.int .u8))] true [.bool] f9.ntmps f9.results.toList (codeOf f9) = fun x => laws_FnCounts x.1 := by kernel_rfl
theorem A9_ok : FnOk prog 9 A9 := by
  have h := fnOk_of_run (P := prog) (E := E9) (tysOk_of tyl_ok) E9_ok (L := L9_1) (ps := [.v (.sl (.int .u8))]) (own := true) (outs := [.bool]) func9 (c := codeOf f9) (by kernel_rfl) (codeOk_in (L := L9_1) (tysOk_of tyl_ok) E9_ok mixed (c := codeOf f9) (bs := [loopOf f9 10]) (by kernel_rfl) (allCons (loop9_10 rfl) allNil) (by kernel_rfl))
  rw [laws_FnCounts_eq] at h
  exact h
/-! spec.DrawMostFactors -/
noncomputable def E99 : Env := ⟨ty0, fun _ => none, fun g => ifEq g 137 (some A137) (ifEq g 140 (some A140) (none)), fun g => ifEq g 98 (some A98) (none), fun _ => none⟩
theorem E99_ok : FnsOk prog E99 := (oneBs A98_ok func98 (by kernel_rfl) (by kernel_rfl) (oneMs A137_ok (by kernel_rfl) func137 (by kernel_rfl) (by kernel_rfl) (oneMs A140_ok (by kernel_rfl) func140 (by kernel_rfl) (by kernel_rfl) (noFns _ _))))
noncomputable def L99_0 : Nat → Option LoopD := fun _ => none
noncomputable def spec_DrawMostFactors : (List Int) → Option ((Int × ((List Int) × ((List Int) × (List (Int × (ByteArray × (Int × Int))))))) × Int) := fun a0 =>
  Option.bind (spec_l13Open a0) fun (r0, r1) =>
    Option.bind (spec_l3Any (r0, r1)) fun ((r2, r3, r4, r5), (r6, r7), _) =>
      Option.bind (spec_l13Rd_num (r6, r7) (List.take 8 (List.drop 0 [(3 : Int), (4 : Int), (2 : Int), (1 : Int), (0 : Int), (5 : Int), (-1 : Int), (8 : Int)]))) fun (r8, (r9, r10), _) =>
        some ((r2, r3, r4, r5), r8)
noncomputable def A99 : FnA := ⟨[.v (.sl (.int .u8))], false, [.pair (.int .i64) (.pair (.sl (.int .i64)) (.pair (.sl (.int .i64)) (.sl (.pair (.int .i64) (.pair .str (.pair (.int .i64) (.int .i64))))))), .int .i64], fun x => spec_DrawMostFactors x.1⟩
theorem spec_DrawMostFactors_eq : fnF E99 L99_0 [.v (.sl (.int .u8))] false [.pair (.int .i64) (.pair (.sl (.int .i64)) (.pair (.sl (.int .i64)) (.sl (.pair (.int .i64) (.pair .str (.pair (.int .i64) (.int .i64))))))), .int .i64] f99.ntmps f99.results.toList (codeOf f99) = fun x => spec_DrawMostFactors x.1 := by kernel_rfl
theorem A99_ok : FnOk prog 99 A99 := by
  have h := fnOk_of_run (P := prog) (E := E99) (tysOk_of tyl_ok) E99_ok (L := L99_0) (ps := [.v (.sl (.int .u8))]) (own := false) (outs := [.pair (.int .i64) (.pair (.sl (.int .i64)) (.pair (.sl (.int .i64)) (.sl (.pair (.int .i64) (.pair .str (.pair (.int .i64) (.int .i64))))))), .int .i64]) func99 (c := codeOf f99) (by kernel_rfl) (codeOk_in (L := L99_0) (tysOk_of tyl_ok) E99_ok mixed (c := codeOf f99) (bs := []) (by kernel_rfl) allNil (by kernel_rfl))
  rw [spec_DrawMostFactors_eq] at h
  exact h
/-! spec.DrawHardestWord -/
noncomputable def E50 : Env := ⟨ty0, fun g => ifEq g 99 (some A99) (none), fun _ => none, fun _ => none, fun _ => none⟩
theorem E50_ok : FnsOk prog E50 := (oneFn A99_ok func99 (by kernel_rfl) (by kernel_rfl) (noFns _ _))
noncomputable def L50_0 : Nat → Option LoopD := fun _ => none
noncomputable def spec_DrawHardestWord : (List Int) → Option ((Int × ((List Int) × ((List Int) × (List (Int × (ByteArray × (Int × Int))))))) × Int) := fun a0 =>
  Option.bind (spec_DrawMostFactors a0) fun ((r0, r1, r2, r3), r4) =>
    some ((r0, r1, r2, r3), r4)
noncomputable def A50 : FnA := ⟨[.v (.sl (.int .u8))], false, [.pair (.int .i64) (.pair (.sl (.int .i64)) (.pair (.sl (.int .i64)) (.sl (.pair (.int .i64) (.pair .str (.pair (.int .i64) (.int .i64))))))), .int .i64], fun x => spec_DrawHardestWord x.1⟩
theorem spec_DrawHardestWord_eq : fnF E50 L50_0 [.v (.sl (.int .u8))] false [.pair (.int .i64) (.pair (.sl (.int .i64)) (.pair (.sl (.int .i64)) (.sl (.pair (.int .i64) (.pair .str (.pair (.int .i64) (.int .i64))))))), .int .i64] f50.ntmps f50.results.toList (codeOf f50) = fun x => spec_DrawHardestWord x.1 := by kernel_rfl
theorem A50_ok : FnOk prog 50 A50 := by
  have h := fnOk_of_run (P := prog) (E := E50) (tysOk_of tyl_ok) E50_ok (L := L50_0) (ps := [.v (.sl (.int .u8))]) (own := false) (outs := [.pair (.int .i64) (.pair (.sl (.int .i64)) (.pair (.sl (.int .i64)) (.sl (.pair (.int .i64) (.pair .str (.pair (.int .i64) (.int .i64))))))), .int .i64]) func50 (c := codeOf f50) (by kernel_rfl) (codeOk_in (L := L50_0) (tysOk_of tyl_ok) E50_ok mixed (c := codeOf f50) (bs := []) (by kernel_rfl) allNil (by kernel_rfl))
  rw [spec_DrawHardestWord_eq] at h
  exact h
/-! impl.HardestWord -/
noncomputable def E51 : Env := ⟨ty0, fun g => ifEq g 40 (some A40) (ifEq g 60 (some A60) (ifEq g 43 (some A43) (none))), fun _ => none, fun _ => none, fun _ => none⟩
theorem E51_ok : FnsOk prog E51 := (oneFn A40_ok func40 (by kernel_rfl) (by kernel_rfl) (oneFn A60_ok func60 (by kernel_rfl) (by kernel_rfl) (oneFn A43_ok func43 (by kernel_rfl) (by kernel_rfl) (noFns _ _))))
noncomputable def L51_0 : Nat → Option LoopD := fun _ => none
def sh51_6 : List Fm := [d, d, .box 100200 [.val (.int .i64), .val (.sl (.int .i64)), .val (.sl (.int .i64)), .val (.sl (.pair (.int .i64) (.pair .str (.pair (.int .i64) (.int .i64)))))], d, d, d, d, d, .cell (.val .str), .cell (.val (.int .i64)), d, d, d, d, d, d, d, d, d, d, d, d, d, d, d, .cell (.val (.sl .str)), .cell (.val (.int .i64)), .cell (.val (.int .i64)), d, d, d, d, d, d, d, d, d, d, d, d, d, d, d, d, d]
def xs51_6 : List (Ex × List Fm) := [(.exit 0, [d, d, d, d, d, d, d, d, .cell (.val .str), d, d, d, d, d, d, d, d, d, d, d, d, d, d, d, d, d, d, d, d, d, d, d, d, d, d, d, d, d, d, d, d, d, d, d, d])]
noncomputable def impl_HardestWord_l6 : ((Int × (List Int) × (List Int) × (List (Int × (ByteArray × (Int × Int)))) × Unit) × ByteArray × Int × (List ByteArray) × Int × Int × Unit) → Option (((Int × (List Int) × (List Int) × (List (Int × (ByteArray × (Int × Int)))) × Unit) × ByteArray × Int × (List ByteArray) × Int × Int × Unit) ⊕ ((ByteArray × Unit))) := fun ((v2_0, v2_1, v2_2, v2_3, _), v8, v9, v25, v26, v27, _) =>
  bif (decide (v27 < v26)) then
    if (((0 : Int) ≤ v27) ∧ (v27 < (((List.length v25) : Nat) : Int))) then
      Option.bind (impl_FactorsOf (v2_0, v2_1, v2_2, v2_3) (List.getD v25 (Int.toNat v27) (⟨Array.empty⟩ : ByteArray))) fun r0 =>
        bif (decide (r0 > v9)) then
          bif (decide (r0 < (1000000 : Int))) then
            some (Sum.inl ((v2_0, v2_1, v2_2, v2_3, ()), (List.getD v25 (Int.toNat v27) (⟨Array.empty⟩ : ByteArray)), r0, v25, v26, (IntKind.wrap .i64 (v27 + (1 : Int))), ()))
          else
            some (Sum.inl ((v2_0, v2_1, v2_2, v2_3, ()), v8, v9, v25, v26, (IntKind.wrap .i64 (v27 + (1 : Int))), ()))
        else
          some (Sum.inl ((v2_0, v2_1, v2_2, v2_3, ()), v8, v9, v25, v26, (IntKind.wrap .i64 (v27 + (1 : Int))), ()))
    else
      none
  else
    some (Sum.inr (v8, ()))
theorem impl_HardestWord_l6_eq : loopStep 45 E51 L51_0 (loopOf f51 6) sh51_6 xs51_6 = impl_HardestWord_l6 := by kernel_rfl
theorem loop51_6 {L : Nat → Option LoopD} (h : L 6 = some ⟨45, sh51_6, xs51_6, impl_HardestWord_l6⟩) : LoopOk prog L (loopOf f51 6) :=
  loopOk (tysOk_of tyl_ok) E51_ok (codeOk_in (L := L51_0) (tysOk_of tyl_ok) E51_ok mixed (c := loopOf f51 6) (bs := []) (by kernel_rfl) allNil (by kernel_rfl)) (by kernel_rfl) (by kernel_rfl) impl_HardestWord_l6_eq (by rw [show firstId (loopOf f51 6) = 6 from by kernel_rfl]; exact h)
noncomputable def L51_1 : Nat → Option LoopD := fun n => ifEq n 6 (some ⟨45, sh51_6, xs51_6, impl_HardestWord_l6⟩) (L51_0 n)
noncomputable def impl_HardestWord : (Int × ((List Int) × ((List Int) × (List (Int × (ByteArray × (Int × Int))))))) → Int → Option (ByteArray × Bool) := fun (a0_0, a0_1, a0_2, a0_3) a1 =>
  Option.bind (impl_ShortWords a1) fun (r0, r1) =>
    bif (!r1) then
      some ((⟨#[]⟩ : ByteArray), false)
    else
      Option.bind (impl_AutomatonValid (a0_0, a0_1, a0_2, a0_3)) fun r2 =>
        bif (!r2) then
          some ((⟨#[]⟩ : ByteArray), false)
        else
          Option.bind (loopF impl_HardestWord_l6 ((a0_0, a0_1, a0_2, a0_3, ()), (⟨#[]⟩ : ByteArray), (0 : Int), r0, (((List.length r0) : Nat) : Int), (0 : Int), ())) fun (r3, _) =>
            some (r3, true)
noncomputable def A51 : FnA := ⟨[.v (.pair (.int .i64) (.pair (.sl (.int .i64)) (.pair (.sl (.int .i64)) (.sl (.pair (.int .i64) (.pair .str (.pair (.int .i64) (.int .i64)))))))), .v (.int .i64)], true, [.str, .bool], fun x => impl_HardestWord x.1 x.2.1⟩
theorem impl_HardestWord_eq : fnF E51 L51_1 [.v (.pair (.int .i64) (.pair (.sl (.int .i64)) (.pair (.sl (.int .i64)) (.sl (.pair (.int .i64) (.pair .str (.pair (.int .i64) (.int .i64)))))))), .v (.int .i64)] true [.str, .bool] f51.ntmps f51.results.toList (codeOf f51) = fun x => impl_HardestWord x.1 x.2.1 := by kernel_rfl
theorem A51_ok : FnOk prog 51 A51 := by
  have h := fnOk_of_run (P := prog) (E := E51) (tysOk_of tyl_ok) E51_ok (L := L51_1) (ps := [.v (.pair (.int .i64) (.pair (.sl (.int .i64)) (.pair (.sl (.int .i64)) (.sl (.pair (.int .i64) (.pair .str (.pair (.int .i64) (.int .i64)))))))), .v (.int .i64)]) (own := true) (outs := [.str, .bool]) func51 (c := codeOf f51) (by kernel_rfl) (codeOk_in (L := L51_1) (tysOk_of tyl_ok) E51_ok mixed (c := codeOf f51) (bs := [loopOf f51 6]) (by kernel_rfl) (allCons (loop51_6 rfl) allNil) (by kernel_rfl))
  rw [impl_HardestWord_eq] at h
  exact h
/-! spec.HardestWord -/
noncomputable def E52 : Env := ⟨ty0, fun g => ifEq g 78 (some A78) (ifEq g 79 (some A79) (ifEq g 80 (some A80) (ifEq g 91 (some A91) (none)))), fun _ => none, fun _ => none, fun _ => none⟩
theorem E52_ok : FnsOk prog E52 := (oneFn A78_ok func78 (by kernel_rfl) (by kernel_rfl) (oneFn A79_ok func79 (by kernel_rfl) (by kernel_rfl) (oneFn A80_ok func80 (by kernel_rfl) (by kernel_rfl) (oneFn A91_ok func91 (by kernel_rfl) (by kernel_rfl) (noFns _ _)))))
noncomputable def L52_0 : Nat → Option LoopD := fun _ => none
def sh52_5 : List Fm := [d, d, .box 100200 [.val (.int .i64), .val (.sl (.int .i64)), .val (.sl (.int .i64)), .val (.sl (.pair (.int .i64) (.pair .str (.pair (.int .i64) (.int .i64)))))], d, d, d, .cell (.val .str), .cell (.val (.int .i64)), d, d, d, d, d, d, d, d, d, d, d, d, .cell (.val (.sl .str)), .cell (.val (.int .i64)), .cell (.val (.int .i64)), d, d, d, d, d, d, d, d, d, d, d, d, d, d, d, d, d, d, d, d, d]
def xs52_5 : List (Ex × List Fm) := [(.exit 0, [d, d, d, d, d, d, .cell (.val .str), d, d, d, d, d, d, d, d, d, d, d, d, d, d, d, d, d, d, d, d, d, d, d, d, d, d, d, d, d, d, d, d, d, d, d, d, d])]
noncomputable def spec_HardestWord_l5 : ((Int × (List Int) × (List Int) × (List (Int × (ByteArray × (Int × Int)))) × Unit) × ByteArray × Int × (List ByteArray) × Int × Int × Unit) → Option (((Int × (List Int) × (List Int) × (List (Int × (ByteArray × (Int × Int)))) × Unit) × ByteArray × Int × (List ByteArray) × Int × Int × Unit) ⊕ ((ByteArray × Unit))) := fun ((v2_0, v2_1, v2_2, v2_3, _), v6, v7, v20, v21, v22, _) =>
  bif (decide (v22 < v21)) then
    if (((0 : Int) ≤ v22) ∧ (v22 < (((List.length v20) : Nat) : Int))) then
      Option.bind (spec_l10Least (v2_0, v2_1, v2_2, v2_3) (List.getD v20 (Int.toNat v22) (⟨Array.empty⟩ : ByteArray))) fun r0 =>
        if (((0 : Int) ≤ (((ByteArray.size (List.getD v20 (Int.toNat v22) (⟨Array.empty⟩ : ByteArray))) : Nat) : Int)) ∧ ((((ByteArray.size (List.getD v20 (Int.toNat v22) (⟨Array.empty⟩ : ByteArray))) : Nat) : Int) < (((List.length r0) : Nat) : Int))) then
          bif (decide ((List.getD r0 (0 + (Int.toNat (((ByteArray.size (List.getD v20 (Int.toNat v22) (⟨Array.empty⟩ : ByteArray))) : Nat) : Int))) (0 : Int)) < (1000000 : Int))) then
            bif (decide ((List.getD r0 (0 + (Int.toNat (((ByteArray.size (List.getD v20 (Int.toNat v22) (⟨Array.empty⟩ : ByteArray))) : Nat) : Int))) (0 : Int)) > v7)) then
              some (Sum.inl ((v2_0, v2_1, v2_2, v2_3, ()), (List.getD v20 (Int.toNat v22) (⟨Array.empty⟩ : ByteArray)), (List.getD r0 (0 + (Int.toNat (((ByteArray.size (List.getD v20 (Int.toNat v22) (⟨Array.empty⟩ : ByteArray))) : Nat) : Int))) (0 : Int)), v20, v21, (IntKind.wrap .i64 (v22 + (1 : Int))), ()))
            else
              some (Sum.inl ((v2_0, v2_1, v2_2, v2_3, ()), v6, v7, v20, v21, (IntKind.wrap .i64 (v22 + (1 : Int))), ()))
          else
            some (Sum.inl ((v2_0, v2_1, v2_2, v2_3, ()), v6, v7, v20, v21, (IntKind.wrap .i64 (v22 + (1 : Int))), ()))
        else
          none
    else
      none
  else
    some (Sum.inr (v6, ()))
theorem spec_HardestWord_l5_eq : loopStep 44 E52 L52_0 (loopOf f52 5) sh52_5 xs52_5 = spec_HardestWord_l5 := by kernel_rfl
theorem loop52_5 {L : Nat → Option LoopD} (h : L 5 = some ⟨44, sh52_5, xs52_5, spec_HardestWord_l5⟩) : LoopOk prog L (loopOf f52 5) :=
  loopOk (tysOk_of tyl_ok) E52_ok (codeOk_in (L := L52_0) (tysOk_of tyl_ok) E52_ok mixed (c := loopOf f52 5) (bs := []) (by kernel_rfl) allNil (by kernel_rfl)) (by kernel_rfl) (by kernel_rfl) spec_HardestWord_l5_eq (by rw [show firstId (loopOf f52 5) = 5 from by kernel_rfl]; exact h)
noncomputable def L52_1 : Nat → Option LoopD := fun n => ifEq n 5 (some ⟨44, sh52_5, xs52_5, spec_HardestWord_l5⟩) (L52_0 n)
noncomputable def spec_HardestWord : (Int × ((List Int) × ((List Int) × (List (Int × (ByteArray × (Int × Int))))))) → Int → Option (ByteArray × Bool) := fun (a0_0, a0_1, a0_2, a0_3) a1 =>
  Option.bind (spec_AutomatonValid (a0_0, a0_1, a0_2, a0_3)) fun r0 =>
    bif (!r0) then
      some ((⟨#[]⟩ : ByteArray), false)
    else
      Option.bind (spec_l1In a1 (0 : Int) (7 : Int)) fun r1 =>
        bif (!r1) then
          some ((⟨#[]⟩ : ByteArray), false)
        else
          Option.bind (spec_l4Words a1) fun r2 =>
            Option.bind (loopF spec_HardestWord_l5 ((a0_0, a0_1, a0_2, a0_3, ()), (⟨#[]⟩ : ByteArray), (-1 : Int), r2, (((List.length r2) : Nat) : Int), (0 : Int), ())) fun (r3, _) =>
              some (r3, true)
noncomputable def A52 : FnA := ⟨[.v (.pair (.int .i64) (.pair (.sl (.int .i64)) (.pair (.sl (.int .i64)) (.sl (.pair (.int .i64) (.pair .str (.pair (.int .i64) (.int .i64)))))))), .v (.int .i64)], true, [.str, .bool], fun x => spec_HardestWord x.1 x.2.1⟩
theorem spec_HardestWord_eq : fnF E52 L52_1 [.v (.pair (.int .i64) (.pair (.sl (.int .i64)) (.pair (.sl (.int .i64)) (.sl (.pair (.int .i64) (.pair .str (.pair (.int .i64) (.int .i64)))))))), .v (.int .i64)] true [.str, .bool] f52.ntmps f52.results.toList (codeOf f52) = fun x => spec_HardestWord x.1 x.2.1 := by kernel_rfl
theorem A52_ok : FnOk prog 52 A52 := by
  have h := fnOk_of_run (P := prog) (E := E52) (tysOk_of tyl_ok) E52_ok (L := L52_1) (ps := [.v (.pair (.int .i64) (.pair (.sl (.int .i64)) (.pair (.sl (.int .i64)) (.sl (.pair (.int .i64) (.pair .str (.pair (.int .i64) (.int .i64)))))))), .v (.int .i64)]) (own := true) (outs := [.str, .bool]) func52 (c := codeOf f52) (by kernel_rfl) (codeOk_in (L := L52_1) (tysOk_of tyl_ok) E52_ok mixed (c := codeOf f52) (bs := [loopOf f52 5]) (by kernel_rfl) (allCons (loop52_5 rfl) allNil) (by kernel_rfl))
  rw [spec_HardestWord_eq] at h
  exact h
/-! impl.MostFactors -/
noncomputable def E53 : Env := ⟨ty0, fun g => ifEq g 51 (some A51) (ifEq g 43 (some A43) (none)), fun _ => none, fun _ => none, fun _ => none⟩
theorem E53_ok : FnsOk prog E53 := (oneFn A51_ok func51 (by kernel_rfl) (by kernel_rfl) (oneFn A43_ok func43 (by kernel_rfl) (by kernel_rfl) (noFns _ _)))
noncomputable def L53_0 : Nat → Option LoopD := fun _ => none
noncomputable def impl_MostFactors : (Int × ((List Int) × ((List Int) × (List (Int × (ByteArray × (Int × Int))))))) → Int → Option (Int) := fun (a0_0, a0_1, a0_2, a0_3) a1 =>
  Option.bind (impl_HardestWord (a0_0, a0_1, a0_2, a0_3) a1) fun (r0, r1) =>
    bif (!r1) then
      some (-1 : Int)
    else
      Option.bind (impl_FactorsOf (a0_0, a0_1, a0_2, a0_3) r0) fun r2 =>
        some r2
noncomputable def A53 : FnA := ⟨[.v (.pair (.int .i64) (.pair (.sl (.int .i64)) (.pair (.sl (.int .i64)) (.sl (.pair (.int .i64) (.pair .str (.pair (.int .i64) (.int .i64)))))))), .v (.int .i64)], true, [.int .i64], fun x => impl_MostFactors x.1 x.2.1⟩
theorem impl_MostFactors_eq : fnF E53 L53_0 [.v (.pair (.int .i64) (.pair (.sl (.int .i64)) (.pair (.sl (.int .i64)) (.sl (.pair (.int .i64) (.pair .str (.pair (.int .i64) (.int .i64)))))))), .v (.int .i64)] true [.int .i64] f53.ntmps f53.results.toList (codeOf f53) = fun x => impl_MostFactors x.1 x.2.1 := by kernel_rfl
theorem A53_ok : FnOk prog 53 A53 := by
  have h := fnOk_of_run (P := prog) (E := E53) (tysOk_of tyl_ok) E53_ok (L := L53_0) (ps := [.v (.pair (.int .i64) (.pair (.sl (.int .i64)) (.pair (.sl (.int .i64)) (.sl (.pair (.int .i64) (.pair .str (.pair (.int .i64) (.int .i64)))))))), .v (.int .i64)]) (own := true) (outs := [.int .i64]) func53 (c := codeOf f53) (by kernel_rfl) (codeOk_in (L := L53_0) (tysOk_of tyl_ok) E53_ok mixed (c := codeOf f53) (bs := []) (by kernel_rfl) allNil (by kernel_rfl))
  rw [impl_MostFactors_eq] at h
  exact h
/-! spec.MostFactors -/
noncomputable def E54 : Env := ⟨ty0, fun g => ifEq g 52 (some A52) (ifEq g 78 (some A78) (ifEq g 79 (some A79) (ifEq g 44 (some A44) (none)))), fun _ => none, fun _ => none, fun _ => none⟩
theorem E54_ok : FnsOk prog E54 := (oneFn A52_ok func52 (by kernel_rfl) (by kernel_rfl) (oneFn A78_ok func78 (by kernel_rfl) (by kernel_rfl) (oneFn A79_ok func79 (by kernel_rfl) (by kernel_rfl) (oneFn A44_ok func44 (by kernel_rfl) (by kernel_rfl) (noFns _ _)))))
noncomputable def L54_0 : Nat → Option LoopD := fun _ => none
noncomputable def spec_MostFactors : (Int × ((List Int) × ((List Int) × (List (Int × (ByteArray × (Int × Int))))))) → Int → Option (Int) := fun (a0_0, a0_1, a0_2, a0_3) a1 =>
  Option.bind (spec_HardestWord (a0_0, a0_1, a0_2, a0_3) a1) fun (r0, r1) =>
    Option.bind (spec_AutomatonValid (a0_0, a0_1, a0_2, a0_3)) fun r2 =>
      bif (!r2) then
        some (-1 : Int)
      else
        Option.bind (spec_l1In a1 (0 : Int) (7 : Int)) fun r3 =>
          bif (!r3) then
            some (-1 : Int)
          else
            bif (!r1) then
              some (0 : Int)
            else
              Option.bind (spec_FactorsOf (a0_0, a0_1, a0_2, a0_3) r0) fun r4 =>
                some r4
noncomputable def A54 : FnA := ⟨[.v (.pair (.int .i64) (.pair (.sl (.int .i64)) (.pair (.sl (.int .i64)) (.sl (.pair (.int .i64) (.pair .str (.pair (.int .i64) (.int .i64)))))))), .v (.int .i64)], true, [.int .i64], fun x => spec_MostFactors x.1 x.2.1⟩
theorem spec_MostFactors_eq : fnF E54 L54_0 [.v (.pair (.int .i64) (.pair (.sl (.int .i64)) (.pair (.sl (.int .i64)) (.sl (.pair (.int .i64) (.pair .str (.pair (.int .i64) (.int .i64)))))))), .v (.int .i64)] true [.int .i64] f54.ntmps f54.results.toList (codeOf f54) = fun x => spec_MostFactors x.1 x.2.1 := by kernel_rfl
theorem A54_ok : FnOk prog 54 A54 := by
  have h := fnOk_of_run (P := prog) (E := E54) (tysOk_of tyl_ok) E54_ok (L := L54_0) (ps := [.v (.pair (.int .i64) (.pair (.sl (.int .i64)) (.pair (.sl (.int .i64)) (.sl (.pair (.int .i64) (.pair .str (.pair (.int .i64) (.int .i64)))))))), .v (.int .i64)]) (own := true) (outs := [.int .i64]) func54 (c := codeOf f54) (by kernel_rfl) (codeOk_in (L := L54_0) (tysOk_of tyl_ok) E54_ok mixed (c := codeOf f54) (bs := []) (by kernel_rfl) allNil (by kernel_rfl))
  rw [spec_MostFactors_eq] at h
  exact h
/-! laws.FnHardest -/
noncomputable def E10 : Env := ⟨ty0, fun g => ifEq g 50 (some A50) (ifEq g 51 (some A51) (ifEq g 52 (some A52) (ifEq g 53 (some A53) (ifEq g 54 (some A54) (ifEq g 40 (some A40) (ifEq g 43 (some A43) (none))))))), fun _ => none, fun _ => none, fun _ => none⟩
theorem E10_ok : FnsOk prog E10 := (oneFn A50_ok func50 (by kernel_rfl) (by kernel_rfl) (oneFn A51_ok func51 (by kernel_rfl) (by kernel_rfl) (oneFn A52_ok func52 (by kernel_rfl) (by kernel_rfl) (oneFn A53_ok func53 (by kernel_rfl) (by kernel_rfl) (oneFn A54_ok func54 (by kernel_rfl) (by kernel_rfl) (oneFn A40_ok func40 (by kernel_rfl) (by kernel_rfl) (oneFn A43_ok func43 (by kernel_rfl) (by kernel_rfl) (noFns _ _))))))))
noncomputable def L10_0 : Nat → Option LoopD := fun _ => none
def sh10_12 : List Fm := [d, d, d, .box 100300 [.val (.int .i64), .val (.sl (.int .i64)), .val (.sl (.int .i64)), .val (.sl (.pair (.int .i64) (.pair .str (.pair (.int .i64) (.int .i64)))))], d, .cell (.val .str), d, d, d, .cell (.val (.int .i64)), d, d, .cell (.val .bool), d, d, d, d, d, d, d, d, d, d, d, d, d, d, d, d, d, d, d, d, d, d, d, d, d, d, d, d, d, d, d, d, d, d, d, d, d, d, d, d, d, d, d, d, d, d, d, d, d, d, d, d, d, d, d, d, d, d, d, d, d, d, d, d, d, d, d, d, d, .cell (.val (.sl .str)), .cell (.val (.int .i64)), .cell (.val (.int .i64)), d, d, d, d, d, d, d, d, d, d, d, d, d, d, d, d, d, d, d, d, d, d, d, d, d, d, d, d, d, d, d, d, d, d, d, d, d]
def xs10_12 : List (Ex × List Fm) := [(.ret, [d, d, .cell (.val .bool), d, d, d, d, d, d, d, d, d, d, d, d, d, d, d, d, d, d, d, d, d, d, d, d, d, d, d, d, d, d, d, d, d, d, d, d, d, d, d, d, d, d, d, d, d, d, d, d, d, d, d, d, d, d, d, d, d, d, d, d, d, d, d, d, d, d, d, d, d, d, d, d, d, d, d, d, d, d, d, d, d, d, d, d, d, d, d, d, d, d, d, d, d, d, d, d, d, d, d, d, d, d, d, d, d, d, d, d, d, d, d, d, d, d, d, d, d, d, d]), (.exit 0, [d, d, d, .box 100300 [.val (.int .i64), .val (.sl (.int .i64)), .val (.sl (.int .i64)), .val (.sl (.pair (.int .i64) (.pair .str (.pair (.int .i64) (.int .i64)))))], d, .cell (.val .str), d, d, d, .cell (.val (.int .i64)), d, d, .cell (.val .bool), d, d, d, d, d, d, d, d, d, d, d, d, d, d, d, d, d, d, d, d, d, d, d, d, d, d, d, d, d, d, d, d, d, d, d, d, d, d, d, d, d, d, d, d, d, d, d, d, d, d, d, d, d, d, d, d, d, d, d, d, d, d, d, d, d, d, d, d, d, d, d, d, d, d, d, d, d, d, d, d, d, d, d, d, d, d, d, d, d, d, d, d, d, d, d, d, d, d, d, d, d, d, d, d, d, d, d, d, d])]
noncomputable def laws_FnHardest_l12 : ((Int × (List Int) × (List Int) × (List (Int × (ByteArray × (Int × Int)))) × Unit) × ByteArray × Int × Bool × (List ByteArray) × Int × Int × Unit) → Option (((Int × (List Int) × (List Int) × (List (Int × (ByteArray × (Int × Int)))) × Unit) × ByteArray × Int × Bool × (List ByteArray) × Int × Int × Unit) ⊕ ((Bool × Unit) ⊕ ((Int × (List Int) × (List Int) × (List (Int × (ByteArray × (Int × Int)))) × Unit) × ByteArray × Int × Bool × Unit))) := fun ((v3_0, v3_1, v3_2, v3_3, _), v5, v9, v12, v82, v83, v84, _) =>
  bif (decide (v84 < v83)) then
    if (((0 : Int) ≤ v84) ∧ (v84 < (((List.length v82) : Nat) : Int))) then
      Option.bind (impl_FactorsOf (v3_0, v3_1, v3_2, v3_3) (List.getD v82 (Int.toNat v84) (⟨Array.empty⟩ : ByteArray))) fun r0 =>
        bif v12 then
          bif (decide (r0 < (1000000 : Int))) then
            bif (decide (r0 > v9)) then
              some (Sum.inr (Sum.inl (false, ())))
            else
              bif (r0 == v9) then
                some (Sum.inl ((v3_0, v3_1, v3_2, v3_3, ()), v5, v9, true, v82, v83, (IntKind.wrap .i64 (v84 + (1 : Int))), ()))
              else
                some (Sum.inl ((v3_0, v3_1, v3_2, v3_3, ()), v5, v9, true, v82, v83, (IntKind.wrap .i64 (v84 + (1 : Int))), ()))
          else
            some (Sum.inl ((v3_0, v3_1, v3_2, v3_3, ()), v5, v9, true, v82, v83, (IntKind.wrap .i64 (v84 + (1 : Int))), ()))
        else
          bif (decide (r0 < (1000000 : Int))) then
            bif (decide (r0 > v9)) then
              some (Sum.inr (Sum.inl (false, ())))
            else
              bif (r0 == v9) then
                bif (!((ByteArray.toList (List.getD v82 (Int.toNat v84) (⟨Array.empty⟩ : ByteArray))) == (ByteArray.toList v5))) then
                  some (Sum.inr (Sum.inl (false, ())))
                else
                  some (Sum.inl ((v3_0, v3_1, v3_2, v3_3, ()), v5, v9, ((ByteArray.toList (List.getD v82 (Int.toNat v84) (⟨Array.empty⟩ : ByteArray))) == (ByteArray.toList v5)), v82, v83, (IntKind.wrap .i64 (v84 + (1 : Int))), ()))
              else
                some (Sum.inl ((v3_0, v3_1, v3_2, v3_3, ()), v5, v9, ((ByteArray.toList (List.getD v82 (Int.toNat v84) (⟨Array.empty⟩ : ByteArray))) == (ByteArray.toList v5)), v82, v83, (IntKind.wrap .i64 (v84 + (1 : Int))), ()))
          else
            some (Sum.inl ((v3_0, v3_1, v3_2, v3_3, ()), v5, v9, ((ByteArray.toList (List.getD v82 (Int.toNat v84) (⟨Array.empty⟩ : ByteArray))) == (ByteArray.toList v5)), v82, v83, (IntKind.wrap .i64 (v84 + (1 : Int))), ()))
    else
      none
  else
    some (Sum.inr (Sum.inr ((v3_0, v3_1, v3_2, v3_3, ()), v5, v9, v12, ())))
theorem laws_FnHardest_l12_eq : loopStep 122 E10 L10_0 (loopOf f10 12) sh10_12 xs10_12 = laws_FnHardest_l12 := by kernel_rfl
theorem loop10_12 {L : Nat → Option LoopD} (h : L 12 = some ⟨122, sh10_12, xs10_12, laws_FnHardest_l12⟩) : LoopOk prog L (loopOf f10 12) :=
  loopOk (tysOk_of tyl_ok) E10_ok (codeOk_in (L := L10_0) (tysOk_of tyl_ok) E10_ok mixed (c := loopOf f10 12) (bs := []) (by kernel_rfl) allNil (by kernel_rfl)) (by kernel_rfl) (by kernel_rfl) laws_FnHardest_l12_eq (by rw [show firstId (loopOf f10 12) = 12 from by kernel_rfl]; exact h)
noncomputable def L10_1 : Nat → Option LoopD := fun n => ifEq n 12 (some ⟨122, sh10_12, xs10_12, laws_FnHardest_l12⟩) (L10_0 n)
noncomputable def laws_FnHardest : (List Int) → Option (Bool) := fun a0 =>
  bif (decide ((((List.length a0) : Nat) : Int) > (1048576 : Int))) then
    some true
  else
    Option.bind (spec_DrawHardestWord a0) fun ((r0, r1, r2, r3), r4) =>
      Option.bind (impl_HardestWord (r0, r1, r2, r3) r4) fun (r5, r6) =>
        Option.bind (spec_HardestWord (r0, r1, r2, r3) r4) fun (r7, r8) =>
          Option.bind (impl_MostFactors (r0, r1, r2, r3) r4) fun r9 =>
            bif (!((ByteArray.toList r5) == (ByteArray.toList r7))) then
              bif ((ByteArray.toList r5) == (ByteArray.toList r7)) then
                bif (r6 == r8) then
                  Option.bind (spec_MostFactors (r0, r1, r2, r3) r4) fun r10 =>
                    bif (r9 == r10) then
                      some (r9 == (-1 : Int))
                    else
                      some false
                else
                  some false
              else
                some false
            else
              bif (!(r6 == r8)) then
                bif ((ByteArray.toList r5) == (ByteArray.toList r7)) then
                  bif (r6 == r8) then
                    Option.bind (spec_MostFactors (r0, r1, r2, r3) r4) fun r11 =>
                      bif (r9 == r11) then
                        some (r9 == (-1 : Int))
                      else
                        some false
                  else
                    some false
                else
                  some false
              else
                Option.bind (spec_MostFactors (r0, r1, r2, r3) r4) fun r12 =>
                  bif (r9 != r12) then
                    bif ((ByteArray.toList r5) == (ByteArray.toList r7)) then
                      bif (r6 == r8) then
                        Option.bind (spec_MostFactors (r0, r1, r2, r3) r4) fun r13 =>
                          bif (r9 == r13) then
                            some (r9 == (-1 : Int))
                          else
                            some false
                      else
                        some false
                    else
                      some false
                  else
                    bif (!r6) then
                      bif ((ByteArray.toList r5) == (ByteArray.toList r7)) then
                        bif (r6 == r8) then
                          Option.bind (spec_MostFactors (r0, r1, r2, r3) r4) fun r14 =>
                            bif (r9 == r14) then
                              some (r9 == (-1 : Int))
                            else
                              some false
                        else
                          some false
                      else
                        some false
                    else
                      Option.bind (impl_ShortWords r4) fun (r15, r16) =>
                        Option.bind (loopF laws_FnHardest_l12 ((r0, r1, r2, r3, ()), r5, r9, false, r15, (((List.length r15) : Nat) : Int), (0 : Int), ())) fun r17 =>
                          (match r17 with
                          | .inl (d18, _) =>
                              some d18
                          | .inr ((d19, d20, d21, d22, _), d23, d24, d25, _) =>
                              bif d25 then
                                Option.bind (impl_FactorsOf (d19, d20, d21, d22) d23) fun r26 =>
                                  some (r26 == d24)
                              else
                                some false)
noncomputable def A10 : FnA := ⟨[.v (.sl (.int .u8))], true, [.bool], fun x => laws_FnHardest x.1⟩
theorem laws_FnHardest_eq : fnF E10 L10_1 [.v (.sl (.int .u8))] true [.bool] f10.ntmps f10.results.toList (codeOf f10) = fun x => laws_FnHardest x.1 := by kernel_rfl
theorem A10_ok : FnOk prog 10 A10 := by
  have h := fnOk_of_run (P := prog) (E := E10) (tysOk_of tyl_ok) E10_ok (L := L10_1) (ps := [.v (.sl (.int .u8))]) (own := true) (outs := [.bool]) func10 (c := codeOf f10) (by kernel_rfl) (codeOk_in (L := L10_1) (tysOk_of tyl_ok) E10_ok mixed (c := codeOf f10) (bs := [loopOf f10 12]) (by kernel_rfl) (allCons (loop10_12 rfl) allNil) (by kernel_rfl))
  rw [laws_FnHardest_eq] at h
  exact h
end Go.Proofs.Ytooigaliccnldaa
