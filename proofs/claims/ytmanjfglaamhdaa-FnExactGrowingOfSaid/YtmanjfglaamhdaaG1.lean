/- What Go functions that the laws reach compute, and that they do: written by a program of this session. -/
import Derived.Test.YtmanjfglaamhdaaG0
import Derived.KernelRfl
set_option linter.unusedVariables false
namespace Go.Proofs.Ytmanjfglaamhdaa
open Go Go.Proofs.Ytmanjfglaamhdaa.Am Go.Proofs.Try
set_option maxRecDepth 100000
/-! impl.StepMatrix -/
noncomputable def E76 : Env := ⟨ty0, fun g => ifEq g 25 (some A25) (ifEq g 55 (some A55) (ifEq g 80 (some A80) (none))), fun _ => none, fun _ => none, fun _ => none⟩
theorem E76_ok : FnsOk prog E76 := (oneFn A25_ok func25 (by kernel_rfl) (by kernel_rfl) (oneFn A55_ok func55 (by kernel_rfl) (by kernel_rfl) (oneFn A80_ok func80 (by kernel_rfl) (by kernel_rfl) (noFns _ _))))
noncomputable def L76_0 : Nat → Option LoopD := fun _ => none
def sh76_5 : List Fm := [d, .cell (.val .str), d, d, .box 100400 [.val (.int .i64), .own (.int .i64) 100402 false], d, .box 100600 [.val (.int .i64), .own (.int .i64) 100602 false], d, d, d, d, d, d, d, d, d, d, d, d, d, d, d, d, d, d, .cell (.val (.sl (.pair (.int .i64) (.pair .str (.pair (.int .i64) (.int .i64)))))), .cell (.val (.int .i64)), .cell (.val (.int .i64)), d, d, d, d, d, d, d, d, d, d, d, d, d, d, d, d, d, d, d, d, d, d]
def xs76_5 : List (Ex × List Fm) := [(.exit 0, [d, d, d, d, .box 100400 [.val (.int .i64), .own (.int .i64) 100402 false], d, .box 100600 [.val (.int .i64), .own (.int .i64) 100602 false], d, d, d, d, d, d, d, d, d, d, d, d, d, d, d, d, d, d, d, d, d, d, d, d, d, d, d, d, d, d, d, d, d, d, d, d, d, d, d, d, d, d, d])]
noncomputable def impl_StepMatrix_l5 : (ByteArray × (Int × (List Int) × Unit) × (Int × (List Int) × Unit) × (List (Int × (ByteArray × (Int × Int)))) × Int × Int × Unit) → Option ((ByteArray × (Int × (List Int) × Unit) × (Int × (List Int) × Unit) × (List (Int × (ByteArray × (Int × Int)))) × Int × Int × Unit) ⊕ (((Int × (List Int) × Unit) × (Int × (List Int) × Unit) × Unit))) := fun (v1, (v4_0, v4_1, _), (v6_0, v6_1, _), v25, v26, v27, _) =>
  bif (decide (v27 < v26)) then
    if (((0 : Int) ≤ v27) ∧ (v27 < (((List.length v25) : Nat) : Int))) then
      bif ((ByteArray.toList (List.getD v25 (Int.toNat v27) ((0 : Int), (⟨Array.empty⟩ : ByteArray), (0 : Int), (0 : Int))).2.1) == (ByteArray.toList v1)) then
        if (((0 : Int) ≤ (IntKind.wrap .i64 ((IntKind.wrap .i64 ((List.getD v25 (Int.toNat v27) ((0 : Int), (⟨Array.empty⟩ : ByteArray), (0 : Int), (0 : Int))).1 * v6_0)) + (List.getD v25 (Int.toNat v27) ((0 : Int), (⟨Array.empty⟩ : ByteArray), (0 : Int), (0 : Int))).2.2.1))) ∧ ((IntKind.wrap .i64 ((IntKind.wrap .i64 ((List.getD v25 (Int.toNat v27) ((0 : Int), (⟨Array.empty⟩ : ByteArray), (0 : Int), (0 : Int))).1 * v6_0)) + (List.getD v25 (Int.toNat v27) ((0 : Int), (⟨Array.empty⟩ : ByteArray), (0 : Int), (0 : Int))).2.2.1)) < (((List.length v6_1) : Nat) : Int))) then
          some (Sum.inl (v1, (v4_0, (List.take (List.length v4_1) (List.drop 0 v4_1)), ()), (v6_0, (List.take (List.length v6_1) (List.drop 0 (List.set v6_1 (0 + (Int.toNat (IntKind.wrap .i64 ((IntKind.wrap .i64 ((List.getD v25 (Int.toNat v27) ((0 : Int), (⟨Array.empty⟩ : ByteArray), (0 : Int), (0 : Int))).1 * v6_0)) + (List.getD v25 (Int.toNat v27) ((0 : Int), (⟨Array.empty⟩ : ByteArray), (0 : Int), (0 : Int))).2.2.1)))) (List.getD v25 (Int.toNat v27) ((0 : Int), (⟨Array.empty⟩ : ByteArray), (0 : Int), (0 : Int))).2.2.2))), ()), v25, v26, (IntKind.wrap .i64 (v27 + (1 : Int))), ()))
        else
          none
      else
        some (Sum.inl (v1, (v4_0, (List.take (List.length v4_1) (List.drop 0 v4_1)), ()), (v6_0, (List.take (List.length v6_1) (List.drop 0 v6_1)), ()), v25, v26, (IntKind.wrap .i64 (v27 + (1 : Int))), ()))
    else
      none
  else
    some (Sum.inr ((v4_0, (List.take (List.length v4_1) (List.drop 0 v4_1)), ()), (v6_0, (List.take (List.length v6_1) (List.drop 0 v6_1)), ()), ()))
theorem impl_StepMatrix_l5_eq : loopStep 50 E76 L76_0 (loopOf f76 5) sh76_5 xs76_5 = impl_StepMatrix_l5 := by kernel_rfl
theorem loop76_5 {L : Nat → Option LoopD} (h : L 5 = some ⟨50, sh76_5, xs76_5, impl_StepMatrix_l5⟩) : LoopOk prog L (loopOf f76 5) :=
  loopOk (tysOk_of tyl_ok) E76_ok (codeOk_in (L := L76_0) (tysOk_of tyl_ok) E76_ok mixed (c := loopOf f76 5) (bs := []) (by kernel_rfl) allNil (by kernel_rfl)) (by kernel_rfl) (by kernel_rfl) impl_StepMatrix_l5_eq (by rw [show firstId (loopOf f76 5) = 5 from by kernel_rfl]; exact h)
noncomputable def L76_1 : Nat → Option LoopD := fun n => ifEq n 5 (some ⟨50, sh76_5, xs76_5, impl_StepMatrix_l5⟩) (L76_0 n)
noncomputable def impl_StepMatrix : (Int × ((List Int) × ((List Int) × (List (Int × (ByteArray × (Int × Int))))))) → ByteArray → Option ((Int × (List Int)) × Bool) := fun (a0_0, a0_1, a0_2, a0_3) a1 =>
  Option.bind (impl_AutomatonValid (a0_0, a0_1, a0_2, a0_3)) fun r0 =>
    bif (!r0) then
      some (((0 : Int), []), false)
    else
      bif (!((ByteArray.toList a1) == (ByteArray.toList (⟨#[(97 : UInt8)]⟩ : ByteArray)))) then
        bif (!((ByteArray.toList a1) == (ByteArray.toList (⟨#[(98 : UInt8)]⟩ : ByteArray)))) then
          some (((0 : Int), []), false)
        else
          Option.bind (impl_filled a0_0 (fun y1 => (impl_StepMatrix_1 y1.1 y1.2.1))) fun (r2, r3) =>
            Option.bind (loopF impl_StepMatrix_l5 (a1, ((0 : Int), [], ()), (r2, (List.take (List.length r3) (List.drop 0 r3)), ()), a0_3, (((List.length a0_3) : Nat) : Int), (0 : Int), ())) fun ((r4, r5, _), (r6, r7, _), _) =>
              some ((r6, (List.take (List.length r7) (List.drop 0 r7))), true)
      else
        Option.bind (impl_filled a0_0 (fun y8 => (impl_StepMatrix_1 y8.1 y8.2.1))) fun (r9, r10) =>
          Option.bind (loopF impl_StepMatrix_l5 (a1, ((0 : Int), [], ()), (r9, (List.take (List.length r10) (List.drop 0 r10)), ()), a0_3, (((List.length a0_3) : Nat) : Int), (0 : Int), ())) fun ((r11, r12, _), (r13, r14, _), _) =>
            some ((r13, (List.take (List.length r14) (List.drop 0 r14))), true)
noncomputable def A76 : FnA := ⟨[.v (.pair (.int .i64) (.pair (.sl (.int .i64)) (.pair (.sl (.int .i64)) (.sl (.pair (.int .i64) (.pair .str (.pair (.int .i64) (.int .i64)))))))), .v .str], true, [.pair (.int .i64) (.sl (.int .i64)), .bool], fun x => impl_StepMatrix x.1 x.2.1⟩
theorem impl_StepMatrix_eq : fnF E76 L76_1 [.v (.pair (.int .i64) (.pair (.sl (.int .i64)) (.pair (.sl (.int .i64)) (.sl (.pair (.int .i64) (.pair .str (.pair (.int .i64) (.int .i64)))))))), .v .str] true [.pair (.int .i64) (.sl (.int .i64)), .bool] f76.ntmps f76.results.toList (codeOf f76) = fun x => impl_StepMatrix x.1 x.2.1 := by kernel_rfl
theorem A76_ok : FnOk prog 76 A76 := by
  have h := fnOk_of_run (P := prog) (E := E76) (tysOk_of tyl_ok) E76_ok (L := L76_1) (ps := [.v (.pair (.int .i64) (.pair (.sl (.int .i64)) (.pair (.sl (.int .i64)) (.sl (.pair (.int .i64) (.pair .str (.pair (.int .i64) (.int .i64)))))))), .v .str]) (own := true) (outs := [.pair (.int .i64) (.sl (.int .i64)), .bool]) func76 (c := codeOf f76) (by kernel_rfl) (codeOk_in (L := L76_1) (tysOk_of tyl_ok) E76_ok mixed (c := codeOf f76) (bs := [loopOf f76 5]) (by kernel_rfl) (allCons (loop76_5 rfl) allNil) (by kernel_rfl))
  rw [impl_StepMatrix_eq] at h
  exact h
/-! slices.IndexFunc[[]int,int] -/
noncomputable def E66 : Env := ⟨ty0, fun _ => none, fun _ => none, fun _ => none, fun _ => none⟩
theorem E66_ok : FnsOk prog E66 := (noFns _ _)
noncomputable def L66_0 : Nat → Option LoopD := fun _ => none
def sh66_2 : List Fm := [.cell (.val (.sl (.int .i64))), .clo [.int .i64] .bool, d, d, d, d, d, .cell (.val (.int .i64)), .cell (.val (.int .i64)), d, d, d, d, d, d, d, d, d, d]
def xs66_2 : List (Ex × List Fm) := [(.ret, [d, d, d, d, .cell (.val (.int .i64)), d, d, d, d, d, d, d, d, d, d, d, d, d, d]), (.exit 0, [d, d, d, d, d, d, d, d, d, d, d, d, d, d, d, d, d, d, d])]
noncomputable def slices_IndexFunc_l2 : ((List Int) × ((Int × Unit) → Option (Bool)) × Int × Int × Unit) → Option (((List Int) × ((Int × Unit) → Option (Bool)) × Int × Int × Unit) ⊕ ((Int × Unit) ⊕ (Unit))) := fun (v0, v1, v7, v8, _) =>
  bif (decide (v8 < v7)) then
    if (((0 : Int) ≤ v8) ∧ (v8 < (((List.length v0) : Nat) : Int))) then
      Option.bind (v1 ((List.getD v0 (Int.toNat v8) (0 : Int)), ())) fun r0 =>
        bif r0 then
          some (Sum.inr (Sum.inl (v8, ())))
        else
          some (Sum.inl (v0, v1, v7, (IntKind.wrap .i64 (v8 + (1 : Int))), ()))
    else
      none
  else
    some (Sum.inr (Sum.inr ()))
theorem slices_IndexFunc_l2_eq : loopStep 19 E66 L66_0 (loopOf f66 2) sh66_2 xs66_2 = slices_IndexFunc_l2 := by kernel_rfl
theorem loop66_2 {L : Nat → Option LoopD} (h : L 2 = some ⟨19, sh66_2, xs66_2, slices_IndexFunc_l2⟩) : LoopOk prog L (loopOf f66 2) :=
  loopOk (tysOk_of tyl_ok) E66_ok (codeOk_in (L := L66_0) (tysOk_of tyl_ok) E66_ok mixed (c := loopOf f66 2) (bs := []) (by kernel_rfl) allNil (by kernel_rfl)) (by kernel_rfl) (by kernel_rfl) slices_IndexFunc_l2_eq (by rw [show firstId (loopOf f66 2) = 2 from by kernel_rfl]; exact h)
noncomputable def L66_1 : Nat → Option LoopD := fun n => ifEq n 2 (some ⟨19, sh66_2, xs66_2, slices_IndexFunc_l2⟩) (L66_0 n)
noncomputable def slices_IndexFunc : (List Int) → ((Int × Unit) → Option (Bool)) → Option (Int) := fun a0 a1 =>
  Option.bind (loopF slices_IndexFunc_l2 (a0, a1, (((List.length a0) : Nat) : Int), (0 : Int), ())) fun r0 =>
    (match r0 with
    | .inl (d1, _) =>
        some d1
    | .inr _ =>
        some (-1 : Int))
noncomputable def A66 : FnA := ⟨[.v (.sl (.int .i64)), .clo [.int .i64] .bool], true, [.int .i64], fun x => slices_IndexFunc x.1 x.2.1⟩
theorem slices_IndexFunc_eq : fnF E66 L66_1 [.v (.sl (.int .i64)), .clo [.int .i64] .bool] true [.int .i64] f66.ntmps f66.results.toList (codeOf f66) = fun x => slices_IndexFunc x.1 x.2.1 := by kernel_rfl
theorem A66_ok : FnOk prog 66 A66 := by
  have h := fnOk_of_run (P := prog) (E := E66) (tysOk_of tyl_ok) E66_ok (L := L66_1) (ps := [.v (.sl (.int .i64)), .clo [.int .i64] .bool]) (own := true) (outs := [.int .i64]) func66 (c := codeOf f66) (by kernel_rfl) (codeOk_in (L := L66_1) (tysOk_of tyl_ok) E66_ok mixed (c := codeOf f66) (bs := [loopOf f66 2]) (by kernel_rfl) (allCons (loop66_2 rfl) allNil) (by kernel_rfl))
  rw [slices_IndexFunc_eq] at h
  exact h
/-! slices.ContainsFunc[[]int,int] -/
noncomputable def E40 : Env := ⟨ty0, fun g => ifEq g 66 (some A66) (none), fun _ => none, fun _ => none, fun _ => none⟩
theorem E40_ok : FnsOk prog E40 := (oneFn A66_ok func66 (by kernel_rfl) (by kernel_rfl) (noFns _ _))
noncomputable def L40_0 : Nat → Option LoopD := fun _ => none
noncomputable def slices_ContainsFunc : (List Int) → ((Int × Unit) → Option (Bool)) → Option (Bool) := fun a0 a1 =>
  Option.bind (slices_IndexFunc a0 a1) fun r0 =>
    some (decide (r0 ≥ (0 : Int)))
noncomputable def A40 : FnA := ⟨[.v (.sl (.int .i64)), .clo [.int .i64] .bool], true, [.bool], fun x => slices_ContainsFunc x.1 x.2.1⟩
theorem slices_ContainsFunc_eq : fnF E40 L40_0 [.v (.sl (.int .i64)), .clo [.int .i64] .bool] true [.bool] f40.ntmps f40.results.toList (codeOf f40) = fun x => slices_ContainsFunc x.1 x.2.1 := by kernel_rfl
theorem A40_ok : FnOk prog 40 A40 := by
  have h := fnOk_of_run (P := prog) (E := E40) (tysOk_of tyl_ok) E40_ok (L := L40_0) (ps := [.v (.sl (.int .i64)), .clo [.int .i64] .bool]) (own := true) (outs := [.bool]) func40 (c := codeOf f40) (by kernel_rfl) (codeOk_in (L := L40_0) (tysOk_of tyl_ok) E40_ok mixed (c := codeOf f40) (bs := []) (by kernel_rfl) allNil (by kernel_rfl))
  rw [slices_ContainsFunc_eq] at h
  exact h
/-! impl.CostValid -/
noncomputable def E65 : Env := ⟨ty0, fun _ => none, fun _ => none, fun _ => none, fun _ => none⟩
theorem E65_ok : FnsOk prog E65 := (noFns _ _)
noncomputable def L65_0 : Nat → Option LoopD := fun _ => none
noncomputable def impl_CostValid : Int → Option (Bool) := fun a0 =>
  bif (decide (a0 ≥ (0 : Int))) then
    some (decide (a0 ≤ (1000000 : Int)))
  else
    some false
noncomputable def A65 : FnA := ⟨[.v (.int .i64)], true, [.bool], fun x => impl_CostValid x.1⟩
theorem impl_CostValid_eq : fnF E65 L65_0 [.v (.int .i64)] true [.bool] f65.ntmps f65.results.toList (codeOf f65) = fun x => impl_CostValid x.1 := by kernel_rfl
theorem A65_ok : FnOk prog 65 A65 := by
  have h := fnOk_of_run (P := prog) (E := E65) (tysOk_of tyl_ok) E65_ok (L := L65_0) (ps := [.v (.int .i64)]) (own := true) (outs := [.bool]) func65 (c := codeOf f65) (by kernel_rfl) (codeOk_in (L := L65_0) (tysOk_of tyl_ok) E65_ok mixed (c := codeOf f65) (bs := []) (by kernel_rfl) allNil (by kernel_rfl))
  rw [impl_CostValid_eq] at h
  exact h
/-! impl.MatrixValid$1 -/
noncomputable def E64 : Env := ⟨ty0, fun g => ifEq g 65 (some A65) (none), fun _ => none, fun _ => none, fun _ => none⟩
theorem E64_ok : FnsOk prog E64 := (oneFn A65_ok func65 (by kernel_rfl) (by kernel_rfl) (noFns _ _))
noncomputable def L64_0 : Nat → Option LoopD := fun _ => none
noncomputable def impl_MatrixValid_1 : Int → Option (Bool) := fun a0 =>
  Option.bind (impl_CostValid a0) fun r0 =>
    some (!r0)
noncomputable def A64 : FnA := ⟨[.v (.int .i64)], true, [.bool], fun x => impl_MatrixValid_1 x.1⟩
theorem impl_MatrixValid_1_eq : fnF E64 L64_0 [.v (.int .i64)] true [.bool] f64.ntmps f64.results.toList (codeOf f64) = fun x => impl_MatrixValid_1 x.1 := by kernel_rfl
theorem A64_ok : FnOk prog 64 A64 := by
  have h := fnOk_of_run (P := prog) (E := E64) (tysOk_of tyl_ok) E64_ok (L := L64_0) (ps := [.v (.int .i64)]) (own := true) (outs := [.bool]) func64 (c := codeOf f64) (by kernel_rfl) (codeOk_in (L := L64_0) (tysOk_of tyl_ok) E64_ok mixed (c := codeOf f64) (bs := []) (by kernel_rfl) allNil (by kernel_rfl))
  rw [impl_MatrixValid_1_eq] at h
  exact h
/-! impl.MatrixValid -/
noncomputable def E39 : Env := ⟨ty0, fun g => ifEq g 40 (some A40) (ifEq g 64 (some A64) (none)), fun _ => none, fun _ => none, fun _ => none⟩
theorem E39_ok : FnsOk prog E39 := (oneFn A40_ok func40 (by kernel_rfl) (by kernel_rfl) (oneFn A64_ok func64 (by kernel_rfl) (by kernel_rfl) (noFns _ _)))
noncomputable def L39_0 : Nat → Option LoopD := fun _ => none
noncomputable def impl_MatrixValid : (Int × (List Int)) → Option (Bool) := fun (a0_0, a0_1) =>
  bif (decide (a0_0 < (1 : Int))) then
    some false
  else
    bif (decide (a0_0 > (4 : Int))) then
      some false
    else
      bif ((((List.length a0_1) : Nat) : Int) != (IntKind.wrap .i64 (a0_0 * a0_0))) then
        some false
      else
        Option.bind (slices_ContainsFunc a0_1 (fun y0 => (impl_MatrixValid_1 y0.1))) fun r1 =>
          some (!r1)
noncomputable def A39 : FnA := ⟨[.v (.pair (.int .i64) (.sl (.int .i64)))], true, [.bool], fun x => impl_MatrixValid x.1⟩
theorem impl_MatrixValid_eq : fnF E39 L39_0 [.v (.pair (.int .i64) (.sl (.int .i64)))] true [.bool] f39.ntmps f39.results.toList (codeOf f39) = fun x => impl_MatrixValid x.1 := by kernel_rfl
theorem A39_ok : FnOk prog 39 A39 := by
  have h := fnOk_of_run (P := prog) (E := E39) (tysOk_of tyl_ok) E39_ok (L := L39_0) (ps := [.v (.pair (.int .i64) (.sl (.int .i64)))]) (own := true) (outs := [.bool]) func39 (c := codeOf f39) (by kernel_rfl) (codeOk_in (L := L39_0) (tysOk_of tyl_ok) E39_ok mixed (c := codeOf f39) (bs := []) (by kernel_rfl) allNil (by kernel_rfl))
  rw [impl_MatrixValid_eq] at h
  exact h
/-! (impl.Matrix).at -/
noncomputable def E27 : Env := ⟨ty0, fun _ => none, fun _ => none, fun _ => none, fun _ => none⟩
theorem E27_ok : FnsOk prog E27 := (noFns _ _)
noncomputable def L27_0 : Nat → Option LoopD := fun _ => none
noncomputable def impl_Matrix_at : (Int × (List Int)) → Int → Int → Option (Int) := fun (a0_0, a0_1) a1 a2 =>
  if (((0 : Int) ≤ (IntKind.wrap .i64 ((IntKind.wrap .i64 (a1 * a0_0)) + a2))) ∧ ((IntKind.wrap .i64 ((IntKind.wrap .i64 (a1 * a0_0)) + a2)) < (((List.length a0_1) : Nat) : Int))) then
    some (List.getD a0_1 (Int.toNat (IntKind.wrap .i64 ((IntKind.wrap .i64 (a1 * a0_0)) + a2))) (0 : Int))
  else
    none
noncomputable def A27 : FnA := ⟨[.v (.pair (.int .i64) (.sl (.int .i64))), .v (.int .i64), .v (.int .i64)], true, [.int .i64], fun x => impl_Matrix_at x.1 x.2.1 x.2.2.1⟩
theorem impl_Matrix_at_eq : fnF E27 L27_0 [.v (.pair (.int .i64) (.sl (.int .i64))), .v (.int .i64), .v (.int .i64)] true [.int .i64] f27.ntmps f27.results.toList (codeOf f27) = fun x => impl_Matrix_at x.1 x.2.1 x.2.2.1 := by kernel_rfl
theorem A27_ok : FnOk prog 27 A27 := by
  have h := fnOk_of_run (P := prog) (E := E27) (tysOk_of tyl_ok) E27_ok (L := L27_0) (ps := [.v (.pair (.int .i64) (.sl (.int .i64))), .v (.int .i64), .v (.int .i64)]) (own := true) (outs := [.int .i64]) func27 (c := codeOf f27) (by kernel_rfl) (codeOk_in (L := L27_0) (tysOk_of tyl_ok) E27_ok mixed (c := codeOf f27) (bs := []) (by kernel_rfl) allNil (by kernel_rfl))
  rw [impl_Matrix_at_eq] at h
  exact h
/-! impl.GradesOf$1 -/
noncomputable def E81 : Env := ⟨ty0, fun g => ifEq g 27 (some A27) (none), fun _ => none, fun _ => none, fun _ => none⟩
theorem E81_ok : FnsOk prog E81 := (oneFn A27_ok func27 (by kernel_rfl) (by kernel_rfl) (noFns _ _))
noncomputable def L81_0 : Nat → Option LoopD := fun _ => none
noncomputable def impl_GradesOf_1 : Int → Int → (Int × (List Int)) → Option (Int) := fun a0 a1 (a2_0, a2_1) =>
  Option.bind (impl_Matrix_at (a2_0, a2_1) a0 a1) fun r0 =>
    bif (r0 == (0 : Int)) then
      some (0 : Int)
    else
      bif (r0 == (1000000 : Int)) then
        some (3 : Int)
      else
        some (1 : Int)
noncomputable def A81 : FnA := ⟨[.v (.int .i64), .v (.int .i64), .cap (.pair (.int .i64) (.sl (.int .i64)))], true, [.int .i64], fun x => impl_GradesOf_1 x.1 x.2.1 x.2.2.1⟩
theorem impl_GradesOf_1_eq : fnF E81 L81_0 [.v (.int .i64), .v (.int .i64), .cap (.pair (.int .i64) (.sl (.int .i64)))] true [.int .i64] f81.ntmps f81.results.toList (codeOf f81) = fun x => impl_GradesOf_1 x.1 x.2.1 x.2.2.1 := by kernel_rfl
theorem A81_ok : FnOk prog 81 A81 := by
  have h := fnOk_of_run (P := prog) (E := E81) (tysOk_of tyl_ok) E81_ok (L := L81_0) (ps := [.v (.int .i64), .v (.int .i64), .cap (.pair (.int .i64) (.sl (.int .i64)))]) (own := true) (outs := [.int .i64]) func81 (c := codeOf f81) (by kernel_rfl) (codeOk_in (L := L81_0) (tysOk_of tyl_ok) E81_ok mixed (c := codeOf f81) (bs := []) (by kernel_rfl) allNil (by kernel_rfl))
  rw [impl_GradesOf_1_eq] at h
  exact h
/-! impl.GradesOf -/
noncomputable def E77 : Env := ⟨ty0, fun g => ifEq g 39 (some A39) (ifEq g 55 (some A55) (ifEq g 81 (some A81) (none))), fun _ => none, fun _ => none, fun _ => none⟩
theorem E77_ok : FnsOk prog E77 := (oneFn A39_ok func39 (by kernel_rfl) (by kernel_rfl) (oneFn A55_ok func55 (by kernel_rfl) (by kernel_rfl) (oneFn A81_ok func81 (by kernel_rfl) (by kernel_rfl) (noFns _ _))))
noncomputable def L77_0 : Nat → Option LoopD := fun _ => none
noncomputable def impl_GradesOf : (Int × (List Int)) → Option ((Int × (List Int)) × Bool) := fun (a0_0, a0_1) =>
  Option.bind (impl_MatrixValid (a0_0, a0_1)) fun r0 =>
    bif (!r0) then
      some (((0 : Int), []), false)
    else
      Option.bind (impl_filled a0_0 (fun y1 => (impl_GradesOf_1 y1.1 y1.2.1 (a0_0, a0_1)))) fun (r2, r3) =>
        some ((r2, (List.take (List.length r3) (List.drop 0 r3))), true)
noncomputable def A77 : FnA := ⟨[.v (.pair (.int .i64) (.sl (.int .i64)))], true, [.pair (.int .i64) (.sl (.int .i64)), .bool], fun x => impl_GradesOf x.1⟩
theorem impl_GradesOf_eq : fnF E77 L77_0 [.v (.pair (.int .i64) (.sl (.int .i64)))] true [.pair (.int .i64) (.sl (.int .i64)), .bool] f77.ntmps f77.results.toList (codeOf f77) = fun x => impl_GradesOf x.1 := by kernel_rfl
theorem A77_ok : FnOk prog 77 A77 := by
  have h := fnOk_of_run (P := prog) (E := E77) (tysOk_of tyl_ok) E77_ok (L := L77_0) (ps := [.v (.pair (.int .i64) (.sl (.int .i64)))]) (own := true) (outs := [.pair (.int .i64) (.sl (.int .i64)), .bool]) func77 (c := codeOf f77) (by kernel_rfl) (codeOk_in (L := L77_0) (tysOk_of tyl_ok) E77_ok mixed (c := codeOf f77) (bs := []) (by kernel_rfl) allNil (by kernel_rfl))
  rw [impl_GradesOf_eq] at h
  exact h
/-! impl.GradesValid$1 -/
noncomputable def E41 : Env := ⟨ty0, fun _ => none, fun _ => none, fun _ => none, fun _ => none⟩
theorem E41_ok : FnsOk prog E41 := (noFns _ _)
noncomputable def L41_0 : Nat → Option LoopD := fun _ => none
noncomputable def impl_GradesValid_1 : Int → Option (Bool) := fun a0 =>
  some (decide (a0 > (3 : Int)))
noncomputable def A41 : FnA := ⟨[.v (.int .i64)], true, [.bool], fun x => impl_GradesValid_1 x.1⟩
theorem impl_GradesValid_1_eq : fnF E41 L41_0 [.v (.int .i64)] true [.bool] f41.ntmps f41.results.toList (codeOf f41) = fun x => impl_GradesValid_1 x.1 := by kernel_rfl
theorem A41_ok : FnOk prog 41 A41 := by
  have h := fnOk_of_run (P := prog) (E := E41) (tysOk_of tyl_ok) E41_ok (L := L41_0) (ps := [.v (.int .i64)]) (own := true) (outs := [.bool]) func41 (c := codeOf f41) (by kernel_rfl) (codeOk_in (L := L41_0) (tysOk_of tyl_ok) E41_ok mixed (c := codeOf f41) (bs := []) (by kernel_rfl) allNil (by kernel_rfl))
  rw [impl_GradesValid_1_eq] at h
  exact h
/-! impl.GradesValid -/
noncomputable def E26 : Env := ⟨ty0, fun g => ifEq g 39 (some A39) (ifEq g 40 (some A40) (ifEq g 41 (some A41) (none))), fun _ => none, fun _ => none, fun _ => none⟩
theorem E26_ok : FnsOk prog E26 := (oneFn A39_ok func39 (by kernel_rfl) (by kernel_rfl) (oneFn A40_ok func40 (by kernel_rfl) (by kernel_rfl) (oneFn A41_ok func41 (by kernel_rfl) (by kernel_rfl) (noFns _ _))))
noncomputable def L26_0 : Nat → Option LoopD := fun _ => none
noncomputable def impl_GradesValid : (Int × (List Int)) → Option (Bool) := fun (a0_0, a0_1) =>
  Option.bind (impl_MatrixValid (a0_0, a0_1)) fun r0 =>
    bif r0 then
      Option.bind (slices_ContainsFunc a0_1 (fun y1 => (impl_GradesValid_1 y1.1))) fun r2 =>
        some (!r2)
    else
      some false
noncomputable def A26 : FnA := ⟨[.v (.pair (.int .i64) (.sl (.int .i64)))], true, [.bool], fun x => impl_GradesValid x.1⟩
theorem impl_GradesValid_eq : fnF E26 L26_0 [.v (.pair (.int .i64) (.sl (.int .i64)))] true [.bool] f26.ntmps f26.results.toList (codeOf f26) = fun x => impl_GradesValid x.1 := by kernel_rfl
theorem A26_ok : FnOk prog 26 A26 := by
  have h := fnOk_of_run (P := prog) (E := E26) (tysOk_of tyl_ok) E26_ok (L := L26_0) (ps := [.v (.pair (.int .i64) (.sl (.int .i64)))]) (own := true) (outs := [.bool]) func26 (c := codeOf f26) (by kernel_rfl) (codeOk_in (L := L26_0) (tysOk_of tyl_ok) E26_ok mixed (c := codeOf f26) (bs := []) (by kernel_rfl) allNil (by kernel_rfl))
  rw [impl_GradesValid_eq] at h
  exact h
/-! impl.MulGrades$1 -/
noncomputable def E60 : Env := ⟨ty0, fun g => ifEq g 27 (some A27) (none), fun _ => none, fun _ => none, fun _ => none⟩
theorem E60_ok : FnsOk prog E60 := (oneFn A27_ok func27 (by kernel_rfl) (by kernel_rfl) (noFns _ _))
noncomputable def L60_0 : Nat → Option LoopD := fun _ => none
def sh60_3 : List Fm := [.cell (.val (.int .i64)), .cell (.val (.int .i64)), .fp (.pair (.int .i64) (.sl (.int .i64))), .fp (.pair (.int .i64) (.sl (.int .i64))), d, d, d, .cell (.val (.int .i64)), d, d, .cell (.val (.int .i64)), .cell (.val (.int .i64)), d, d, d, d, d, d, d, d, d, d, d, d, d, d, d]
def xs60_3 : List (Ex × List Fm) := [(.exit 0, [d, d, d, d, d, d, d, .cell (.val (.int .i64)), d, d, d, d, d, d, d, d, d, d, d, d, d, d, d, d, d, d, d])]
noncomputable def impl_MulGrades_1_l3 : (Int × Int × (Int × (List Int)) × (Int × (List Int)) × Int × Int × Int × Unit) → Option ((Int × Int × (Int × (List Int)) × (Int × (List Int)) × Int × Int × Int × Unit) ⊕ ((Int × Unit))) := fun (v0, v1, (v2_0, v2_1), (v3_0, v3_1), v7, v10, v11, _) =>
  bif (decide (v11 < v10)) then
    Option.bind (impl_Matrix_at (v2_0, v2_1) v0 v11) fun r0 =>
      Option.bind (impl_Matrix_at (v3_0, v3_1) v11 v1) fun r1 =>
        some (Sum.inl (v0, v1, (v2_0, v2_1), (v3_0, v3_1), (if ((if (r1 > r0) then r1 else r0) < v7) then (if (r1 > r0) then r1 else r0) else v7), v10, (IntKind.wrap .i64 (v11 + (1 : Int))), ()))
  else
    some (Sum.inr (v7, ()))
theorem impl_MulGrades_1_l3_eq : loopStep 27 E60 L60_0 (loopOf f60 3) sh60_3 xs60_3 = impl_MulGrades_1_l3 := by kernel_rfl
theorem loop60_3 {L : Nat → Option LoopD} (h : L 3 = some ⟨27, sh60_3, xs60_3, impl_MulGrades_1_l3⟩) : LoopOk prog L (loopOf f60 3) :=
  loopOk (tysOk_of tyl_ok) E60_ok (codeOk_in (L := L60_0) (tysOk_of tyl_ok) E60_ok mixed (c := loopOf f60 3) (bs := []) (by kernel_rfl) allNil (by kernel_rfl)) (by kernel_rfl) (by kernel_rfl) impl_MulGrades_1_l3_eq (by rw [show firstId (loopOf f60 3) = 3 from by kernel_rfl]; exact h)
noncomputable def L60_1 : Nat → Option LoopD := fun n => ifEq n 3 (some ⟨27, sh60_3, xs60_3, impl_MulGrades_1_l3⟩) (L60_0 n)
noncomputable def impl_MulGrades_1 : Int → Int → (Int × (List Int)) → (Int × (List Int)) → Option (Int) := fun a0 a1 (a2_0, a2_1) (a3_0, a3_1) =>
  Option.bind (loopF impl_MulGrades_1_l3 (a0, a1, (a2_0, a2_1), (a3_0, a3_1), (3 : Int), a2_0, (0 : Int), ())) fun (r0, _) =>
    some r0
noncomputable def A60 : FnA := ⟨[.v (.int .i64), .v (.int .i64), .cap (.pair (.int .i64) (.sl (.int .i64))), .cap (.pair (.int .i64) (.sl (.int .i64)))], true, [.int .i64], fun x => impl_MulGrades_1 x.1 x.2.1 x.2.2.1 x.2.2.2.1⟩
theorem impl_MulGrades_1_eq : fnF E60 L60_1 [.v (.int .i64), .v (.int .i64), .cap (.pair (.int .i64) (.sl (.int .i64))), .cap (.pair (.int .i64) (.sl (.int .i64)))] true [.int .i64] f60.ntmps f60.results.toList (codeOf f60) = fun x => impl_MulGrades_1 x.1 x.2.1 x.2.2.1 x.2.2.2.1 := by kernel_rfl
theorem A60_ok : FnOk prog 60 A60 := by
  have h := fnOk_of_run (P := prog) (E := E60) (tysOk_of tyl_ok) E60_ok (L := L60_1) (ps := [.v (.int .i64), .v (.int .i64), .cap (.pair (.int .i64) (.sl (.int .i64))), .cap (.pair (.int .i64) (.sl (.int .i64)))]) (own := true) (outs := [.int .i64]) func60 (c := codeOf f60) (by kernel_rfl) (codeOk_in (L := L60_1) (tysOk_of tyl_ok) E60_ok mixed (c := codeOf f60) (bs := [loopOf f60 3]) (by kernel_rfl) (allCons (loop60_3 rfl) allNil) (by kernel_rfl))
  rw [impl_MulGrades_1_eq] at h
  exact h
/-! impl.MulGrades -/
noncomputable def E36 : Env := ⟨ty0, fun g => ifEq g 26 (some A26) (ifEq g 55 (some A55) (ifEq g 60 (some A60) (none))), fun _ => none, fun _ => none, fun _ => none⟩
theorem E36_ok : FnsOk prog E36 := (oneFn A26_ok func26 (by kernel_rfl) (by kernel_rfl) (oneFn A55_ok func55 (by kernel_rfl) (by kernel_rfl) (oneFn A60_ok func60 (by kernel_rfl) (by kernel_rfl) (noFns _ _))))
noncomputable def L36_0 : Nat → Option LoopD := fun _ => none
noncomputable def impl_MulGrades : (Int × (List Int)) → (Int × (List Int)) → Option ((Int × (List Int)) × Bool) := fun (a0_0, a0_1) (a1_0, a1_1) =>
  Option.bind (impl_GradesValid (a0_0, a0_1)) fun r0 =>
    bif (!r0) then
      some (((0 : Int), []), false)
    else
      Option.bind (impl_GradesValid (a1_0, a1_1)) fun r1 =>
        bif (!r1) then
          some (((0 : Int), []), false)
        else
          bif (a0_0 != a1_0) then
            some (((0 : Int), []), false)
          else
            Option.bind (impl_filled a0_0 (fun y2 => (impl_MulGrades_1 y2.1 y2.2.1 (a0_0, a0_1) (a1_0, a1_1)))) fun (r3, r4) =>
              some ((r3, (List.take (List.length r4) (List.drop 0 r4))), true)
noncomputable def A36 : FnA := ⟨[.v (.pair (.int .i64) (.sl (.int .i64))), .v (.pair (.int .i64) (.sl (.int .i64)))], true, [.pair (.int .i64) (.sl (.int .i64)), .bool], fun x => impl_MulGrades x.1 x.2.1⟩
theorem impl_MulGrades_eq : fnF E36 L36_0 [.v (.pair (.int .i64) (.sl (.int .i64))), .v (.pair (.int .i64) (.sl (.int .i64)))] true [.pair (.int .i64) (.sl (.int .i64)), .bool] f36.ntmps f36.results.toList (codeOf f36) = fun x => impl_MulGrades x.1 x.2.1 := by kernel_rfl
theorem A36_ok : FnOk prog 36 A36 := by
  have h := fnOk_of_run (P := prog) (E := E36) (tysOk_of tyl_ok) E36_ok (L := L36_0) (ps := [.v (.pair (.int .i64) (.sl (.int .i64))), .v (.pair (.int .i64) (.sl (.int .i64)))]) (own := true) (outs := [.pair (.int .i64) (.sl (.int .i64)), .bool]) func36 (c := codeOf f36) (by kernel_rfl) (codeOk_in (L := L36_0) (tysOk_of tyl_ok) E36_ok mixed (c := codeOf f36) (bs := []) (by kernel_rfl) allNil (by kernel_rfl))
  rw [impl_MulGrades_eq] at h
  exact h
/-! slices.Equal[[]int,int] -/
noncomputable def E72 : Env := ⟨ty0, fun _ => none, fun _ => none, fun _ => none, fun _ => none⟩
theorem E72_ok : FnsOk prog E72 := (noFns _ _)
noncomputable def L72_0 : Nat → Option LoopD := fun _ => none
def sh72_4 : List Fm := [.cell (.val (.sl (.int .i64))), .cell (.val (.sl (.int .i64))), d, d, d, d, d, d, d, d, d, d, .cell (.val (.int .i64)), .cell (.val (.int .i64)), d, d, d, d, d, d, d, d, d, d, d, d]
def xs72_4 : List (Ex × List Fm) := [(.ret, [d, d, d, d, .cell (.val .bool), d, d, d, d, d, d, d, d, d, d, d, d, d, d, d, d, d, d, d, d, d]), (.exit 0, [d, d, d, d, d, d, d, d, d, d, d, d, d, d, d, d, d, d, d, d, d, d, d, d, d, d])]
noncomputable def slices_Equal_l4 : ((List Int) × (List Int) × Int × Int × Unit) → Option (((List Int) × (List Int) × Int × Int × Unit) ⊕ ((Bool × Unit) ⊕ (Unit))) := fun (v0, v1, v12, v13, _) =>
  bif (decide (v13 < v12)) then
    if (((0 : Int) ≤ v13) ∧ (v13 < (((List.length v0) : Nat) : Int))) then
      if (((0 : Int) ≤ v13) ∧ (v13 < (((List.length v1) : Nat) : Int))) then
        bif ((List.getD v0 (Int.toNat v13) (0 : Int)) != (List.getD v1 (Int.toNat v13) (0 : Int))) then
          some (Sum.inr (Sum.inl (false, ())))
        else
          some (Sum.inl (v0, v1, v12, (IntKind.wrap .i64 (v13 + (1 : Int))), ()))
      else
        none
    else
      none
  else
    some (Sum.inr (Sum.inr ()))
theorem slices_Equal_l4_eq : loopStep 26 E72 L72_0 (loopOf f72 4) sh72_4 xs72_4 = slices_Equal_l4 := by kernel_rfl
theorem loop72_4 {L : Nat → Option LoopD} (h : L 4 = some ⟨26, sh72_4, xs72_4, slices_Equal_l4⟩) : LoopOk prog L (loopOf f72 4) :=
  loopOk (tysOk_of tyl_ok) E72_ok (codeOk_in (L := L72_0) (tysOk_of tyl_ok) E72_ok mixed (c := loopOf f72 4) (bs := []) (by kernel_rfl) allNil (by kernel_rfl)) (by kernel_rfl) (by kernel_rfl) slices_Equal_l4_eq (by rw [show firstId (loopOf f72 4) = 4 from by kernel_rfl]; exact h)
noncomputable def L72_1 : Nat → Option LoopD := fun n => ifEq n 4 (some ⟨26, sh72_4, xs72_4, slices_Equal_l4⟩) (L72_0 n)
noncomputable def slices_Equal : (List Int) → (List Int) → Option (Bool) := fun a0 a1 =>
  bif ((((List.length a0) : Nat) : Int) != (((List.length a1) : Nat) : Int)) then
    some false
  else
    Option.bind (loopF slices_Equal_l4 (a0, a1, (((List.length a0) : Nat) : Int), (0 : Int), ())) fun r0 =>
      (match r0 with
      | .inl (d1, _) =>
          some d1
      | .inr _ =>
          some true)
noncomputable def A72 : FnA := ⟨[.v (.sl (.int .i64)), .v (.sl (.int .i64))], true, [.bool], fun x => slices_Equal x.1 x.2.1⟩
theorem slices_Equal_eq : fnF E72 L72_1 [.v (.sl (.int .i64)), .v (.sl (.int .i64))] true [.bool] f72.ntmps f72.results.toList (codeOf f72) = fun x => slices_Equal x.1 x.2.1 := by kernel_rfl
theorem A72_ok : FnOk prog 72 A72 := by
  have h := fnOk_of_run (P := prog) (E := E72) (tysOk_of tyl_ok) E72_ok (L := L72_1) (ps := [.v (.sl (.int .i64)), .v (.sl (.int .i64))]) (own := true) (outs := [.bool]) func72 (c := codeOf f72) (by kernel_rfl) (codeOk_in (L := L72_1) (tysOk_of tyl_ok) E72_ok mixed (c := codeOf f72) (bs := [loopOf f72 4]) (by kernel_rfl) (allCons (loop72_4 rfl) allNil) (by kernel_rfl))
  rw [slices_Equal_eq] at h
  exact h
/-! impl.SameMatrix -/
noncomputable def E59 : Env := ⟨ty0, fun g => ifEq g 72 (some A72) (none), fun _ => none, fun _ => none, fun _ => none⟩
theorem E59_ok : FnsOk prog E59 := (oneFn A72_ok func72 (by kernel_rfl) (by kernel_rfl) (noFns _ _))
noncomputable def L59_0 : Nat → Option LoopD := fun _ => none
noncomputable def impl_SameMatrix : (Int × (List Int)) → (Int × (List Int)) → Option (Bool) := fun (a0_0, a0_1) (a1_0, a1_1) =>
  bif (a0_0 == a1_0) then
    Option.bind (slices_Equal a0_1 a1_1) fun r0 =>
      some r0
  else
    some false
noncomputable def A59 : FnA := ⟨[.v (.pair (.int .i64) (.sl (.int .i64))), .v (.pair (.int .i64) (.sl (.int .i64)))], true, [.bool], fun x => impl_SameMatrix x.1 x.2.1⟩
theorem impl_SameMatrix_eq : fnF E59 L59_0 [.v (.pair (.int .i64) (.sl (.int .i64))), .v (.pair (.int .i64) (.sl (.int .i64)))] true [.bool] f59.ntmps f59.results.toList (codeOf f59) = fun x => impl_SameMatrix x.1 x.2.1 := by kernel_rfl
theorem A59_ok : FnOk prog 59 A59 := by
  have h := fnOk_of_run (P := prog) (E := E59) (tysOk_of tyl_ok) E59_ok (L := L59_0) (ps := [.v (.pair (.int .i64) (.sl (.int .i64))), .v (.pair (.int .i64) (.sl (.int .i64)))]) (own := true) (outs := [.bool]) func59 (c := codeOf f59) (by kernel_rfl) (codeOk_in (L := L59_0) (tysOk_of tyl_ok) E59_ok mixed (c := codeOf f59) (bs := []) (by kernel_rfl) allNil (by kernel_rfl))
  rw [impl_SameMatrix_eq] at h
  exact h
/-! impl.IsIdempotent -/
noncomputable def E54 : Env := ⟨ty0, fun g => ifEq g 36 (some A36) (ifEq g 59 (some A59) (none)), fun _ => none, fun _ => none, fun _ => none⟩
theorem E54_ok : FnsOk prog E54 := (oneFn A36_ok func36 (by kernel_rfl) (by kernel_rfl) (oneFn A59_ok func59 (by kernel_rfl) (by kernel_rfl) (noFns _ _)))
noncomputable def L54_0 : Nat → Option LoopD := fun _ => none
noncomputable def impl_IsIdempotent : (Int × (List Int)) → Option (Bool) := fun (a0_0, a0_1) =>
  Option.bind (impl_MulGrades (a0_0, a0_1) (a0_0, a0_1)) fun ((r0, r1), r2) =>
    bif r2 then
      Option.bind (impl_SameMatrix (r0, (List.take (List.length r1) (List.drop 0 r1))) (a0_0, a0_1)) fun r3 =>
        some r3
    else
      some false
noncomputable def A54 : FnA := ⟨[.v (.pair (.int .i64) (.sl (.int .i64)))], true, [.bool], fun x => impl_IsIdempotent x.1⟩
theorem impl_IsIdempotent_eq : fnF E54 L54_0 [.v (.pair (.int .i64) (.sl (.int .i64)))] true [.bool] f54.ntmps f54.results.toList (codeOf f54) = fun x => impl_IsIdempotent x.1 := by kernel_rfl
theorem A54_ok : FnOk prog 54 A54 := by
  have h := fnOk_of_run (P := prog) (E := E54) (tysOk_of tyl_ok) E54_ok (L := L54_0) (ps := [.v (.pair (.int .i64) (.sl (.int .i64)))]) (own := true) (outs := [.bool]) func54 (c := codeOf f54) (by kernel_rfl) (codeOk_in (L := L54_0) (tysOk_of tyl_ok) E54_ok mixed (c := codeOf f54) (bs := []) (by kernel_rfl) allNil (by kernel_rfl))
  rw [impl_IsIdempotent_eq] at h
  exact h
/-! impl.Stabilise$1 -/
noncomputable def E56 : Env := ⟨ty0, fun g => ifEq g 27 (some A27) (none), fun _ => none, fun _ => none, fun _ => none⟩
theorem E56_ok : FnsOk prog E56 := (oneFn A27_ok func27 (by kernel_rfl) (by kernel_rfl) (noFns _ _))
noncomputable def L56_0 : Nat → Option LoopD := fun _ => none
def sh56_3 : List Fm := [.cell (.val (.int .i64)), .cell (.val (.int .i64)), .fp (.pair (.int .i64) (.sl (.int .i64))), d, d, d, .cell (.val (.int .i64)), d, d, d, .cell (.val (.int .i64)), .cell (.val (.int .i64)), d, d, d, d, d, d, d, d, d, d, d, d, d, d, d, d, d, d, d, d, d, d]
def xs56_3 : List (Ex × List Fm) := [(.exit 0, [d, d, d, d, d, d, .cell (.val (.int .i64)), d, d, d, d, d, d, d, d, d, d, d, d, d, d, d, d, d, d, d, d, d, d, d, d, d, d, d])]
noncomputable def impl_Stabilise_1_l3 : (Int × Int × (Int × (List Int)) × Int × Int × Int × Unit) → Option ((Int × Int × (Int × (List Int)) × Int × Int × Int × Unit) ⊕ ((Int × Unit))) := fun (v0, v1, (v2_0, v2_1), v6, v10, v11, _) =>
  bif (decide (v11 < v10)) then
    Option.bind (impl_Matrix_at (v2_0, v2_1) v11 v11) fun r0 =>
      bif (r0 == (1 : Int)) then
        Option.bind (impl_Matrix_at (v2_0, v2_1) v0 v11) fun r1 =>
          Option.bind (impl_Matrix_at (v2_0, v2_1) v11 v1) fun r2 =>
            some (Sum.inl (v0, v1, (v2_0, v2_1), (if ((if (r2 > (if ((2 : Int) > r1) then (2 : Int) else r1)) then r2 else (if ((2 : Int) > r1) then (2 : Int) else r1)) < v6) then (if (r2 > (if ((2 : Int) > r1) then (2 : Int) else r1)) then r2 else (if ((2 : Int) > r1) then (2 : Int) else r1)) else v6), v10, (IntKind.wrap .i64 (v11 + (1 : Int))), ()))
      else
        Option.bind (impl_Matrix_at (v2_0, v2_1) v0 v11) fun r3 =>
          Option.bind (impl_Matrix_at (v2_0, v2_1) v11 v1) fun r4 =>
            some (Sum.inl (v0, v1, (v2_0, v2_1), (if ((if (r4 > (if (r0 > r3) then r0 else r3)) then r4 else (if (r0 > r3) then r0 else r3)) < v6) then (if (r4 > (if (r0 > r3) then r0 else r3)) then r4 else (if (r0 > r3) then r0 else r3)) else v6), v10, (IntKind.wrap .i64 (v11 + (1 : Int))), ()))
  else
    some (Sum.inr (v6, ()))
theorem impl_Stabilise_1_l3_eq : loopStep 34 E56 L56_0 (loopOf f56 3) sh56_3 xs56_3 = impl_Stabilise_1_l3 := by kernel_rfl
theorem loop56_3 {L : Nat → Option LoopD} (h : L 3 = some ⟨34, sh56_3, xs56_3, impl_Stabilise_1_l3⟩) : LoopOk prog L (loopOf f56 3) :=
  loopOk (tysOk_of tyl_ok) E56_ok (codeOk_in (L := L56_0) (tysOk_of tyl_ok) E56_ok mixed (c := loopOf f56 3) (bs := []) (by kernel_rfl) allNil (by kernel_rfl)) (by kernel_rfl) (by kernel_rfl) impl_Stabilise_1_l3_eq (by rw [show firstId (loopOf f56 3) = 3 from by kernel_rfl]; exact h)
noncomputable def L56_1 : Nat → Option LoopD := fun n => ifEq n 3 (some ⟨34, sh56_3, xs56_3, impl_Stabilise_1_l3⟩) (L56_0 n)
noncomputable def impl_Stabilise_1 : Int → Int → (Int × (List Int)) → Option (Int) := fun a0 a1 (a2_0, a2_1) =>
  Option.bind (loopF impl_Stabilise_1_l3 (a0, a1, (a2_0, a2_1), (3 : Int), a2_0, (0 : Int), ())) fun (r0, _) =>
    some r0
noncomputable def A56 : FnA := ⟨[.v (.int .i64), .v (.int .i64), .cap (.pair (.int .i64) (.sl (.int .i64)))], true, [.int .i64], fun x => impl_Stabilise_1 x.1 x.2.1 x.2.2.1⟩
theorem impl_Stabilise_1_eq : fnF E56 L56_1 [.v (.int .i64), .v (.int .i64), .cap (.pair (.int .i64) (.sl (.int .i64)))] true [.int .i64] f56.ntmps f56.results.toList (codeOf f56) = fun x => impl_Stabilise_1 x.1 x.2.1 x.2.2.1 := by kernel_rfl
theorem A56_ok : FnOk prog 56 A56 := by
  have h := fnOk_of_run (P := prog) (E := E56) (tysOk_of tyl_ok) E56_ok (L := L56_1) (ps := [.v (.int .i64), .v (.int .i64), .cap (.pair (.int .i64) (.sl (.int .i64)))]) (own := true) (outs := [.int .i64]) func56 (c := codeOf f56) (by kernel_rfl) (codeOk_in (L := L56_1) (tysOk_of tyl_ok) E56_ok mixed (c := codeOf f56) (bs := [loopOf f56 3]) (by kernel_rfl) (allCons (loop56_3 rfl) allNil) (by kernel_rfl))
  rw [impl_Stabilise_1_eq] at h
  exact h
/-! impl.Stabilise -/
noncomputable def E34 : Env := ⟨ty0, fun g => ifEq g 54 (some A54) (ifEq g 55 (some A55) (ifEq g 56 (some A56) (none))), fun _ => none, fun _ => none, fun _ => none⟩
theorem E34_ok : FnsOk prog E34 := (oneFn A54_ok func54 (by kernel_rfl) (by kernel_rfl) (oneFn A55_ok func55 (by kernel_rfl) (by kernel_rfl) (oneFn A56_ok func56 (by kernel_rfl) (by kernel_rfl) (noFns _ _))))
noncomputable def L34_0 : Nat → Option LoopD := fun _ => none
noncomputable def impl_Stabilise : (Int × (List Int)) → Option ((Int × (List Int)) × Bool) := fun (a0_0, a0_1) =>
  Option.bind (impl_IsIdempotent (a0_0, a0_1)) fun r0 =>
    bif (!r0) then
      some (((0 : Int), []), false)
    else
      Option.bind (impl_filled a0_0 (fun y1 => (impl_Stabilise_1 y1.1 y1.2.1 (a0_0, a0_1)))) fun (r2, r3) =>
        some ((r2, (List.take (List.length r3) (List.drop 0 r3))), true)
noncomputable def A34 : FnA := ⟨[.v (.pair (.int .i64) (.sl (.int .i64)))], true, [.pair (.int .i64) (.sl (.int .i64)), .bool], fun x => impl_Stabilise x.1⟩
theorem impl_Stabilise_eq : fnF E34 L34_0 [.v (.pair (.int .i64) (.sl (.int .i64)))] true [.pair (.int .i64) (.sl (.int .i64)), .bool] f34.ntmps f34.results.toList (codeOf f34) = fun x => impl_Stabilise x.1 := by kernel_rfl
theorem A34_ok : FnOk prog 34 A34 := by
  have h := fnOk_of_run (P := prog) (E := E34) (tysOk_of tyl_ok) E34_ok (L := L34_0) (ps := [.v (.pair (.int .i64) (.sl (.int .i64)))]) (own := true) (outs := [.pair (.int .i64) (.sl (.int .i64)), .bool]) func34 (c := codeOf f34) (by kernel_rfl) (codeOk_in (L := L34_0) (tysOk_of tyl_ok) E34_ok mixed (c := codeOf f34) (bs := []) (by kernel_rfl) allNil (by kernel_rfl))
  rw [impl_Stabilise_eq] at h
  exact h
/-! impl.value -/
noncomputable def R70 (impl_value_rec : (Int × ((List Int) × ((List Int) × (List (Int × (ByteArray × (Int × Int))))))) → (List (ByteArray × PT)) → Option ((Int × (List Int)) × Bool)) : FnA := ⟨[.v (.pair (.int .i64) (.pair (.sl (.int .i64)) (.pair (.sl (.int .i64)) (.sl (.pair (.int .i64) (.pair .str (.pair (.int .i64) (.int .i64)))))))), .v (.sl (.pair .str .pt))], true, [.pair (.int .i64) (.sl (.int .i64)), .bool], fun x => impl_value_rec x.1 x.2.1⟩
noncomputable def E70 (impl_value_rec : (Int × ((List Int) × ((List Int) × (List (Int × (ByteArray × (Int × Int))))))) → (List (ByteArray × PT)) → Option ((Int × (List Int)) × Bool)) : Env := ⟨ty0, fun g => ifEq g 76 (some A76) (ifEq g 77 (some A77) (ifEq g 70 (some (R70 impl_value_rec)) (ifEq g 34 (some A34) (ifEq g 36 (some A36) (none))))), fun _ => none, fun _ => none, fun _ => none⟩
theorem E70_ok (impl_value_rec : (Int × ((List Int) × ((List Int) × (List (Int × (ByteArray × (Int × Int))))))) → (List (ByteArray × PT)) → Option ((Int × (List Int)) × Bool)) (hrec : FnOk prog 70 (R70 impl_value_rec)) : FnsOk prog (E70 impl_value_rec) := (oneFn A76_ok func76 (by kernel_rfl) (by kernel_rfl) (oneFn A77_ok func77 (by kernel_rfl) (by kernel_rfl) (oneFn hrec func70 (by kernel_rfl) (by kernel_rfl) (oneFn A34_ok func34 (by kernel_rfl) (by kernel_rfl) (oneFn A36_ok func36 (by kernel_rfl) (by kernel_rfl) (noFns _ _))))))
noncomputable def L70_0 (impl_value_rec : (Int × ((List Int) × ((List Int) × (List (Int × (ByteArray × (Int × Int))))))) → (List (ByteArray × PT)) → Option ((Int × (List Int)) × Bool)) : Nat → Option LoopD := fun _ => none
def sh70_3 : List Fm := [d, d, .box 100200 [.val (.int .i64), .val (.sl (.int .i64)), .val (.sl (.int .i64)), .val (.sl (.pair (.int .i64) (.pair .str (.pair (.int .i64) (.int .i64)))))], d, .box 100400 [.val (.int .i64), .own (.int .i64) 100402 false], d, .box 100600 [.val (.int .i64), .own (.int .i64) 100602 false], d, d, d, d, d, d, .cell (.val (.sl (.pair .str .pt))), .cell (.val (.int .i64)), .cell (.val (.int .i64)), d, d, d, d, d, d, d, d, d, d, d, d, d, d, d, d, d, d, d, d, d, d, d, d, d, d, d, d, d, d, d, d, d, d, d, d, d, d, d, d, d, d, d, d, d, d]
def xs70_3 : List (Ex × List Fm) := [(.ret, [d, d, d, d, .box 100400 [.val (.int .i64), .own (.int .i64) 100402 false], .cell (.val .bool), d, d, d, d, d, d, d, d, d, d, d, d, d, d, d, d, d, d, d, d, d, d, d, d, d, d, d, d, d, d, d, d, d, d, d, d, d, d, d, d, d, d, d, d, d, d, d, d, d, d, d, d, d, d, d, d]), (.exit 0, [d, d, d, d, .box 100400 [.val (.int .i64), .own (.int .i64) 100402 false], d, .box 100600 [.val (.int .i64), .own (.int .i64) 100602 false], d, d, d, d, d, d, d, d, d, d, d, d, d, d, d, d, d, d, d, d, d, d, d, d, d, d, d, d, d, d, d, d, d, d, d, d, d, d, d, d, d, d, d, d, d, d, d, d, d, d, d, d, d, d, d])]
noncomputable def impl_value_l3 (impl_value_rec : (Int × ((List Int) × ((List Int) × (List (Int × (ByteArray × (Int × Int))))))) → (List (ByteArray × PT)) → Option ((Int × (List Int)) × Bool)) : ((Int × (List Int) × (List Int) × (List (Int × (ByteArray × (Int × Int)))) × Unit) × (Int × (List Int) × Unit) × (Int × (List Int) × Unit) × (List (ByteArray × PT)) × Int × Int × Unit) → Option (((Int × (List Int) × (List Int) × (List (Int × (ByteArray × (Int × Int)))) × Unit) × (Int × (List Int) × Unit) × (Int × (List Int) × Unit) × (List (ByteArray × PT)) × Int × Int × Unit) ⊕ (((Int × (List Int) × Unit) × Bool × Unit) ⊕ ((Int × (List Int) × Unit) × (Int × (List Int) × Unit) × Unit))) := fun ((v2_0, v2_1, v2_2, v2_3, _), (v4_0, v4_1, _), (v6_0, v6_1, _), v13, v14, v15, _) =>
  bif (decide (v15 < v14)) then
    if (((0 : Int) ≤ v15) ∧ (v15 < (((List.length v13) : Nat) : Int))) then
      bif (!((ByteArray.toList (List.getD v13 (Int.toNat v15) ((⟨Array.empty⟩ : ByteArray), (PT.mk []))).1) == (ByteArray.toList (⟨#[]⟩ : ByteArray)))) then
        Option.bind (impl_StepMatrix (v2_0, v2_1, v2_2, v2_3) (List.getD v13 (Int.toNat v15) ((⟨Array.empty⟩ : ByteArray), (PT.mk []))).1) fun ((r0, r1), r2) =>
          Option.bind (impl_GradesOf (r0, (List.take (List.length r1) (List.drop 0 r1)))) fun ((r3, r4), r5) =>
            bif (decide (v15 > (0 : Int))) then
              Option.bind (impl_MulGrades (v6_0, (List.take (List.length v6_1) (List.drop 0 v6_1))) (r3, (List.take (List.length r4) (List.drop 0 r4)))) fun ((r6, r7), r8) =>
                some (Sum.inl ((v2_0, v2_1, v2_2, v2_3, ()), (v4_0, (List.take (List.length v4_1) (List.drop 0 v4_1)), ()), (r6, (List.take (List.length r7) (List.drop 0 r7)), ()), v13, v14, (IntKind.wrap .i64 (v15 + (1 : Int))), ()))
            else
              some (Sum.inl ((v2_0, v2_1, v2_2, v2_3, ()), (v4_0, (List.take (List.length v4_1) (List.drop 0 v4_1)), ()), (r3, (List.take (List.length r4) (List.drop 0 r4)), ()), v13, v14, (IntKind.wrap .i64 (v15 + (1 : Int))), ()))
      else
        Option.bind (impl_value_rec (v2_0, v2_1, v2_2, v2_3) (PT.l (List.getD v13 (Int.toNat v15) ((⟨Array.empty⟩ : ByteArray), (PT.mk []))).2)) fun ((r9, r10), r11) =>
          bif r11 then
            Option.bind (impl_Stabilise (r9, (List.take (List.length r10) (List.drop 0 r10)))) fun ((r12, r13), r14) =>
              bif (!r14) then
                some (Sum.inr (Sum.inl (((0 : Int), [], ()), false, ())))
              else
                bif (decide (v15 > (0 : Int))) then
                  Option.bind (impl_MulGrades (v6_0, (List.take (List.length v6_1) (List.drop 0 v6_1))) (r12, (List.take (List.length r13) (List.drop 0 r13)))) fun ((r15, r16), r17) =>
                    some (Sum.inl ((v2_0, v2_1, v2_2, v2_3, ()), (v4_0, (List.take (List.length v4_1) (List.drop 0 v4_1)), ()), (r15, (List.take (List.length r16) (List.drop 0 r16)), ()), v13, v14, (IntKind.wrap .i64 (v15 + (1 : Int))), ()))
                else
                  some (Sum.inl ((v2_0, v2_1, v2_2, v2_3, ()), (v4_0, (List.take (List.length v4_1) (List.drop 0 v4_1)), ()), (r12, (List.take (List.length r13) (List.drop 0 r13)), ()), v13, v14, (IntKind.wrap .i64 (v15 + (1 : Int))), ()))
          else
            bif (!r11) then
              some (Sum.inr (Sum.inl (((0 : Int), [], ()), false, ())))
            else
              bif (decide (v15 > (0 : Int))) then
                Option.bind (impl_MulGrades (v6_0, (List.take (List.length v6_1) (List.drop 0 v6_1))) (r9, (List.take (List.length r10) (List.drop 0 r10)))) fun ((r18, r19), r20) =>
                  some (Sum.inl ((v2_0, v2_1, v2_2, v2_3, ()), (v4_0, (List.take (List.length v4_1) (List.drop 0 v4_1)), ()), (r18, (List.take (List.length r19) (List.drop 0 r19)), ()), v13, v14, (IntKind.wrap .i64 (v15 + (1 : Int))), ()))
              else
                some (Sum.inl ((v2_0, v2_1, v2_2, v2_3, ()), (v4_0, (List.take (List.length v4_1) (List.drop 0 v4_1)), ()), (r9, (List.take (List.length r10) (List.drop 0 r10)), ()), v13, v14, (IntKind.wrap .i64 (v15 + (1 : Int))), ()))
    else
      none
  else
    some (Sum.inr (Sum.inr ((v4_0, (List.take (List.length v4_1) (List.drop 0 v4_1)), ()), (v6_0, (List.take (List.length v6_1) (List.drop 0 v6_1)), ()), ())))
theorem impl_value_l3_eq (impl_value_rec : (Int × ((List Int) × ((List Int) × (List (Int × (ByteArray × (Int × Int))))))) → (List (ByteArray × PT)) → Option ((Int × (List Int)) × Bool)) : loopStep 62 (E70 impl_value_rec) (L70_0 impl_value_rec) (loopOf f70 3) sh70_3 xs70_3 = (impl_value_l3 impl_value_rec) := by kernel_rfl
theorem loop70_3 (impl_value_rec : (Int × ((List Int) × ((List Int) × (List (Int × (ByteArray × (Int × Int))))))) → (List (ByteArray × PT)) → Option ((Int × (List Int)) × Bool)) (hrec : FnOk prog 70 (R70 impl_value_rec)) {L : Nat → Option LoopD} (h : L 3 = some ⟨62, sh70_3, xs70_3, (impl_value_l3 impl_value_rec)⟩) : LoopOk prog L (loopOf f70 3) :=
  loopOk (tysOk_of tyl_ok) (E70_ok impl_value_rec hrec) (codeOk_in (L := (L70_0 impl_value_rec)) (tysOk_of tyl_ok) (E70_ok impl_value_rec hrec) mixed (c := loopOf f70 3) (bs := []) (by kernel_rfl) allNil (by kernel_rfl)) (by kernel_rfl) (by kernel_rfl) (impl_value_l3_eq impl_value_rec) (by rw [show firstId (loopOf f70 3) = 3 from by kernel_rfl]; exact h)
noncomputable def L70_1 (impl_value_rec : (Int × ((List Int) × ((List Int) × (List (Int × (ByteArray × (Int × Int))))))) → (List (ByteArray × PT)) → Option ((Int × (List Int)) × Bool)) : Nat → Option LoopD := fun n => ifEq n 3 (some ⟨62, sh70_3, xs70_3, (impl_value_l3 impl_value_rec)⟩) ((L70_0 impl_value_rec) n)
noncomputable def impl_value_step (impl_value_rec : (Int × ((List Int) × ((List Int) × (List (Int × (ByteArray × (Int × Int))))))) → (List (ByteArray × PT)) → Option ((Int × (List Int)) × Bool)) : (Int × ((List Int) × ((List Int) × (List (Int × (ByteArray × (Int × Int))))))) → (List (ByteArray × PT)) → Option ((Int × (List Int)) × Bool) := fun (a0_0, a0_1, a0_2, a0_3) a1 =>
  Option.bind (loopF (impl_value_l3 impl_value_rec) ((a0_0, a0_1, a0_2, a0_3, ()), ((0 : Int), [], ()), ((0 : Int), [], ()), a1, (((List.length a1) : Nat) : Int), (0 : Int), ())) fun r0 =>
    (match r0 with
    | .inl ((d1, d2, _), d3, _) =>
        some ((d1, (List.take (List.length d2) (List.drop 0 d2))), d3)
    | .inr ((d4, d5, _), (d6, d7, _), _) =>
        some ((d6, (List.take (List.length d7) (List.drop 0 d7))), true))
theorem impl_value_step_eq (impl_value_rec : (Int × ((List Int) × ((List Int) × (List (Int × (ByteArray × (Int × Int))))))) → (List (ByteArray × PT)) → Option ((Int × (List Int)) × Bool)) : fnF (E70 impl_value_rec) (L70_1 impl_value_rec) [.v (.pair (.int .i64) (.pair (.sl (.int .i64)) (.pair (.sl (.int .i64)) (.sl (.pair (.int .i64) (.pair .str (.pair (.int .i64) (.int .i64)))))))), .v (.sl (.pair .str .pt))] true [.pair (.int .i64) (.sl (.int .i64)), .bool] f70.ntmps f70.results.toList (codeOf f70) = fun x => (impl_value_step impl_value_rec) x.1 x.2.1 := by kernel_rfl
theorem impl_value_step_ok (impl_value_rec : (Int × ((List Int) × ((List Int) × (List (Int × (ByteArray × (Int × Int))))))) → (List (ByteArray × PT)) → Option ((Int × (List Int)) × Bool)) (hrec : FnOk prog 70 (R70 impl_value_rec)) : FnOk prog 70 ⟨[.v (.pair (.int .i64) (.pair (.sl (.int .i64)) (.pair (.sl (.int .i64)) (.sl (.pair (.int .i64) (.pair .str (.pair (.int .i64) (.int .i64)))))))), .v (.sl (.pair .str .pt))], true, [.pair (.int .i64) (.sl (.int .i64)), .bool], fun x => (impl_value_step impl_value_rec) x.1 x.2.1⟩ := by
  have h := fnOk_of_run (P := prog) (E := (E70 impl_value_rec)) (tysOk_of tyl_ok) (E70_ok impl_value_rec hrec) (L := (L70_1 impl_value_rec)) (ps := [.v (.pair (.int .i64) (.pair (.sl (.int .i64)) (.pair (.sl (.int .i64)) (.sl (.pair (.int .i64) (.pair .str (.pair (.int .i64) (.int .i64)))))))), .v (.sl (.pair .str .pt))]) (own := true) (outs := [.pair (.int .i64) (.sl (.int .i64)), .bool]) func70 (c := codeOf f70) (by kernel_rfl) (codeOk_in (L := (L70_1 impl_value_rec)) (tysOk_of tyl_ok) (E70_ok impl_value_rec hrec) mixed (c := codeOf f70) (bs := [loopOf f70 3]) (by kernel_rfl) (allCons (loop70_3 impl_value_rec hrec rfl) allNil) (by kernel_rfl))
  rw [(impl_value_step_eq impl_value_rec)] at h
  exact h
/-- so many calls within each other -/
noncomputable def impl_value_fuel : Nat → (Int × ((List Int) × ((List Int) × (List (Int × (ByteArray × (Int × Int))))))) → (List (ByteArray × PT)) → Option ((Int × (List Int)) × Bool)
  | 0 => fun _ _ => none
  | n + 1 => impl_value_step (impl_value_fuel n)
theorem impl_value_fuel_ok : ∀ n, FnOk prog 70 (R70 (impl_value_fuel n))
  | 0 => fun xs r h => by cases h
  | n + 1 => impl_value_step_ok (impl_value_fuel n) (impl_value_fuel_ok n)
noncomputable def impl_value : (Int × ((List Int) × ((List Int) × (List (Int × (ByteArray × (Int × Int))))))) → (List (ByteArray × PT)) → Option ((Int × (List Int)) × Bool) := impl_value_fuel 200
noncomputable def A70 : FnA := R70 impl_value
theorem A70_ok : FnOk prog 70 A70 := impl_value_fuel_ok 200
/-! impl.ValueOf -/
noncomputable def E53 : Env := ⟨ty0, fun g => ifEq g 69 (some A69) (ifEq g 25 (some A25) (ifEq g 70 (some A70) (none))), fun _ => none, fun _ => none, fun _ => none⟩
theorem E53_ok : FnsOk prog E53 := (oneFn A69_ok func69 (by kernel_rfl) (by kernel_rfl) (oneFn A25_ok func25 (by kernel_rfl) (by kernel_rfl) (oneFn A70_ok func70 (by kernel_rfl) (by kernel_rfl) (noFns _ _))))
noncomputable def L53_0 : Nat → Option LoopD := fun _ => none
noncomputable def impl_ValueOf : (Int × ((List Int) × ((List Int) × (List (Int × (ByteArray × (Int × Int))))))) → ByteArray → Option ((Int × (List Int)) × Bool) := fun (a0_0, a0_1, a0_2, a0_3) a1 =>
  Option.bind (impl_parts a1) fun (r0, r1) =>
    bif (!r1) then
      some (((0 : Int), []), false)
    else
      Option.bind (impl_AutomatonValid (a0_0, a0_1, a0_2, a0_3)) fun r2 =>
        bif (!r2) then
          some (((0 : Int), []), false)
        else
          Option.bind (impl_value (a0_0, a0_1, a0_2, a0_3) (List.take (List.length r0) (List.drop 0 r0))) fun ((r3, r4), r5) =>
            some ((r3, (List.take (List.length r4) (List.drop 0 r4))), r5)
noncomputable def A53 : FnA := ⟨[.v (.pair (.int .i64) (.pair (.sl (.int .i64)) (.pair (.sl (.int .i64)) (.sl (.pair (.int .i64) (.pair .str (.pair (.int .i64) (.int .i64)))))))), .v .str], true, [.pair (.int .i64) (.sl (.int .i64)), .bool], fun x => impl_ValueOf x.1 x.2.1⟩
theorem impl_ValueOf_eq : fnF E53 L53_0 [.v (.pair (.int .i64) (.pair (.sl (.int .i64)) (.pair (.sl (.int .i64)) (.sl (.pair (.int .i64) (.pair .str (.pair (.int .i64) (.int .i64)))))))), .v .str] true [.pair (.int .i64) (.sl (.int .i64)), .bool] f53.ntmps f53.results.toList (codeOf f53) = fun x => impl_ValueOf x.1 x.2.1 := by kernel_rfl
theorem A53_ok : FnOk prog 53 A53 := by
  have h := fnOk_of_run (P := prog) (E := E53) (tysOk_of tyl_ok) E53_ok (L := L53_0) (ps := [.v (.pair (.int .i64) (.pair (.sl (.int .i64)) (.pair (.sl (.int .i64)) (.sl (.pair (.int .i64) (.pair .str (.pair (.int .i64) (.int .i64)))))))), .v .str]) (own := true) (outs := [.pair (.int .i64) (.sl (.int .i64)), .bool]) func53 (c := codeOf f53) (by kernel_rfl) (codeOk_in (L := L53_0) (tysOk_of tyl_ok) E53_ok mixed (c := codeOf f53) (bs := []) (by kernel_rfl) allNil (by kernel_rfl))
  rw [impl_ValueOf_eq] at h
  exact h
/-! slices.IndexFunc[[]impl.Element,impl.Element] -/
noncomputable def E71 : Env := ⟨ty0, fun _ => none, fun _ => none, fun _ => none, fun _ => none⟩
theorem E71_ok : FnsOk prog E71 := (noFns _ _)
noncomputable def L71_0 : Nat → Option LoopD := fun _ => none
def sh71_2 : List Fm := [.cell (.val (.sl (.pair (.pair (.int .i64) (.sl (.int .i64))) .str))), .clo [.pair (.pair (.int .i64) (.sl (.int .i64))) .str] .bool, d, d, d, d, d, .cell (.val (.int .i64)), .cell (.val (.int .i64)), d, d, d, d, d, d, d, d, d, d]
def xs71_2 : List (Ex × List Fm) := [(.ret, [d, d, d, d, .cell (.val (.int .i64)), d, d, d, d, d, d, d, d, d, d, d, d, d, d]), (.exit 0, [d, d, d, d, d, d, d, d, d, d, d, d, d, d, d, d, d, d, d])]
noncomputable def slices_IndexFunc_Element_l2 : ((List ((Int × (List Int)) × ByteArray)) × ((((Int × (List Int)) × ByteArray) × Unit) → Option (Bool)) × Int × Int × Unit) → Option (((List ((Int × (List Int)) × ByteArray)) × ((((Int × (List Int)) × ByteArray) × Unit) → Option (Bool)) × Int × Int × Unit) ⊕ ((Int × Unit) ⊕ (Unit))) := fun (v0, v1, v7, v8, _) =>
  bif (decide (v8 < v7)) then
    if (((0 : Int) ≤ v8) ∧ (v8 < (((List.length v0) : Nat) : Int))) then
      Option.bind (v1 ((List.getD v0 (Int.toNat v8) (((0 : Int), []), (⟨Array.empty⟩ : ByteArray))), ())) fun r0 =>
        bif r0 then
          some (Sum.inr (Sum.inl (v8, ())))
        else
          some (Sum.inl (v0, v1, v7, (IntKind.wrap .i64 (v8 + (1 : Int))), ()))
    else
      none
  else
    some (Sum.inr (Sum.inr ()))
theorem slices_IndexFunc_Element_l2_eq : loopStep 19 E71 L71_0 (loopOf f71 2) sh71_2 xs71_2 = slices_IndexFunc_Element_l2 := by kernel_rfl
theorem loop71_2 {L : Nat → Option LoopD} (h : L 2 = some ⟨19, sh71_2, xs71_2, slices_IndexFunc_Element_l2⟩) : LoopOk prog L (loopOf f71 2) :=
  loopOk (tysOk_of tyl_ok) E71_ok (codeOk_in (L := L71_0) (tysOk_of tyl_ok) E71_ok mixed (c := loopOf f71 2) (bs := []) (by kernel_rfl) allNil (by kernel_rfl)) (by kernel_rfl) (by kernel_rfl) slices_IndexFunc_Element_l2_eq (by rw [show firstId (loopOf f71 2) = 2 from by kernel_rfl]; exact h)
noncomputable def L71_1 : Nat → Option LoopD := fun n => ifEq n 2 (some ⟨19, sh71_2, xs71_2, slices_IndexFunc_Element_l2⟩) (L71_0 n)
noncomputable def slices_IndexFunc_Element : (List ((Int × (List Int)) × ByteArray)) → ((((Int × (List Int)) × ByteArray) × Unit) → Option (Bool)) → Option (Int) := fun a0 a1 =>
  Option.bind (loopF slices_IndexFunc_Element_l2 (a0, a1, (((List.length a0) : Nat) : Int), (0 : Int), ())) fun r0 =>
    (match r0 with
    | .inl (d1, _) =>
        some d1
    | .inr _ =>
        some (-1 : Int))
noncomputable def A71 : FnA := ⟨[.v (.sl (.pair (.pair (.int .i64) (.sl (.int .i64))) .str)), .clo [.pair (.pair (.int .i64) (.sl (.int .i64))) .str] .bool], true, [.int .i64], fun x => slices_IndexFunc_Element x.1 x.2.1⟩
theorem slices_IndexFunc_Element_eq : fnF E71 L71_1 [.v (.sl (.pair (.pair (.int .i64) (.sl (.int .i64))) .str)), .clo [.pair (.pair (.int .i64) (.sl (.int .i64))) .str] .bool] true [.int .i64] f71.ntmps f71.results.toList (codeOf f71) = fun x => slices_IndexFunc_Element x.1 x.2.1 := by kernel_rfl
theorem A71_ok : FnOk prog 71 A71 := by
  have h := fnOk_of_run (P := prog) (E := E71) (tysOk_of tyl_ok) E71_ok (L := L71_1) (ps := [.v (.sl (.pair (.pair (.int .i64) (.sl (.int .i64))) .str)), .clo [.pair (.pair (.int .i64) (.sl (.int .i64))) .str] .bool]) (own := true) (outs := [.int .i64]) func71 (c := codeOf f71) (by kernel_rfl) (codeOk_in (L := L71_1) (tysOk_of tyl_ok) E71_ok mixed (c := codeOf f71) (bs := [loopOf f71 2]) (by kernel_rfl) (allCons (loop71_2 rfl) allNil) (by kernel_rfl))
  rw [slices_IndexFunc_Element_eq] at h
  exact h
/-! slices.ContainsFunc[[]impl.Element,impl.Element] -/
noncomputable def E57 : Env := ⟨ty0, fun g => ifEq g 71 (some A71) (none), fun _ => none, fun _ => none, fun _ => none⟩
theorem E57_ok : FnsOk prog E57 := (oneFn A71_ok func71 (by kernel_rfl) (by kernel_rfl) (noFns _ _))
noncomputable def L57_0 : Nat → Option LoopD := fun _ => none
noncomputable def slices_ContainsFunc_Element : (List ((Int × (List Int)) × ByteArray)) → ((((Int × (List Int)) × ByteArray) × Unit) → Option (Bool)) → Option (Bool) := fun a0 a1 =>
  Option.bind (slices_IndexFunc_Element a0 a1) fun r0 =>
    some (decide (r0 ≥ (0 : Int)))
noncomputable def A57 : FnA := ⟨[.v (.sl (.pair (.pair (.int .i64) (.sl (.int .i64))) .str)), .clo [.pair (.pair (.int .i64) (.sl (.int .i64))) .str] .bool], true, [.bool], fun x => slices_ContainsFunc_Element x.1 x.2.1⟩
theorem slices_ContainsFunc_Element_eq : fnF E57 L57_0 [.v (.sl (.pair (.pair (.int .i64) (.sl (.int .i64))) .str)), .clo [.pair (.pair (.int .i64) (.sl (.int .i64))) .str] .bool] true [.bool] f57.ntmps f57.results.toList (codeOf f57) = fun x => slices_ContainsFunc_Element x.1 x.2.1 := by kernel_rfl
theorem A57_ok : FnOk prog 57 A57 := by
  have h := fnOk_of_run (P := prog) (E := E57) (tysOk_of tyl_ok) E57_ok (L := L57_0) (ps := [.v (.sl (.pair (.pair (.int .i64) (.sl (.int .i64))) .str)), .clo [.pair (.pair (.int .i64) (.sl (.int .i64))) .str] .bool]) (own := true) (outs := [.bool]) func57 (c := codeOf f57) (by kernel_rfl) (codeOk_in (L := L57_0) (tysOk_of tyl_ok) E57_ok mixed (c := codeOf f57) (bs := []) (by kernel_rfl) allNil (by kernel_rfl))
  rw [slices_ContainsFunc_Element_eq] at h
  exact h
/-! (*impl.found).put$1 -/
noncomputable def E58 : Env := ⟨ty0, fun g => ifEq g 59 (some A59) (none), fun _ => none, fun _ => none, fun _ => none⟩
theorem E58_ok : FnsOk prog E58 := (oneFn A59_ok func59 (by kernel_rfl) (by kernel_rfl) (noFns _ _))
noncomputable def L58_0 : Nat → Option LoopD := fun _ => none
noncomputable def impl_found_put_1 : ((Int × (List Int)) × ByteArray) → (Int × (List Int)) → Option (Bool) := fun ((a0_0, a0_1), a0_2) (a1_0, a1_1) =>
  Option.bind (impl_SameMatrix (a0_0, a0_1) (a1_0, a1_1)) fun r0 =>
    some r0
noncomputable def A58 : FnA := ⟨[.v (.pair (.pair (.int .i64) (.sl (.int .i64))) .str), .cap (.pair (.int .i64) (.sl (.int .i64)))], true, [.bool], fun x => impl_found_put_1 x.1 x.2.1⟩
theorem impl_found_put_1_eq : fnF E58 L58_0 [.v (.pair (.pair (.int .i64) (.sl (.int .i64))) .str), .cap (.pair (.int .i64) (.sl (.int .i64)))] true [.bool] f58.ntmps f58.results.toList (codeOf f58) = fun x => impl_found_put_1 x.1 x.2.1 := by kernel_rfl
theorem A58_ok : FnOk prog 58 A58 := by
  have h := fnOk_of_run (P := prog) (E := E58) (tysOk_of tyl_ok) E58_ok (L := L58_0) (ps := [.v (.pair (.pair (.int .i64) (.sl (.int .i64))) .str), .cap (.pair (.int .i64) (.sl (.int .i64)))]) (own := true) (outs := [.bool]) func58 (c := codeOf f58) (by kernel_rfl) (codeOk_in (L := L58_0) (tysOk_of tyl_ok) E58_ok mixed (c := codeOf f58) (bs := []) (by kernel_rfl) allNil (by kernel_rfl))
  rw [impl_found_put_1_eq] at h
  exact h
/-! impl.ElementsOf -/
noncomputable def E24_at5_at32 : Env := ⟨ty0, fun g => ifEq g 25 (some A25) (ifEq g 53 (some A53) (ifEq g 57 (some A57) (ifEq g 58 (some A58) (ifEq g 34 (some A34) (ifEq g 36 (some A36) (none)))))), fun _ => none, fun _ => none, fun _ => none⟩
theorem E24_at5_at32_ok : FnsOk prog E24_at5_at32 := (oneFn A25_ok func25 (by kernel_rfl) (by kernel_rfl) (oneFn A53_ok func53 (by kernel_rfl) (by kernel_rfl) (oneFn A57_ok func57 (by kernel_rfl) (by kernel_rfl) (oneFn A58_ok func58 (by kernel_rfl) (by kernel_rfl) (oneFn A34_ok func34 (by kernel_rfl) (by kernel_rfl) (oneFn A36_ok func36 (by kernel_rfl) (by kernel_rfl) (noFns _ _)))))))
noncomputable def L24_at5_at32_0 : Nat → Option LoopD := fun _ => none
def shi24_at5_at32 : List Fm := [.box 100000 [.own (.pair (.pair (.int .i64) (.sl (.int .i64))) .str) 100001 false, .val .bool], .agg [.val (.int .i64), .own (.int .i64) 100102 false], .cell (.val .str), d, d, d, d, d, d, d, d, d, d, d, d, d, d, d, d, d, d, d, d, d, d, d, d, d, d, d, d, d, d, d, d, d, d, d, d, .fnv 33, .box 104000 [.val (.int .i64), .val (.sl (.int .i64)), .val (.sl (.int .i64)), .val (.sl (.pair (.int .i64) (.pair .str (.pair (.int .i64) (.int .i64)))))], d, d, d, .ali 100000 0, d, d, d, d, d, d, d, d, d, d, .cell (.own .str 105500 false), .cell (.val (.int .i64)), .cell (.val (.int .i64)), d, d, d, d, d, d, d, d, d, d, d, d, d, d, d, d, d, d, d, d, d, d, d, d, d, d, d, d, d, d, d, d, d, d, d, d, d, d, d, d, d, d, d, d, d, d, d, d, d, d]
def sho24_at5_at32 : List Fm := [d, .fnv 33, .box 100200 [.val (.int .i64), .val (.sl (.int .i64)), .val (.sl (.int .i64)), .val (.sl (.pair (.int .i64) (.pair .str (.pair (.int .i64) (.int .i64)))))], d, d, d, .box 100600 [.own (.pair (.pair (.int .i64) (.sl (.int .i64))) .str) 100601 false, .val .bool], d, d, d, d, d, d, d, d, d, d, .cell (.own .str 101700 false), .cell (.val (.int .i64)), .cell (.val (.int .i64)), d, d, d, d, d, d, d, d, d, d, d, d, d, d, d, d, d, d, d, d, d, d, d, d, d, d, d, d, d, d, d, d, d, d, d, d, d, d, d, d, d, d, d, d, d, d, d, d, d, d]
noncomputable def impl_ElementsOf_at5_at32 : (((List ((Int × (List Int)) × ByteArray)) × Bool × Unit) × (Int × (List Int) × Unit) × ByteArray × (Int × (List Int) × (List Int) × (List (Int × (ByteArray × (Int × Int)))) × Unit) × (List ByteArray) × Int × Int × Unit) → Option ((Int × (List Int) × (List Int) × (List (Int × (ByteArray × (Int × Int)))) × Unit) × ((List ((Int × (List Int)) × ByteArray)) × Bool × Unit) × (List ByteArray) × Int × Int × Unit) := fun ((v0_0, v0_1, _), (v1_0, v1_1, _), v2, (v40_0, v40_1, v40_2, v40_3, _), v55, v56, v57, _) =>
  Option.bind (slices_ContainsFunc_Element (List.take (List.length v0_0) (List.drop 0 v0_0)) (fun y0 => (impl_found_put_1 y0.1 (v1_0, (List.take (List.length v1_1) (List.drop 0 v1_1)))))) fun r1 =>
    bif r1 then
      some ((v40_0, v40_1, v40_2, v40_3, ()), ((List.take (List.length v0_0) (List.drop 0 v0_0)), v0_1, ()), (List.take (List.length v55) (List.drop 0 v55)), v56, v57, ())
    else
      bif (decide ((((List.length v0_0) : Nat) : Int) ≥ (120 : Int))) then
        some ((v40_0, v40_1, v40_2, v40_3, ()), ((List.take (List.length v0_0) (List.drop 0 v0_0)), false, ()), (List.take (List.length v55) (List.drop 0 v55)), v56, v57, ())
      else
        bif (decide ((((ByteArray.size v2) : Nat) : Int) > (120 : Int))) then
          some ((v40_0, v40_1, v40_2, v40_3, ()), ((List.take (List.length v0_0) (List.drop 0 v0_0)), false, ()), (List.take (List.length v55) (List.drop 0 v55)), v56, v57, ())
        else
          if (((0 + (List.length v0_0)) = (List.length v0_0)) ∧ ((((List.length v0_0) + (List.length (List.take 1 (List.drop 0 [((v1_0, (List.take (List.length v1_1) (List.drop 0 v1_1))), v2)])))) * 48) ≤ 140737488355328)) then
            some ((v40_0, v40_1, v40_2, v40_3, ()), ((List.take ((List.length v0_0) + (List.length (List.take 1 (List.drop 0 [((v1_0, (List.take (List.length v1_1) (List.drop 0 v1_1))), v2)])))) (List.drop 0 ((List.drop 0 v0_0) ++ (List.take 1 (List.drop 0 [((v1_0, (List.take (List.length v1_1) (List.drop 0 v1_1))), v2)]))))), v0_1, ()), (List.take (List.length v55) (List.drop 0 v55)), v56, v57, ())
          else
            none
theorem impl_ElementsOf_at5_at32_eq : inlStep f35.ntmps 62 32 E24_at5_at32 L24_at5_at32_0 f35.results.toList (codeOf f35) shi24_at5_at32 sho24_at5_at32 = impl_ElementsOf_at5_at32 := by kernel_rfl
noncomputable def I24_at5_at32 : CallD := ⟨f35.ntmps, shi24_at5_at32, 62, sho24_at5_at32, impl_ElementsOf_at5_at32⟩
theorem I24_at5_at32_ok : InlOk prog 32 35 I24_at5_at32 := inlOk_of (tysOk_of tyl_ok) E24_at5_at32_ok (L := L24_at5_at32_0) func35 (by kernel_rfl) (c := codeOf f35) (by kernel_rfl) (codeOk_in (L := L24_at5_at32_0) (tysOk_of tyl_ok) E24_at5_at32_ok mixed (c := codeOf f35) (bs := []) (by kernel_rfl) allNil (by kernel_rfl)) (by kernel_rfl) (by kernel_rfl) impl_ElementsOf_at5_at32_eq
noncomputable def E24_at5_at52_at31 : Env := ⟨ty0, fun g => ifEq g 25 (some A25) (ifEq g 53 (some A53) (ifEq g 57 (some A57) (ifEq g 58 (some A58) (ifEq g 34 (some A34) (ifEq g 36 (some A36) (none)))))), fun _ => none, fun _ => none, fun _ => none⟩
theorem E24_at5_at52_at31_ok : FnsOk prog E24_at5_at52_at31 := (oneFn A25_ok func25 (by kernel_rfl) (by kernel_rfl) (oneFn A53_ok func53 (by kernel_rfl) (by kernel_rfl) (oneFn A57_ok func57 (by kernel_rfl) (by kernel_rfl) (oneFn A58_ok func58 (by kernel_rfl) (by kernel_rfl) (oneFn A34_ok func34 (by kernel_rfl) (by kernel_rfl) (oneFn A36_ok func36 (by kernel_rfl) (by kernel_rfl) (noFns _ _)))))))
noncomputable def L24_at5_at52_at31_0 : Nat → Option LoopD := fun _ => none
def shi24_at5_at52_at31 : List Fm := [.box 100000 [.own (.pair (.pair (.int .i64) (.sl (.int .i64))) .str) 100001 false, .val .bool], .agg [.val (.int .i64), .own (.int .i64) 100102 false], .cell (.val .str), d, d, d, d, d, d, d, d, d, d, d, d, d, d, d, d, d, d, d, d, d, d, d, d, d, d, d, d, d, d, d, d, d, d, d, .ali 100000 0, .cell (.val (.int .i64)), d, d, .box 104200 [.val (.int .i64), .val (.sl (.int .i64)), .val .str], d, d, d, d, d, d, d, d, d, d, d, d, d, d, d, d, d, d, d, d, d, d, d, d, d, d, d, d, d, d, d, d, d, d, d, d, d, d, d, d, d, d, d, d, d, d, d, d, d, d, d, d, d, d, d, d, d, d, d, d, d, d, d, d, d, d, d, d, d, d, d, d, d, d, d, d, d, d, .fnv 33, d, d, d, d, .ali 100000 0, d, d, d, d, .cell (.val (.int .i64)), d, d, d, d, d, d, d, d, d, d, d, d, d, d, d, d, d, d, d, d, d, d, d, d, d, d, d, d, d, d, d, d, d, d, d, d, d, d, d, d, d, d, d, d, d, d, d, d, d, d, d, d, d, d, d, d, d, d]
def sho24_at5_at52_at31 : List Fm := [.box 100000 [.own (.pair (.pair (.int .i64) (.sl (.int .i64))) .str) 100001 false, .val .bool], .cell (.val (.int .i64)), d, d, .box 100400 [.val (.int .i64), .val (.sl (.int .i64)), .val .str], d, d, d, d, d, d, d, d, d, d, d, d, d, d, d, d, d, d, d, d, d, d, d, d, d, d, d, d, d, d, d, d, d, d, d, d, d, d, d, d, d, d, d, d, d, d, d, d, d, d, d, d, d, d, d, d, d, d, d, d, d, d, d, d, d, d, d, d, d, d, d, d, d, d, d, d, d, d, .fnv 33, d, d, d, d, .ali 100000 0, d, d, d, d, .cell (.val (.int .i64)), d, d, d, d, d, d, d, d, d, d, d, d, d, d, d, d, d, d, d, d, d, d, d, d, d, d, d, d, d, d, d, d, d, d, d, d, d, d, d, d, d, d, d, d, d, d, d, d, d, d, d, d, d, d, d, d, d, d]
noncomputable def impl_ElementsOf_at5_at52_at31 : (((List ((Int × (List Int)) × ByteArray)) × Bool × Unit) × (Int × (List Int) × Unit) × ByteArray × Int × (Int × (List Int) × ByteArray × Unit) × Int × Unit) → Option (((List ((Int × (List Int)) × ByteArray)) × Bool × Unit) × Int × (Int × (List Int) × ByteArray × Unit) × Int × Unit) := fun ((v0_0, v0_1, _), (v1_0, v1_1, _), v2, v39, (v42_0, v42_1, v42_2, _), v131, _) =>
  Option.bind (slices_ContainsFunc_Element (List.take (List.length v0_0) (List.drop 0 v0_0)) (fun y0 => (impl_found_put_1 y0.1 (v1_0, (List.take (List.length v1_1) (List.drop 0 v1_1)))))) fun r1 =>
    bif r1 then
      some (((List.take (List.length v0_0) (List.drop 0 v0_0)), v0_1, ()), v39, (v42_0, v42_1, v42_2, ()), v131, ())
    else
      bif (decide ((((List.length v0_0) : Nat) : Int) ≥ (120 : Int))) then
        some (((List.take (List.length v0_0) (List.drop 0 v0_0)), false, ()), v39, (v42_0, v42_1, v42_2, ()), v131, ())
      else
        bif (decide ((((ByteArray.size v2) : Nat) : Int) > (120 : Int))) then
          some (((List.take (List.length v0_0) (List.drop 0 v0_0)), false, ()), v39, (v42_0, v42_1, v42_2, ()), v131, ())
        else
          if (((0 + (List.length v0_0)) = (List.length v0_0)) ∧ ((((List.length v0_0) + (List.length (List.take 1 (List.drop 0 [((v1_0, (List.take (List.length v1_1) (List.drop 0 v1_1))), v2)])))) * 48) ≤ 140737488355328)) then
            some (((List.take ((List.length v0_0) + (List.length (List.take 1 (List.drop 0 [((v1_0, (List.take (List.length v1_1) (List.drop 0 v1_1))), v2)])))) (List.drop 0 ((List.drop 0 v0_0) ++ (List.take 1 (List.drop 0 [((v1_0, (List.take (List.length v1_1) (List.drop 0 v1_1))), v2)]))))), v0_1, ()), v39, (v42_0, v42_1, v42_2, ()), v131, ())
          else
            none
theorem impl_ElementsOf_at5_at52_at31_eq : inlStep f35.ntmps 82 31 E24_at5_at52_at31 L24_at5_at52_at31_0 f35.results.toList (codeOf f35) shi24_at5_at52_at31 sho24_at5_at52_at31 = impl_ElementsOf_at5_at52_at31 := by kernel_rfl
noncomputable def I24_at5_at52_at31 : CallD := ⟨f35.ntmps, shi24_at5_at52_at31, 82, sho24_at5_at52_at31, impl_ElementsOf_at5_at52_at31⟩
theorem I24_at5_at52_at31_ok : InlOk prog 31 35 I24_at5_at52_at31 := inlOk_of (tysOk_of tyl_ok) E24_at5_at52_at31_ok (L := L24_at5_at52_at31_0) func35 (by kernel_rfl) (c := codeOf f35) (by kernel_rfl) (codeOk_in (L := L24_at5_at52_at31_0) (tysOk_of tyl_ok) E24_at5_at52_at31_ok mixed (c := codeOf f35) (bs := []) (by kernel_rfl) allNil (by kernel_rfl)) (by kernel_rfl) (by kernel_rfl) impl_ElementsOf_at5_at52_at31_eq
noncomputable def E24_at5_at52_at65 : Env := ⟨ty0, fun g => ifEq g 25 (some A25) (ifEq g 53 (some A53) (ifEq g 57 (some A57) (ifEq g 58 (some A58) (ifEq g 34 (some A34) (ifEq g 36 (some A36) (none)))))), fun _ => none, fun _ => none, fun _ => none⟩
theorem E24_at5_at52_at65_ok : FnsOk prog E24_at5_at52_at65 := (oneFn A25_ok func25 (by kernel_rfl) (by kernel_rfl) (oneFn A53_ok func53 (by kernel_rfl) (by kernel_rfl) (oneFn A57_ok func57 (by kernel_rfl) (by kernel_rfl) (oneFn A58_ok func58 (by kernel_rfl) (by kernel_rfl) (oneFn A34_ok func34 (by kernel_rfl) (by kernel_rfl) (oneFn A36_ok func36 (by kernel_rfl) (by kernel_rfl) (noFns _ _)))))))
noncomputable def L24_at5_at52_at65_0 : Nat → Option LoopD := fun _ => none
def shi24_at5_at52_at65 : List Fm := [.box 100000 [.own (.pair (.pair (.int .i64) (.sl (.int .i64))) .str) 100001 false, .val .bool], .cell (.val (.pair (.int .i64) (.sl (.int .i64)))), .cell (.val .str), d, d, d, d, d, d, d, d, d, d, d, d, d, d, d, d, d, d, d, d, d, d, d, d, d, d, d, d, d, d, d, d, d, d, d, .ali 100000 0, .cell (.val (.int .i64)), d, d, .box 104200 [.val (.int .i64), .val (.sl (.int .i64)), .val .str], d, d, .cell (.val (.int .i64)), .box 104600 [.val (.int .i64), .val (.sl (.int .i64)), .val .str], .box 104700 [.val (.int .i64), .val (.sl (.int .i64))], d, d, d, d, d, d, d, d, d, d, d, d, d, d, d, d, d, d, d, d, d, d, d, d, d, d, d, d, d, d, d, d, d, d, d, d, d, d, d, d, d, d, d, d, d, d, d, d, d, d, d, d, d, d, d, d, d, d, d, d, d, d, d, d, d, d, d, d, d, d, d, d, d, .fnv 33, d, d, d, d, .ali 100000 0, d, d, d, d, .cell (.val (.int .i64)), d, d, d, d, d, d, d, d, d, d, d, d, d, d, d, d, d, d, d, d, d, d, d, d, d, d, d, d, d, d, d, d, d, d, d, d, d, d, d, d, d, d, d, d, d, d, d, d, d, d, d, d, d, d, d, d, d, d]
def sho24_at5_at52_at65 : List Fm := [.box 100000 [.own (.pair (.pair (.int .i64) (.sl (.int .i64))) .str) 100001 false, .val .bool], .cell (.val (.int .i64)), d, d, .box 100400 [.val (.int .i64), .val (.sl (.int .i64)), .val .str], d, d, .cell (.val (.int .i64)), .box 100800 [.val (.int .i64), .val (.sl (.int .i64)), .val .str], .box 100900 [.val (.int .i64), .val (.sl (.int .i64))], d, d, d, d, d, d, d, d, d, d, d, d, d, d, d, d, d, d, d, d, d, d, d, d, d, d, d, d, d, d, d, d, d, d, d, d, d, d, d, d, d, d, d, d, d, d, d, d, d, d, d, d, d, d, d, d, d, d, d, d, d, d, d, d, d, d, d, d, d, d, d, d, d, .fnv 33, d, d, d, d, .ali 100000 0, d, d, d, d, .cell (.val (.int .i64)), d, d, d, d, d, d, d, d, d, d, d, d, d, d, d, d, d, d, d, d, d, d, d, d, d, d, d, d, d, d, d, d, d, d, d, d, d, d, d, d, d, d, d, d, d, d, d, d, d, d, d, d, d, d, d, d, d, d]
noncomputable def impl_ElementsOf_at5_at52_at65 : (((List ((Int × (List Int)) × ByteArray)) × Bool × Unit) × (Int × (List Int)) × ByteArray × Int × (Int × (List Int) × ByteArray × Unit) × Int × (Int × (List Int) × ByteArray × Unit) × (Int × (List Int) × Unit) × Int × Unit) → Option (((List ((Int × (List Int)) × ByteArray)) × Bool × Unit) × Int × (Int × (List Int) × ByteArray × Unit) × Int × (Int × (List Int) × ByteArray × Unit) × (Int × (List Int) × Unit) × Int × Unit) := fun ((v0_0, v0_1, _), (v1_0, v1_1), v2, v39, (v42_0, v42_1, v42_2, _), v45, (v46_0, v46_1, v46_2, _), (v47_0, v47_1, _), v131, _) =>
  Option.bind (slices_ContainsFunc_Element (List.take (List.length v0_0) (List.drop 0 v0_0)) (fun y0 => (impl_found_put_1 y0.1 (v1_0, v1_1)))) fun r1 =>
    bif r1 then
      some (((List.take (List.length v0_0) (List.drop 0 v0_0)), v0_1, ()), v39, (v42_0, v42_1, v42_2, ()), v45, (v46_0, v46_1, v46_2, ()), (v47_0, v47_1, ()), v131, ())
    else
      bif (decide ((((List.length v0_0) : Nat) : Int) ≥ (120 : Int))) then
        some (((List.take (List.length v0_0) (List.drop 0 v0_0)), false, ()), v39, (v42_0, v42_1, v42_2, ()), v45, (v46_0, v46_1, v46_2, ()), (v47_0, v47_1, ()), v131, ())
      else
        bif (decide ((((ByteArray.size v2) : Nat) : Int) > (120 : Int))) then
          some (((List.take (List.length v0_0) (List.drop 0 v0_0)), false, ()), v39, (v42_0, v42_1, v42_2, ()), v45, (v46_0, v46_1, v46_2, ()), (v47_0, v47_1, ()), v131, ())
        else
          if (((0 + (List.length v0_0)) = (List.length v0_0)) ∧ ((((List.length v0_0) + (List.length (List.take 1 (List.drop 0 [((v1_0, v1_1), v2)])))) * 48) ≤ 140737488355328)) then
            some (((List.take ((List.length v0_0) + (List.length (List.take 1 (List.drop 0 [((v1_0, v1_1), v2)])))) (List.drop 0 ((List.drop 0 v0_0) ++ (List.take 1 (List.drop 0 [((v1_0, v1_1), v2)]))))), v0_1, ()), v39, (v42_0, v42_1, v42_2, ()), v45, (v46_0, v46_1, v46_2, ()), (v47_0, v47_1, ()), v131, ())
          else
            none
theorem impl_ElementsOf_at5_at52_at65_eq : inlStep f35.ntmps 82 65 E24_at5_at52_at65 L24_at5_at52_at65_0 f35.results.toList (codeOf f35) shi24_at5_at52_at65 sho24_at5_at52_at65 = impl_ElementsOf_at5_at52_at65 := by kernel_rfl
noncomputable def I24_at5_at52_at65 : CallD := ⟨f35.ntmps, shi24_at5_at52_at65, 82, sho24_at5_at52_at65, impl_ElementsOf_at5_at52_at65⟩
theorem I24_at5_at52_at65_ok : InlOk prog 65 35 I24_at5_at52_at65 := inlOk_of (tysOk_of tyl_ok) E24_at5_at52_at65_ok (L := L24_at5_at52_at65_0) func35 (by kernel_rfl) (c := codeOf f35) (by kernel_rfl) (codeOk_in (L := L24_at5_at52_at65_0) (tysOk_of tyl_ok) E24_at5_at52_at65_ok mixed (c := codeOf f35) (bs := []) (by kernel_rfl) allNil (by kernel_rfl)) (by kernel_rfl) (by kernel_rfl) impl_ElementsOf_at5_at52_at65_eq
noncomputable def E24_at5_at52_at81 : Env := ⟨ty0, fun g => ifEq g 25 (some A25) (ifEq g 53 (some A53) (ifEq g 57 (some A57) (ifEq g 58 (some A58) (ifEq g 34 (some A34) (ifEq g 36 (some A36) (none)))))), fun _ => none, fun _ => none, fun _ => none⟩
theorem E24_at5_at52_at81_ok : FnsOk prog E24_at5_at52_at81 := (oneFn A25_ok func25 (by kernel_rfl) (by kernel_rfl) (oneFn A53_ok func53 (by kernel_rfl) (by kernel_rfl) (oneFn A57_ok func57 (by kernel_rfl) (by kernel_rfl) (oneFn A58_ok func58 (by kernel_rfl) (by kernel_rfl) (oneFn A34_ok func34 (by kernel_rfl) (by kernel_rfl) (oneFn A36_ok func36 (by kernel_rfl) (by kernel_rfl) (noFns _ _)))))))
noncomputable def L24_at5_at52_at81_0 : Nat → Option LoopD := fun _ => none
def shi24_at5_at52_at81 : List Fm := [.box 100000 [.own (.pair (.pair (.int .i64) (.sl (.int .i64))) .str) 100001 false, .val .bool], .agg [.val (.int .i64), .own (.int .i64) 100102 false], .cell (.val .str), d, d, d, d, d, d, d, d, d, d, d, d, d, d, d, d, d, d, d, d, d, d, d, d, d, d, d, d, d, d, d, d, d, d, d, .ali 100000 0, .cell (.val (.int .i64)), d, d, .box 104200 [.val (.int .i64), .val (.sl (.int .i64)), .val .str], d, d, .cell (.val (.int .i64)), d, d, d, d, d, d, d, d, d, d, d, d, d, d, d, d, d, d, d, d, d, d, d, d, d, d, d, d, d, d, d, d, d, d, d, d, d, d, d, d, d, d, d, d, d, d, d, d, d, d, d, d, d, d, d, d, d, d, d, d, d, d, d, d, d, d, d, d, d, d, d, d, d, d, d, .fnv 33, d, d, d, d, .ali 100000 0, d, d, d, d, .cell (.val (.int .i64)), d, d, d, d, d, d, d, d, d, d, d, d, d, d, d, d, d, d, d, d, d, d, d, d, d, d, d, d, d, d, d, d, d, d, d, d, d, d, d, d, d, d, d, d, d, d, d, d, d, d, d, d, d, d, d, d, d, d]
def sho24_at5_at52_at81 : List Fm := [.box 100000 [.own (.pair (.pair (.int .i64) (.sl (.int .i64))) .str) 100001 false, .val .bool], .cell (.val (.int .i64)), d, d, .box 100400 [.val (.int .i64), .val (.sl (.int .i64)), .val .str], d, d, .cell (.val (.int .i64)), d, d, d, d, d, d, d, d, d, d, d, d, d, d, d, d, d, d, d, d, d, d, d, d, d, d, d, d, d, d, d, d, d, d, d, d, d, d, d, d, d, d, d, d, d, d, d, d, d, d, d, d, d, d, d, d, d, d, d, d, d, d, d, d, d, d, d, d, d, d, d, d, d, d, d, .fnv 33, d, d, d, d, .ali 100000 0, d, d, d, d, .cell (.val (.int .i64)), d, d, d, d, d, d, d, d, d, d, d, d, d, d, d, d, d, d, d, d, d, d, d, d, d, d, d, d, d, d, d, d, d, d, d, d, d, d, d, d, d, d, d, d, d, d, d, d, d, d, d, d, d, d, d, d, d, d]
noncomputable def impl_ElementsOf_at5_at52_at81 : (((List ((Int × (List Int)) × ByteArray)) × Bool × Unit) × (Int × (List Int) × Unit) × ByteArray × Int × (Int × (List Int) × ByteArray × Unit) × Int × Int × Unit) → Option (((List ((Int × (List Int)) × ByteArray)) × Bool × Unit) × Int × (Int × (List Int) × ByteArray × Unit) × Int × Int × Unit) := fun ((v0_0, v0_1, _), (v1_0, v1_1, _), v2, v39, (v42_0, v42_1, v42_2, _), v45, v131, _) =>
  Option.bind (slices_ContainsFunc_Element (List.take (List.length v0_0) (List.drop 0 v0_0)) (fun y0 => (impl_found_put_1 y0.1 (v1_0, (List.take (List.length v1_1) (List.drop 0 v1_1)))))) fun r1 =>
    bif r1 then
      some (((List.take (List.length v0_0) (List.drop 0 v0_0)), v0_1, ()), v39, (v42_0, v42_1, v42_2, ()), v45, v131, ())
    else
      bif (decide ((((List.length v0_0) : Nat) : Int) ≥ (120 : Int))) then
        some (((List.take (List.length v0_0) (List.drop 0 v0_0)), false, ()), v39, (v42_0, v42_1, v42_2, ()), v45, v131, ())
      else
        bif (decide ((((ByteArray.size v2) : Nat) : Int) > (120 : Int))) then
          some (((List.take (List.length v0_0) (List.drop 0 v0_0)), false, ()), v39, (v42_0, v42_1, v42_2, ()), v45, v131, ())
        else
          if (((0 + (List.length v0_0)) = (List.length v0_0)) ∧ ((((List.length v0_0) + (List.length (List.take 1 (List.drop 0 [((v1_0, (List.take (List.length v1_1) (List.drop 0 v1_1))), v2)])))) * 48) ≤ 140737488355328)) then
            some (((List.take ((List.length v0_0) + (List.length (List.take 1 (List.drop 0 [((v1_0, (List.take (List.length v1_1) (List.drop 0 v1_1))), v2)])))) (List.drop 0 ((List.drop 0 v0_0) ++ (List.take 1 (List.drop 0 [((v1_0, (List.take (List.length v1_1) (List.drop 0 v1_1))), v2)]))))), v0_1, ()), v39, (v42_0, v42_1, v42_2, ()), v45, v131, ())
          else
            none
theorem impl_ElementsOf_at5_at52_at81_eq : inlStep f35.ntmps 82 81 E24_at5_at52_at81 L24_at5_at52_at81_0 f35.results.toList (codeOf f35) shi24_at5_at52_at81 sho24_at5_at52_at81 = impl_ElementsOf_at5_at52_at81 := by kernel_rfl
noncomputable def I24_at5_at52_at81 : CallD := ⟨f35.ntmps, shi24_at5_at52_at81, 82, sho24_at5_at52_at81, impl_ElementsOf_at5_at52_at81⟩
theorem I24_at5_at52_at81_ok : InlOk prog 81 35 I24_at5_at52_at81 := inlOk_of (tysOk_of tyl_ok) E24_at5_at52_at81_ok (L := L24_at5_at52_at81_0) func35 (by kernel_rfl) (c := codeOf f35) (by kernel_rfl) (codeOk_in (L := L24_at5_at52_at81_0) (tysOk_of tyl_ok) E24_at5_at52_at81_ok mixed (c := codeOf f35) (bs := []) (by kernel_rfl) allNil (by kernel_rfl)) (by kernel_rfl) (by kernel_rfl) impl_ElementsOf_at5_at52_at81_eq
noncomputable def E24_at5_at52 : Env := ⟨ty0, fun g => ifEq g 25 (some A25) (ifEq g 53 (some A53) (ifEq g 57 (some A57) (ifEq g 58 (some A58) (ifEq g 34 (some A34) (ifEq g 36 (some A36) (none)))))), fun _ => none, fun _ => none, fun d => ifI (Nat.beq d 31) (some (35, I24_at5_at52_at31)) (ifI (Nat.beq d 65) (some (35, I24_at5_at52_at65)) (ifI (Nat.beq d 81) (some (35, I24_at5_at52_at81)) (none)))⟩
theorem E24_at5_at52_ok : FnsOk prog E24_at5_at52 := (oneIl (d0 := 31) (g0 := 35) I24_at5_at52_at31_ok (oneIl (d0 := 65) (g0 := 35) I24_at5_at52_at65_ok (oneIl (d0 := 81) (g0 := 35) I24_at5_at52_at81_ok (oneFn A25_ok func25 (by kernel_rfl) (by kernel_rfl) (oneFn A53_ok func53 (by kernel_rfl) (by kernel_rfl) (oneFn A57_ok func57 (by kernel_rfl) (by kernel_rfl) (oneFn A58_ok func58 (by kernel_rfl) (by kernel_rfl) (oneFn A34_ok func34 (by kernel_rfl) (by kernel_rfl) (oneFn A36_ok func36 (by kernel_rfl) (by kernel_rfl) (noFns _ _))))))))))
noncomputable def L24_at5_at52_0 : Nat → Option LoopD := fun _ => none
def sh24_at5_at52_5 : List Fm := [.box 100000 [.own (.pair (.pair (.int .i64) (.sl (.int .i64))) .str) 100001 false, .val .bool], .cell (.val (.int .i64)), d, d, .box 100400 [.val (.int .i64), .val (.sl (.int .i64)), .val .str], d, d, .cell (.val (.int .i64)), d, d, d, d, d, d, d, d, d, d, d, d, d, d, d, d, d, d, d, d, d, d, d, d, d, d, d, d, d, d, d, d, d, d, d, d, d, d, d, d, d, d, d, d, d, d, d, d, d, d, d, d, d, d, d, d, d, d, d, d, d, d, d, d, d, d, d, d, d, d, d, d, d, d, d, .fnv 33, d, d, d, d, .ali 100000 0, d, d, d, d, .cell (.val (.int .i64)), d, d, d, d, d, d, d, d, d, d, d, d, d, d, d, d, d, d, d, d, d, d, d, d, d, d, d, d, d, d, d, d, d, d, d, d, d, d, d, d, d, d, d, d, d, d, d, d, d, d, d, d, d, d, d, d, d, d]
def xs24_at5_at52_5 : List (Ex × List Fm) := [(.exit 0, [d, d, d, d, d, d, d, d, d, d, d, d, d, d, d, d, d, d, d, d, d, d, d, d, d, d, d, d, d, d, d, d, d, d, d, d, d, d, d, d, d, d, d, d, d, d, d, d, d, d, d, d, d, d, d, d, d, d, d, d, d, d, d, d, d, d, d, d, d, d, d, d, d, d, d, d, d, d, d, d, d, d, d, .fnv 33, d, d, d, d, .box 108800 [.own (.pair (.pair (.int .i64) (.sl (.int .i64))) .str) 108801 false, .val .bool], d, d, d, d, .cell (.val (.int .i64)), d, d, d, d, d, d, d, d, d, d, d, d, d, d, d, d, d, d, d, d, d, d, d, d, d, d, d, d, d, d, d, d, d, d, d, d, d, d, d, d, d, d, d, d, d, d, d, d, d, d, d, d, d, d, d, d, d, d])]
noncomputable def impl_ElementsOf_at5_at52_l5 : (((List ((Int × (List Int)) × ByteArray)) × Bool × Unit) × Int × (Int × (List Int) × ByteArray × Unit) × Int × Int × Unit) → Option ((((List ((Int × (List Int)) × ByteArray)) × Bool × Unit) × Int × (Int × (List Int) × ByteArray × Unit) × Int × Int × Unit) ⊕ ((((List ((Int × (List Int)) × ByteArray)) × Bool × Unit) × Int × Unit))) := fun ((v0_0, v0_1, _), v1, (v4_0, v4_1, v4_2, _), v7, v93, _) =>
  bif (decide (v7 ≤ v1)) then
    bif v0_1 then
      if (((0 : Int) ≤ v7) ∧ (v7 < (((List.length v0_0) : Nat) : Int))) then
        Option.bind (impl_MulGrades (v4_0, v4_1) ((List.getD v0_0 (0 + (Int.toNat v7)) (((0 : Int), []), (⟨Array.empty⟩ : ByteArray))).1.1, (List.getD v0_0 (0 + (Int.toNat v7)) (((0 : Int), []), (⟨Array.empty⟩ : ByteArray))).1.2)) fun ((r0, r1), r2) =>
          if (((ByteArray.size v4_2) + (ByteArray.size (List.getD v0_0 (0 + (Int.toNat v7)) (((0 : Int), []), (⟨Array.empty⟩ : ByteArray))).2)) ≤ 9223372036854775807) then
            Option.bind (impl_ElementsOf_at5_at52_at65 (((List.take (List.length v0_0) (List.drop 0 v0_0)), v0_1, ()), (r0, (List.take (List.length r1) (List.drop 0 r1))), (v4_2 ++ (List.getD v0_0 (0 + (Int.toNat v7)) (((0 : Int), []), (⟨Array.empty⟩ : ByteArray))).2), v1, (v4_0, v4_1, v4_2, ()), v7, ((List.getD v0_0 (0 + (Int.toNat v7)) (((0 : Int), []), (⟨Array.empty⟩ : ByteArray))).1.1, (List.getD v0_0 (0 + (Int.toNat v7)) (((0 : Int), []), (⟨Array.empty⟩ : ByteArray))).1.2, (List.getD v0_0 (0 + (Int.toNat v7)) (((0 : Int), []), (⟨Array.empty⟩ : ByteArray))).2, ()), (r0, (List.take (List.length r1) (List.drop 0 r1)), ()), v93, ())) fun ((r3, r4, _), r5, (r6, r7, r8, _), r9, (r10, r11, r12, _), (r13, r14, _), r15, _) =>
              Option.bind (impl_MulGrades (r10, r11) (r6, r7)) fun ((r16, r17), r18) =>
                if (((ByteArray.size r12) + (ByteArray.size r8)) ≤ 9223372036854775807) then
                  Option.bind (impl_ElementsOf_at5_at52_at81 (((List.take (List.length r3) (List.drop 0 r3)), r4, ()), (r16, (List.take (List.length r17) (List.drop 0 r17)), ()), (r12 ++ r8), r5, (r6, r7, r8, ()), r9, r15, ())) fun ((r19, r20, _), r21, (r22, r23, r24, _), r25, r26, _) =>
                    some (Sum.inl (((List.take (List.length r19) (List.drop 0 r19)), r20, ()), r21, (r22, r23, r24, ()), (IntKind.wrap .i64 (r25 + (1 : Int))), r26, ()))
                else
                  none
          else
            none
      else
        none
    else
      some (Sum.inr (((List.take (List.length v0_0) (List.drop 0 v0_0)), v0_1, ()), v93, ()))
  else
    some (Sum.inr (((List.take (List.length v0_0) (List.drop 0 v0_0)), v0_1, ()), v93, ()))
theorem impl_ElementsOf_at5_at52_l5_eq : loopStep 82 E24_at5_at52 L24_at5_at52_0 (loopOf f33 5) sh24_at5_at52_5 xs24_at5_at52_5 = impl_ElementsOf_at5_at52_l5 := by kernel_rfl
theorem loop24_at5_at52_5 {L : Nat → Option LoopD} (h : L 5 = some ⟨82, sh24_at5_at52_5, xs24_at5_at52_5, impl_ElementsOf_at5_at52_l5⟩) : LoopOk prog L (loopOf f33 5) :=
  loopOk (tysOk_of tyl_ok) E24_at5_at52_ok (codeOk_in (L := L24_at5_at52_0) (tysOk_of tyl_ok) E24_at5_at52_ok mixed (c := loopOf f33 5) (bs := []) (by kernel_rfl) allNil (by kernel_rfl)) (by kernel_rfl) (by kernel_rfl) impl_ElementsOf_at5_at52_l5_eq (by rw [show firstId (loopOf f33 5) = 5 from by kernel_rfl]; exact h)
noncomputable def L24_at5_at52_1 : Nat → Option LoopD := fun n => ifEq n 5 (some ⟨82, sh24_at5_at52_5, xs24_at5_at52_5, impl_ElementsOf_at5_at52_l5⟩) (L24_at5_at52_0 n)
def shi24_at5_at52 : List Fm := [.box 100000 [.own (.pair (.pair (.int .i64) (.sl (.int .i64))) .str) 100001 false, .val .bool], .cell (.val (.int .i64)), d, d, d, d, d, d, d, d, d, d, d, d, d, d, d, d, d, d, d, d, d, d, d, d, d, d, d, d, d, d, d, d, d, d, d, d, d, d, d, d, d, d, d, d, d, d, d, d, d, d, d, d, d, d, d, d, d, d, d, d, d, d, d, d, d, d, d, d, d, d, d, d, d, d, d, d, d, d, d, d, d, .fnv 33, d, d, d, d, .ali 100000 0, d, d, d, d, .cell (.val (.int .i64)), d, d, d, d, d, d, d, d, d, d, d, d, d, d, d, d, d, d, d, d, d, d, d, d, d, d, d, d, d, d, d, d, d, d, d, d, d, d, d, d, d, d, d, d, d, d, d, d, d, d, d, d, d, d, d, d, d, d]
def sho24_at5_at52 : List Fm := [d, .fnv 33, d, d, d, d, .box 100600 [.own (.pair (.pair (.int .i64) (.sl (.int .i64))) .str) 100601 false, .val .bool], d, d, d, d, .cell (.val (.int .i64)), d, d, d, d, d, d, d, d, d, d, d, d, d, d, d, d, d, d, d, d, d, d, d, d, d, d, d, d, d, d, d, d, d, d, d, d, d, d, d, d, d, d, d, d, d, d, d, d, d, d, d, d, d, d, d, d, d, d]
noncomputable def impl_ElementsOf_at5_at52 : (((List ((Int × (List Int)) × ByteArray)) × Bool × Unit) × Int × Int × Unit) → Option (((List ((Int × (List Int)) × ByteArray)) × Bool × Unit) × Int × Unit) := fun ((v0_0, v0_1, _), v1, v93, _) =>
  if (((0 : Int) ≤ v1) ∧ (v1 < (((List.length v0_0) : Nat) : Int))) then
    Option.bind (impl_Stabilise ((List.getD v0_0 (0 + (Int.toNat v1)) (((0 : Int), []), (⟨Array.empty⟩ : ByteArray))).1.1, (List.getD v0_0 (0 + (Int.toNat v1)) (((0 : Int), []), (⟨Array.empty⟩ : ByteArray))).1.2)) fun ((r0, r1), r2) =>
      bif r2 then
        if (((ByteArray.size (⟨#[(40 : UInt8)]⟩ : ByteArray)) + (ByteArray.size (List.getD v0_0 (0 + (Int.toNat v1)) (((0 : Int), []), (⟨Array.empty⟩ : ByteArray))).2)) ≤ 9223372036854775807) then
          if (((ByteArray.size ((⟨#[(40 : UInt8)]⟩ : ByteArray) ++ (List.getD v0_0 (0 + (Int.toNat v1)) (((0 : Int), []), (⟨Array.empty⟩ : ByteArray))).2)) + (ByteArray.size (⟨#[(41 : UInt8), (35 : UInt8)]⟩ : ByteArray))) ≤ 9223372036854775807) then
            Option.bind (impl_ElementsOf_at5_at52_at31 (((List.take (List.length v0_0) (List.drop 0 v0_0)), v0_1, ()), (r0, (List.take (List.length r1) (List.drop 0 r1)), ()), (((⟨#[(40 : UInt8)]⟩ : ByteArray) ++ (List.getD v0_0 (0 + (Int.toNat v1)) (((0 : Int), []), (⟨Array.empty⟩ : ByteArray))).2) ++ (⟨#[(41 : UInt8), (35 : UInt8)]⟩ : ByteArray)), v1, ((List.getD v0_0 (0 + (Int.toNat v1)) (((0 : Int), []), (⟨Array.empty⟩ : ByteArray))).1.1, (List.getD v0_0 (0 + (Int.toNat v1)) (((0 : Int), []), (⟨Array.empty⟩ : ByteArray))).1.2, (List.getD v0_0 (0 + (Int.toNat v1)) (((0 : Int), []), (⟨Array.empty⟩ : ByteArray))).2, ()), v93, ())) fun ((r3, r4, _), r5, (r6, r7, r8, _), r9, _) =>
              Option.bind (loopF impl_ElementsOf_at5_at52_l5 (((List.take (List.length r3) (List.drop 0 r3)), r4, ()), r5, (r6, r7, r8, ()), (0 : Int), r9, ())) fun ((r10, r11, _), r12, _) =>
                some (((List.take (List.length r10) (List.drop 0 r10)), r11, ()), r12, ())
          else
            none
        else
          none
      else
        Option.bind (loopF impl_ElementsOf_at5_at52_l5 (((List.take (List.length v0_0) (List.drop 0 v0_0)), v0_1, ()), v1, ((List.getD v0_0 (0 + (Int.toNat v1)) (((0 : Int), []), (⟨Array.empty⟩ : ByteArray))).1.1, (List.getD v0_0 (0 + (Int.toNat v1)) (((0 : Int), []), (⟨Array.empty⟩ : ByteArray))).1.2, (List.getD v0_0 (0 + (Int.toNat v1)) (((0 : Int), []), (⟨Array.empty⟩ : ByteArray))).2, ()), (0 : Int), v93, ())) fun ((r13, r14, _), r15, _) =>
          some (((List.take (List.length r13) (List.drop 0 r13)), r14, ()), r15, ())
  else
    none
theorem impl_ElementsOf_at5_at52_eq : inlStep f33.ntmps 62 52 E24_at5_at52 L24_at5_at52_1 f33.results.toList (codeOf f33) shi24_at5_at52 sho24_at5_at52 = impl_ElementsOf_at5_at52 := by kernel_rfl
noncomputable def I24_at5_at52 : CallD := ⟨f33.ntmps, shi24_at5_at52, 62, sho24_at5_at52, impl_ElementsOf_at5_at52⟩
theorem I24_at5_at52_ok : InlOk prog 52 33 I24_at5_at52 := inlOk_of (tysOk_of tyl_ok) E24_at5_at52_ok (L := L24_at5_at52_1) func33 (by kernel_rfl) (c := codeOf f33) (by kernel_rfl) (codeOk_in (L := L24_at5_at52_1) (tysOk_of tyl_ok) E24_at5_at52_ok mixed (c := codeOf f33) (bs := [loopOf f33 5]) (by kernel_rfl) (allCons (loop24_at5_at52_5 rfl) allNil) (by kernel_rfl)) (by kernel_rfl) (by kernel_rfl) impl_ElementsOf_at5_at52_eq
noncomputable def E24_at5 : Env := ⟨ty0, fun g => ifEq g 25 (some A25) (ifEq g 53 (some A53) (ifEq g 57 (some A57) (ifEq g 58 (some A58) (ifEq g 34 (some A34) (ifEq g 36 (some A36) (none)))))), fun _ => none, fun _ => none, fun d => ifI (Nat.beq d 32) (some (35, I24_at5_at32)) (ifI (Nat.beq d 52) (some (33, I24_at5_at52)) (none))⟩
theorem E24_at5_ok : FnsOk prog E24_at5 := (oneIl (d0 := 32) (g0 := 35) I24_at5_at32_ok (oneIl (d0 := 52) (g0 := 33) I24_at5_at52_ok (oneFn A25_ok func25 (by kernel_rfl) (by kernel_rfl) (oneFn A53_ok func53 (by kernel_rfl) (by kernel_rfl) (oneFn A57_ok func57 (by kernel_rfl) (by kernel_rfl) (oneFn A58_ok func58 (by kernel_rfl) (by kernel_rfl) (oneFn A34_ok func34 (by kernel_rfl) (by kernel_rfl) (oneFn A36_ok func36 (by kernel_rfl) (by kernel_rfl) (noFns _ _)))))))))
noncomputable def L24_at5_0 : Nat → Option LoopD := fun _ => none
def sh24_at5_5 : List Fm := [d, .fnv 33, .box 100200 [.val (.int .i64), .val (.sl (.int .i64)), .val (.sl (.int .i64)), .val (.sl (.pair (.int .i64) (.pair .str (.pair (.int .i64) (.int .i64)))))], d, d, d, .box 100600 [.own (.pair (.pair (.int .i64) (.sl (.int .i64))) .str) 100601 false, .val .bool], d, d, d, d, d, d, d, d, d, d, .cell (.own .str 101700 false), .cell (.val (.int .i64)), .cell (.val (.int .i64)), d, d, d, d, d, d, d, d, d, d, d, d, d, d, d, d, d, d, d, d, d, d, d, d, d, d, d, d, d, d, d, d, d, d, d, d, d, d, d, d, d, d, d, d, d, d, d, d, d, d]
def xs24_at5_5 : List (Ex × List Fm) := [(.exit 0, [d, .fnv 33, d, d, d, d, .box 100600 [.own (.pair (.pair (.int .i64) (.sl (.int .i64))) .str) 100601 false, .val .bool], d, d, d, d, d, d, d, d, d, d, d, d, d, d, d, d, d, d, d, d, d, d, d, d, d, d, d, d, d, d, d, d, d, d, d, d, d, d, d, d, d, d, d, d, d, d, d, d, d, d, d, d, d, d, d, d, d, d, d, d, d, d, d])]
noncomputable def impl_ElementsOf_at5_l5 : ((Int × (List Int) × (List Int) × (List (Int × (ByteArray × (Int × Int)))) × Unit) × ((List ((Int × (List Int)) × ByteArray)) × Bool × Unit) × (List ByteArray) × Int × Int × Unit) → Option (((Int × (List Int) × (List Int) × (List (Int × (ByteArray × (Int × Int)))) × Unit) × ((List ((Int × (List Int)) × ByteArray)) × Bool × Unit) × (List ByteArray) × Int × Int × Unit) ⊕ ((((List ((Int × (List Int)) × ByteArray)) × Bool × Unit) × Unit))) := fun ((v2_0, v2_1, v2_2, v2_3, _), (v6_0, v6_1, _), v17, v18, v19, _) =>
  bif (decide (v19 < v18)) then
    if (((0 : Int) ≤ v19) ∧ (v19 < (((List.length v17) : Nat) : Int))) then
      Option.bind (impl_ValueOf (v2_0, v2_1, v2_2, v2_3) (List.getD v17 (0 + (Int.toNat v19)) (⟨Array.empty⟩ : ByteArray))) fun ((r0, r1), r2) =>
        Option.bind (impl_ElementsOf_at5_at32 (((List.take (List.length v6_0) (List.drop 0 v6_0)), v6_1, ()), (r0, (List.take (List.length r1) (List.drop 0 r1)), ()), (List.getD v17 (0 + (Int.toNat v19)) (⟨Array.empty⟩ : ByteArray)), (v2_0, v2_1, v2_2, v2_3, ()), (List.take (List.length v17) (List.drop 0 v17)), v18, v19, ())) fun ((r3, r4, r5, r6, _), (r7, r8, _), r9, r10, r11, _) =>
          some (Sum.inl ((r3, r4, r5, r6, ()), ((List.take (List.length r7) (List.drop 0 r7)), r8, ()), (List.take (List.length r9) (List.drop 0 r9)), r10, (IntKind.wrap .i64 (r11 + (1 : Int))), ()))
    else
      none
  else
    some (Sum.inr (((List.take (List.length v6_0) (List.drop 0 v6_0)), v6_1, ()), ()))
theorem impl_ElementsOf_at5_l5_eq : loopStep 62 E24_at5 L24_at5_0 (loopOf f32 5) sh24_at5_5 xs24_at5_5 = impl_ElementsOf_at5_l5 := by kernel_rfl
theorem loop24_at5_5 {L : Nat → Option LoopD} (h : L 5 = some ⟨62, sh24_at5_5, xs24_at5_5, impl_ElementsOf_at5_l5⟩) : LoopOk prog L (loopOf f32 5) :=
  loopOk (tysOk_of tyl_ok) E24_at5_ok (codeOk_in (L := L24_at5_0) (tysOk_of tyl_ok) E24_at5_ok mixed (c := loopOf f32 5) (bs := []) (by kernel_rfl) allNil (by kernel_rfl)) (by kernel_rfl) (by kernel_rfl) impl_ElementsOf_at5_l5_eq (by rw [show firstId (loopOf f32 5) = 5 from by kernel_rfl]; exact h)
noncomputable def L24_at5_1 : Nat → Option LoopD := fun n => ifEq n 5 (some ⟨62, sh24_at5_5, xs24_at5_5, impl_ElementsOf_at5_l5⟩) (L24_at5_0 n)
def sh24_at5_11 : List Fm := [d, .fnv 33, d, d, d, d, .box 100600 [.own (.pair (.pair (.int .i64) (.sl (.int .i64))) .str) 100601 false, .val .bool], d, d, d, d, .cell (.val (.int .i64)), d, d, d, d, d, d, d, d, d, d, d, d, d, d, d, d, d, d, d, d, d, d, d, d, d, d, d, d, d, d, d, d, d, d, d, d, d, d, d, d, d, d, d, d, d, d, d, d, d, d, d, d, d, d, d, d, d, d]
def xs24_at5_11 : List (Ex × List Fm) := [(.exit 2, [d, d, d, d, d, d, .box 100600 [.own (.pair (.pair (.int .i64) (.sl (.int .i64))) .str) 100601 false, .val .bool], d, d, d, d, d, d, d, d, d, d, d, d, d, d, d, d, d, d, d, d, d, d, d, d, d, d, d, d, d, d, d, d, d, d, d, d, d, d, d, d, d, d, d, d, d, d, d, d, d, d, d, d, d, d, d, d, d, d, d, d, d, d, d])]
noncomputable def impl_ElementsOf_at5_l11 : (((List ((Int × (List Int)) × ByteArray)) × Bool × Unit) × Int × Unit) → Option ((((List ((Int × (List Int)) × ByteArray)) × Bool × Unit) × Int × Unit) ⊕ ((((List ((Int × (List Int)) × ByteArray)) × Bool × Unit) × Unit))) := fun ((v6_0, v6_1, _), v11, _) =>
  bif (decide (v11 < (((List.length v6_0) : Nat) : Int))) then
    bif v6_1 then
      Option.bind (impl_ElementsOf_at5_at52 (((List.take (List.length v6_0) (List.drop 0 v6_0)), v6_1, ()), v11, v11, ())) fun ((r0, r1, _), r2, _) =>
        some (Sum.inl (((List.take (List.length r0) (List.drop 0 r0)), r1, ()), (IntKind.wrap .i64 (r2 + (1 : Int))), ()))
    else
      some (Sum.inr (((List.take (List.length v6_0) (List.drop 0 v6_0)), v6_1, ()), ()))
  else
    some (Sum.inr (((List.take (List.length v6_0) (List.drop 0 v6_0)), v6_1, ()), ()))
theorem impl_ElementsOf_at5_l11_eq : loopStep 62 E24_at5 L24_at5_1 (loopOf f32 11) sh24_at5_11 xs24_at5_11 = impl_ElementsOf_at5_l11 := by kernel_rfl
theorem loop24_at5_11 {L : Nat → Option LoopD} (h : L 11 = some ⟨62, sh24_at5_11, xs24_at5_11, impl_ElementsOf_at5_l11⟩) : LoopOk prog L (loopOf f32 11) :=
  loopOk (tysOk_of tyl_ok) E24_at5_ok (codeOk_in (L := L24_at5_1) (tysOk_of tyl_ok) E24_at5_ok mixed (c := loopOf f32 11) (bs := []) (by kernel_rfl) allNil (by kernel_rfl)) (by kernel_rfl) (by kernel_rfl) impl_ElementsOf_at5_l11_eq (by rw [show firstId (loopOf f32 11) = 11 from by kernel_rfl]; exact h)
noncomputable def L24_at5_2 : Nat → Option LoopD := fun n => ifEq n 11 (some ⟨62, sh24_at5_11, xs24_at5_11, impl_ElementsOf_at5_l11⟩) (L24_at5_1 n)
def shi24_at5 : List Fm := [.cell (.val (.pair (.int .i64) (.pair (.sl (.int .i64)) (.pair (.sl (.int .i64)) (.sl (.pair (.int .i64) (.pair .str (.pair (.int .i64) (.int .i64))))))))), .fnv 33, d, d, d, d, d, d, d, d, d, d, d, d, d, d, d, d, d, d, d, d, d, d, d, d, d, d, d, d, d, d, d, d, d, d, d, d, d, d, d, d, d, d, d, d, d, d, d, d, d, d, d, d, d, d, d, d, d, d, d, d, d, d, d, d, d, d, d, d]
def sho24_at5 : List Fm := [d, d, d, d, d, .tup [.own (.pair (.pair (.int .i64) (.sl (.int .i64))) .str) 100501 false, .val .bool], d, d]
noncomputable def impl_ElementsOf_at5 : ((Int × ((List Int) × ((List Int) × (List (Int × (ByteArray × (Int × Int))))))) × Unit) → Option (((List ((Int × (List Int)) × ByteArray)) × Bool × Unit) × Unit) := fun ((v0_0, v0_1, v0_2, v0_3), _) =>
  Option.bind (impl_AutomatonValid (v0_0, v0_1, v0_2, v0_3)) fun r0 =>
    bif (!r0) then
      some (([], false, ()), ())
    else
      Option.bind (loopF impl_ElementsOf_at5_l5 ((v0_0, v0_1, v0_2, v0_3, ()), ([], true, ()), (List.take 2 (List.drop 0 [(⟨#[(97 : UInt8)]⟩ : ByteArray), (⟨#[(98 : UInt8)]⟩ : ByteArray)])), ((2 : Nat) : Int), (0 : Int), ())) fun ((r1, r2, _), _) =>
        Option.bind (loopF impl_ElementsOf_at5_l11 (((List.take (List.length r1) (List.drop 0 r1)), r2, ()), (0 : Int), ())) fun ((r3, r4, _), _) =>
          bif (!r4) then
            some (([], false, ()), ())
          else
            some (((List.take (List.length r3) (List.drop 0 r3)), true, ()), ())
theorem impl_ElementsOf_at5_eq : inlStep f32.ntmps 8 5 E24_at5 L24_at5_2 f32.results.toList (codeOf f32) shi24_at5 sho24_at5 = impl_ElementsOf_at5 := by kernel_rfl
noncomputable def I24_at5 : CallD := ⟨f32.ntmps, shi24_at5, 8, sho24_at5, impl_ElementsOf_at5⟩
theorem I24_at5_ok : InlOk prog 5 32 I24_at5 := inlOk_of (tysOk_of tyl_ok) E24_at5_ok (L := L24_at5_2) func32 (by kernel_rfl) (c := codeOf f32) (by kernel_rfl) (codeOk_in (L := L24_at5_2) (tysOk_of tyl_ok) E24_at5_ok mixed (c := codeOf f32) (bs := [loopOf f32 5, loopOf f32 11]) (by kernel_rfl) (allCons (loop24_at5_5 rfl) (allCons (loop24_at5_11 rfl) allNil)) (by kernel_rfl)) (by kernel_rfl) (by kernel_rfl) impl_ElementsOf_at5_eq
noncomputable def E24 : Env := ⟨ty0, fun g => ifEq g 25 (some A25) (ifEq g 53 (some A53) (ifEq g 57 (some A57) (ifEq g 58 (some A58) (ifEq g 34 (some A34) (ifEq g 36 (some A36) (none)))))), fun _ => none, fun _ => none, fun d => ifI (Nat.beq d 5) (some (32, I24_at5)) (none)⟩
theorem E24_ok : FnsOk prog E24 := (oneIl (d0 := 5) (g0 := 32) I24_at5_ok (oneFn A25_ok func25 (by kernel_rfl) (by kernel_rfl) (oneFn A53_ok func53 (by kernel_rfl) (by kernel_rfl) (oneFn A57_ok func57 (by kernel_rfl) (by kernel_rfl) (oneFn A58_ok func58 (by kernel_rfl) (by kernel_rfl) (oneFn A34_ok func34 (by kernel_rfl) (by kernel_rfl) (oneFn A36_ok func36 (by kernel_rfl) (by kernel_rfl) (noFns _ _))))))))
noncomputable def L24_0 : Nat → Option LoopD := fun _ => none
noncomputable def impl_ElementsOf : (Int × ((List Int) × ((List Int) × (List (Int × (ByteArray × (Int × Int))))))) → Option ((List ((Int × (List Int)) × ByteArray)) × Bool) := fun (a0_0, a0_1, a0_2, a0_3) =>
  Option.bind (impl_ElementsOf_at5 ((a0_0, a0_1, a0_2, a0_3), ())) fun ((r0, r1, _), _) =>
    some ((List.take (List.length r0) (List.drop 0 r0)), r1)
noncomputable def A24 : FnA := ⟨[.v (.pair (.int .i64) (.pair (.sl (.int .i64)) (.pair (.sl (.int .i64)) (.sl (.pair (.int .i64) (.pair .str (.pair (.int .i64) (.int .i64))))))))], true, [.sl (.pair (.pair (.int .i64) (.sl (.int .i64))) .str), .bool], fun x => impl_ElementsOf x.1⟩
theorem impl_ElementsOf_eq : fnF E24 L24_0 [.v (.pair (.int .i64) (.pair (.sl (.int .i64)) (.pair (.sl (.int .i64)) (.sl (.pair (.int .i64) (.pair .str (.pair (.int .i64) (.int .i64))))))))] true [.sl (.pair (.pair (.int .i64) (.sl (.int .i64))) .str), .bool] f24.ntmps f24.results.toList (codeOf f24) = fun x => impl_ElementsOf x.1 := by kernel_rfl
theorem A24_ok : FnOk prog 24 A24 := by
  have h := fnOk_of_run (P := prog) (E := E24) (tysOk_of tyl_ok) E24_ok (L := L24_0) (ps := [.v (.pair (.int .i64) (.pair (.sl (.int .i64)) (.pair (.sl (.int .i64)) (.sl (.pair (.int .i64) (.pair .str (.pair (.int .i64) (.int .i64))))))))]) (own := true) (outs := [.sl (.pair (.pair (.int .i64) (.sl (.int .i64))) .str), .bool]) func24 (c := codeOf f24) (by kernel_rfl) (codeOk_in (L := L24_0) (tysOk_of tyl_ok) E24_ok mixed (c := codeOf f24) (bs := []) (by kernel_rfl) allNil (by kernel_rfl))
  rw [impl_ElementsOf_eq] at h
  exact h
/-! impl.firstWith -/
noncomputable def E15 : Env := ⟨ty0, fun g => ifEq g 24 (some A24) (none), fun _ => none, fun _ => none, fun _ => none⟩
theorem E15_ok : FnsOk prog E15 := (oneFn A24_ok func24 (by kernel_rfl) (by kernel_rfl) (noFns _ _))
noncomputable def L15_0 : Nat → Option LoopD := fun _ => none
def sh15_3 : List Fm := [d, .clo [.pair (.int .i64) (.sl (.int .i64))] .bool, d, d, d, d, d, d, d, d, d, d, d, d, d, .cell (.own (.pair (.pair (.int .i64) (.sl (.int .i64))) .str) 101500 false), .cell (.val (.int .i64)), .cell (.val (.int .i64)), d, d, d, d, d, d, d, d, d, d]
def xs15_3 : List (Ex × List Fm) := [(.ret, [d, d, d, d, .cell (.val .str), .cell (.val .bool), d, d, d, d, d, d, d, d, d, d, d, d, d, d, d, d, d, d, d, d, d, d]), (.exit 0, [d, d, d, d, d, d, d, d, d, d, d, d, d, d, d, d, d, d, d, d, d, d, d, d, d, d, d, d])]
noncomputable def impl_firstWith_l3 : ((((Int × (List Int)) × Unit) → Option (Bool)) × (List ((Int × (List Int)) × ByteArray)) × Int × Int × Unit) → Option (((((Int × (List Int)) × Unit) → Option (Bool)) × (List ((Int × (List Int)) × ByteArray)) × Int × Int × Unit) ⊕ ((ByteArray × Bool × Unit) ⊕ (Unit))) := fun (v1, v15, v16, v17, _) =>
  bif (decide (v17 < v16)) then
    if (((0 : Int) ≤ v17) ∧ (v17 < (((List.length v15) : Nat) : Int))) then
      Option.bind (v1 (((List.getD v15 (0 + (Int.toNat v17)) (((0 : Int), []), (⟨Array.empty⟩ : ByteArray))).1.1, (List.getD v15 (0 + (Int.toNat v17)) (((0 : Int), []), (⟨Array.empty⟩ : ByteArray))).1.2), ())) fun r0 =>
        bif r0 then
          some (Sum.inr (Sum.inl ((List.getD v15 (0 + (Int.toNat v17)) (((0 : Int), []), (⟨Array.empty⟩ : ByteArray))).2, true, ())))
        else
          some (Sum.inl (v1, (List.take (List.length v15) (List.drop 0 v15)), v16, (IntKind.wrap .i64 (v17 + (1 : Int))), ()))
    else
      none
  else
    some (Sum.inr (Sum.inr ()))
theorem impl_firstWith_l3_eq : loopStep 28 E15 L15_0 (loopOf f15 3) sh15_3 xs15_3 = impl_firstWith_l3 := by kernel_rfl
theorem loop15_3 {L : Nat → Option LoopD} (h : L 3 = some ⟨28, sh15_3, xs15_3, impl_firstWith_l3⟩) : LoopOk prog L (loopOf f15 3) :=
  loopOk (tysOk_of tyl_ok) E15_ok (codeOk_in (L := L15_0) (tysOk_of tyl_ok) E15_ok mixed (c := loopOf f15 3) (bs := []) (by kernel_rfl) allNil (by kernel_rfl)) (by kernel_rfl) (by kernel_rfl) impl_firstWith_l3_eq (by rw [show firstId (loopOf f15 3) = 3 from by kernel_rfl]; exact h)
noncomputable def L15_1 : Nat → Option LoopD := fun n => ifEq n 3 (some ⟨28, sh15_3, xs15_3, impl_firstWith_l3⟩) (L15_0 n)
noncomputable def impl_firstWith : (Int × ((List Int) × ((List Int) × (List (Int × (ByteArray × (Int × Int))))))) → (((Int × (List Int)) × Unit) → Option (Bool)) → Option (ByteArray × Bool) := fun (a0_0, a0_1, a0_2, a0_3) a1 =>
  Option.bind (impl_ElementsOf (a0_0, a0_1, a0_2, a0_3)) fun (r0, r1) =>
    Option.bind (loopF impl_firstWith_l3 (a1, (List.take (List.length r0) (List.drop 0 r0)), (((List.length r0) : Nat) : Int), (0 : Int), ())) fun r2 =>
      (match r2 with
      | .inl (d3, d4, _) =>
          some (d3, d4)
      | .inr _ =>
          some ((⟨#[]⟩ : ByteArray), false))
noncomputable def A15 : FnA := ⟨[.v (.pair (.int .i64) (.pair (.sl (.int .i64)) (.pair (.sl (.int .i64)) (.sl (.pair (.int .i64) (.pair .str (.pair (.int .i64) (.int .i64)))))))), .clo [.pair (.int .i64) (.sl (.int .i64))] .bool], true, [.str, .bool], fun x => impl_firstWith x.1 x.2.1⟩
theorem impl_firstWith_eq : fnF E15 L15_1 [.v (.pair (.int .i64) (.pair (.sl (.int .i64)) (.pair (.sl (.int .i64)) (.sl (.pair (.int .i64) (.pair .str (.pair (.int .i64) (.int .i64)))))))), .clo [.pair (.int .i64) (.sl (.int .i64))] .bool] true [.str, .bool] f15.ntmps f15.results.toList (codeOf f15) = fun x => impl_firstWith x.1 x.2.1 := by kernel_rfl
theorem A15_ok : FnOk prog 15 A15 := by
  have h := fnOk_of_run (P := prog) (E := E15) (tysOk_of tyl_ok) E15_ok (L := L15_1) (ps := [.v (.pair (.int .i64) (.pair (.sl (.int .i64)) (.pair (.sl (.int .i64)) (.sl (.pair (.int .i64) (.pair .str (.pair (.int .i64) (.int .i64)))))))), .clo [.pair (.int .i64) (.sl (.int .i64))] .bool]) (own := true) (outs := [.str, .bool]) func15 (c := codeOf f15) (by kernel_rfl) (codeOk_in (L := L15_1) (tysOk_of tyl_ok) E15_ok mixed (c := codeOf f15) (bs := [loopOf f15 3]) (by kernel_rfl) (allCons (loop15_3 rfl) allNil) (by kernel_rfl))
  rw [impl_firstWith_eq] at h
  exact h
/-! impl.GradeBetween -/
noncomputable def E17 : Env := ⟨ty0, fun g => ifEq g 25 (some A25) (ifEq g 26 (some A26) (ifEq g 27 (some A27) (none))), fun _ => none, fun _ => none, fun _ => none⟩
theorem E17_ok : FnsOk prog E17 := (oneFn A25_ok func25 (by kernel_rfl) (by kernel_rfl) (oneFn A26_ok func26 (by kernel_rfl) (by kernel_rfl) (oneFn A27_ok func27 (by kernel_rfl) (by kernel_rfl) (noFns _ _))))
noncomputable def L17_0 : Nat → Option LoopD := fun _ => none
def sh17_8 : List Fm := [d, d, .box 100200 [.val (.int .i64), .val (.sl (.int .i64)), .val (.sl (.int .i64)), .val (.sl (.pair (.int .i64) (.pair .str (.pair (.int .i64) (.int .i64)))))], .box 100300 [.val (.int .i64), .val (.sl (.int .i64))], d, .cell (.val (.int .i64)), d, .cell (.val (.int .i64)), d, d, d, d, d, d, d, d, d, d, d, d, d, d, d, d, d, d, .cell (.val (.sl (.int .i64))), .cell (.val (.int .i64)), .cell (.val (.int .i64)), d, d, d, d, .cell (.val (.sl (.int .i64))), .cell (.val (.int .i64)), .cell (.val (.int .i64)), d, d, d, d, d, d, d, d, d, d, d, d]
def xs17_8 : List (Ex × List Fm) := [(.exit 2, [d, d, .box 100200 [.val (.int .i64), .val (.sl (.int .i64)), .val (.sl (.int .i64)), .val (.sl (.pair (.int .i64) (.pair .str (.pair (.int .i64) (.int .i64)))))], .box 100300 [.val (.int .i64), .val (.sl (.int .i64))], d, .cell (.val (.int .i64)), d, d, d, d, d, d, d, d, d, d, d, d, d, d, d, d, d, d, d, d, .cell (.val (.sl (.int .i64))), .cell (.val (.int .i64)), .cell (.val (.int .i64)), d, d, d, d, d, d, d, d, d, d, d, d, d, d, d, d, d, d, d])]
noncomputable def impl_GradeBetween_l8 : ((Int × (List Int) × (List Int) × (List (Int × (ByteArray × (Int × Int)))) × Unit) × (Int × (List Int) × Unit) × Int × Int × (List Int) × Int × Int × (List Int) × Int × Int × Unit) → Option (((Int × (List Int) × (List Int) × (List (Int × (ByteArray × (Int × Int)))) × Unit) × (Int × (List Int) × Unit) × Int × Int × (List Int) × Int × Int × (List Int) × Int × Int × Unit) ⊕ (((Int × (List Int) × (List Int) × (List (Int × (ByteArray × (Int × Int)))) × Unit) × (Int × (List Int) × Unit) × Int × (List Int) × Int × Int × Unit))) := fun ((v2_0, v2_1, v2_2, v2_3, _), (v3_0, v3_1, _), v5, v7, v26, v27, v28, v33, v34, v35, _) =>
  bif (decide (v35 < v34)) then
    if (((0 : Int) ≤ v35) ∧ (v35 < (((List.length v33) : Nat) : Int))) then
      Option.bind (impl_Matrix_at (v3_0, v3_1) v7 (List.getD v33 (Int.toNat v35) (0 : Int))) fun r0 =>
        some (Sum.inl ((v2_0, v2_1, v2_2, v2_3, ()), (v3_0, v3_1, ()), (if (r0 < v5) then r0 else v5), v7, v26, v27, v28, v33, v34, (IntKind.wrap .i64 (v35 + (1 : Int))), ()))
    else
      none
  else
    some (Sum.inr ((v2_0, v2_1, v2_2, v2_3, ()), (v3_0, v3_1, ()), v5, v26, v27, v28, ()))
theorem impl_GradeBetween_l8_eq : loopStep 48 E17 L17_0 (loopOf f17 8) sh17_8 xs17_8 = impl_GradeBetween_l8 := by kernel_rfl
theorem loop17_8 {L : Nat → Option LoopD} (h : L 8 = some ⟨48, sh17_8, xs17_8, impl_GradeBetween_l8⟩) : LoopOk prog L (loopOf f17 8) :=
  loopOk (tysOk_of tyl_ok) E17_ok (codeOk_in (L := L17_0) (tysOk_of tyl_ok) E17_ok mixed (c := loopOf f17 8) (bs := []) (by kernel_rfl) allNil (by kernel_rfl)) (by kernel_rfl) (by kernel_rfl) impl_GradeBetween_l8_eq (by rw [show firstId (loopOf f17 8) = 8 from by kernel_rfl]; exact h)
noncomputable def L17_1 : Nat → Option LoopD := fun n => ifEq n 8 (some ⟨48, sh17_8, xs17_8, impl_GradeBetween_l8⟩) (L17_0 n)
def sh17_5 : List Fm := [d, d, .box 100200 [.val (.int .i64), .val (.sl (.int .i64)), .val (.sl (.int .i64)), .val (.sl (.pair (.int .i64) (.pair .str (.pair (.int .i64) (.int .i64)))))], .box 100300 [.val (.int .i64), .val (.sl (.int .i64))], d, .cell (.val (.int .i64)), d, d, d, d, d, d, d, d, d, d, d, d, d, d, d, d, d, d, d, d, .cell (.val (.sl (.int .i64))), .cell (.val (.int .i64)), .cell (.val (.int .i64)), d, d, d, d, d, d, d, d, d, d, d, d, d, d, d, d, d, d, d]
def xs17_5 : List (Ex × List Fm) := [(.exit 0, [d, d, d, d, d, .cell (.val (.int .i64)), d, d, d, d, d, d, d, d, d, d, d, d, d, d, d, d, d, d, d, d, d, d, d, d, d, d, d, d, d, d, d, d, d, d, d, d, d, d, d, d, d, d])]
noncomputable def impl_GradeBetween_l5 : ((Int × (List Int) × (List Int) × (List (Int × (ByteArray × (Int × Int)))) × Unit) × (Int × (List Int) × Unit) × Int × (List Int) × Int × Int × Unit) → Option (((Int × (List Int) × (List Int) × (List (Int × (ByteArray × (Int × Int)))) × Unit) × (Int × (List Int) × Unit) × Int × (List Int) × Int × Int × Unit) ⊕ ((Int × Unit))) := fun ((v2_0, v2_1, v2_2, v2_3, _), (v3_0, v3_1, _), v5, v26, v27, v28, _) =>
  bif (decide (v28 < v27)) then
    if (((0 : Int) ≤ v28) ∧ (v28 < (((List.length v26) : Nat) : Int))) then
      Option.bind (loopF impl_GradeBetween_l8 ((v2_0, v2_1, v2_2, v2_3, ()), (v3_0, v3_1, ()), v5, (List.getD v26 (Int.toNat v28) (0 : Int)), v26, v27, v28, v2_2, (((List.length v2_2) : Nat) : Int), (0 : Int), ())) fun ((r0, r1, r2, r3, _), (r4, r5, _), r6, r7, r8, r9, _) =>
        some (Sum.inl ((r0, r1, r2, r3, ()), (r4, r5, ()), r6, r7, r8, (IntKind.wrap .i64 (r9 + (1 : Int))), ()))
    else
      none
  else
    some (Sum.inr (v5, ()))
theorem impl_GradeBetween_l5_eq : loopStep 48 E17 L17_1 (loopOf f17 5) sh17_5 xs17_5 = impl_GradeBetween_l5 := by kernel_rfl
theorem loop17_5 {L : Nat → Option LoopD} (h : L 5 = some ⟨48, sh17_5, xs17_5, impl_GradeBetween_l5⟩) : LoopOk prog L (loopOf f17 5) :=
  loopOk (tysOk_of tyl_ok) E17_ok (codeOk_in (L := L17_1) (tysOk_of tyl_ok) E17_ok mixed (c := loopOf f17 5) (bs := [loopOf f17 8]) (by kernel_rfl) (allCons (loop17_8 rfl) allNil) (by kernel_rfl)) (by kernel_rfl) (by kernel_rfl) impl_GradeBetween_l5_eq (by rw [show firstId (loopOf f17 5) = 5 from by kernel_rfl]; exact h)
noncomputable def L17_2 : Nat → Option LoopD := fun n => ifEq n 5 (some ⟨48, sh17_5, xs17_5, impl_GradeBetween_l5⟩) (L17_1 n)
noncomputable def impl_GradeBetween : (Int × ((List Int) × ((List Int) × (List (Int × (ByteArray × (Int × Int))))))) → (Int × (List Int)) → Option (Int) := fun (a0_0, a0_1, a0_2, a0_3) (a1_0, a1_1) =>
  Option.bind (impl_AutomatonValid (a0_0, a0_1, a0_2, a0_3)) fun r0 =>
    bif (!r0) then
      some (-1 : Int)
    else
      Option.bind (impl_GradesValid (a1_0, a1_1)) fun r1 =>
        bif (!r1) then
          some (-1 : Int)
        else
          bif (a1_0 != a0_0) then
            some (-1 : Int)
          else
            Option.bind (loopF impl_GradeBetween_l5 ((a0_0, a0_1, a0_2, a0_3, ()), (a1_0, a1_1, ()), (3 : Int), a0_1, (((List.length a0_1) : Nat) : Int), (0 : Int), ())) fun (r2, _) =>
              some r2
noncomputable def A17 : FnA := ⟨[.v (.pair (.int .i64) (.pair (.sl (.int .i64)) (.pair (.sl (.int .i64)) (.sl (.pair (.int .i64) (.pair .str (.pair (.int .i64) (.int .i64)))))))), .v (.pair (.int .i64) (.sl (.int .i64)))], true, [.int .i64], fun x => impl_GradeBetween x.1 x.2.1⟩
theorem impl_GradeBetween_eq : fnF E17 L17_2 [.v (.pair (.int .i64) (.pair (.sl (.int .i64)) (.pair (.sl (.int .i64)) (.sl (.pair (.int .i64) (.pair .str (.pair (.int .i64) (.int .i64)))))))), .v (.pair (.int .i64) (.sl (.int .i64)))] true [.int .i64] f17.ntmps f17.results.toList (codeOf f17) = fun x => impl_GradeBetween x.1 x.2.1 := by kernel_rfl
theorem A17_ok : FnOk prog 17 A17 := by
  have h := fnOk_of_run (P := prog) (E := E17) (tysOk_of tyl_ok) E17_ok (L := L17_2) (ps := [.v (.pair (.int .i64) (.pair (.sl (.int .i64)) (.pair (.sl (.int .i64)) (.sl (.pair (.int .i64) (.pair .str (.pair (.int .i64) (.int .i64)))))))), .v (.pair (.int .i64) (.sl (.int .i64)))]) (own := true) (outs := [.int .i64]) func17 (c := codeOf f17) (by kernel_rfl) (codeOk_in (L := L17_2) (tysOk_of tyl_ok) E17_ok mixed (c := codeOf f17) (bs := [loopOf f17 5]) (by kernel_rfl) (allCons (loop17_5 rfl) allNil) (by kernel_rfl))
  rw [impl_GradeBetween_eq] at h
  exact h
/-! impl.GrowingOf$1 -/
noncomputable def E16 : Env := ⟨ty0, fun g => ifEq g 17 (some A17) (none), fun _ => none, fun _ => none, fun _ => none⟩
theorem E16_ok : FnsOk prog E16 := (oneFn A17_ok func17 (by kernel_rfl) (by kernel_rfl) (noFns _ _))
noncomputable def L16_0 : Nat → Option LoopD := fun _ => none
noncomputable def impl_GrowingOf_1 : (Int × (List Int)) → (Int × ((List Int) × ((List Int) × (List (Int × (ByteArray × (Int × Int))))))) → Option (Bool) := fun (a0_0, a0_1) (a1_0, a1_1, a1_2, a1_3) =>
  Option.bind (impl_GradeBetween (a1_0, a1_1, a1_2, a1_3) (a0_0, a0_1)) fun r0 =>
    some (r0 == (2 : Int))
noncomputable def A16 : FnA := ⟨[.v (.pair (.int .i64) (.sl (.int .i64))), .cap (.pair (.int .i64) (.pair (.sl (.int .i64)) (.pair (.sl (.int .i64)) (.sl (.pair (.int .i64) (.pair .str (.pair (.int .i64) (.int .i64))))))))], true, [.bool], fun x => impl_GrowingOf_1 x.1 x.2.1⟩
theorem impl_GrowingOf_1_eq : fnF E16 L16_0 [.v (.pair (.int .i64) (.sl (.int .i64))), .cap (.pair (.int .i64) (.pair (.sl (.int .i64)) (.pair (.sl (.int .i64)) (.sl (.pair (.int .i64) (.pair .str (.pair (.int .i64) (.int .i64))))))))] true [.bool] f16.ntmps f16.results.toList (codeOf f16) = fun x => impl_GrowingOf_1 x.1 x.2.1 := by kernel_rfl
theorem A16_ok : FnOk prog 16 A16 := by
  have h := fnOk_of_run (P := prog) (E := E16) (tysOk_of tyl_ok) E16_ok (L := L16_0) (ps := [.v (.pair (.int .i64) (.sl (.int .i64))), .cap (.pair (.int .i64) (.pair (.sl (.int .i64)) (.pair (.sl (.int .i64)) (.sl (.pair (.int .i64) (.pair .str (.pair (.int .i64) (.int .i64))))))))]) (own := true) (outs := [.bool]) func16 (c := codeOf f16) (by kernel_rfl) (codeOk_in (L := L16_0) (tysOk_of tyl_ok) E16_ok mixed (c := codeOf f16) (bs := []) (by kernel_rfl) allNil (by kernel_rfl))
  rw [impl_GrowingOf_1_eq] at h
  exact h
/-! impl.GrowingOf -/
noncomputable def E7 : Env := ⟨ty0, fun g => ifEq g 15 (some A15) (ifEq g 16 (some A16) (none)), fun _ => none, fun _ => none, fun _ => none⟩
theorem E7_ok : FnsOk prog E7 := (oneFn A15_ok func15 (by kernel_rfl) (by kernel_rfl) (oneFn A16_ok func16 (by kernel_rfl) (by kernel_rfl) (noFns _ _)))
noncomputable def L7_0 : Nat → Option LoopD := fun _ => none
noncomputable def impl_GrowingOf : (Int × ((List Int) × ((List Int) × (List (Int × (ByteArray × (Int × Int))))))) → Option (ByteArray × Bool) := fun (a0_0, a0_1, a0_2, a0_3) =>
  Option.bind (impl_firstWith (a0_0, a0_1, a0_2, a0_3) (fun y0 => (impl_GrowingOf_1 y0.1 (a0_0, a0_1, a0_2, a0_3)))) fun (r1, r2) =>
    some (r1, r2)
noncomputable def A7 : FnA := ⟨[.v (.pair (.int .i64) (.pair (.sl (.int .i64)) (.pair (.sl (.int .i64)) (.sl (.pair (.int .i64) (.pair .str (.pair (.int .i64) (.int .i64))))))))], true, [.str, .bool], fun x => impl_GrowingOf x.1⟩
theorem impl_GrowingOf_eq : fnF E7 L7_0 [.v (.pair (.int .i64) (.pair (.sl (.int .i64)) (.pair (.sl (.int .i64)) (.sl (.pair (.int .i64) (.pair .str (.pair (.int .i64) (.int .i64))))))))] true [.str, .bool] f7.ntmps f7.results.toList (codeOf f7) = fun x => impl_GrowingOf x.1 := by kernel_rfl
theorem A7_ok : FnOk prog 7 A7 := by
  have h := fnOk_of_run (P := prog) (E := E7) (tysOk_of tyl_ok) E7_ok (L := L7_0) (ps := [.v (.pair (.int .i64) (.pair (.sl (.int .i64)) (.pair (.sl (.int .i64)) (.sl (.pair (.int .i64) (.pair .str (.pair (.int .i64) (.int .i64))))))))]) (own := true) (outs := [.str, .bool]) func7 (c := codeOf f7) (by kernel_rfl) (codeOk_in (L := L7_0) (tysOk_of tyl_ok) E7_ok mixed (c := codeOf f7) (bs := []) (by kernel_rfl) allNil (by kernel_rfl))
  rw [impl_GrowingOf_eq] at h
  exact h
/-! laws.eqIntS -/
noncomputable def E18 : Env := ⟨ty0, fun _ => none, fun _ => none, fun _ => none, fun _ => none⟩
theorem E18_ok : FnsOk prog E18 := (noFns _ _)
noncomputable def L18_0 : Nat → Option LoopD := fun _ => none
def sh18_4 : List Fm := [.cell (.val (.sl (.int .i64))), .cell (.val (.sl (.int .i64))), d, d, d, .cell (.val (.int .i64)), d, d, d, d, d, d, d, d, d, d, d, d, d, d, d, d, d, d, d, d]
def xs18_4 : List (Ex × List Fm) := [(.ret, [d, d, d, d, .cell (.val .bool), d, d, d, d, d, d, d, d, d, d, d, d, d, d, d, d, d, d, d, d, d]), (.exit 0, [d, d, d, d, d, d, d, d, d, d, d, d, d, d, d, d, d, d, d, d, d, d, d, d, d, d])]
noncomputable def laws_eqIntS_l4 : ((List Int) × (List Int) × Int × Unit) → Option (((List Int) × (List Int) × Int × Unit) ⊕ ((Bool × Unit) ⊕ (Unit))) := fun (v0, v1, v5, _) =>
  bif (decide (v5 < (((List.length v0) : Nat) : Int))) then
    if (((0 : Int) ≤ v5) ∧ (v5 < (((List.length v0) : Nat) : Int))) then
      if (((0 : Int) ≤ v5) ∧ (v5 < (((List.length v1) : Nat) : Int))) then
        bif ((List.getD v0 (Int.toNat v5) (0 : Int)) != (List.getD v1 (Int.toNat v5) (0 : Int))) then
          some (Sum.inr (Sum.inl (false, ())))
        else
          some (Sum.inl (v0, v1, (IntKind.wrap .i64 (v5 + (1 : Int))), ()))
      else
        none
    else
      none
  else
    some (Sum.inr (Sum.inr ()))
theorem laws_eqIntS_l4_eq : loopStep 26 E18 L18_0 (loopOf f18 4) sh18_4 xs18_4 = laws_eqIntS_l4 := by kernel_rfl
theorem loop18_4 {L : Nat → Option LoopD} (h : L 4 = some ⟨26, sh18_4, xs18_4, laws_eqIntS_l4⟩) : LoopOk prog L (loopOf f18 4) :=
  loopOk (tysOk_of tyl_ok) E18_ok (codeOk_in (L := L18_0) (tysOk_of tyl_ok) E18_ok mixed (c := loopOf f18 4) (bs := []) (by kernel_rfl) allNil (by kernel_rfl)) (by kernel_rfl) (by kernel_rfl) laws_eqIntS_l4_eq (by rw [show firstId (loopOf f18 4) = 4 from by kernel_rfl]; exact h)
noncomputable def L18_1 : Nat → Option LoopD := fun n => ifEq n 4 (some ⟨26, sh18_4, xs18_4, laws_eqIntS_l4⟩) (L18_0 n)
noncomputable def laws_eqIntS : (List Int) → (List Int) → Option (Bool) := fun a0 a1 =>
  bif ((((List.length a0) : Nat) : Int) != (((List.length a1) : Nat) : Int)) then
    some false
  else
    Option.bind (loopF laws_eqIntS_l4 (a0, a1, (0 : Int), ())) fun r0 =>
      (match r0 with
      | .inl (d1, _) =>
          some d1
      | .inr _ =>
          some true)
noncomputable def A18 : FnA := ⟨[.v (.sl (.int .i64)), .v (.sl (.int .i64))], true, [.bool], fun x => laws_eqIntS x.1 x.2.1⟩
theorem laws_eqIntS_eq : fnF E18 L18_1 [.v (.sl (.int .i64)), .v (.sl (.int .i64))] true [.bool] f18.ntmps f18.results.toList (codeOf f18) = fun x => laws_eqIntS x.1 x.2.1 := by kernel_rfl
theorem A18_ok : FnOk prog 18 A18 := by
  have h := fnOk_of_run (P := prog) (E := E18) (tysOk_of tyl_ok) E18_ok (L := L18_1) (ps := [.v (.sl (.int .i64)), .v (.sl (.int .i64))]) (own := true) (outs := [.bool]) func18 (c := codeOf f18) (by kernel_rfl) (codeOk_in (L := L18_1) (tysOk_of tyl_ok) E18_ok mixed (c := codeOf f18) (bs := [loopOf f18 4]) (by kernel_rfl) (allCons (loop18_4 rfl) allNil) (by kernel_rfl))
  rw [laws_eqIntS_eq] at h
  exact h
/-! laws.eqStep -/
noncomputable def E28 : Env := ⟨ty0, fun _ => none, fun _ => none, fun _ => none, fun _ => none⟩
theorem E28_ok : FnsOk prog E28 := (noFns _ _)
noncomputable def L28_0 : Nat → Option LoopD := fun _ => none
noncomputable def laws_eqStep : (Int × (ByteArray × (Int × Int))) → (Int × (ByteArray × (Int × Int))) → Option (Bool) := fun (a0_0, a0_1, a0_2, a0_3) (a1_0, a1_1, a1_2, a1_3) =>
  bif (a0_0 != a1_0) then
    some false
  else
    bif (!((ByteArray.toList a0_1) == (ByteArray.toList a1_1))) then
      some false
    else
      bif (a0_2 != a1_2) then
        some false
      else
        bif (a0_3 != a1_3) then
          some false
        else
          some true
noncomputable def A28 : FnA := ⟨[.v (.pair (.int .i64) (.pair .str (.pair (.int .i64) (.int .i64)))), .v (.pair (.int .i64) (.pair .str (.pair (.int .i64) (.int .i64))))], true, [.bool], fun x => laws_eqStep x.1 x.2.1⟩
theorem laws_eqStep_eq : fnF E28 L28_0 [.v (.pair (.int .i64) (.pair .str (.pair (.int .i64) (.int .i64)))), .v (.pair (.int .i64) (.pair .str (.pair (.int .i64) (.int .i64))))] true [.bool] f28.ntmps f28.results.toList (codeOf f28) = fun x => laws_eqStep x.1 x.2.1 := by kernel_rfl
theorem A28_ok : FnOk prog 28 A28 := by
  have h := fnOk_of_run (P := prog) (E := E28) (tysOk_of tyl_ok) E28_ok (L := L28_0) (ps := [.v (.pair (.int .i64) (.pair .str (.pair (.int .i64) (.int .i64)))), .v (.pair (.int .i64) (.pair .str (.pair (.int .i64) (.int .i64))))]) (own := true) (outs := [.bool]) func28 (c := codeOf f28) (by kernel_rfl) (codeOk_in (L := L28_0) (tysOk_of tyl_ok) E28_ok mixed (c := codeOf f28) (bs := []) (by kernel_rfl) allNil (by kernel_rfl))
  rw [laws_eqStep_eq] at h
  exact h
/-! laws.eqStepS -/
noncomputable def E19 : Env := ⟨ty0, fun g => ifEq g 28 (some A28) (none), fun _ => none, fun _ => none, fun _ => none⟩
theorem E19_ok : FnsOk prog E19 := (oneFn A28_ok func28 (by kernel_rfl) (by kernel_rfl) (noFns _ _))
noncomputable def L19_0 : Nat → Option LoopD := fun _ => none
def sh19_4 : List Fm := [.cell (.val (.sl (.pair (.int .i64) (.pair .str (.pair (.int .i64) (.int .i64)))))), .cell (.val (.sl (.pair (.int .i64) (.pair .str (.pair (.int .i64) (.int .i64)))))), d, d, d, .cell (.val (.int .i64)), d, d, d, d, d, d, d, d, d, d, d, d, d, d, d, d, d, d, d, d, d]
def xs19_4 : List (Ex × List Fm) := [(.ret, [d, d, d, d, .cell (.val .bool), d, d, d, d, d, d, d, d, d, d, d, d, d, d, d, d, d, d, d, d, d, d]), (.exit 0, [d, d, d, d, d, d, d, d, d, d, d, d, d, d, d, d, d, d, d, d, d, d, d, d, d, d, d])]
noncomputable def laws_eqStepS_l4 : ((List (Int × (ByteArray × (Int × Int)))) × (List (Int × (ByteArray × (Int × Int)))) × Int × Unit) → Option (((List (Int × (ByteArray × (Int × Int)))) × (List (Int × (ByteArray × (Int × Int)))) × Int × Unit) ⊕ ((Bool × Unit) ⊕ (Unit))) := fun (v0, v1, v5, _) =>
  bif (decide (v5 < (((List.length v0) : Nat) : Int))) then
    if (((0 : Int) ≤ v5) ∧ (v5 < (((List.length v0) : Nat) : Int))) then
      if (((0 : Int) ≤ v5) ∧ (v5 < (((List.length v1) : Nat) : Int))) then
        Option.bind (laws_eqStep (List.getD v0 (Int.toNat v5) ((0 : Int), (⟨Array.empty⟩ : ByteArray), (0 : Int), (0 : Int))) (List.getD v1 (Int.toNat v5) ((0 : Int), (⟨Array.empty⟩ : ByteArray), (0 : Int), (0 : Int)))) fun r0 =>
          bif (!r0) then
            some (Sum.inr (Sum.inl (false, ())))
          else
            some (Sum.inl (v0, v1, (IntKind.wrap .i64 (v5 + (1 : Int))), ()))
      else
        none
    else
      none
  else
    some (Sum.inr (Sum.inr ()))
theorem laws_eqStepS_l4_eq : loopStep 27 E19 L19_0 (loopOf f19 4) sh19_4 xs19_4 = laws_eqStepS_l4 := by kernel_rfl
theorem loop19_4 {L : Nat → Option LoopD} (h : L 4 = some ⟨27, sh19_4, xs19_4, laws_eqStepS_l4⟩) : LoopOk prog L (loopOf f19 4) :=
  loopOk (tysOk_of tyl_ok) E19_ok (codeOk_in (L := L19_0) (tysOk_of tyl_ok) E19_ok mixed (c := loopOf f19 4) (bs := []) (by kernel_rfl) allNil (by kernel_rfl)) (by kernel_rfl) (by kernel_rfl) laws_eqStepS_l4_eq (by rw [show firstId (loopOf f19 4) = 4 from by kernel_rfl]; exact h)
noncomputable def L19_1 : Nat → Option LoopD := fun n => ifEq n 4 (some ⟨27, sh19_4, xs19_4, laws_eqStepS_l4⟩) (L19_0 n)
noncomputable def laws_eqStepS : (List (Int × (ByteArray × (Int × Int)))) → (List (Int × (ByteArray × (Int × Int)))) → Option (Bool) := fun a0 a1 =>
  bif ((((List.length a0) : Nat) : Int) != (((List.length a1) : Nat) : Int)) then
    some false
  else
    Option.bind (loopF laws_eqStepS_l4 (a0, a1, (0 : Int), ())) fun r0 =>
      (match r0 with
      | .inl (d1, _) =>
          some d1
      | .inr _ =>
          some true)
noncomputable def A19 : FnA := ⟨[.v (.sl (.pair (.int .i64) (.pair .str (.pair (.int .i64) (.int .i64))))), .v (.sl (.pair (.int .i64) (.pair .str (.pair (.int .i64) (.int .i64)))))], true, [.bool], fun x => laws_eqStepS x.1 x.2.1⟩
theorem laws_eqStepS_eq : fnF E19 L19_1 [.v (.sl (.pair (.int .i64) (.pair .str (.pair (.int .i64) (.int .i64))))), .v (.sl (.pair (.int .i64) (.pair .str (.pair (.int .i64) (.int .i64)))))] true [.bool] f19.ntmps f19.results.toList (codeOf f19) = fun x => laws_eqStepS x.1 x.2.1 := by kernel_rfl
theorem A19_ok : FnOk prog 19 A19 := by
  have h := fnOk_of_run (P := prog) (E := E19) (tysOk_of tyl_ok) E19_ok (L := L19_1) (ps := [.v (.sl (.pair (.int .i64) (.pair .str (.pair (.int .i64) (.int .i64))))), .v (.sl (.pair (.int .i64) (.pair .str (.pair (.int .i64) (.int .i64)))))]) (own := true) (outs := [.bool]) func19 (c := codeOf f19) (by kernel_rfl) (codeOk_in (L := L19_1) (tysOk_of tyl_ok) E19_ok mixed (c := codeOf f19) (bs := [loopOf f19 4]) (by kernel_rfl) (allCons (loop19_4 rfl) allNil) (by kernel_rfl))
  rw [laws_eqStepS_eq] at h
  exact h
/-! laws.eqAutomaton -/
noncomputable def E8 : Env := ⟨ty0, fun g => ifEq g 18 (some A18) (ifEq g 19 (some A19) (none)), fun _ => none, fun _ => none, fun _ => none⟩
theorem E8_ok : FnsOk prog E8 := (oneFn A18_ok func18 (by kernel_rfl) (by kernel_rfl) (oneFn A19_ok func19 (by kernel_rfl) (by kernel_rfl) (noFns _ _)))
noncomputable def L8_0 : Nat → Option LoopD := fun _ => none
noncomputable def laws_eqAutomaton : (Int × ((List Int) × ((List Int) × (List (Int × (ByteArray × (Int × Int))))))) → (Int × ((List Int) × ((List Int) × (List (Int × (ByteArray × (Int × Int))))))) → Option (Bool) := fun (a0_0, a0_1, a0_2, a0_3) (a1_0, a1_1, a1_2, a1_3) =>
  bif (a0_0 != a1_0) then
    some false
  else
    Option.bind (laws_eqIntS a0_1 a1_1) fun r0 =>
      bif (!r0) then
        some false
      else
        Option.bind (laws_eqIntS a0_2 a1_2) fun r1 =>
          bif (!r1) then
            some false
          else
            Option.bind (laws_eqStepS a0_3 a1_3) fun r2 =>
              bif (!r2) then
                some false
              else
                some true
noncomputable def A8 : FnA := ⟨[.v (.pair (.int .i64) (.pair (.sl (.int .i64)) (.pair (.sl (.int .i64)) (.sl (.pair (.int .i64) (.pair .str (.pair (.int .i64) (.int .i64)))))))), .v (.pair (.int .i64) (.pair (.sl (.int .i64)) (.pair (.sl (.int .i64)) (.sl (.pair (.int .i64) (.pair .str (.pair (.int .i64) (.int .i64))))))))], true, [.bool], fun x => laws_eqAutomaton x.1 x.2.1⟩
theorem laws_eqAutomaton_eq : fnF E8 L8_0 [.v (.pair (.int .i64) (.pair (.sl (.int .i64)) (.pair (.sl (.int .i64)) (.sl (.pair (.int .i64) (.pair .str (.pair (.int .i64) (.int .i64)))))))), .v (.pair (.int .i64) (.pair (.sl (.int .i64)) (.pair (.sl (.int .i64)) (.sl (.pair (.int .i64) (.pair .str (.pair (.int .i64) (.int .i64))))))))] true [.bool] f8.ntmps f8.results.toList (codeOf f8) = fun x => laws_eqAutomaton x.1 x.2.1 := by kernel_rfl
theorem A8_ok : FnOk prog 8 A8 := by
  have h := fnOk_of_run (P := prog) (E := E8) (tysOk_of tyl_ok) E8_ok (L := L8_0) (ps := [.v (.pair (.int .i64) (.pair (.sl (.int .i64)) (.pair (.sl (.int .i64)) (.sl (.pair (.int .i64) (.pair .str (.pair (.int .i64) (.int .i64)))))))), .v (.pair (.int .i64) (.pair (.sl (.int .i64)) (.pair (.sl (.int .i64)) (.sl (.pair (.int .i64) (.pair .str (.pair (.int .i64) (.int .i64))))))))]) (own := true) (outs := [.bool]) func8 (c := codeOf f8) (by kernel_rfl) (codeOk_in (L := L8_0) (tysOk_of tyl_ok) E8_ok mixed (c := codeOf f8) (bs := []) (by kernel_rfl) allNil (by kernel_rfl))
  rw [laws_eqAutomaton_eq] at h
  exact h
/-! laws.FnExactGrowingOf -/
noncomputable def E3 : Env := ⟨ty0, fun g => ifEq g 4 (some A4) (ifEq g 6 (some A6) (ifEq g 5 (some A5) (ifEq g 7 (some A7) (ifEq g 8 (some A8) (none))))), fun _ => none, fun _ => none, fun _ => none⟩
theorem E3_ok : FnsOk prog E3 := (oneFn A4_ok func4 (by kernel_rfl) (by kernel_rfl) (oneFn A6_ok func6 (by kernel_rfl) (by kernel_rfl) (oneFn A5_ok func5 (by kernel_rfl) (by kernel_rfl) (oneFn A7_ok func7 (by kernel_rfl) (by kernel_rfl) (oneFn A8_ok func8 (by kernel_rfl) (by kernel_rfl) (noFns _ _))))))
noncomputable def L3_0 : Nat → Option LoopD := fun _ => none
noncomputable def laws_FnExactGrowingOf : (Int × ((List Int) × ((List Int) × (List (Int × (ByteArray × (Int × Int))))))) → Option (Bool) := fun (a0_0, a0_1, a0_2, a0_3) =>
  Option.bind (laws_szAutomaton (a0_0, a0_1, a0_2, a0_3) (1048576 : Int)) fun r0 =>
    bif (decide (r0 < (0 : Int))) then
      some true
    else
      Option.bind (laws_toAutomaton (a0_0, a0_1, a0_2, a0_3)) fun (r1, r2, r3, r4) =>
        Option.bind (spec_GrowingOf (r1, (List.take (List.length r2) (List.drop 0 r2)), (List.take (List.length r3) (List.drop 0 r3)), (List.take (List.length r4) (List.drop 0 r4)))) fun (r5, r6) =>
          Option.bind (laws_toAutomaton (a0_0, a0_1, a0_2, a0_3)) fun (r7, r8, r9, r10) =>
            Option.bind (impl_GrowingOf (r7, (List.take (List.length r8) (List.drop 0 r8)), (List.take (List.length r9) (List.drop 0 r9)), (List.take (List.length r10) (List.drop 0 r10)))) fun (r11, r12) =>
              bif (!((ByteArray.toList r11) == (ByteArray.toList r5))) then
                some false
              else
                bif (!(r12 == r6)) then
                  some false
                else
                  Option.bind (laws_toAutomaton (a0_0, a0_1, a0_2, a0_3)) fun (r13, r14, r15, r16) =>
                    Option.bind (laws_eqAutomaton (r7, (List.take (List.length r8) (List.drop 0 r8)), (List.take (List.length r9) (List.drop 0 r9)), (List.take (List.length r10) (List.drop 0 r10))) (r13, (List.take (List.length r14) (List.drop 0 r14)), (List.take (List.length r15) (List.drop 0 r15)), (List.take (List.length r16) (List.drop 0 r16)))) fun r17 =>
                      bif (!r17) then
                        some false
                      else
                        some true
noncomputable def A3 : FnA := ⟨[.v (.pair (.int .i64) (.pair (.sl (.int .i64)) (.pair (.sl (.int .i64)) (.sl (.pair (.int .i64) (.pair .str (.pair (.int .i64) (.int .i64))))))))], true, [.bool], fun x => laws_FnExactGrowingOf x.1⟩
theorem laws_FnExactGrowingOf_eq : fnF E3 L3_0 [.v (.pair (.int .i64) (.pair (.sl (.int .i64)) (.pair (.sl (.int .i64)) (.sl (.pair (.int .i64) (.pair .str (.pair (.int .i64) (.int .i64))))))))] true [.bool] f3.ntmps f3.results.toList (codeOf f3) = fun x => laws_FnExactGrowingOf x.1 := by kernel_rfl
theorem A3_ok : FnOk prog 3 A3 := by
  have h := fnOk_of_run (P := prog) (E := E3) (tysOk_of tyl_ok) E3_ok (L := L3_0) (ps := [.v (.pair (.int .i64) (.pair (.sl (.int .i64)) (.pair (.sl (.int .i64)) (.sl (.pair (.int .i64) (.pair .str (.pair (.int .i64) (.int .i64))))))))]) (own := true) (outs := [.bool]) func3 (c := codeOf f3) (by kernel_rfl) (codeOk_in (L := L3_0) (tysOk_of tyl_ok) E3_ok mixed (c := codeOf f3) (bs := []) (by kernel_rfl) allNil (by kernel_rfl))
  rw [laws_FnExactGrowingOf_eq] at h
  exact h
end Go.Proofs.Ytmanjfglaamhdaa
