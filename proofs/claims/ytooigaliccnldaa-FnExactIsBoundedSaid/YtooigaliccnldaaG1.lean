/- What Go functions that the laws reach compute, and that they do: written by a program of this session. -/
import Derived.Test.YtooigaliccnldaaG0
import Derived.KernelRfl
set_option linter.unusedVariables false
namespace Go.Proofs.Ytooigaliccnldaa
open Go Go.Proofs.Ytooigaliccnldaa.Am Go.Proofs.Try
set_option maxRecDepth 100000
/-! impl.StepMatrix -/
noncomputable def E64 : Env := ⟨ty0, fun g => ifEq g 60 (some A60) (ifEq g 109 (some A109) (ifEq g 110 (some A110) (none))), fun _ => none, fun _ => none, fun _ => none⟩
theorem E64_ok : FnsOk prog E64 := (oneFn A60_ok func60 (by kernel_rfl) (by kernel_rfl) (oneFn A109_ok func109 (by kernel_rfl) (by kernel_rfl) (oneFn A110_ok func110 (by kernel_rfl) (by kernel_rfl) (noFns _ _))))
noncomputable def L64_0 : Nat → Option LoopD := fun _ => none
def sh64_5 : List Fm := [d, .cell (.val .str), d, d, .box 100400 [.val (.int .i64), .own (.int .i64) 100402 false], d, .box 100600 [.val (.int .i64), .own (.int .i64) 100602 false], d, d, d, d, d, d, d, d, d, d, d, d, d, d, d, d, d, d, .cell (.val (.sl (.pair (.int .i64) (.pair .str (.pair (.int .i64) (.int .i64)))))), .cell (.val (.int .i64)), .cell (.val (.int .i64)), d, d, d, d, d, d, d, d, d, d, d, d, d, d, d, d, d, d, d, d, d, d]
def xs64_5 : List (Ex × List Fm) := [(.exit 0, [d, d, d, d, .box 100400 [.val (.int .i64), .own (.int .i64) 100402 false], d, .box 100600 [.val (.int .i64), .own (.int .i64) 100602 false], d, d, d, d, d, d, d, d, d, d, d, d, d, d, d, d, d, d, d, d, d, d, d, d, d, d, d, d, d, d, d, d, d, d, d, d, d, d, d, d, d, d, d])]
noncomputable def impl_StepMatrix_l5 : (ByteArray × (Int × (List Int) × Unit) × (Int × (List Int) × Unit) × (List (Int × (ByteArray × (Int × Int)))) × Int × Int × Unit) → Option ((ByteArray × (Int × (List Int) × Unit) × (Int × (List Int) × Unit) × (List (Int × (ByteArray × (Int × Int)))) × Int × Int × Unit) ⊕ (((Int × (List Int) × Unit) × (Int × (List Int) × Unit) × Unit))) := fun (v1, (v4_0, v4_1, _), (v6_0, v6_1, _), v25, v26, v27, _) =>
  bif (decide (v27 < v26)) then
    if (((0 : Int) ≤ v27) ∧ (v27 < (((List.length v25) : Nat) : Int))) then
      bif ((ByteArray.toList (List.getD v25 (Int.toNat v27) ((0 : Int), (⟨Array.empty⟩ : ByteArray), (0 : Int), (0 : Int))).2.1) == (ByteArray.toList v1)) then
        if (((0 : Int) ≤ (IntKind.wrap .i64 ((IntKind.wrap .i64 ((List.getD v25 (Int.toNat v27) ((0 : Int), (⟨Array.empty⟩ : ByteArray), (0 : Int), (0 : Int))).1 * v6_0)) + (List.getD v25 (Int.toNat v27) ((0 : Int), (⟨Array.empty⟩ : ByteArray), (0 : Int), (0 : Int))).2.2.1))) ∧ ((IntKind.wrap .i64 ((IntKind.wrap .i64 ((List.getD v25 (Int.toNat v27) ((0 : Int), (⟨Array.empty⟩ : ByteArray), (0 : Int), (0 : Int))).1 * v6_0)) + (List.getD v25 (Int.toNat v27) ((0 : Int), (⟨Array.empty⟩ : ByteArray), (0 : Int), (0 : Int))).2.2.1)) < (((List.length v6_1) : Nat) : Int))) then
          some (Sum.inl (v1, (v4_0, (List.take (List.length v4_1) (List.drop 0 v4_1)), ()), (v6_0, (List.take (List.length v6_1) (List.drop 0 (List.set v6_1 (0 + (Int.toNat (IntKind.wrap .i64 ((IntKind.wrap .i64 ((List.getD v25 (Int.toNat v27) ((0 : Int), (⟨Array.empty⟩ : ByteArray), (0 : Int), (0 : Int))).1 * v6_0)) + (List.getD v25 (Int.toNat v27) ((0 : Int), (⟨Array.empty⟩ : ByteArray), (0 : Int), (0 : Int))).2.2.1)))) (List.getD v25 (Int.toNat v27) ((0 : Int), (⟨Array.empty⟩ : ByteArray), (0 : Int), (0 : Int))).2.2.2))), ()), v25, v26, (IntKind.wrap .i64 (v27 + (1 : Int))), ()))
        else
          none
      else
        some (Sum.inl (v1, (v4_0, (List.take (List.length v4_1) (List.drop 0 v4_1)), ()), (v6_0, (List.take (List.length v6_1) (List.drop 0 v6_1)), ()), v25, v26, (IntKind.wrap .i64 (v27 + (1 : Int))), ()))
    else
      none
  else
    some (Sum.inr ((v4_0, (List.take (List.length v4_1) (List.drop 0 v4_1)), ()), (v6_0, (List.take (List.length v6_1) (List.drop 0 v6_1)), ()), ()))
theorem impl_StepMatrix_l5_eq : loopStep 50 E64 L64_0 (loopOf f64 5) sh64_5 xs64_5 = impl_StepMatrix_l5 := by kernel_rfl
theorem loop64_5 {L : Nat → Option LoopD} (h : L 5 = some ⟨50, sh64_5, xs64_5, impl_StepMatrix_l5⟩) : LoopOk prog L (loopOf f64 5) :=
  loopOk (tysOk_of tyl_ok) E64_ok (codeOk_in (L := L64_0) (tysOk_of tyl_ok) E64_ok mixed (c := loopOf f64 5) (bs := []) (by kernel_rfl) allNil (by kernel_rfl)) (by kernel_rfl) (by kernel_rfl) impl_StepMatrix_l5_eq (by rw [show firstId (loopOf f64 5) = 5 from by kernel_rfl]; exact h)
noncomputable def L64_1 : Nat → Option LoopD := fun n => ifEq n 5 (some ⟨50, sh64_5, xs64_5, impl_StepMatrix_l5⟩) (L64_0 n)
noncomputable def impl_StepMatrix : (Int × ((List Int) × ((List Int) × (List (Int × (ByteArray × (Int × Int))))))) → ByteArray → Option ((Int × (List Int)) × Bool) := fun (a0_0, a0_1, a0_2, a0_3) a1 =>
  Option.bind (impl_AutomatonValid (a0_0, a0_1, a0_2, a0_3)) fun r0 =>
    bif (!r0) then
      some (((0 : Int), []), false)
    else
      bif (!((ByteArray.toList a1) == (ByteArray.toList (⟨#[(97 : UInt8)]⟩ : ByteArray)))) then
        bif (!((ByteArray.toList a1) == (ByteArray.toList (⟨#[(98 : UInt8)]⟩ : ByteArray)))) then
          some (((0 : Int), []), false)
        else
          Option.bind (impl_filled a0_0 (fun y1 => (impl_StepMatrix_1 y1.1 y1.2.1))) fun (r2, r3) =>
            Option.bind (loopF impl_StepMatrix_l5 (a1, ((0 : Int), [], ()), (r2, (List.take (List.length r3) (List.drop 0 r3)), ()), a0_3, (((List.length a0_3) : Nat) : Int), (0 : Int), ())) fun ((r4, r5, _), (r6, r7, _), _) =>
              some ((r6, (List.take (List.length r7) (List.drop 0 r7))), true)
      else
        Option.bind (impl_filled a0_0 (fun y8 => (impl_StepMatrix_1 y8.1 y8.2.1))) fun (r9, r10) =>
          Option.bind (loopF impl_StepMatrix_l5 (a1, ((0 : Int), [], ()), (r9, (List.take (List.length r10) (List.drop 0 r10)), ()), a0_3, (((List.length a0_3) : Nat) : Int), (0 : Int), ())) fun ((r11, r12, _), (r13, r14, _), _) =>
            some ((r13, (List.take (List.length r14) (List.drop 0 r14))), true)
noncomputable def A64 : FnA := ⟨[.v (.pair (.int .i64) (.pair (.sl (.int .i64)) (.pair (.sl (.int .i64)) (.sl (.pair (.int .i64) (.pair .str (.pair (.int .i64) (.int .i64)))))))), .v .str], true, [.pair (.int .i64) (.sl (.int .i64)), .bool], fun x => impl_StepMatrix x.1 x.2.1⟩
theorem impl_StepMatrix_eq : fnF E64 L64_1 [.v (.pair (.int .i64) (.pair (.sl (.int .i64)) (.pair (.sl (.int .i64)) (.sl (.pair (.int .i64) (.pair .str (.pair (.int .i64) (.int .i64)))))))), .v .str] true [.pair (.int .i64) (.sl (.int .i64)), .bool] f64.ntmps f64.results.toList (codeOf f64) = fun x => impl_StepMatrix x.1 x.2.1 := by kernel_rfl
theorem A64_ok : FnOk prog 64 A64 := by
  have h := fnOk_of_run (P := prog) (E := E64) (tysOk_of tyl_ok) E64_ok (L := L64_1) (ps := [.v (.pair (.int .i64) (.pair (.sl (.int .i64)) (.pair (.sl (.int .i64)) (.sl (.pair (.int .i64) (.pair .str (.pair (.int .i64) (.int .i64)))))))), .v .str]) (own := true) (outs := [.pair (.int .i64) (.sl (.int .i64)), .bool]) func64 (c := codeOf f64) (by kernel_rfl) (codeOk_in (L := L64_1) (tysOk_of tyl_ok) E64_ok mixed (c := codeOf f64) (bs := [loopOf f64 5]) (by kernel_rfl) (allCons (loop64_5 rfl) allNil) (by kernel_rfl))
  rw [impl_StepMatrix_eq] at h
  exact h
/-! slices.IndexFunc[[]int,int] -/
noncomputable def E176 : Env := ⟨ty0, fun _ => none, fun _ => none, fun _ => none, fun _ => none⟩
theorem E176_ok : FnsOk prog E176 := (noFns _ _)
noncomputable def L176_0 : Nat → Option LoopD := fun _ => none
def sh176_2 : List Fm := [.cell (.val (.sl (.int .i64))), .clo [.int .i64] .bool, d, d, d, d, d, .cell (.val (.int .i64)), .cell (.val (.int .i64)), d, d, d, d, d, d, d, d, d, d]
def xs176_2 : List (Ex × List Fm) := [(.ret, [d, d, d, d, .cell (.val (.int .i64)), d, d, d, d, d, d, d, d, d, d, d, d, d, d]), (.exit 0, [d, d, d, d, d, d, d, d, d, d, d, d, d, d, d, d, d, d, d])]
noncomputable def slices_IndexFunc_l2 : ((List Int) × ((Int × Unit) → Option (Bool)) × Int × Int × Unit) → Option (((List Int) × ((Int × Unit) → Option (Bool)) × Int × Int × Unit) ⊕ ((Int × Unit) ⊕ (Unit))) := fun (v0, v1, v7, v8, _) =>
  bif (decide (v8 < v7)) then
    if (((0 : Int) ≤ v8) ∧ (v8 < (((List.length v0) : Nat) : Int))) then
      Option.bind (v1 ((List.getD v0 (Int.toNat v8) (0 : Int)), ())) fun r0 =>
        bif r0 then
          some (Sum.inr (Sum.inl (v8, ())))
        else
          some (Sum.inl (v0, v1, v7, (IntKind.wrap .i64 (v8 + (1 : Int))), ()))
    else
      none
  else
    some (Sum.inr (Sum.inr ()))
theorem slices_IndexFunc_l2_eq : loopStep 19 E176 L176_0 (loopOf f176 2) sh176_2 xs176_2 = slices_IndexFunc_l2 := by kernel_rfl
theorem loop176_2 {L : Nat → Option LoopD} (h : L 2 = some ⟨19, sh176_2, xs176_2, slices_IndexFunc_l2⟩) : LoopOk prog L (loopOf f176 2) :=
  loopOk (tysOk_of tyl_ok) E176_ok (codeOk_in (L := L176_0) (tysOk_of tyl_ok) E176_ok mixed (c := loopOf f176 2) (bs := []) (by kernel_rfl) allNil (by kernel_rfl)) (by kernel_rfl) (by kernel_rfl) slices_IndexFunc_l2_eq (by rw [show firstId (loopOf f176 2) = 2 from by kernel_rfl]; exact h)
noncomputable def L176_1 : Nat → Option LoopD := fun n => ifEq n 2 (some ⟨19, sh176_2, xs176_2, slices_IndexFunc_l2⟩) (L176_0 n)
noncomputable def slices_IndexFunc : (List Int) → ((Int × Unit) → Option (Bool)) → Option (Int) := fun a0 a1 =>
  Option.bind (loopF slices_IndexFunc_l2 (a0, a1, (((List.length a0) : Nat) : Int), (0 : Int), ())) fun r0 =>
    (match r0 with
    | .inl (d1, _) =>
        some d1
    | .inr _ =>
        some (-1 : Int))
noncomputable def A176 : FnA := ⟨[.v (.sl (.int .i64)), .clo [.int .i64] .bool], true, [.int .i64], fun x => slices_IndexFunc x.1 x.2.1⟩
theorem slices_IndexFunc_eq : fnF E176 L176_1 [.v (.sl (.int .i64)), .clo [.int .i64] .bool] true [.int .i64] f176.ntmps f176.results.toList (codeOf f176) = fun x => slices_IndexFunc x.1 x.2.1 := by kernel_rfl
theorem A176_ok : FnOk prog 176 A176 := by
  have h := fnOk_of_run (P := prog) (E := E176) (tysOk_of tyl_ok) E176_ok (L := L176_1) (ps := [.v (.sl (.int .i64)), .clo [.int .i64] .bool]) (own := true) (outs := [.int .i64]) func176 (c := codeOf f176) (by kernel_rfl) (codeOk_in (L := L176_1) (tysOk_of tyl_ok) E176_ok mixed (c := codeOf f176) (bs := [loopOf f176 2]) (by kernel_rfl) (allCons (loop176_2 rfl) allNil) (by kernel_rfl))
  rw [slices_IndexFunc_eq] at h
  exact h
/-! slices.ContainsFunc[[]int,int] -/
noncomputable def E147 : Env := ⟨ty0, fun g => ifEq g 176 (some A176) (none), fun _ => none, fun _ => none, fun _ => none⟩
theorem E147_ok : FnsOk prog E147 := (oneFn A176_ok func176 (by kernel_rfl) (by kernel_rfl) (noFns _ _))
noncomputable def L147_0 : Nat → Option LoopD := fun _ => none
noncomputable def slices_ContainsFunc : (List Int) → ((Int × Unit) → Option (Bool)) → Option (Bool) := fun a0 a1 =>
  Option.bind (slices_IndexFunc a0 a1) fun r0 =>
    some (decide (r0 ≥ (0 : Int)))
noncomputable def A147 : FnA := ⟨[.v (.sl (.int .i64)), .clo [.int .i64] .bool], true, [.bool], fun x => slices_ContainsFunc x.1 x.2.1⟩
theorem slices_ContainsFunc_eq : fnF E147 L147_0 [.v (.sl (.int .i64)), .clo [.int .i64] .bool] true [.bool] f147.ntmps f147.results.toList (codeOf f147) = fun x => slices_ContainsFunc x.1 x.2.1 := by kernel_rfl
theorem A147_ok : FnOk prog 147 A147 := by
  have h := fnOk_of_run (P := prog) (E := E147) (tysOk_of tyl_ok) E147_ok (L := L147_0) (ps := [.v (.sl (.int .i64)), .clo [.int .i64] .bool]) (own := true) (outs := [.bool]) func147 (c := codeOf f147) (by kernel_rfl) (codeOk_in (L := L147_0) (tysOk_of tyl_ok) E147_ok mixed (c := codeOf f147) (bs := []) (by kernel_rfl) allNil (by kernel_rfl))
  rw [slices_ContainsFunc_eq] at h
  exact h
/-! impl.CostValid -/
noncomputable def E149 : Env := ⟨ty0, fun _ => none, fun _ => none, fun _ => none, fun _ => none⟩
theorem E149_ok : FnsOk prog E149 := (noFns _ _)
noncomputable def L149_0 : Nat → Option LoopD := fun _ => none
noncomputable def impl_CostValid : Int → Option (Bool) := fun a0 =>
  bif (decide (a0 ≥ (0 : Int))) then
    some (decide (a0 ≤ (1000000 : Int)))
  else
    some false
noncomputable def A149 : FnA := ⟨[.v (.int .i64)], true, [.bool], fun x => impl_CostValid x.1⟩
theorem impl_CostValid_eq : fnF E149 L149_0 [.v (.int .i64)] true [.bool] f149.ntmps f149.results.toList (codeOf f149) = fun x => impl_CostValid x.1 := by kernel_rfl
theorem A149_ok : FnOk prog 149 A149 := by
  have h := fnOk_of_run (P := prog) (E := E149) (tysOk_of tyl_ok) E149_ok (L := L149_0) (ps := [.v (.int .i64)]) (own := true) (outs := [.bool]) func149 (c := codeOf f149) (by kernel_rfl) (codeOk_in (L := L149_0) (tysOk_of tyl_ok) E149_ok mixed (c := codeOf f149) (bs := []) (by kernel_rfl) allNil (by kernel_rfl))
  rw [impl_CostValid_eq] at h
  exact h
/-! impl.MatrixValid$1 -/
noncomputable def E148 : Env := ⟨ty0, fun g => ifEq g 149 (some A149) (none), fun _ => none, fun _ => none, fun _ => none⟩
theorem E148_ok : FnsOk prog E148 := (oneFn A149_ok func149 (by kernel_rfl) (by kernel_rfl) (noFns _ _))
noncomputable def L148_0 : Nat → Option LoopD := fun _ => none
noncomputable def impl_MatrixValid_1 : Int → Option (Bool) := fun a0 =>
  Option.bind (impl_CostValid a0) fun r0 =>
    some (!r0)
noncomputable def A148 : FnA := ⟨[.v (.int .i64)], true, [.bool], fun x => impl_MatrixValid_1 x.1⟩
theorem impl_MatrixValid_1_eq : fnF E148 L148_0 [.v (.int .i64)] true [.bool] f148.ntmps f148.results.toList (codeOf f148) = fun x => impl_MatrixValid_1 x.1 := by kernel_rfl
theorem A148_ok : FnOk prog 148 A148 := by
  have h := fnOk_of_run (P := prog) (E := E148) (tysOk_of tyl_ok) E148_ok (L := L148_0) (ps := [.v (.int .i64)]) (own := true) (outs := [.bool]) func148 (c := codeOf f148) (by kernel_rfl) (codeOk_in (L := L148_0) (tysOk_of tyl_ok) E148_ok mixed (c := codeOf f148) (bs := []) (by kernel_rfl) allNil (by kernel_rfl))
  rw [impl_MatrixValid_1_eq] at h
  exact h
/-! impl.MatrixValid -/
noncomputable def E114 : Env := ⟨ty0, fun g => ifEq g 147 (some A147) (ifEq g 148 (some A148) (none)), fun _ => none, fun _ => none, fun _ => none⟩
theorem E114_ok : FnsOk prog E114 := (oneFn A147_ok func147 (by kernel_rfl) (by kernel_rfl) (oneFn A148_ok func148 (by kernel_rfl) (by kernel_rfl) (noFns _ _)))
noncomputable def L114_0 : Nat → Option LoopD := fun _ => none
noncomputable def impl_MatrixValid : (Int × (List Int)) → Option (Bool) := fun (a0_0, a0_1) =>
  bif (decide (a0_0 < (1 : Int))) then
    some false
  else
    bif (decide (a0_0 > (4 : Int))) then
      some false
    else
      bif ((((List.length a0_1) : Nat) : Int) != (IntKind.wrap .i64 (a0_0 * a0_0))) then
        some false
      else
        Option.bind (slices_ContainsFunc a0_1 (fun y0 => (impl_MatrixValid_1 y0.1))) fun r1 =>
          some (!r1)
noncomputable def A114 : FnA := ⟨[.v (.pair (.int .i64) (.sl (.int .i64)))], true, [.bool], fun x => impl_MatrixValid x.1⟩
theorem impl_MatrixValid_eq : fnF E114 L114_0 [.v (.pair (.int .i64) (.sl (.int .i64)))] true [.bool] f114.ntmps f114.results.toList (codeOf f114) = fun x => impl_MatrixValid x.1 := by kernel_rfl
theorem A114_ok : FnOk prog 114 A114 := by
  have h := fnOk_of_run (P := prog) (E := E114) (tysOk_of tyl_ok) E114_ok (L := L114_0) (ps := [.v (.pair (.int .i64) (.sl (.int .i64)))]) (own := true) (outs := [.bool]) func114 (c := codeOf f114) (by kernel_rfl) (codeOk_in (L := L114_0) (tysOk_of tyl_ok) E114_ok mixed (c := codeOf f114) (bs := []) (by kernel_rfl) allNil (by kernel_rfl))
  rw [impl_MatrixValid_eq] at h
  exact h
/-! (impl.Matrix).at -/
noncomputable def E113 : Env := ⟨ty0, fun _ => none, fun _ => none, fun _ => none, fun _ => none⟩
theorem E113_ok : FnsOk prog E113 := (noFns _ _)
noncomputable def L113_0 : Nat → Option LoopD := fun _ => none
noncomputable def impl_Matrix_at : (Int × (List Int)) → Int → Int → Option (Int) := fun (a0_0, a0_1) a1 a2 =>
  if (((0 : Int) ≤ (IntKind.wrap .i64 ((IntKind.wrap .i64 (a1 * a0_0)) + a2))) ∧ ((IntKind.wrap .i64 ((IntKind.wrap .i64 (a1 * a0_0)) + a2)) < (((List.length a0_1) : Nat) : Int))) then
    some (List.getD a0_1 (Int.toNat (IntKind.wrap .i64 ((IntKind.wrap .i64 (a1 * a0_0)) + a2))) (0 : Int))
  else
    none
noncomputable def A113 : FnA := ⟨[.v (.pair (.int .i64) (.sl (.int .i64))), .v (.int .i64), .v (.int .i64)], true, [.int .i64], fun x => impl_Matrix_at x.1 x.2.1 x.2.2.1⟩
theorem impl_Matrix_at_eq : fnF E113 L113_0 [.v (.pair (.int .i64) (.sl (.int .i64))), .v (.int .i64), .v (.int .i64)] true [.int .i64] f113.ntmps f113.results.toList (codeOf f113) = fun x => impl_Matrix_at x.1 x.2.1 x.2.2.1 := by kernel_rfl
theorem A113_ok : FnOk prog 113 A113 := by
  have h := fnOk_of_run (P := prog) (E := E113) (tysOk_of tyl_ok) E113_ok (L := L113_0) (ps := [.v (.pair (.int .i64) (.sl (.int .i64))), .v (.int .i64), .v (.int .i64)]) (own := true) (outs := [.int .i64]) func113 (c := codeOf f113) (by kernel_rfl) (codeOk_in (L := L113_0) (tysOk_of tyl_ok) E113_ok mixed (c := codeOf f113) (bs := []) (by kernel_rfl) allNil (by kernel_rfl))
  rw [impl_Matrix_at_eq] at h
  exact h
/-! impl.GradesOf$1 -/
noncomputable def E221 : Env := ⟨ty0, fun g => ifEq g 113 (some A113) (none), fun _ => none, fun _ => none, fun _ => none⟩
theorem E221_ok : FnsOk prog E221 := (oneFn A113_ok func113 (by kernel_rfl) (by kernel_rfl) (noFns _ _))
noncomputable def L221_0 : Nat → Option LoopD := fun _ => none
noncomputable def impl_GradesOf_1 : Int → Int → (Int × (List Int)) → Option (Int) := fun a0 a1 (a2_0, a2_1) =>
  Option.bind (impl_Matrix_at (a2_0, a2_1) a0 a1) fun r0 =>
    bif (r0 == (0 : Int)) then
      some (0 : Int)
    else
      bif (r0 == (1000000 : Int)) then
        some (3 : Int)
      else
        some (1 : Int)
noncomputable def A221 : FnA := ⟨[.v (.int .i64), .v (.int .i64), .cap (.pair (.int .i64) (.sl (.int .i64)))], true, [.int .i64], fun x => impl_GradesOf_1 x.1 x.2.1 x.2.2.1⟩
theorem impl_GradesOf_1_eq : fnF E221 L221_0 [.v (.int .i64), .v (.int .i64), .cap (.pair (.int .i64) (.sl (.int .i64)))] true [.int .i64] f221.ntmps f221.results.toList (codeOf f221) = fun x => impl_GradesOf_1 x.1 x.2.1 x.2.2.1 := by kernel_rfl
theorem A221_ok : FnOk prog 221 A221 := by
  have h := fnOk_of_run (P := prog) (E := E221) (tysOk_of tyl_ok) E221_ok (L := L221_0) (ps := [.v (.int .i64), .v (.int .i64), .cap (.pair (.int .i64) (.sl (.int .i64)))]) (own := true) (outs := [.int .i64]) func221 (c := codeOf f221) (by kernel_rfl) (codeOk_in (L := L221_0) (tysOk_of tyl_ok) E221_ok mixed (c := codeOf f221) (bs := []) (by kernel_rfl) allNil (by kernel_rfl))
  rw [impl_GradesOf_1_eq] at h
  exact h
/-! impl.GradesOf -/
noncomputable def E214 : Env := ⟨ty0, fun g => ifEq g 114 (some A114) (ifEq g 109 (some A109) (ifEq g 221 (some A221) (none))), fun _ => none, fun _ => none, fun _ => none⟩
theorem E214_ok : FnsOk prog E214 := (oneFn A114_ok func114 (by kernel_rfl) (by kernel_rfl) (oneFn A109_ok func109 (by kernel_rfl) (by kernel_rfl) (oneFn A221_ok func221 (by kernel_rfl) (by kernel_rfl) (noFns _ _))))
noncomputable def L214_0 : Nat → Option LoopD := fun _ => none
noncomputable def impl_GradesOf : (Int × (List Int)) → Option ((Int × (List Int)) × Bool) := fun (a0_0, a0_1) =>
  Option.bind (impl_MatrixValid (a0_0, a0_1)) fun r0 =>
    bif (!r0) then
      some (((0 : Int), []), false)
    else
      Option.bind (impl_filled a0_0 (fun y1 => (impl_GradesOf_1 y1.1 y1.2.1 (a0_0, a0_1)))) fun (r2, r3) =>
        some ((r2, (List.take (List.length r3) (List.drop 0 r3))), true)
noncomputable def A214 : FnA := ⟨[.v (.pair (.int .i64) (.sl (.int .i64)))], true, [.pair (.int .i64) (.sl (.int .i64)), .bool], fun x => impl_GradesOf x.1⟩
theorem impl_GradesOf_eq : fnF E214 L214_0 [.v (.pair (.int .i64) (.sl (.int .i64)))] true [.pair (.int .i64) (.sl (.int .i64)), .bool] f214.ntmps f214.results.toList (codeOf f214) = fun x => impl_GradesOf x.1 := by kernel_rfl
theorem A214_ok : FnOk prog 214 A214 := by
  have h := fnOk_of_run (P := prog) (E := E214) (tysOk_of tyl_ok) E214_ok (L := L214_0) (ps := [.v (.pair (.int .i64) (.sl (.int .i64)))]) (own := true) (outs := [.pair (.int .i64) (.sl (.int .i64)), .bool]) func214 (c := codeOf f214) (by kernel_rfl) (codeOk_in (L := L214_0) (tysOk_of tyl_ok) E214_ok mixed (c := codeOf f214) (bs := []) (by kernel_rfl) allNil (by kernel_rfl))
  rw [impl_GradesOf_eq] at h
  exact h
/-! impl.GradesValid$1 -/
noncomputable def E163 : Env := ⟨ty0, fun _ => none, fun _ => none, fun _ => none, fun _ => none⟩
theorem E163_ok : FnsOk prog E163 := (noFns _ _)
noncomputable def L163_0 : Nat → Option LoopD := fun _ => none
noncomputable def impl_GradesValid_1 : Int → Option (Bool) := fun a0 =>
  some (decide (a0 > (3 : Int)))
noncomputable def A163 : FnA := ⟨[.v (.int .i64)], true, [.bool], fun x => impl_GradesValid_1 x.1⟩
theorem impl_GradesValid_1_eq : fnF E163 L163_0 [.v (.int .i64)] true [.bool] f163.ntmps f163.results.toList (codeOf f163) = fun x => impl_GradesValid_1 x.1 := by kernel_rfl
theorem A163_ok : FnOk prog 163 A163 := by
  have h := fnOk_of_run (P := prog) (E := E163) (tysOk_of tyl_ok) E163_ok (L := L163_0) (ps := [.v (.int .i64)]) (own := true) (outs := [.bool]) func163 (c := codeOf f163) (by kernel_rfl) (codeOk_in (L := L163_0) (tysOk_of tyl_ok) E163_ok mixed (c := codeOf f163) (bs := []) (by kernel_rfl) allNil (by kernel_rfl))
  rw [impl_GradesValid_1_eq] at h
  exact h
/-! impl.GradesValid -/
noncomputable def E124 : Env := ⟨ty0, fun g => ifEq g 114 (some A114) (ifEq g 147 (some A147) (ifEq g 163 (some A163) (none))), fun _ => none, fun _ => none, fun _ => none⟩
theorem E124_ok : FnsOk prog E124 := (oneFn A114_ok func114 (by kernel_rfl) (by kernel_rfl) (oneFn A147_ok func147 (by kernel_rfl) (by kernel_rfl) (oneFn A163_ok func163 (by kernel_rfl) (by kernel_rfl) (noFns _ _))))
noncomputable def L124_0 : Nat → Option LoopD := fun _ => none
noncomputable def impl_GradesValid : (Int × (List Int)) → Option (Bool) := fun (a0_0, a0_1) =>
  Option.bind (impl_MatrixValid (a0_0, a0_1)) fun r0 =>
    bif r0 then
      Option.bind (slices_ContainsFunc a0_1 (fun y1 => (impl_GradesValid_1 y1.1))) fun r2 =>
        some (!r2)
    else
      some false
noncomputable def A124 : FnA := ⟨[.v (.pair (.int .i64) (.sl (.int .i64)))], true, [.bool], fun x => impl_GradesValid x.1⟩
theorem impl_GradesValid_eq : fnF E124 L124_0 [.v (.pair (.int .i64) (.sl (.int .i64)))] true [.bool] f124.ntmps f124.results.toList (codeOf f124) = fun x => impl_GradesValid x.1 := by kernel_rfl
theorem A124_ok : FnOk prog 124 A124 := by
  have h := fnOk_of_run (P := prog) (E := E124) (tysOk_of tyl_ok) E124_ok (L := L124_0) (ps := [.v (.pair (.int .i64) (.sl (.int .i64)))]) (own := true) (outs := [.bool]) func124 (c := codeOf f124) (by kernel_rfl) (codeOk_in (L := L124_0) (tysOk_of tyl_ok) E124_ok mixed (c := codeOf f124) (bs := []) (by kernel_rfl) allNil (by kernel_rfl))
  rw [impl_GradesValid_eq] at h
  exact h
/-! impl.MulGrades$1 -/
noncomputable def E185 : Env := ⟨ty0, fun g => ifEq g 113 (some A113) (none), fun _ => none, fun _ => none, fun _ => none⟩
theorem E185_ok : FnsOk prog E185 := (oneFn A113_ok func113 (by kernel_rfl) (by kernel_rfl) (noFns _ _))
noncomputable def L185_0 : Nat → Option LoopD := fun _ => none
def sh185_3 : List Fm := [.cell (.val (.int .i64)), .cell (.val (.int .i64)), .fp (.pair (.int .i64) (.sl (.int .i64))), .fp (.pair (.int .i64) (.sl (.int .i64))), d, d, d, .cell (.val (.int .i64)), d, d, .cell (.val (.int .i64)), .cell (.val (.int .i64)), d, d, d, d, d, d, d, d, d, d, d, d, d, d, d]
def xs185_3 : List (Ex × List Fm) := [(.exit 0, [d, d, d, d, d, d, d, .cell (.val (.int .i64)), d, d, d, d, d, d, d, d, d, d, d, d, d, d, d, d, d, d, d])]
noncomputable def impl_MulGrades_1_l3 : (Int × Int × (Int × (List Int)) × (Int × (List Int)) × Int × Int × Int × Unit) → Option ((Int × Int × (Int × (List Int)) × (Int × (List Int)) × Int × Int × Int × Unit) ⊕ ((Int × Unit))) := fun (v0, v1, (v2_0, v2_1), (v3_0, v3_1), v7, v10, v11, _) =>
  bif (decide (v11 < v10)) then
    Option.bind (impl_Matrix_at (v2_0, v2_1) v0 v11) fun r0 =>
      Option.bind (impl_Matrix_at (v3_0, v3_1) v11 v1) fun r1 =>
        some (Sum.inl (v0, v1, (v2_0, v2_1), (v3_0, v3_1), (if ((if (r1 > r0) then r1 else r0) < v7) then (if (r1 > r0) then r1 else r0) else v7), v10, (IntKind.wrap .i64 (v11 + (1 : Int))), ()))
  else
    some (Sum.inr (v7, ()))
theorem impl_MulGrades_1_l3_eq : loopStep 27 E185 L185_0 (loopOf f185 3) sh185_3 xs185_3 = impl_MulGrades_1_l3 := by kernel_rfl
theorem loop185_3 {L : Nat → Option LoopD} (h : L 3 = some ⟨27, sh185_3, xs185_3, impl_MulGrades_1_l3⟩) : LoopOk prog L (loopOf f185 3) :=
  loopOk (tysOk_of tyl_ok) E185_ok (codeOk_in (L := L185_0) (tysOk_of tyl_ok) E185_ok mixed (c := loopOf f185 3) (bs := []) (by kernel_rfl) allNil (by kernel_rfl)) (by kernel_rfl) (by kernel_rfl) impl_MulGrades_1_l3_eq (by rw [show firstId (loopOf f185 3) = 3 from by kernel_rfl]; exact h)
noncomputable def L185_1 : Nat → Option LoopD := fun n => ifEq n 3 (some ⟨27, sh185_3, xs185_3, impl_MulGrades_1_l3⟩) (L185_0 n)
noncomputable def impl_MulGrades_1 : Int → Int → (Int × (List Int)) → (Int × (List Int)) → Option (Int) := fun a0 a1 (a2_0, a2_1) (a3_0, a3_1) =>
  Option.bind (loopF impl_MulGrades_1_l3 (a0, a1, (a2_0, a2_1), (a3_0, a3_1), (3 : Int), a2_0, (0 : Int), ())) fun (r0, _) =>
    some r0
noncomputable def A185 : FnA := ⟨[.v (.int .i64), .v (.int .i64), .cap (.pair (.int .i64) (.sl (.int .i64))), .cap (.pair (.int .i64) (.sl (.int .i64)))], true, [.int .i64], fun x => impl_MulGrades_1 x.1 x.2.1 x.2.2.1 x.2.2.2.1⟩
theorem impl_MulGrades_1_eq : fnF E185 L185_1 [.v (.int .i64), .v (.int .i64), .cap (.pair (.int .i64) (.sl (.int .i64))), .cap (.pair (.int .i64) (.sl (.int .i64)))] true [.int .i64] f185.ntmps f185.results.toList (codeOf f185) = fun x => impl_MulGrades_1 x.1 x.2.1 x.2.2.1 x.2.2.2.1 := by kernel_rfl
theorem A185_ok : FnOk prog 185 A185 := by
  have h := fnOk_of_run (P := prog) (E := E185) (tysOk_of tyl_ok) E185_ok (L := L185_1) (ps := [.v (.int .i64), .v (.int .i64), .cap (.pair (.int .i64) (.sl (.int .i64))), .cap (.pair (.int .i64) (.sl (.int .i64)))]) (own := true) (outs := [.int .i64]) func185 (c := codeOf f185) (by kernel_rfl) (codeOk_in (L := L185_1) (tysOk_of tyl_ok) E185_ok mixed (c := codeOf f185) (bs := [loopOf f185 3]) (by kernel_rfl) (allCons (loop185_3 rfl) allNil) (by kernel_rfl))
  rw [impl_MulGrades_1_eq] at h
  exact h
/-! impl.MulGrades -/
noncomputable def E159 : Env := ⟨ty0, fun g => ifEq g 124 (some A124) (ifEq g 109 (some A109) (ifEq g 185 (some A185) (none))), fun _ => none, fun _ => none, fun _ => none⟩
theorem E159_ok : FnsOk prog E159 := (oneFn A124_ok func124 (by kernel_rfl) (by kernel_rfl) (oneFn A109_ok func109 (by kernel_rfl) (by kernel_rfl) (oneFn A185_ok func185 (by kernel_rfl) (by kernel_rfl) (noFns _ _))))
noncomputable def L159_0 : Nat → Option LoopD := fun _ => none
noncomputable def impl_MulGrades : (Int × (List Int)) → (Int × (List Int)) → Option ((Int × (List Int)) × Bool) := fun (a0_0, a0_1) (a1_0, a1_1) =>
  Option.bind (impl_GradesValid (a0_0, a0_1)) fun r0 =>
    bif (!r0) then
      some (((0 : Int), []), false)
    else
      Option.bind (impl_GradesValid (a1_0, a1_1)) fun r1 =>
        bif (!r1) then
          some (((0 : Int), []), false)
        else
          bif (a0_0 != a1_0) then
            some (((0 : Int), []), false)
          else
            Option.bind (impl_filled a0_0 (fun y2 => (impl_MulGrades_1 y2.1 y2.2.1 (a0_0, a0_1) (a1_0, a1_1)))) fun (r3, r4) =>
              some ((r3, (List.take (List.length r4) (List.drop 0 r4))), true)
noncomputable def A159 : FnA := ⟨[.v (.pair (.int .i64) (.sl (.int .i64))), .v (.pair (.int .i64) (.sl (.int .i64)))], true, [.pair (.int .i64) (.sl (.int .i64)), .bool], fun x => impl_MulGrades x.1 x.2.1⟩
theorem impl_MulGrades_eq : fnF E159 L159_0 [.v (.pair (.int .i64) (.sl (.int .i64))), .v (.pair (.int .i64) (.sl (.int .i64)))] true [.pair (.int .i64) (.sl (.int .i64)), .bool] f159.ntmps f159.results.toList (codeOf f159) = fun x => impl_MulGrades x.1 x.2.1 := by kernel_rfl
theorem A159_ok : FnOk prog 159 A159 := by
  have h := fnOk_of_run (P := prog) (E := E159) (tysOk_of tyl_ok) E159_ok (L := L159_0) (ps := [.v (.pair (.int .i64) (.sl (.int .i64))), .v (.pair (.int .i64) (.sl (.int .i64)))]) (own := true) (outs := [.pair (.int .i64) (.sl (.int .i64)), .bool]) func159 (c := codeOf f159) (by kernel_rfl) (codeOk_in (L := L159_0) (tysOk_of tyl_ok) E159_ok mixed (c := codeOf f159) (bs := []) (by kernel_rfl) allNil (by kernel_rfl))
  rw [impl_MulGrades_eq] at h
  exact h
/-! slices.Equal[[]int,int] -/
noncomputable def E206 : Env := ⟨ty0, fun _ => none, fun _ => none, fun _ => none, fun _ => none⟩
theorem E206_ok : FnsOk prog E206 := (noFns _ _)
noncomputable def L206_0 : Nat → Option LoopD := fun _ => none
def sh206_4 : List Fm := [.cell (.val (.sl (.int .i64))), .cell (.val (.sl (.int .i64))), d, d, d, d, d, d, d, d, d, d, .cell (.val (.int .i64)), .cell (.val (.int .i64)), d, d, d, d, d, d, d, d, d, d, d, d]
def xs206_4 : List (Ex × List Fm) := [(.ret, [d, d, d, d, .cell (.val .bool), d, d, d, d, d, d, d, d, d, d, d, d, d, d, d, d, d, d, d, d, d]), (.exit 0, [d, d, d, d, d, d, d, d, d, d, d, d, d, d, d, d, d, d, d, d, d, d, d, d, d, d])]
noncomputable def slices_Equal_l4 : ((List Int) × (List Int) × Int × Int × Unit) → Option (((List Int) × (List Int) × Int × Int × Unit) ⊕ ((Bool × Unit) ⊕ (Unit))) := fun (v0, v1, v12, v13, _) =>
  bif (decide (v13 < v12)) then
    if (((0 : Int) ≤ v13) ∧ (v13 < (((List.length v0) : Nat) : Int))) then
      if (((0 : Int) ≤ v13) ∧ (v13 < (((List.length v1) : Nat) : Int))) then
        bif ((List.getD v0 (Int.toNat v13) (0 : Int)) != (List.getD v1 (Int.toNat v13) (0 : Int))) then
          some (Sum.inr (Sum.inl (false, ())))
        else
          some (Sum.inl (v0, v1, v12, (IntKind.wrap .i64 (v13 + (1 : Int))), ()))
      else
        none
    else
      none
  else
    some (Sum.inr (Sum.inr ()))
theorem slices_Equal_l4_eq : loopStep 26 E206 L206_0 (loopOf f206 4) sh206_4 xs206_4 = slices_Equal_l4 := by kernel_rfl
theorem loop206_4 {L : Nat → Option LoopD} (h : L 4 = some ⟨26, sh206_4, xs206_4, slices_Equal_l4⟩) : LoopOk prog L (loopOf f206 4) :=
  loopOk (tysOk_of tyl_ok) E206_ok (codeOk_in (L := L206_0) (tysOk_of tyl_ok) E206_ok mixed (c := loopOf f206 4) (bs := []) (by kernel_rfl) allNil (by kernel_rfl)) (by kernel_rfl) (by kernel_rfl) slices_Equal_l4_eq (by rw [show firstId (loopOf f206 4) = 4 from by kernel_rfl]; exact h)
noncomputable def L206_1 : Nat → Option LoopD := fun n => ifEq n 4 (some ⟨26, sh206_4, xs206_4, slices_Equal_l4⟩) (L206_0 n)
noncomputable def slices_Equal : (List Int) → (List Int) → Option (Bool) := fun a0 a1 =>
  bif ((((List.length a0) : Nat) : Int) != (((List.length a1) : Nat) : Int)) then
    some false
  else
    Option.bind (loopF slices_Equal_l4 (a0, a1, (((List.length a0) : Nat) : Int), (0 : Int), ())) fun r0 =>
      (match r0 with
      | .inl (d1, _) =>
          some d1
      | .inr _ =>
          some true)
noncomputable def A206 : FnA := ⟨[.v (.sl (.int .i64)), .v (.sl (.int .i64))], true, [.bool], fun x => slices_Equal x.1 x.2.1⟩
theorem slices_Equal_eq : fnF E206 L206_1 [.v (.sl (.int .i64)), .v (.sl (.int .i64))] true [.bool] f206.ntmps f206.results.toList (codeOf f206) = fun x => slices_Equal x.1 x.2.1 := by kernel_rfl
theorem A206_ok : FnOk prog 206 A206 := by
  have h := fnOk_of_run (P := prog) (E := E206) (tysOk_of tyl_ok) E206_ok (L := L206_1) (ps := [.v (.sl (.int .i64)), .v (.sl (.int .i64))]) (own := true) (outs := [.bool]) func206 (c := codeOf f206) (by kernel_rfl) (codeOk_in (L := L206_1) (tysOk_of tyl_ok) E206_ok mixed (c := codeOf f206) (bs := [loopOf f206 4]) (by kernel_rfl) (allCons (loop206_4 rfl) allNil) (by kernel_rfl))
  rw [slices_Equal_eq] at h
  exact h
/-! impl.SameMatrix -/
noncomputable def E184 : Env := ⟨ty0, fun g => ifEq g 206 (some A206) (none), fun _ => none, fun _ => none, fun _ => none⟩
theorem E184_ok : FnsOk prog E184 := (oneFn A206_ok func206 (by kernel_rfl) (by kernel_rfl) (noFns _ _))
noncomputable def L184_0 : Nat → Option LoopD := fun _ => none
noncomputable def impl_SameMatrix : (Int × (List Int)) → (Int × (List Int)) → Option (Bool) := fun (a0_0, a0_1) (a1_0, a1_1) =>
  bif (a0_0 == a1_0) then
    Option.bind (slices_Equal a0_1 a1_1) fun r0 =>
      some r0
  else
    some false
noncomputable def A184 : FnA := ⟨[.v (.pair (.int .i64) (.sl (.int .i64))), .v (.pair (.int .i64) (.sl (.int .i64)))], true, [.bool], fun x => impl_SameMatrix x.1 x.2.1⟩
theorem impl_SameMatrix_eq : fnF E184 L184_0 [.v (.pair (.int .i64) (.sl (.int .i64))), .v (.pair (.int .i64) (.sl (.int .i64)))] true [.bool] f184.ntmps f184.results.toList (codeOf f184) = fun x => impl_SameMatrix x.1 x.2.1 := by kernel_rfl
theorem A184_ok : FnOk prog 184 A184 := by
  have h := fnOk_of_run (P := prog) (E := E184) (tysOk_of tyl_ok) E184_ok (L := L184_0) (ps := [.v (.pair (.int .i64) (.sl (.int .i64))), .v (.pair (.int .i64) (.sl (.int .i64)))]) (own := true) (outs := [.bool]) func184 (c := codeOf f184) (by kernel_rfl) (codeOk_in (L := L184_0) (tysOk_of tyl_ok) E184_ok mixed (c := codeOf f184) (bs := []) (by kernel_rfl) allNil (by kernel_rfl))
  rw [impl_SameMatrix_eq] at h
  exact h
/-! impl.IsIdempotent -/
noncomputable def E180 : Env := ⟨ty0, fun g => ifEq g 159 (some A159) (ifEq g 184 (some A184) (none)), fun _ => none, fun _ => none, fun _ => none⟩
theorem E180_ok : FnsOk prog E180 := (oneFn A159_ok func159 (by kernel_rfl) (by kernel_rfl) (oneFn A184_ok func184 (by kernel_rfl) (by kernel_rfl) (noFns _ _)))
noncomputable def L180_0 : Nat → Option LoopD := fun _ => none
noncomputable def impl_IsIdempotent : (Int × (List Int)) → Option (Bool) := fun (a0_0, a0_1) =>
  Option.bind (impl_MulGrades (a0_0, a0_1) (a0_0, a0_1)) fun ((r0, r1), r2) =>
    bif r2 then
      Option.bind (impl_SameMatrix (r0, (List.take (List.length r1) (List.drop 0 r1))) (a0_0, a0_1)) fun r3 =>
        some r3
    else
      some false
noncomputable def A180 : FnA := ⟨[.v (.pair (.int .i64) (.sl (.int .i64)))], true, [.bool], fun x => impl_IsIdempotent x.1⟩
theorem impl_IsIdempotent_eq : fnF E180 L180_0 [.v (.pair (.int .i64) (.sl (.int .i64)))] true [.bool] f180.ntmps f180.results.toList (codeOf f180) = fun x => impl_IsIdempotent x.1 := by kernel_rfl
theorem A180_ok : FnOk prog 180 A180 := by
  have h := fnOk_of_run (P := prog) (E := E180) (tysOk_of tyl_ok) E180_ok (L := L180_0) (ps := [.v (.pair (.int .i64) (.sl (.int .i64)))]) (own := true) (outs := [.bool]) func180 (c := codeOf f180) (by kernel_rfl) (codeOk_in (L := L180_0) (tysOk_of tyl_ok) E180_ok mixed (c := codeOf f180) (bs := []) (by kernel_rfl) allNil (by kernel_rfl))
  rw [impl_IsIdempotent_eq] at h
  exact h
/-! impl.Stabilise$1 -/
noncomputable def E181 : Env := ⟨ty0, fun g => ifEq g 113 (some A113) (none), fun _ => none, fun _ => none, fun _ => none⟩
theorem E181_ok : FnsOk prog E181 := (oneFn A113_ok func113 (by kernel_rfl) (by kernel_rfl) (noFns _ _))
noncomputable def L181_0 : Nat → Option LoopD := fun _ => none
def sh181_3 : List Fm := [.cell (.val (.int .i64)), .cell (.val (.int .i64)), .fp (.pair (.int .i64) (.sl (.int .i64))), d, d, d, .cell (.val (.int .i64)), d, d, d, .cell (.val (.int .i64)), .cell (.val (.int .i64)), d, d, d, d, d, d, d, d, d, d, d, d, d, d, d, d, d, d, d, d, d, d]
def xs181_3 : List (Ex × List Fm) := [(.exit 0, [d, d, d, d, d, d, .cell (.val (.int .i64)), d, d, d, d, d, d, d, d, d, d, d, d, d, d, d, d, d, d, d, d, d, d, d, d, d, d, d])]
noncomputable def impl_Stabilise_1_l3 : (Int × Int × (Int × (List Int)) × Int × Int × Int × Unit) → Option ((Int × Int × (Int × (List Int)) × Int × Int × Int × Unit) ⊕ ((Int × Unit))) := fun (v0, v1, (v2_0, v2_1), v6, v10, v11, _) =>
  bif (decide (v11 < v10)) then
    Option.bind (impl_Matrix_at (v2_0, v2_1) v11 v11) fun r0 =>
      bif (r0 == (1 : Int)) then
        Option.bind (impl_Matrix_at (v2_0, v2_1) v0 v11) fun r1 =>
          Option.bind (impl_Matrix_at (v2_0, v2_1) v11 v1) fun r2 =>
            some (Sum.inl (v0, v1, (v2_0, v2_1), (if ((if (r2 > (if ((2 : Int) > r1) then (2 : Int) else r1)) then r2 else (if ((2 : Int) > r1) then (2 : Int) else r1)) < v6) then (if (r2 > (if ((2 : Int) > r1) then (2 : Int) else r1)) then r2 else (if ((2 : Int) > r1) then (2 : Int) else r1)) else v6), v10, (IntKind.wrap .i64 (v11 + (1 : Int))), ()))
      else
        Option.bind (impl_Matrix_at (v2_0, v2_1) v0 v11) fun r3 =>
          Option.bind (impl_Matrix_at (v2_0, v2_1) v11 v1) fun r4 =>
            some (Sum.inl (v0, v1, (v2_0, v2_1), (if ((if (r4 > (if (r0 > r3) then r0 else r3)) then r4 else (if (r0 > r3) then r0 else r3)) < v6) then (if (r4 > (if (r0 > r3) then r0 else r3)) then r4 else (if (r0 > r3) then r0 else r3)) else v6), v10, (IntKind.wrap .i64 (v11 + (1 : Int))), ()))
  else
    some (Sum.inr (v6, ()))
theorem impl_Stabilise_1_l3_eq : loopStep 34 E181 L181_0 (loopOf f181 3) sh181_3 xs181_3 = impl_Stabilise_1_l3 := by kernel_rfl
theorem loop181_3 {L : Nat → Option LoopD} (h : L 3 = some ⟨34, sh181_3, xs181_3, impl_Stabilise_1_l3⟩) : LoopOk prog L (loopOf f181 3) :=
  loopOk (tysOk_of tyl_ok) E181_ok (codeOk_in (L := L181_0) (tysOk_of tyl_ok) E181_ok mixed (c := loopOf f181 3) (bs := []) (by kernel_rfl) allNil (by kernel_rfl)) (by kernel_rfl) (by kernel_rfl) impl_Stabilise_1_l3_eq (by rw [show firstId (loopOf f181 3) = 3 from by kernel_rfl]; exact h)
noncomputable def L181_1 : Nat → Option LoopD := fun n => ifEq n 3 (some ⟨34, sh181_3, xs181_3, impl_Stabilise_1_l3⟩) (L181_0 n)
noncomputable def impl_Stabilise_1 : Int → Int → (Int × (List Int)) → Option (Int) := fun a0 a1 (a2_0, a2_1) =>
  Option.bind (loopF impl_Stabilise_1_l3 (a0, a1, (a2_0, a2_1), (3 : Int), a2_0, (0 : Int), ())) fun (r0, _) =>
    some r0
noncomputable def A181 : FnA := ⟨[.v (.int .i64), .v (.int .i64), .cap (.pair (.int .i64) (.sl (.int .i64)))], true, [.int .i64], fun x => impl_Stabilise_1 x.1 x.2.1 x.2.2.1⟩
theorem impl_Stabilise_1_eq : fnF E181 L181_1 [.v (.int .i64), .v (.int .i64), .cap (.pair (.int .i64) (.sl (.int .i64)))] true [.int .i64] f181.ntmps f181.results.toList (codeOf f181) = fun x => impl_Stabilise_1 x.1 x.2.1 x.2.2.1 := by kernel_rfl
theorem A181_ok : FnOk prog 181 A181 := by
  have h := fnOk_of_run (P := prog) (E := E181) (tysOk_of tyl_ok) E181_ok (L := L181_1) (ps := [.v (.int .i64), .v (.int .i64), .cap (.pair (.int .i64) (.sl (.int .i64)))]) (own := true) (outs := [.int .i64]) func181 (c := codeOf f181) (by kernel_rfl) (codeOk_in (L := L181_1) (tysOk_of tyl_ok) E181_ok mixed (c := codeOf f181) (bs := [loopOf f181 3]) (by kernel_rfl) (allCons (loop181_3 rfl) allNil) (by kernel_rfl))
  rw [impl_Stabilise_1_eq] at h
  exact h
/-! impl.Stabilise -/
noncomputable def E157 : Env := ⟨ty0, fun g => ifEq g 180 (some A180) (ifEq g 109 (some A109) (ifEq g 181 (some A181) (none))), fun _ => none, fun _ => none, fun _ => none⟩
theorem E157_ok : FnsOk prog E157 := (oneFn A180_ok func180 (by kernel_rfl) (by kernel_rfl) (oneFn A109_ok func109 (by kernel_rfl) (by kernel_rfl) (oneFn A181_ok func181 (by kernel_rfl) (by kernel_rfl) (noFns _ _))))
noncomputable def L157_0 : Nat → Option LoopD := fun _ => none
noncomputable def impl_Stabilise : (Int × (List Int)) → Option ((Int × (List Int)) × Bool) := fun (a0_0, a0_1) =>
  Option.bind (impl_IsIdempotent (a0_0, a0_1)) fun r0 =>
    bif (!r0) then
      some (((0 : Int), []), false)
    else
      Option.bind (impl_filled a0_0 (fun y1 => (impl_Stabilise_1 y1.1 y1.2.1 (a0_0, a0_1)))) fun (r2, r3) =>
        some ((r2, (List.take (List.length r3) (List.drop 0 r3))), true)
noncomputable def A157 : FnA := ⟨[.v (.pair (.int .i64) (.sl (.int .i64)))], true, [.pair (.int .i64) (.sl (.int .i64)), .bool], fun x => impl_Stabilise x.1⟩
theorem impl_Stabilise_eq : fnF E157 L157_0 [.v (.pair (.int .i64) (.sl (.int .i64)))] true [.pair (.int .i64) (.sl (.int .i64)), .bool] f157.ntmps f157.results.toList (codeOf f157) = fun x => impl_Stabilise x.1 := by kernel_rfl
theorem A157_ok : FnOk prog 157 A157 := by
  have h := fnOk_of_run (P := prog) (E := E157) (tysOk_of tyl_ok) E157_ok (L := L157_0) (ps := [.v (.pair (.int .i64) (.sl (.int .i64)))]) (own := true) (outs := [.pair (.int .i64) (.sl (.int .i64)), .bool]) func157 (c := codeOf f157) (by kernel_rfl) (codeOk_in (L := L157_0) (tysOk_of tyl_ok) E157_ok mixed (c := codeOf f157) (bs := []) (by kernel_rfl) allNil (by kernel_rfl))
  rw [impl_Stabilise_eq] at h
  exact h
/-! impl.value -/
noncomputable def R204 (impl_value_rec : (Int × ((List Int) × ((List Int) × (List (Int × (ByteArray × (Int × Int))))))) → (List (ByteArray × PT)) → Option ((Int × (List Int)) × Bool)) : FnA := ⟨[.v (.pair (.int .i64) (.pair (.sl (.int .i64)) (.pair (.sl (.int .i64)) (.sl (.pair (.int .i64) (.pair .str (.pair (.int .i64) (.int .i64)))))))), .v (.sl (.pair .str .pt))], true, [.pair (.int .i64) (.sl (.int .i64)), .bool], fun x => impl_value_rec x.1 x.2.1⟩
noncomputable def E204 (impl_value_rec : (Int × ((List Int) × ((List Int) × (List (Int × (ByteArray × (Int × Int))))))) → (List (ByteArray × PT)) → Option ((Int × (List Int)) × Bool)) : Env := ⟨ty0, fun g => ifEq g 64 (some A64) (ifEq g 214 (some A214) (ifEq g 204 (some (R204 impl_value_rec)) (ifEq g 157 (some A157) (ifEq g 159 (some A159) (none))))), fun _ => none, fun _ => none, fun _ => none⟩
theorem E204_ok (impl_value_rec : (Int × ((List Int) × ((List Int) × (List (Int × (ByteArray × (Int × Int))))))) → (List (ByteArray × PT)) → Option ((Int × (List Int)) × Bool)) (hrec : FnOk prog 204 (R204 impl_value_rec)) : FnsOk prog (E204 impl_value_rec) := (oneFn A64_ok func64 (by kernel_rfl) (by kernel_rfl) (oneFn A214_ok func214 (by kernel_rfl) (by kernel_rfl) (oneFn hrec func204 (by kernel_rfl) (by kernel_rfl) (oneFn A157_ok func157 (by kernel_rfl) (by kernel_rfl) (oneFn A159_ok func159 (by kernel_rfl) (by kernel_rfl) (noFns _ _))))))
noncomputable def L204_0 (impl_value_rec : (Int × ((List Int) × ((List Int) × (List (Int × (ByteArray × (Int × Int))))))) → (List (ByteArray × PT)) → Option ((Int × (List Int)) × Bool)) : Nat → Option LoopD := fun _ => none
def sh204_3 : List Fm := [d, d, .box 100200 [.val (.int .i64), .val (.sl (.int .i64)), .val (.sl (.int .i64)), .val (.sl (.pair (.int .i64) (.pair .str (.pair (.int .i64) (.int .i64)))))], d, .box 100400 [.val (.int .i64), .own (.int .i64) 100402 false], d, .box 100600 [.val (.int .i64), .own (.int .i64) 100602 false], d, d, d, d, d, d, .cell (.val (.sl (.pair .str .pt))), .cell (.val (.int .i64)), .cell (.val (.int .i64)), d, d, d, d, d, d, d, d, d, d, d, d, d, d, d, d, d, d, d, d, d, d, d, d, d, d, d, d, d, d, d, d, d, d, d, d, d, d, d, d, d, d, d, d, d, d]
def xs204_3 : List (Ex × List Fm) := [(.ret, [d, d, d, d, .box 100400 [.val (.int .i64), .own (.int .i64) 100402 false], .cell (.val .bool), d, d, d, d, d, d, d, d, d, d, d, d, d, d, d, d, d, d, d, d, d, d, d, d, d, d, d, d, d, d, d, d, d, d, d, d, d, d, d, d, d, d, d, d, d, d, d, d, d, d, d, d, d, d, d, d]), (.exit 0, [d, d, d, d, .box 100400 [.val (.int .i64), .own (.int .i64) 100402 false], d, .box 100600 [.val (.int .i64), .own (.int .i64) 100602 false], d, d, d, d, d, d, d, d, d, d, d, d, d, d, d, d, d, d, d, d, d, d, d, d, d, d, d, d, d, d, d, d, d, d, d, d, d, d, d, d, d, d, d, d, d, d, d, d, d, d, d, d, d, d, d])]
noncomputable def impl_value_l3 (impl_value_rec : (Int × ((List Int) × ((List Int) × (List (Int × (ByteArray × (Int × Int))))))) → (List (ByteArray × PT)) → Option ((Int × (List Int)) × Bool)) : ((Int × (List Int) × (List Int) × (List (Int × (ByteArray × (Int × Int)))) × Unit) × (Int × (List Int) × Unit) × (Int × (List Int) × Unit) × (List (ByteArray × PT)) × Int × Int × Unit) → Option (((Int × (List Int) × (List Int) × (List (Int × (ByteArray × (Int × Int)))) × Unit) × (Int × (List Int) × Unit) × (Int × (List Int) × Unit) × (List (ByteArray × PT)) × Int × Int × Unit) ⊕ (((Int × (List Int) × Unit) × Bool × Unit) ⊕ ((Int × (List Int) × Unit) × (Int × (List Int) × Unit) × Unit))) := fun ((v2_0, v2_1, v2_2, v2_3, _), (v4_0, v4_1, _), (v6_0, v6_1, _), v13, v14, v15, _) =>
  bif (decide (v15 < v14)) then
    if (((0 : Int) ≤ v15) ∧ (v15 < (((List.length v13) : Nat) : Int))) then
      bif (!((ByteArray.toList (List.getD v13 (Int.toNat v15) ((⟨Array.empty⟩ : ByteArray), (PT.mk []))).1) == (ByteArray.toList (⟨#[]⟩ : ByteArray)))) then
        Option.bind (impl_StepMatrix (v2_0, v2_1, v2_2, v2_3) (List.getD v13 (Int.toNat v15) ((⟨Array.empty⟩ : ByteArray), (PT.mk []))).1) fun ((r0, r1), r2) =>
          Option.bind (impl_GradesOf (r0, (List.take (List.length r1) (List.drop 0 r1)))) fun ((r3, r4), r5) =>
            bif (decide (v15 > (0 : Int))) then
              Option.bind (impl_MulGrades (v6_0, (List.take (List.length v6_1) (List.drop 0 v6_1))) (r3, (List.take (List.length r4) (List.drop 0 r4)))) fun ((r6, r7), r8) =>
                some (Sum.inl ((v2_0, v2_1, v2_2, v2_3, ()), (v4_0, (List.take (List.length v4_1) (List.drop 0 v4_1)), ()), (r6, (List.take (List.length r7) (List.drop 0 r7)), ()), v13, v14, (IntKind.wrap .i64 (v15 + (1 : Int))), ()))
            else
              some (Sum.inl ((v2_0, v2_1, v2_2, v2_3, ()), (v4_0, (List.take (List.length v4_1) (List.drop 0 v4_1)), ()), (r3, (List.take (List.length r4) (List.drop 0 r4)), ()), v13, v14, (IntKind.wrap .i64 (v15 + (1 : Int))), ()))
      else
        Option.bind (impl_value_rec (v2_0, v2_1, v2_2, v2_3) (PT.l (List.getD v13 (Int.toNat v15) ((⟨Array.empty⟩ : ByteArray), (PT.mk []))).2)) fun ((r9, r10), r11) =>
          bif r11 then
            Option.bind (impl_Stabilise (r9, (List.take (List.length r10) (List.drop 0 r10)))) fun ((r12, r13), r14) =>
              bif (!r14) then
                some (Sum.inr (Sum.inl (((0 : Int), [], ()), false, ())))
              else
                bif (decide (v15 > (0 : Int))) then
                  Option.bind (impl_MulGrades (v6_0, (List.take (List.length v6_1) (List.drop 0 v6_1))) (r12, (List.take (List.length r13) (List.drop 0 r13)))) fun ((r15, r16), r17) =>
                    some (Sum.inl ((v2_0, v2_1, v2_2, v2_3, ()), (v4_0, (List.take (List.length v4_1) (List.drop 0 v4_1)), ()), (r15, (List.take (List.length r16) (List.drop 0 r16)), ()), v13, v14, (IntKind.wrap .i64 (v15 + (1 : Int))), ()))
                else
                  some (Sum.inl ((v2_0, v2_1, v2_2, v2_3, ()), (v4_0, (List.take (List.length v4_1) (List.drop 0 v4_1)), ()), (r12, (List.take (List.length r13) (List.drop 0 r13)), ()), v13, v14, (IntKind.wrap .i64 (v15 + (1 : Int))), ()))
          else
            bif (!r11) then
              some (Sum.inr (Sum.inl (((0 : Int), [], ()), false, ())))
            else
              bif (decide (v15 > (0 : Int))) then
                Option.bind (impl_MulGrades (v6_0, (List.take (List.length v6_1) (List.drop 0 v6_1))) (r9, (List.take (List.length r10) (List.drop 0 r10)))) fun ((r18, r19), r20) =>
                  some (Sum.inl ((v2_0, v2_1, v2_2, v2_3, ()), (v4_0, (List.take (List.length v4_1) (List.drop 0 v4_1)), ()), (r18, (List.take (List.length r19) (List.drop 0 r19)), ()), v13, v14, (IntKind.wrap .i64 (v15 + (1 : Int))), ()))
              else
                some (Sum.inl ((v2_0, v2_1, v2_2, v2_3, ()), (v4_0, (List.take (List.length v4_1) (List.drop 0 v4_1)), ()), (r9, (List.take (List.length r10) (List.drop 0 r10)), ()), v13, v14, (IntKind.wrap .i64 (v15 + (1 : Int))), ()))
    else
      none
  else
    some (Sum.inr (Sum.inr ((v4_0, (List.take (List.length v4_1) (List.drop 0 v4_1)), ()), (v6_0, (List.take (List.length v6_1) (List.drop 0 v6_1)), ()), ())))
theorem impl_value_l3_eq (impl_value_rec : (Int × ((List Int) × ((List Int) × (List (Int × (ByteArray × (Int × Int))))))) → (List (ByteArray × PT)) → Option ((Int × (List Int)) × Bool)) : loopStep 62 (E204 impl_value_rec) (L204_0 impl_value_rec) (loopOf f204 3) sh204_3 xs204_3 = (impl_value_l3 impl_value_rec) := by kernel_rfl
theorem loop204_3 (impl_value_rec : (Int × ((List Int) × ((List Int) × (List (Int × (ByteArray × (Int × Int))))))) → (List (ByteArray × PT)) → Option ((Int × (List Int)) × Bool)) (hrec : FnOk prog 204 (R204 impl_value_rec)) {L : Nat → Option LoopD} (h : L 3 = some ⟨62, sh204_3, xs204_3, (impl_value_l3 impl_value_rec)⟩) : LoopOk prog L (loopOf f204 3) :=
  loopOk (tysOk_of tyl_ok) (E204_ok impl_value_rec hrec) (codeOk_in (L := (L204_0 impl_value_rec)) (tysOk_of tyl_ok) (E204_ok impl_value_rec hrec) mixed (c := loopOf f204 3) (bs := []) (by kernel_rfl) allNil (by kernel_rfl)) (by kernel_rfl) (by kernel_rfl) (impl_value_l3_eq impl_value_rec) (by rw [show firstId (loopOf f204 3) = 3 from by kernel_rfl]; exact h)
noncomputable def L204_1 (impl_value_rec : (Int × ((List Int) × ((List Int) × (List (Int × (ByteArray × (Int × Int))))))) → (List (ByteArray × PT)) → Option ((Int × (List Int)) × Bool)) : Nat → Option LoopD := fun n => ifEq n 3 (some ⟨62, sh204_3, xs204_3, (impl_value_l3 impl_value_rec)⟩) ((L204_0 impl_value_rec) n)
noncomputable def impl_value_step (impl_value_rec : (Int × ((List Int) × ((List Int) × (List (Int × (ByteArray × (Int × Int))))))) → (List (ByteArray × PT)) → Option ((Int × (List Int)) × Bool)) : (Int × ((List Int) × ((List Int) × (List (Int × (ByteArray × (Int × Int))))))) → (List (ByteArray × PT)) → Option ((Int × (List Int)) × Bool) := fun (a0_0, a0_1, a0_2, a0_3) a1 =>
  Option.bind (loopF (impl_value_l3 impl_value_rec) ((a0_0, a0_1, a0_2, a0_3, ()), ((0 : Int), [], ()), ((0 : Int), [], ()), a1, (((List.length a1) : Nat) : Int), (0 : Int), ())) fun r0 =>
    (match r0 with
    | .inl ((d1, d2, _), d3, _) =>
        some ((d1, (List.take (List.length d2) (List.drop 0 d2))), d3)
    | .inr ((d4, d5, _), (d6, d7, _), _) =>
        some ((d6, (List.take (List.length d7) (List.drop 0 d7))), true))
theorem impl_value_step_eq (impl_value_rec : (Int × ((List Int) × ((List Int) × (List (Int × (ByteArray × (Int × Int))))))) → (List (ByteArray × PT)) → Option ((Int × (List Int)) × Bool)) : fnF (E204 impl_value_rec) (L204_1 impl_value_rec) [.v (.pair (.int .i64) (.pair (.sl (.int .i64)) (.pair (.sl (.int .i64)) (.sl (.pair (.int .i64) (.pair .str (.pair (.int .i64) (.int .i64)))))))), .v (.sl (.pair .str .pt))] true [.pair (.int .i64) (.sl (.int .i64)), .bool] f204.ntmps f204.results.toList (codeOf f204) = fun x => (impl_value_step impl_value_rec) x.1 x.2.1 := by kernel_rfl
theorem impl_value_step_ok (impl_value_rec : (Int × ((List Int) × ((List Int) × (List (Int × (ByteArray × (Int × Int))))))) → (List (ByteArray × PT)) → Option ((Int × (List Int)) × Bool)) (hrec : FnOk prog 204 (R204 impl_value_rec)) : FnOk prog 204 ⟨[.v (.pair (.int .i64) (.pair (.sl (.int .i64)) (.pair (.sl (.int .i64)) (.sl (.pair (.int .i64) (.pair .str (.pair (.int .i64) (.int .i64)))))))), .v (.sl (.pair .str .pt))], true, [.pair (.int .i64) (.sl (.int .i64)), .bool], fun x => (impl_value_step impl_value_rec) x.1 x.2.1⟩ := by
  have h := fnOk_of_run (P := prog) (E := (E204 impl_value_rec)) (tysOk_of tyl_ok) (E204_ok impl_value_rec hrec) (L := (L204_1 impl_value_rec)) (ps := [.v (.pair (.int .i64) (.pair (.sl (.int .i64)) (.pair (.sl (.int .i64)) (.sl (.pair (.int .i64) (.pair .str (.pair (.int .i64) (.int .i64)))))))), .v (.sl (.pair .str .pt))]) (own := true) (outs := [.pair (.int .i64) (.sl (.int .i64)), .bool]) func204 (c := codeOf f204) (by kernel_rfl) (codeOk_in (L := (L204_1 impl_value_rec)) (tysOk_of tyl_ok) (E204_ok impl_value_rec hrec) mixed (c := codeOf f204) (bs := [loopOf f204 3]) (by kernel_rfl) (allCons (loop204_3 impl_value_rec hrec rfl) allNil) (by kernel_rfl))
  rw [(impl_value_step_eq impl_value_rec)] at h
  exact h
/-- so many calls within each other -/
noncomputable def impl_value_fuel : Nat → (Int × ((List Int) × ((List Int) × (List (Int × (ByteArray × (Int × Int))))))) → (List (ByteArray × PT)) → Option ((Int × (List Int)) × Bool)
  | 0 => fun _ _ => none
  | n + 1 => impl_value_step (impl_value_fuel n)
theorem impl_value_fuel_ok : ∀ n, FnOk prog 204 (R204 (impl_value_fuel n))
  | 0 => fun xs r h => by cases h
  | n + 1 => impl_value_step_ok (impl_value_fuel n) (impl_value_fuel_ok n)
noncomputable def impl_value : (Int × ((List Int) × ((List Int) × (List (Int × (ByteArray × (Int × Int))))))) → (List (ByteArray × PT)) → Option ((Int × (List Int)) × Bool) := impl_value_fuel 200
noncomputable def A204 : FnA := R204 impl_value
theorem A204_ok : FnOk prog 204 A204 := impl_value_fuel_ok 200
/-! impl.ValueOf -/
noncomputable def E179 : Env := ⟨ty0, fun g => ifEq g 203 (some A203) (ifEq g 60 (some A60) (ifEq g 204 (some A204) (none))), fun _ => none, fun _ => none, fun _ => none⟩
theorem E179_ok : FnsOk prog E179 := (oneFn A203_ok func203 (by kernel_rfl) (by kernel_rfl) (oneFn A60_ok func60 (by kernel_rfl) (by kernel_rfl) (oneFn A204_ok func204 (by kernel_rfl) (by kernel_rfl) (noFns _ _))))
noncomputable def L179_0 : Nat → Option LoopD := fun _ => none
noncomputable def impl_ValueOf : (Int × ((List Int) × ((List Int) × (List (Int × (ByteArray × (Int × Int))))))) → ByteArray → Option ((Int × (List Int)) × Bool) := fun (a0_0, a0_1, a0_2, a0_3) a1 =>
  Option.bind (impl_parts a1) fun (r0, r1) =>
    bif (!r1) then
      some (((0 : Int), []), false)
    else
      Option.bind (impl_AutomatonValid (a0_0, a0_1, a0_2, a0_3)) fun r2 =>
        bif (!r2) then
          some (((0 : Int), []), false)
        else
          Option.bind (impl_value (a0_0, a0_1, a0_2, a0_3) (List.take (List.length r0) (List.drop 0 r0))) fun ((r3, r4), r5) =>
            some ((r3, (List.take (List.length r4) (List.drop 0 r4))), r5)
noncomputable def A179 : FnA := ⟨[.v (.pair (.int .i64) (.pair (.sl (.int .i64)) (.pair (.sl (.int .i64)) (.sl (.pair (.int .i64) (.pair .str (.pair (.int .i64) (.int .i64)))))))), .v .str], true, [.pair (.int .i64) (.sl (.int .i64)), .bool], fun x => impl_ValueOf x.1 x.2.1⟩
theorem impl_ValueOf_eq : fnF E179 L179_0 [.v (.pair (.int .i64) (.pair (.sl (.int .i64)) (.pair (.sl (.int .i64)) (.sl (.pair (.int .i64) (.pair .str (.pair (.int .i64) (.int .i64)))))))), .v .str] true [.pair (.int .i64) (.sl (.int .i64)), .bool] f179.ntmps f179.results.toList (codeOf f179) = fun x => impl_ValueOf x.1 x.2.1 := by kernel_rfl
theorem A179_ok : FnOk prog 179 A179 := by
  have h := fnOk_of_run (P := prog) (E := E179) (tysOk_of tyl_ok) E179_ok (L := L179_0) (ps := [.v (.pair (.int .i64) (.pair (.sl (.int .i64)) (.pair (.sl (.int .i64)) (.sl (.pair (.int .i64) (.pair .str (.pair (.int .i64) (.int .i64)))))))), .v .str]) (own := true) (outs := [.pair (.int .i64) (.sl (.int .i64)), .bool]) func179 (c := codeOf f179) (by kernel_rfl) (codeOk_in (L := L179_0) (tysOk_of tyl_ok) E179_ok mixed (c := codeOf f179) (bs := []) (by kernel_rfl) allNil (by kernel_rfl))
  rw [impl_ValueOf_eq] at h
  exact h
/-! slices.IndexFunc[[]impl.Element,impl.Element] -/
noncomputable def E205 : Env := ⟨ty0, fun _ => none, fun _ => none, fun _ => none, fun _ => none⟩
theorem E205_ok : FnsOk prog E205 := (noFns _ _)
noncomputable def L205_0 : Nat → Option LoopD := fun _ => none
def sh205_2 : List Fm := [.cell (.val (.sl (.pair (.pair (.int .i64) (.sl (.int .i64))) .str))), .clo [.pair (.pair (.int .i64) (.sl (.int .i64))) .str] .bool, d, d, d, d, d, .cell (.val (.int .i64)), .cell (.val (.int .i64)), d, d, d, d, d, d, d, d, d, d]
def xs205_2 : List (Ex × List Fm) := [(.ret, [d, d, d, d, .cell (.val (.int .i64)), d, d, d, d, d, d, d, d, d, d, d, d, d, d]), (.exit 0, [d, d, d, d, d, d, d, d, d, d, d, d, d, d, d, d, d, d, d])]
noncomputable def slices_IndexFunc_Element_l2 : ((List ((Int × (List Int)) × ByteArray)) × ((((Int × (List Int)) × ByteArray) × Unit) → Option (Bool)) × Int × Int × Unit) → Option (((List ((Int × (List Int)) × ByteArray)) × ((((Int × (List Int)) × ByteArray) × Unit) → Option (Bool)) × Int × Int × Unit) ⊕ ((Int × Unit) ⊕ (Unit))) := fun (v0, v1, v7, v8, _) =>
  bif (decide (v8 < v7)) then
    if (((0 : Int) ≤ v8) ∧ (v8 < (((List.length v0) : Nat) : Int))) then
      Option.bind (v1 ((List.getD v0 (Int.toNat v8) (((0 : Int), []), (⟨Array.empty⟩ : ByteArray))), ())) fun r0 =>
        bif r0 then
          some (Sum.inr (Sum.inl (v8, ())))
        else
          some (Sum.inl (v0, v1, v7, (IntKind.wrap .i64 (v8 + (1 : Int))), ()))
    else
      none
  else
    some (Sum.inr (Sum.inr ()))
theorem slices_IndexFunc_Element_l2_eq : loopStep 19 E205 L205_0 (loopOf f205 2) sh205_2 xs205_2 = slices_IndexFunc_Element_l2 := by kernel_rfl
theorem loop205_2 {L : Nat → Option LoopD} (h : L 2 = some ⟨19, sh205_2, xs205_2, slices_IndexFunc_Element_l2⟩) : LoopOk prog L (loopOf f205 2) :=
  loopOk (tysOk_of tyl_ok) E205_ok (codeOk_in (L := L205_0) (tysOk_of tyl_ok) E205_ok mixed (c := loopOf f205 2) (bs := []) (by kernel_rfl) allNil (by kernel_rfl)) (by kernel_rfl) (by kernel_rfl) slices_IndexFunc_Element_l2_eq (by rw [show firstId (loopOf f205 2) = 2 from by kernel_rfl]; exact h)
noncomputable def L205_1 : Nat → Option LoopD := fun n => ifEq n 2 (some ⟨19, sh205_2, xs205_2, slices_IndexFunc_Element_l2⟩) (L205_0 n)
noncomputable def slices_IndexFunc_Element : (List ((Int × (List Int)) × ByteArray)) → ((((Int × (List Int)) × ByteArray) × Unit) → Option (Bool)) → Option (Int) := fun a0 a1 =>
  Option.bind (loopF slices_IndexFunc_Element_l2 (a0, a1, (((List.length a0) : Nat) : Int), (0 : Int), ())) fun r0 =>
    (match r0 with
    | .inl (d1, _) =>
        some d1
    | .inr _ =>
        some (-1 : Int))
noncomputable def A205 : FnA := ⟨[.v (.sl (.pair (.pair (.int .i64) (.sl (.int .i64))) .str)), .clo [.pair (.pair (.int .i64) (.sl (.int .i64))) .str] .bool], true, [.int .i64], fun x => slices_IndexFunc_Element x.1 x.2.1⟩
theorem slices_IndexFunc_Element_eq : fnF E205 L205_1 [.v (.sl (.pair (.pair (.int .i64) (.sl (.int .i64))) .str)), .clo [.pair (.pair (.int .i64) (.sl (.int .i64))) .str] .bool] true [.int .i64] f205.ntmps f205.results.toList (codeOf f205) = fun x => slices_IndexFunc_Element x.1 x.2.1 := by kernel_rfl
theorem A205_ok : FnOk prog 205 A205 := by
  have h := fnOk_of_run (P := prog) (E := E205) (tysOk_of tyl_ok) E205_ok (L := L205_1) (ps := [.v (.sl (.pair (.pair (.int .i64) (.sl (.int .i64))) .str)), .clo [.pair (.pair (.int .i64) (.sl (.int .i64))) .str] .bool]) (own := true) (outs := [.int .i64]) func205 (c := codeOf f205) (by kernel_rfl) (codeOk_in (L := L205_1) (tysOk_of tyl_ok) E205_ok mixed (c := codeOf f205) (bs := [loopOf f205 2]) (by kernel_rfl) (allCons (loop205_2 rfl) allNil) (by kernel_rfl))
  rw [slices_IndexFunc_Element_eq] at h
  exact h
/-! slices.ContainsFunc[[]impl.Element,impl.Element] -/
noncomputable def E182 : Env := ⟨ty0, fun g => ifEq g 205 (some A205) (none), fun _ => none, fun _ => none, fun _ => none⟩
theorem E182_ok : FnsOk prog E182 := (oneFn A205_ok func205 (by kernel_rfl) (by kernel_rfl) (noFns _ _))
noncomputable def L182_0 : Nat → Option LoopD := fun _ => none
noncomputable def slices_ContainsFunc_Element : (List ((Int × (List Int)) × ByteArray)) → ((((Int × (List Int)) × ByteArray) × Unit) → Option (Bool)) → Option (Bool) := fun a0 a1 =>
  Option.bind (slices_IndexFunc_Element a0 a1) fun r0 =>
    some (decide (r0 ≥ (0 : Int)))
noncomputable def A182 : FnA := ⟨[.v (.sl (.pair (.pair (.int .i64) (.sl (.int .i64))) .str)), .clo [.pair (.pair (.int .i64) (.sl (.int .i64))) .str] .bool], true, [.bool], fun x => slices_ContainsFunc_Element x.1 x.2.1⟩
theorem slices_ContainsFunc_Element_eq : fnF E182 L182_0 [.v (.sl (.pair (.pair (.int .i64) (.sl (.int .i64))) .str)), .clo [.pair (.pair (.int .i64) (.sl (.int .i64))) .str] .bool] true [.bool] f182.ntmps f182.results.toList (codeOf f182) = fun x => slices_ContainsFunc_Element x.1 x.2.1 := by kernel_rfl
theorem A182_ok : FnOk prog 182 A182 := by
  have h := fnOk_of_run (P := prog) (E := E182) (tysOk_of tyl_ok) E182_ok (L := L182_0) (ps := [.v (.sl (.pair (.pair (.int .i64) (.sl (.int .i64))) .str)), .clo [.pair (.pair (.int .i64) (.sl (.int .i64))) .str] .bool]) (own := true) (outs := [.bool]) func182 (c := codeOf f182) (by kernel_rfl) (codeOk_in (L := L182_0) (tysOk_of tyl_ok) E182_ok mixed (c := codeOf f182) (bs := []) (by kernel_rfl) allNil (by kernel_rfl))
  rw [slices_ContainsFunc_Element_eq] at h
  exact h
/-! (*impl.found).put$1 -/
noncomputable def E183 : Env := ⟨ty0, fun g => ifEq g 184 (some A184) (none), fun _ => none, fun _ => none, fun _ => none⟩
theorem E183_ok : FnsOk prog E183 := (oneFn A184_ok func184 (by kernel_rfl) (by kernel_rfl) (noFns _ _))
noncomputable def L183_0 : Nat → Option LoopD := fun _ => none
noncomputable def impl_found_put_1 : ((Int × (List Int)) × ByteArray) → (Int × (List Int)) → Option (Bool) := fun ((a0_0, a0_1), a0_2) (a1_0, a1_1) =>
  Option.bind (impl_SameMatrix (a0_0, a0_1) (a1_0, a1_1)) fun r0 =>
    some r0
noncomputable def A183 : FnA := ⟨[.v (.pair (.pair (.int .i64) (.sl (.int .i64))) .str), .cap (.pair (.int .i64) (.sl (.int .i64)))], true, [.bool], fun x => impl_found_put_1 x.1 x.2.1⟩
theorem impl_found_put_1_eq : fnF E183 L183_0 [.v (.pair (.pair (.int .i64) (.sl (.int .i64))) .str), .cap (.pair (.int .i64) (.sl (.int .i64)))] true [.bool] f183.ntmps f183.results.toList (codeOf f183) = fun x => impl_found_put_1 x.1 x.2.1 := by kernel_rfl
theorem A183_ok : FnOk prog 183 A183 := by
  have h := fnOk_of_run (P := prog) (E := E183) (tysOk_of tyl_ok) E183_ok (L := L183_0) (ps := [.v (.pair (.pair (.int .i64) (.sl (.int .i64))) .str), .cap (.pair (.int .i64) (.sl (.int .i64)))]) (own := true) (outs := [.bool]) func183 (c := codeOf f183) (by kernel_rfl) (codeOk_in (L := L183_0) (tysOk_of tyl_ok) E183_ok mixed (c := codeOf f183) (bs := []) (by kernel_rfl) allNil (by kernel_rfl))
  rw [impl_found_put_1_eq] at h
  exact h
/-! impl.ElementsOf -/
noncomputable def E121_at5_at32 : Env := ⟨ty0, fun g => ifEq g 60 (some A60) (ifEq g 179 (some A179) (ifEq g 182 (some A182) (ifEq g 183 (some A183) (ifEq g 157 (some A157) (ifEq g 159 (some A159) (none)))))), fun _ => none, fun _ => none, fun _ => none⟩
theorem E121_at5_at32_ok : FnsOk prog E121_at5_at32 := (oneFn A60_ok func60 (by kernel_rfl) (by kernel_rfl) (oneFn A179_ok func179 (by kernel_rfl) (by kernel_rfl) (oneFn A182_ok func182 (by kernel_rfl) (by kernel_rfl) (oneFn A183_ok func183 (by kernel_rfl) (by kernel_rfl) (oneFn A157_ok func157 (by kernel_rfl) (by kernel_rfl) (oneFn A159_ok func159 (by kernel_rfl) (by kernel_rfl) (noFns _ _)))))))
noncomputable def L121_at5_at32_0 : Nat → Option LoopD := fun _ => none
def shi121_at5_at32 : List Fm := [.box 100000 [.own (.pair (.pair (.int .i64) (.sl (.int .i64))) .str) 100001 false, .val .bool], .agg [.val (.int .i64), .own (.int .i64) 100102 false], .cell (.val .str), d, d, d, d, d, d, d, d, d, d, d, d, d, d, d, d, d, d, d, d, d, d, d, d, d, d, d, d, d, d, d, d, d, d, d, d, .fnv 156, .box 104000 [.val (.int .i64), .val (.sl (.int .i64)), .val (.sl (.int .i64)), .val (.sl (.pair (.int .i64) (.pair .str (.pair (.int .i64) (.int .i64)))))], d, d, d, .ali 100000 0, d, d, d, d, d, d, d, d, d, d, .cell (.own .str 105500 false), .cell (.val (.int .i64)), .cell (.val (.int .i64)), d, d, d, d, d, d, d, d, d, d, d, d, d, d, d, d, d, d, d, d, d, d, d, d, d, d, d, d, d, d, d, d, d, d, d, d, d, d, d, d, d, d, d, d, d, d, d, d, d, d]
def sho121_at5_at32 : List Fm := [d, .fnv 156, .box 100200 [.val (.int .i64), .val (.sl (.int .i64)), .val (.sl (.int .i64)), .val (.sl (.pair (.int .i64) (.pair .str (.pair (.int .i64) (.int .i64)))))], d, d, d, .box 100600 [.own (.pair (.pair (.int .i64) (.sl (.int .i64))) .str) 100601 false, .val .bool], d, d, d, d, d, d, d, d, d, d, .cell (.own .str 101700 false), .cell (.val (.int .i64)), .cell (.val (.int .i64)), d, d, d, d, d, d, d, d, d, d, d, d, d, d, d, d, d, d, d, d, d, d, d, d, d, d, d, d, d, d, d, d, d, d, d, d, d, d, d, d, d, d, d, d, d, d, d, d, d, d]
noncomputable def impl_ElementsOf_at5_at32 : (((List ((Int × (List Int)) × ByteArray)) × Bool × Unit) × (Int × (List Int) × Unit) × ByteArray × (Int × (List Int) × (List Int) × (List (Int × (ByteArray × (Int × Int)))) × Unit) × (List ByteArray) × Int × Int × Unit) → Option ((Int × (List Int) × (List Int) × (List (Int × (ByteArray × (Int × Int)))) × Unit) × ((List ((Int × (List Int)) × ByteArray)) × Bool × Unit) × (List ByteArray) × Int × Int × Unit) := fun ((v0_0, v0_1, _), (v1_0, v1_1, _), v2, (v40_0, v40_1, v40_2, v40_3, _), v55, v56, v57, _) =>
  Option.bind (slices_ContainsFunc_Element (List.take (List.length v0_0) (List.drop 0 v0_0)) (fun y0 => (impl_found_put_1 y0.1 (v1_0, (List.take (List.length v1_1) (List.drop 0 v1_1)))))) fun r1 =>
    bif r1 then
      some ((v40_0, v40_1, v40_2, v40_3, ()), ((List.take (List.length v0_0) (List.drop 0 v0_0)), v0_1, ()), (List.take (List.length v55) (List.drop 0 v55)), v56, v57, ())
    else
      bif (decide ((((List.length v0_0) : Nat) : Int) ≥ (120 : Int))) then
        some ((v40_0, v40_1, v40_2, v40_3, ()), ((List.take (List.length v0_0) (List.drop 0 v0_0)), false, ()), (List.take (List.length v55) (List.drop 0 v55)), v56, v57, ())
      else
        bif (decide ((((ByteArray.size v2) : Nat) : Int) > (120 : Int))) then
          some ((v40_0, v40_1, v40_2, v40_3, ()), ((List.take (List.length v0_0) (List.drop 0 v0_0)), false, ()), (List.take (List.length v55) (List.drop 0 v55)), v56, v57, ())
        else
          if (((0 + (List.length v0_0)) = (List.length v0_0)) ∧ ((((List.length v0_0) + (List.length (List.take 1 (List.drop 0 [((v1_0, (List.take (List.length v1_1) (List.drop 0 v1_1))), v2)])))) * 48) ≤ 140737488355328)) then
            some ((v40_0, v40_1, v40_2, v40_3, ()), ((List.take ((List.length v0_0) + (List.length (List.take 1 (List.drop 0 [((v1_0, (List.take (List.length v1_1) (List.drop 0 v1_1))), v2)])))) (List.drop 0 ((List.drop 0 v0_0) ++ (List.take 1 (List.drop 0 [((v1_0, (List.take (List.length v1_1) (List.drop 0 v1_1))), v2)]))))), v0_1, ()), (List.take (List.length v55) (List.drop 0 v55)), v56, v57, ())
          else
            none
theorem impl_ElementsOf_at5_at32_eq : inlStep f158.ntmps 62 32 E121_at5_at32 L121_at5_at32_0 f158.results.toList (codeOf f158) shi121_at5_at32 sho121_at5_at32 = impl_ElementsOf_at5_at32 := by kernel_rfl
noncomputable def I121_at5_at32 : CallD := ⟨f158.ntmps, shi121_at5_at32, 62, sho121_at5_at32, impl_ElementsOf_at5_at32⟩
theorem I121_at5_at32_ok : InlOk prog 32 158 I121_at5_at32 := inlOk_of (tysOk_of tyl_ok) E121_at5_at32_ok (L := L121_at5_at32_0) func158 (by kernel_rfl) (c := codeOf f158) (by kernel_rfl) (codeOk_in (L := L121_at5_at32_0) (tysOk_of tyl_ok) E121_at5_at32_ok mixed (c := codeOf f158) (bs := []) (by kernel_rfl) allNil (by kernel_rfl)) (by kernel_rfl) (by kernel_rfl) impl_ElementsOf_at5_at32_eq
noncomputable def E121_at5_at52_at31 : Env := ⟨ty0, fun g => ifEq g 60 (some A60) (ifEq g 179 (some A179) (ifEq g 182 (some A182) (ifEq g 183 (some A183) (ifEq g 157 (some A157) (ifEq g 159 (some A159) (none)))))), fun _ => none, fun _ => none, fun _ => none⟩
theorem E121_at5_at52_at31_ok : FnsOk prog E121_at5_at52_at31 := (oneFn A60_ok func60 (by kernel_rfl) (by kernel_rfl) (oneFn A179_ok func179 (by kernel_rfl) (by kernel_rfl) (oneFn A182_ok func182 (by kernel_rfl) (by kernel_rfl) (oneFn A183_ok func183 (by kernel_rfl) (by kernel_rfl) (oneFn A157_ok func157 (by kernel_rfl) (by kernel_rfl) (oneFn A159_ok func159 (by kernel_rfl) (by kernel_rfl) (noFns _ _)))))))
noncomputable def L121_at5_at52_at31_0 : Nat → Option LoopD := fun _ => none
def shi121_at5_at52_at31 : List Fm := [.box 100000 [.own (.pair (.pair (.int .i64) (.sl (.int .i64))) .str) 100001 false, .val .bool], .agg [.val (.int .i64), .own (.int .i64) 100102 false], .cell (.val .str), d, d, d, d, d, d, d, d, d, d, d, d, d, d, d, d, d, d, d, d, d, d, d, d, d, d, d, d, d, d, d, d, d, d, d, .ali 100000 0, .cell (.val (.int .i64)), d, d, .box 104200 [.val (.int .i64), .val (.sl (.int .i64)), .val .str], d, d, d, d, d, d, d, d, d, d, d, d, d, d, d, d, d, d, d, d, d, d, d, d, d, d, d, d, d, d, d, d, d, d, d, d, d, d, d, d, d, d, d, d, d, d, d, d, d, d, d, d, d, d, d, d, d, d, d, d, d, d, d, d, d, d, d, d, d, d, d, d, d, d, d, d, d, d, .fnv 156, d, d, d, d, .ali 100000 0, d, d, d, d, .cell (.val (.int .i64)), d, d, d, d, d, d, d, d, d, d, d, d, d, d, d, d, d, d, d, d, d, d, d, d, d, d, d, d, d, d, d, d, d, d, d, d, d, d, d, d, d, d, d, d, d, d, d, d, d, d, d, d, d, d, d, d, d, d]
def sho121_at5_at52_at31 : List Fm := [.box 100000 [.own (.pair (.pair (.int .i64) (.sl (.int .i64))) .str) 100001 false, .val .bool], .cell (.val (.int .i64)), d, d, .box 100400 [.val (.int .i64), .val (.sl (.int .i64)), .val .str], d, d, d, d, d, d, d, d, d, d, d, d, d, d, d, d, d, d, d, d, d, d, d, d, d, d, d, d, d, d, d, d, d, d, d, d, d, d, d, d, d, d, d, d, d, d, d, d, d, d, d, d, d, d, d, d, d, d, d, d, d, d, d, d, d, d, d, d, d, d, d, d, d, d, d, d, d, d, .fnv 156, d, d, d, d, .ali 100000 0, d, d, d, d, .cell (.val (.int .i64)), d, d, d, d, d, d, d, d, d, d, d, d, d, d, d, d, d, d, d, d, d, d, d, d, d, d, d, d, d, d, d, d, d, d, d, d, d, d, d, d, d, d, d, d, d, d, d, d, d, d, d, d, d, d, d, d, d, d]
noncomputable def impl_ElementsOf_at5_at52_at31 : (((List ((Int × (List Int)) × ByteArray)) × Bool × Unit) × (Int × (List Int) × Unit) × ByteArray × Int × (Int × (List Int) × ByteArray × Unit) × Int × Unit) → Option (((List ((Int × (List Int)) × ByteArray)) × Bool × Unit) × Int × (Int × (List Int) × ByteArray × Unit) × Int × Unit) := fun ((v0_0, v0_1, _), (v1_0, v1_1, _), v2, v39, (v42_0, v42_1, v42_2, _), v131, _) =>
  Option.bind (slices_ContainsFunc_Element (List.take (List.length v0_0) (List.drop 0 v0_0)) (fun y0 => (impl_found_put_1 y0.1 (v1_0, (List.take (List.length v1_1) (List.drop 0 v1_1)))))) fun r1 =>
    bif r1 then
      some (((List.take (List.length v0_0) (List.drop 0 v0_0)), v0_1, ()), v39, (v42_0, v42_1, v42_2, ()), v131, ())
    else
      bif (decide ((((List.length v0_0) : Nat) : Int) ≥ (120 : Int))) then
        some (((List.take (List.length v0_0) (List.drop 0 v0_0)), false, ()), v39, (v42_0, v42_1, v42_2, ()), v131, ())
      else
        bif (decide ((((ByteArray.size v2) : Nat) : Int) > (120 : Int))) then
          some (((List.take (List.length v0_0) (List.drop 0 v0_0)), false, ()), v39, (v42_0, v42_1, v42_2, ()), v131, ())
        else
          if (((0 + (List.length v0_0)) = (List.length v0_0)) ∧ ((((List.length v0_0) + (List.length (List.take 1 (List.drop 0 [((v1_0, (List.take (List.length v1_1) (List.drop 0 v1_1))), v2)])))) * 48) ≤ 140737488355328)) then
            some (((List.take ((List.length v0_0) + (List.length (List.take 1 (List.drop 0 [((v1_0, (List.take (List.length v1_1) (List.drop 0 v1_1))), v2)])))) (List.drop 0 ((List.drop 0 v0_0) ++ (List.take 1 (List.drop 0 [((v1_0, (List.take (List.length v1_1) (List.drop 0 v1_1))), v2)]))))), v0_1, ()), v39, (v42_0, v42_1, v42_2, ()), v131, ())
          else
            none
theorem impl_ElementsOf_at5_at52_at31_eq : inlStep f158.ntmps 82 31 E121_at5_at52_at31 L121_at5_at52_at31_0 f158.results.toList (codeOf f158) shi121_at5_at52_at31 sho121_at5_at52_at31 = impl_ElementsOf_at5_at52_at31 := by kernel_rfl
noncomputable def I121_at5_at52_at31 : CallD := ⟨f158.ntmps, shi121_at5_at52_at31, 82, sho121_at5_at52_at31, impl_ElementsOf_at5_at52_at31⟩
theorem I121_at5_at52_at31_ok : InlOk prog 31 158 I121_at5_at52_at31 := inlOk_of (tysOk_of tyl_ok) E121_at5_at52_at31_ok (L := L121_at5_at52_at31_0) func158 (by kernel_rfl) (c := codeOf f158) (by kernel_rfl) (codeOk_in (L := L121_at5_at52_at31_0) (tysOk_of tyl_ok) E121_at5_at52_at31_ok mixed (c := codeOf f158) (bs := []) (by kernel_rfl) allNil (by kernel_rfl)) (by kernel_rfl) (by kernel_rfl) impl_ElementsOf_at5_at52_at31_eq
noncomputable def E121_at5_at52_at65 : Env := ⟨ty0, fun g => ifEq g 60 (some A60) (ifEq g 179 (some A179) (ifEq g 182 (some A182) (ifEq g 183 (some A183) (ifEq g 157 (some A157) (ifEq g 159 (some A159) (none)))))), fun _ => none, fun _ => none, fun _ => none⟩
theorem E121_at5_at52_at65_ok : FnsOk prog E121_at5_at52_at65 := (oneFn A60_ok func60 (by kernel_rfl) (by kernel_rfl) (oneFn A179_ok func179 (by kernel_rfl) (by kernel_rfl) (oneFn A182_ok func182 (by kernel_rfl) (by kernel_rfl) (oneFn A183_ok func183 (by kernel_rfl) (by kernel_rfl) (oneFn A157_ok func157 (by kernel_rfl) (by kernel_rfl) (oneFn A159_ok func159 (by kernel_rfl) (by kernel_rfl) (noFns _ _)))))))
noncomputable def L121_at5_at52_at65_0 : Nat → Option LoopD := fun _ => none
def shi121_at5_at52_at65 : List Fm := [.box 100000 [.own (.pair (.pair (.int .i64) (.sl (.int .i64))) .str) 100001 false, .val .bool], .cell (.val (.pair (.int .i64) (.sl (.int .i64)))), .cell (.val .str), d, d, d, d, d, d, d, d, d, d, d, d, d, d, d, d, d, d, d, d, d, d, d, d, d, d, d, d, d, d, d, d, d, d, d, .ali 100000 0, .cell (.val (.int .i64)), d, d, .box 104200 [.val (.int .i64), .val (.sl (.int .i64)), .val .str], d, d, .cell (.val (.int .i64)), .box 104600 [.val (.int .i64), .val (.sl (.int .i64)), .val .str], .box 104700 [.val (.int .i64), .val (.sl (.int .i64))], d, d, d, d, d, d, d, d, d, d, d, d, d, d, d, d, d, d, d, d, d, d, d, d, d, d, d, d, d, d, d, d, d, d, d, d, d, d, d, d, d, d, d, d, d, d, d, d, d, d, d, d, d, d, d, d, d, d, d, d, d, d, d, d, d, d, d, d, d, d, d, d, d, .fnv 156, d, d, d, d, .ali 100000 0, d, d, d, d, .cell (.val (.int .i64)), d, d, d, d, d, d, d, d, d, d, d, d, d, d, d, d, d, d, d, d, d, d, d, d, d, d, d, d, d, d, d, d, d, d, d, d, d, d, d, d, d, d, d, d, d, d, d, d, d, d, d, d, d, d, d, d, d, d]
def sho121_at5_at52_at65 : List Fm := [.box 100000 [.own (.pair (.pair (.int .i64) (.sl (.int .i64))) .str) 100001 false, .val .bool], .cell (.val (.int .i64)), d, d, .box 100400 [.val (.int .i64), .val (.sl (.int .i64)), .val .str], d, d, .cell (.val (.int .i64)), .box 100800 [.val (.int .i64), .val (.sl (.int .i64)), .val .str], .box 100900 [.val (.int .i64), .val (.sl (.int .i64))], d, d, d, d, d, d, d, d, d, d, d, d, d, d, d, d, d, d, d, d, d, d, d, d, d, d, d, d, d, d, d, d, d, d, d, d, d, d, d, d, d, d, d, d, d, d, d, d, d, d, d, d, d, d, d, d, d, d, d, d, d, d, d, d, d, d, d, d, d, d, d, d, d, .fnv 156, d, d, d, d, .ali 100000 0, d, d, d, d, .cell (.val (.int .i64)), d, d, d, d, d, d, d, d, d, d, d, d, d, d, d, d, d, d, d, d, d, d, d, d, d, d, d, d, d, d, d, d, d, d, d, d, d, d, d, d, d, d, d, d, d, d, d, d, d, d, d, d, d, d, d, d, d, d]
noncomputable def impl_ElementsOf_at5_at52_at65 : (((List ((Int × (List Int)) × ByteArray)) × Bool × Unit) × (Int × (List Int)) × ByteArray × Int × (Int × (List Int) × ByteArray × Unit) × Int × (Int × (List Int) × ByteArray × Unit) × (Int × (List Int) × Unit) × Int × Unit) → Option (((List ((Int × (List Int)) × ByteArray)) × Bool × Unit) × Int × (Int × (List Int) × ByteArray × Unit) × Int × (Int × (List Int) × ByteArray × Unit) × (Int × (List Int) × Unit) × Int × Unit) := fun ((v0_0, v0_1, _), (v1_0, v1_1), v2, v39, (v42_0, v42_1, v42_2, _), v45, (v46_0, v46_1, v46_2, _), (v47_0, v47_1, _), v131, _) =>
  Option.bind (slices_ContainsFunc_Element (List.take (List.length v0_0) (List.drop 0 v0_0)) (fun y0 => (impl_found_put_1 y0.1 (v1_0, v1_1)))) fun r1 =>
    bif r1 then
      some (((List.take (List.length v0_0) (List.drop 0 v0_0)), v0_1, ()), v39, (v42_0, v42_1, v42_2, ()), v45, (v46_0, v46_1, v46_2, ()), (v47_0, v47_1, ()), v131, ())
    else
      bif (decide ((((List.length v0_0) : Nat) : Int) ≥ (120 : Int))) then
        some (((List.take (List.length v0_0) (List.drop 0 v0_0)), false, ()), v39, (v42_0, v42_1, v42_2, ()), v45, (v46_0, v46_1, v46_2, ()), (v47_0, v47_1, ()), v131, ())
      else
        bif (decide ((((ByteArray.size v2) : Nat) : Int) > (120 : Int))) then
          some (((List.take (List.length v0_0) (List.drop 0 v0_0)), false, ()), v39, (v42_0, v42_1, v42_2, ()), v45, (v46_0, v46_1, v46_2, ()), (v47_0, v47_1, ()), v131, ())
        else
          if (((0 + (List.length v0_0)) = (List.length v0_0)) ∧ ((((List.length v0_0) + (List.length (List.take 1 (List.drop 0 [((v1_0, v1_1), v2)])))) * 48) ≤ 140737488355328)) then
            some (((List.take ((List.length v0_0) + (List.length (List.take 1 (List.drop 0 [((v1_0, v1_1), v2)])))) (List.drop 0 ((List.drop 0 v0_0) ++ (List.take 1 (List.drop 0 [((v1_0, v1_1), v2)]))))), v0_1, ()), v39, (v42_0, v42_1, v42_2, ()), v45, (v46_0, v46_1, v46_2, ()), (v47_0, v47_1, ()), v131, ())
          else
            none
theorem impl_ElementsOf_at5_at52_at65_eq : inlStep f158.ntmps 82 65 E121_at5_at52_at65 L121_at5_at52_at65_0 f158.results.toList (codeOf f158) shi121_at5_at52_at65 sho121_at5_at52_at65 = impl_ElementsOf_at5_at52_at65 := by kernel_rfl
noncomputable def I121_at5_at52_at65 : CallD := ⟨f158.ntmps, shi121_at5_at52_at65, 82, sho121_at5_at52_at65, impl_ElementsOf_at5_at52_at65⟩
theorem I121_at5_at52_at65_ok : InlOk prog 65 158 I121_at5_at52_at65 := inlOk_of (tysOk_of tyl_ok) E121_at5_at52_at65_ok (L := L121_at5_at52_at65_0) func158 (by kernel_rfl) (c := codeOf f158) (by kernel_rfl) (codeOk_in (L := L121_at5_at52_at65_0) (tysOk_of tyl_ok) E121_at5_at52_at65_ok mixed (c := codeOf f158) (bs := []) (by kernel_rfl) allNil (by kernel_rfl)) (by kernel_rfl) (by kernel_rfl) impl_ElementsOf_at5_at52_at65_eq
noncomputable def E121_at5_at52_at81 : Env := ⟨ty0, fun g => ifEq g 60 (some A60) (ifEq g 179 (some A179) (ifEq g 182 (some A182) (ifEq g 183 (some A183) (ifEq g 157 (some A157) (ifEq g 159 (some A159) (none)))))), fun _ => none, fun _ => none, fun _ => none⟩
theorem E121_at5_at52_at81_ok : FnsOk prog E121_at5_at52_at81 := (oneFn A60_ok func60 (by kernel_rfl) (by kernel_rfl) (oneFn A179_ok func179 (by kernel_rfl) (by kernel_rfl) (oneFn A182_ok func182 (by kernel_rfl) (by kernel_rfl) (oneFn A183_ok func183 (by kernel_rfl) (by kernel_rfl) (oneFn A157_ok func157 (by kernel_rfl) (by kernel_rfl) (oneFn A159_ok func159 (by kernel_rfl) (by kernel_rfl) (noFns _ _)))))))
noncomputable def L121_at5_at52_at81_0 : Nat → Option LoopD := fun _ => none
def shi121_at5_at52_at81 : List Fm := [.box 100000 [.own (.pair (.pair (.int .i64) (.sl (.int .i64))) .str) 100001 false, .val .bool], .agg [.val (.int .i64), .own (.int .i64) 100102 false], .cell (.val .str), d, d, d, d, d, d, d, d, d, d, d, d, d, d, d, d, d, d, d, d, d, d, d, d, d, d, d, d, d, d, d, d, d, d, d, .ali 100000 0, .cell (.val (.int .i64)), d, d, .box 104200 [.val (.int .i64), .val (.sl (.int .i64)), .val .str], d, d, .cell (.val (.int .i64)), d, d, d, d, d, d, d, d, d, d, d, d, d, d, d, d, d, d, d, d, d, d, d, d, d, d, d, d, d, d, d, d, d, d, d, d, d, d, d, d, d, d, d, d, d, d, d, d, d, d, d, d, d, d, d, d, d, d, d, d, d, d, d, d, d, d, d, d, d, d, d, d, d, d, d, .fnv 156, d, d, d, d, .ali 100000 0, d, d, d, d, .cell (.val (.int .i64)), d, d, d, d, d, d, d, d, d, d, d, d, d, d, d, d, d, d, d, d, d, d, d, d, d, d, d, d, d, d, d, d, d, d, d, d, d, d, d, d, d, d, d, d, d, d, d, d, d, d, d, d, d, d, d, d, d, d]
def sho121_at5_at52_at81 : List Fm := [.box 100000 [.own (.pair (.pair (.int .i64) (.sl (.int .i64))) .str) 100001 false, .val .bool], .cell (.val (.int .i64)), d, d, .box 100400 [.val (.int .i64), .val (.sl (.int .i64)), .val .str], d, d, .cell (.val (.int .i64)), d, d, d, d, d, d, d, d, d, d, d, d, d, d, d, d, d, d, d, d, d, d, d, d, d, d, d, d, d, d, d, d, d, d, d, d, d, d, d, d, d, d, d, d, d, d, d, d, d, d, d, d, d, d, d, d, d, d, d, d, d, d, d, d, d, d, d, d, d, d, d, d, d, d, d, .fnv 156, d, d, d, d, .ali 100000 0, d, d, d, d, .cell (.val (.int .i64)), d, d, d, d, d, d, d, d, d, d, d, d, d, d, d, d, d, d, d, d, d, d, d, d, d, d, d, d, d, d, d, d, d, d, d, d, d, d, d, d, d, d, d, d, d, d, d, d, d, d, d, d, d, d, d, d, d, d]
noncomputable def impl_ElementsOf_at5_at52_at81 : (((List ((Int × (List Int)) × ByteArray)) × Bool × Unit) × (Int × (List Int) × Unit) × ByteArray × Int × (Int × (List Int) × ByteArray × Unit) × Int × Int × Unit) → Option (((List ((Int × (List Int)) × ByteArray)) × Bool × Unit) × Int × (Int × (List Int) × ByteArray × Unit) × Int × Int × Unit) := fun ((v0_0, v0_1, _), (v1_0, v1_1, _), v2, v39, (v42_0, v42_1, v42_2, _), v45, v131, _) =>
  Option.bind (slices_ContainsFunc_Element (List.take (List.length v0_0) (List.drop 0 v0_0)) (fun y0 => (impl_found_put_1 y0.1 (v1_0, (List.take (List.length v1_1) (List.drop 0 v1_1)))))) fun r1 =>
    bif r1 then
      some (((List.take (List.length v0_0) (List.drop 0 v0_0)), v0_1, ()), v39, (v42_0, v42_1, v42_2, ()), v45, v131, ())
    else
      bif (decide ((((List.length v0_0) : Nat) : Int) ≥ (120 : Int))) then
        some (((List.take (List.length v0_0) (List.drop 0 v0_0)), false, ()), v39, (v42_0, v42_1, v42_2, ()), v45, v131, ())
      else
        bif (decide ((((ByteArray.size v2) : Nat) : Int) > (120 : Int))) then
          some (((List.take (List.length v0_0) (List.drop 0 v0_0)), false, ()), v39, (v42_0, v42_1, v42_2, ()), v45, v131, ())
        else
          if (((0 + (List.length v0_0)) = (List.length v0_0)) ∧ ((((List.length v0_0) + (List.length (List.take 1 (List.drop 0 [((v1_0, (List.take (List.length v1_1) (List.drop 0 v1_1))), v2)])))) * 48) ≤ 140737488355328)) then
            some (((List.take ((List.length v0_0) + (List.length (List.take 1 (List.drop 0 [((v1_0, (List.take (List.length v1_1) (List.drop 0 v1_1))), v2)])))) (List.drop 0 ((List.drop 0 v0_0) ++ (List.take 1 (List.drop 0 [((v1_0, (List.take (List.length v1_1) (List.drop 0 v1_1))), v2)]))))), v0_1, ()), v39, (v42_0, v42_1, v42_2, ()), v45, v131, ())
          else
            none
theorem impl_ElementsOf_at5_at52_at81_eq : inlStep f158.ntmps 82 81 E121_at5_at52_at81 L121_at5_at52_at81_0 f158.results.toList (codeOf f158) shi121_at5_at52_at81 sho121_at5_at52_at81 = impl_ElementsOf_at5_at52_at81 := by kernel_rfl
noncomputable def I121_at5_at52_at81 : CallD := ⟨f158.ntmps, shi121_at5_at52_at81, 82, sho121_at5_at52_at81, impl_ElementsOf_at5_at52_at81⟩
theorem I121_at5_at52_at81_ok : InlOk prog 81 158 I121_at5_at52_at81 := inlOk_of (tysOk_of tyl_ok) E121_at5_at52_at81_ok (L := L121_at5_at52_at81_0) func158 (by kernel_rfl) (c := codeOf f158) (by kernel_rfl) (codeOk_in (L := L121_at5_at52_at81_0) (tysOk_of tyl_ok) E121_at5_at52_at81_ok mixed (c := codeOf f158) (bs := []) (by kernel_rfl) allNil (by kernel_rfl)) (by kernel_rfl) (by kernel_rfl) impl_ElementsOf_at5_at52_at81_eq
noncomputable def E121_at5_at52 : Env := ⟨ty0, fun g => ifEq g 60 (some A60) (ifEq g 179 (some A179) (ifEq g 182 (some A182) (ifEq g 183 (some A183) (ifEq g 157 (some A157) (ifEq g 159 (some A159) (none)))))), fun _ => none, fun _ => none, fun d => ifI (Nat.beq d 31) (some (158, I121_at5_at52_at31)) (ifI (Nat.beq d 65) (some (158, I121_at5_at52_at65)) (ifI (Nat.beq d 81) (some (158, I121_at5_at52_at81)) (none)))⟩
theorem E121_at5_at52_ok : FnsOk prog E121_at5_at52 := (oneIl (d0 := 31) (g0 := 158) I121_at5_at52_at31_ok (oneIl (d0 := 65) (g0 := 158) I121_at5_at52_at65_ok (oneIl (d0 := 81) (g0 := 158) I121_at5_at52_at81_ok (oneFn A60_ok func60 (by kernel_rfl) (by kernel_rfl) (oneFn A179_ok func179 (by kernel_rfl) (by kernel_rfl) (oneFn A182_ok func182 (by kernel_rfl) (by kernel_rfl) (oneFn A183_ok func183 (by kernel_rfl) (by kernel_rfl) (oneFn A157_ok func157 (by kernel_rfl) (by kernel_rfl) (oneFn A159_ok func159 (by kernel_rfl) (by kernel_rfl) (noFns _ _))))))))))
noncomputable def L121_at5_at52_0 : Nat → Option LoopD := fun _ => none
def sh121_at5_at52_5 : List Fm := [.box 100000 [.own (.pair (.pair (.int .i64) (.sl (.int .i64))) .str) 100001 false, .val .bool], .cell (.val (.int .i64)), d, d, .box 100400 [.val (.int .i64), .val (.sl (.int .i64)), .val .str], d, d, .cell (.val (.int .i64)), d, d, d, d, d, d, d, d, d, d, d, d, d, d, d, d, d, d, d, d, d, d, d, d, d, d, d, d, d, d, d, d, d, d, d, d, d, d, d, d, d, d, d, d, d, d, d, d, d, d, d, d, d, d, d, d, d, d, d, d, d, d, d, d, d, d, d, d, d, d, d, d, d, d, d, .fnv 156, d, d, d, d, .ali 100000 0, d, d, d, d, .cell (.val (.int .i64)), d, d, d, d, d, d, d, d, d, d, d, d, d, d, d, d, d, d, d, d, d, d, d, d, d, d, d, d, d, d, d, d, d, d, d, d, d, d, d, d, d, d, d, d, d, d, d, d, d, d, d, d, d, d, d, d, d, d]
def xs121_at5_at52_5 : List (Ex × List Fm) := [(.exit 0, [d, d, d, d, d, d, d, d, d, d, d, d, d, d, d, d, d, d, d, d, d, d, d, d, d, d, d, d, d, d, d, d, d, d, d, d, d, d, d, d, d, d, d, d, d, d, d, d, d, d, d, d, d, d, d, d, d, d, d, d, d, d, d, d, d, d, d, d, d, d, d, d, d, d, d, d, d, d, d, d, d, d, d, .fnv 156, d, d, d, d, .box 108800 [.own (.pair (.pair (.int .i64) (.sl (.int .i64))) .str) 108801 false, .val .bool], d, d, d, d, .cell (.val (.int .i64)), d, d, d, d, d, d, d, d, d, d, d, d, d, d, d, d, d, d, d, d, d, d, d, d, d, d, d, d, d, d, d, d, d, d, d, d, d, d, d, d, d, d, d, d, d, d, d, d, d, d, d, d, d, d, d, d, d, d])]
noncomputable def impl_ElementsOf_at5_at52_l5 : (((List ((Int × (List Int)) × ByteArray)) × Bool × Unit) × Int × (Int × (List Int) × ByteArray × Unit) × Int × Int × Unit) → Option ((((List ((Int × (List Int)) × ByteArray)) × Bool × Unit) × Int × (Int × (List Int) × ByteArray × Unit) × Int × Int × Unit) ⊕ ((((List ((Int × (List Int)) × ByteArray)) × Bool × Unit) × Int × Unit))) := fun ((v0_0, v0_1, _), v1, (v4_0, v4_1, v4_2, _), v7, v93, _) =>
  bif (decide (v7 ≤ v1)) then
    bif v0_1 then
      if (((0 : Int) ≤ v7) ∧ (v7 < (((List.length v0_0) : Nat) : Int))) then
        Option.bind (impl_MulGrades (v4_0, v4_1) ((List.getD v0_0 (0 + (Int.toNat v7)) (((0 : Int), []), (⟨Array.empty⟩ : ByteArray))).1.1, (List.getD v0_0 (0 + (Int.toNat v7)) (((0 : Int), []), (⟨Array.empty⟩ : ByteArray))).1.2)) fun ((r0, r1), r2) =>
          if (((ByteArray.size v4_2) + (ByteArray.size (List.getD v0_0 (0 + (Int.toNat v7)) (((0 : Int), []), (⟨Array.empty⟩ : ByteArray))).2)) ≤ 9223372036854775807) then
            Option.bind (impl_ElementsOf_at5_at52_at65 (((List.take (List.length v0_0) (List.drop 0 v0_0)), v0_1, ()), (r0, (List.take (List.length r1) (List.drop 0 r1))), (v4_2 ++ (List.getD v0_0 (0 + (Int.toNat v7)) (((0 : Int), []), (⟨Array.empty⟩ : ByteArray))).2), v1, (v4_0, v4_1, v4_2, ()), v7, ((List.getD v0_0 (0 + (Int.toNat v7)) (((0 : Int), []), (⟨Array.empty⟩ : ByteArray))).1.1, (List.getD v0_0 (0 + (Int.toNat v7)) (((0 : Int), []), (⟨Array.empty⟩ : ByteArray))).1.2, (List.getD v0_0 (0 + (Int.toNat v7)) (((0 : Int), []), (⟨Array.empty⟩ : ByteArray))).2, ()), (r0, (List.take (List.length r1) (List.drop 0 r1)), ()), v93, ())) fun ((r3, r4, _), r5, (r6, r7, r8, _), r9, (r10, r11, r12, _), (r13, r14, _), r15, _) =>
              Option.bind (impl_MulGrades (r10, r11) (r6, r7)) fun ((r16, r17), r18) =>
                if (((ByteArray.size r12) + (ByteArray.size r8)) ≤ 9223372036854775807) then
                  Option.bind (impl_ElementsOf_at5_at52_at81 (((List.take (List.length r3) (List.drop 0 r3)), r4, ()), (r16, (List.take (List.length r17) (List.drop 0 r17)), ()), (r12 ++ r8), r5, (r6, r7, r8, ()), r9, r15, ())) fun ((r19, r20, _), r21, (r22, r23, r24, _), r25, r26, _) =>
                    some (Sum.inl (((List.take (List.length r19) (List.drop 0 r19)), r20, ()), r21, (r22, r23, r24, ()), (IntKind.wrap .i64 (r25 + (1 : Int))), r26, ()))
                else
                  none
          else
            none
      else
        none
    else
      some (Sum.inr (((List.take (List.length v0_0) (List.drop 0 v0_0)), v0_1, ()), v93, ()))
  else
    some (Sum.inr (((List.take (List.length v0_0) (List.drop 0 v0_0)), v0_1, ()), v93, ()))
theorem impl_ElementsOf_at5_at52_l5_eq : loopStep 82 E121_at5_at52 L121_at5_at52_0 (loopOf f156 5) sh121_at5_at52_5 xs121_at5_at52_5 = impl_ElementsOf_at5_at52_l5 := by kernel_rfl
theorem loop121_at5_at52_5 {L : Nat → Option LoopD} (h : L 5 = some ⟨82, sh121_at5_at52_5, xs121_at5_at52_5, impl_ElementsOf_at5_at52_l5⟩) : LoopOk prog L (loopOf f156 5) :=
  loopOk (tysOk_of tyl_ok) E121_at5_at52_ok (codeOk_in (L := L121_at5_at52_0) (tysOk_of tyl_ok) E121_at5_at52_ok mixed (c := loopOf f156 5) (bs := []) (by kernel_rfl) allNil (by kernel_rfl)) (by kernel_rfl) (by kernel_rfl) impl_ElementsOf_at5_at52_l5_eq (by rw [show firstId (loopOf f156 5) = 5 from by kernel_rfl]; exact h)
noncomputable def L121_at5_at52_1 : Nat → Option LoopD := fun n => ifEq n 5 (some ⟨82, sh121_at5_at52_5, xs121_at5_at52_5, impl_ElementsOf_at5_at52_l5⟩) (L121_at5_at52_0 n)
def shi121_at5_at52 : List Fm := [.box 100000 [.own (.pair (.pair (.int .i64) (.sl (.int .i64))) .str) 100001 false, .val .bool], .cell (.val (.int .i64)), d, d, d, d, d, d, d, d, d, d, d, d, d, d, d, d, d, d, d, d, d, d, d, d, d, d, d, d, d, d, d, d, d, d, d, d, d, d, d, d, d, d, d, d, d, d, d, d, d, d, d, d, d, d, d, d, d, d, d, d, d, d, d, d, d, d, d, d, d, d, d, d, d, d, d, d, d, d, d, d, d, .fnv 156, d, d, d, d, .ali 100000 0, d, d, d, d, .cell (.val (.int .i64)), d, d, d, d, d, d, d, d, d, d, d, d, d, d, d, d, d, d, d, d, d, d, d, d, d, d, d, d, d, d, d, d, d, d, d, d, d, d, d, d, d, d, d, d, d, d, d, d, d, d, d, d, d, d, d, d, d, d]
def sho121_at5_at52 : List Fm := [d, .fnv 156, d, d, d, d, .box 100600 [.own (.pair (.pair (.int .i64) (.sl (.int .i64))) .str) 100601 false, .val .bool], d, d, d, d, .cell (.val (.int .i64)), d, d, d, d, d, d, d, d, d, d, d, d, d, d, d, d, d, d, d, d, d, d, d, d, d, d, d, d, d, d, d, d, d, d, d, d, d, d, d, d, d, d, d, d, d, d, d, d, d, d, d, d, d, d, d, d, d, d]
noncomputable def impl_ElementsOf_at5_at52 : (((List ((Int × (List Int)) × ByteArray)) × Bool × Unit) × Int × Int × Unit) → Option (((List ((Int × (List Int)) × ByteArray)) × Bool × Unit) × Int × Unit) := fun ((v0_0, v0_1, _), v1, v93, _) =>
  if (((0 : Int) ≤ v1) ∧ (v1 < (((List.length v0_0) : Nat) : Int))) then
    Option.bind (impl_Stabilise ((List.getD v0_0 (0 + (Int.toNat v1)) (((0 : Int), []), (⟨Array.empty⟩ : ByteArray))).1.1, (List.getD v0_0 (0 + (Int.toNat v1)) (((0 : Int), []), (⟨Array.empty⟩ : ByteArray))).1.2)) fun ((r0, r1), r2) =>
      bif r2 then
        if (((ByteArray.size (⟨#[(40 : UInt8)]⟩ : ByteArray)) + (ByteArray.size (List.getD v0_0 (0 + (Int.toNat v1)) (((0 : Int), []), (⟨Array.empty⟩ : ByteArray))).2)) ≤ 9223372036854775807) then
          if (((ByteArray.size ((⟨#[(40 : UInt8)]⟩ : ByteArray) ++ (List.getD v0_0 (0 + (Int.toNat v1)) (((0 : Int), []), (⟨Array.empty⟩ : ByteArray))).2)) + (ByteArray.size (⟨#[(41 : UInt8), (35 : UInt8)]⟩ : ByteArray))) ≤ 9223372036854775807) then
            Option.bind (impl_ElementsOf_at5_at52_at31 (((List.take (List.length v0_0) (List.drop 0 v0_0)), v0_1, ()), (r0, (List.take (List.length r1) (List.drop 0 r1)), ()), (((⟨#[(40 : UInt8)]⟩ : ByteArray) ++ (List.getD v0_0 (0 + (Int.toNat v1)) (((0 : Int), []), (⟨Array.empty⟩ : ByteArray))).2) ++ (⟨#[(41 : UInt8), (35 : UInt8)]⟩ : ByteArray)), v1, ((List.getD v0_0 (0 + (Int.toNat v1)) (((0 : Int), []), (⟨Array.empty⟩ : ByteArray))).1.1, (List.getD v0_0 (0 + (Int.toNat v1)) (((0 : Int), []), (⟨Array.empty⟩ : ByteArray))).1.2, (List.getD v0_0 (0 + (Int.toNat v1)) (((0 : Int), []), (⟨Array.empty⟩ : ByteArray))).2, ()), v93, ())) fun ((r3, r4, _), r5, (r6, r7, r8, _), r9, _) =>
              Option.bind (loopF impl_ElementsOf_at5_at52_l5 (((List.take (List.length r3) (List.drop 0 r3)), r4, ()), r5, (r6, r7, r8, ()), (0 : Int), r9, ())) fun ((r10, r11, _), r12, _) =>
                some (((List.take (List.length r10) (List.drop 0 r10)), r11, ()), r12, ())
          else
            none
        else
          none
      else
        Option.bind (loopF impl_ElementsOf_at5_at52_l5 (((List.take (List.length v0_0) (List.drop 0 v0_0)), v0_1, ()), v1, ((List.getD v0_0 (0 + (Int.toNat v1)) (((0 : Int), []), (⟨Array.empty⟩ : ByteArray))).1.1, (List.getD v0_0 (0 + (Int.toNat v1)) (((0 : Int), []), (⟨Array.empty⟩ : ByteArray))).1.2, (List.getD v0_0 (0 + (Int.toNat v1)) (((0 : Int), []), (⟨Array.empty⟩ : ByteArray))).2, ()), (0 : Int), v93, ())) fun ((r13, r14, _), r15, _) =>
          some (((List.take (List.length r13) (List.drop 0 r13)), r14, ()), r15, ())
  else
    none
theorem impl_ElementsOf_at5_at52_eq : inlStep f156.ntmps 62 52 E121_at5_at52 L121_at5_at52_1 f156.results.toList (codeOf f156) shi121_at5_at52 sho121_at5_at52 = impl_ElementsOf_at5_at52 := by kernel_rfl
noncomputable def I121_at5_at52 : CallD := ⟨f156.ntmps, shi121_at5_at52, 62, sho121_at5_at52, impl_ElementsOf_at5_at52⟩
theorem I121_at5_at52_ok : InlOk prog 52 156 I121_at5_at52 := inlOk_of (tysOk_of tyl_ok) E121_at5_at52_ok (L := L121_at5_at52_1) func156 (by kernel_rfl) (c := codeOf f156) (by kernel_rfl) (codeOk_in (L := L121_at5_at52_1) (tysOk_of tyl_ok) E121_at5_at52_ok mixed (c := codeOf f156) (bs := [loopOf f156 5]) (by kernel_rfl) (allCons (loop121_at5_at52_5 rfl) allNil) (by kernel_rfl)) (by kernel_rfl) (by kernel_rfl) impl_ElementsOf_at5_at52_eq
noncomputable def E121_at5 : Env := ⟨ty0, fun g => ifEq g 60 (some A60) (ifEq g 179 (some A179) (ifEq g 182 (some A182) (ifEq g 183 (some A183) (ifEq g 157 (some A157) (ifEq g 159 (some A159) (none)))))), fun _ => none, fun _ => none, fun d => ifI (Nat.beq d 32) (some (158, I121_at5_at32)) (ifI (Nat.beq d 52) (some (156, I121_at5_at52)) (none))⟩
theorem E121_at5_ok : FnsOk prog E121_at5 := (oneIl (d0 := 32) (g0 := 158) I121_at5_at32_ok (oneIl (d0 := 52) (g0 := 156) I121_at5_at52_ok (oneFn A60_ok func60 (by kernel_rfl) (by kernel_rfl) (oneFn A179_ok func179 (by kernel_rfl) (by kernel_rfl) (oneFn A182_ok func182 (by kernel_rfl) (by kernel_rfl) (oneFn A183_ok func183 (by kernel_rfl) (by kernel_rfl) (oneFn A157_ok func157 (by kernel_rfl) (by kernel_rfl) (oneFn A159_ok func159 (by kernel_rfl) (by kernel_rfl) (noFns _ _)))))))))
noncomputable def L121_at5_0 : Nat → Option LoopD := fun _ => none
def sh121_at5_5 : List Fm := [d, .fnv 156, .box 100200 [.val (.int .i64), .val (.sl (.int .i64)), .val (.sl (.int .i64)), .val (.sl (.pair (.int .i64) (.pair .str (.pair (.int .i64) (.int .i64)))))], d, d, d, .box 100600 [.own (.pair (.pair (.int .i64) (.sl (.int .i64))) .str) 100601 false, .val .bool], d, d, d, d, d, d, d, d, d, d, .cell (.own .str 101700 false), .cell (.val (.int .i64)), .cell (.val (.int .i64)), d, d, d, d, d, d, d, d, d, d, d, d, d, d, d, d, d, d, d, d, d, d, d, d, d, d, d, d, d, d, d, d, d, d, d, d, d, d, d, d, d, d, d, d, d, d, d, d, d, d]
def xs121_at5_5 : List (Ex × List Fm) := [(.exit 0, [d, .fnv 156, d, d, d, d, .box 100600 [.own (.pair (.pair (.int .i64) (.sl (.int .i64))) .str) 100601 false, .val .bool], d, d, d, d, d, d, d, d, d, d, d, d, d, d, d, d, d, d, d, d, d, d, d, d, d, d, d, d, d, d, d, d, d, d, d, d, d, d, d, d, d, d, d, d, d, d, d, d, d, d, d, d, d, d, d, d, d, d, d, d, d, d, d])]
noncomputable def impl_ElementsOf_at5_l5 : ((Int × (List Int) × (List Int) × (List (Int × (ByteArray × (Int × Int)))) × Unit) × ((List ((Int × (List Int)) × ByteArray)) × Bool × Unit) × (List ByteArray) × Int × Int × Unit) → Option (((Int × (List Int) × (List Int) × (List (Int × (ByteArray × (Int × Int)))) × Unit) × ((List ((Int × (List Int)) × ByteArray)) × Bool × Unit) × (List ByteArray) × Int × Int × Unit) ⊕ ((((List ((Int × (List Int)) × ByteArray)) × Bool × Unit) × Unit))) := fun ((v2_0, v2_1, v2_2, v2_3, _), (v6_0, v6_1, _), v17, v18, v19, _) =>
  bif (decide (v19 < v18)) then
    if (((0 : Int) ≤ v19) ∧ (v19 < (((List.length v17) : Nat) : Int))) then
      Option.bind (impl_ValueOf (v2_0, v2_1, v2_2, v2_3) (List.getD v17 (0 + (Int.toNat v19)) (⟨Array.empty⟩ : ByteArray))) fun ((r0, r1), r2) =>
        Option.bind (impl_ElementsOf_at5_at32 (((List.take (List.length v6_0) (List.drop 0 v6_0)), v6_1, ()), (r0, (List.take (List.length r1) (List.drop 0 r1)), ()), (List.getD v17 (0 + (Int.toNat v19)) (⟨Array.empty⟩ : ByteArray)), (v2_0, v2_1, v2_2, v2_3, ()), (List.take (List.length v17) (List.drop 0 v17)), v18, v19, ())) fun ((r3, r4, r5, r6, _), (r7, r8, _), r9, r10, r11, _) =>
          some (Sum.inl ((r3, r4, r5, r6, ()), ((List.take (List.length r7) (List.drop 0 r7)), r8, ()), (List.take (List.length r9) (List.drop 0 r9)), r10, (IntKind.wrap .i64 (r11 + (1 : Int))), ()))
    else
      none
  else
    some (Sum.inr (((List.take (List.length v6_0) (List.drop 0 v6_0)), v6_1, ()), ()))
theorem impl_ElementsOf_at5_l5_eq : loopStep 62 E121_at5 L121_at5_0 (loopOf f155 5) sh121_at5_5 xs121_at5_5 = impl_ElementsOf_at5_l5 := by kernel_rfl
theorem loop121_at5_5 {L : Nat → Option LoopD} (h : L 5 = some ⟨62, sh121_at5_5, xs121_at5_5, impl_ElementsOf_at5_l5⟩) : LoopOk prog L (loopOf f155 5) :=
  loopOk (tysOk_of tyl_ok) E121_at5_ok (codeOk_in (L := L121_at5_0) (tysOk_of tyl_ok) E121_at5_ok mixed (c := loopOf f155 5) (bs := []) (by kernel_rfl) allNil (by kernel_rfl)) (by kernel_rfl) (by kernel_rfl) impl_ElementsOf_at5_l5_eq (by rw [show firstId (loopOf f155 5) = 5 from by kernel_rfl]; exact h)
noncomputable def L121_at5_1 : Nat → Option LoopD := fun n => ifEq n 5 (some ⟨62, sh121_at5_5, xs121_at5_5, impl_ElementsOf_at5_l5⟩) (L121_at5_0 n)
def sh121_at5_11 : List Fm := [d, .fnv 156, d, d, d, d, .box 100600 [.own (.pair (.pair (.int .i64) (.sl (.int .i64))) .str) 100601 false, .val .bool], d, d, d, d, .cell (.val (.int .i64)), d, d, d, d, d, d, d, d, d, d, d, d, d, d, d, d, d, d, d, d, d, d, d, d, d, d, d, d, d, d, d, d, d, d, d, d, d, d, d, d, d, d, d, d, d, d, d, d, d, d, d, d, d, d, d, d, d, d]
def xs121_at5_11 : List (Ex × List Fm) := [(.exit 2, [d, d, d, d, d, d, .box 100600 [.own (.pair (.pair (.int .i64) (.sl (.int .i64))) .str) 100601 false, .val .bool], d, d, d, d, d, d, d, d, d, d, d, d, d, d, d, d, d, d, d, d, d, d, d, d, d, d, d, d, d, d, d, d, d, d, d, d, d, d, d, d, d, d, d, d, d, d, d, d, d, d, d, d, d, d, d, d, d, d, d, d, d, d, d])]
noncomputable def impl_ElementsOf_at5_l11 : (((List ((Int × (List Int)) × ByteArray)) × Bool × Unit) × Int × Unit) → Option ((((List ((Int × (List Int)) × ByteArray)) × Bool × Unit) × Int × Unit) ⊕ ((((List ((Int × (List Int)) × ByteArray)) × Bool × Unit) × Unit))) := fun ((v6_0, v6_1, _), v11, _) =>
  bif (decide (v11 < (((List.length v6_0) : Nat) : Int))) then
    bif v6_1 then
      Option.bind (impl_ElementsOf_at5_at52 (((List.take (List.length v6_0) (List.drop 0 v6_0)), v6_1, ()), v11, v11, ())) fun ((r0, r1, _), r2, _) =>
        some (Sum.inl (((List.take (List.length r0) (List.drop 0 r0)), r1, ()), (IntKind.wrap .i64 (r2 + (1 : Int))), ()))
    else
      some (Sum.inr (((List.take (List.length v6_0) (List.drop 0 v6_0)), v6_1, ()), ()))
  else
    some (Sum.inr (((List.take (List.length v6_0) (List.drop 0 v6_0)), v6_1, ()), ()))
theorem impl_ElementsOf_at5_l11_eq : loopStep 62 E121_at5 L121_at5_1 (loopOf f155 11) sh121_at5_11 xs121_at5_11 = impl_ElementsOf_at5_l11 := by kernel_rfl
theorem loop121_at5_11 {L : Nat → Option LoopD} (h : L 11 = some ⟨62, sh121_at5_11, xs121_at5_11, impl_ElementsOf_at5_l11⟩) : LoopOk prog L (loopOf f155 11) :=
  loopOk (tysOk_of tyl_ok) E121_at5_ok (codeOk_in (L := L121_at5_1) (tysOk_of tyl_ok) E121_at5_ok mixed (c := loopOf f155 11) (bs := []) (by kernel_rfl) allNil (by kernel_rfl)) (by kernel_rfl) (by kernel_rfl) impl_ElementsOf_at5_l11_eq (by rw [show firstId (loopOf f155 11) = 11 from by kernel_rfl]; exact h)
noncomputable def L121_at5_2 : Nat → Option LoopD := fun n => ifEq n 11 (some ⟨62, sh121_at5_11, xs121_at5_11, impl_ElementsOf_at5_l11⟩) (L121_at5_1 n)
def shi121_at5 : List Fm := [.cell (.val (.pair (.int .i64) (.pair (.sl (.int .i64)) (.pair (.sl (.int .i64)) (.sl (.pair (.int .i64) (.pair .str (.pair (.int .i64) (.int .i64))))))))), .fnv 156, d, d, d, d, d, d, d, d, d, d, d, d, d, d, d, d, d, d, d, d, d, d, d, d, d, d, d, d, d, d, d, d, d, d, d, d, d, d, d, d, d, d, d, d, d, d, d, d, d, d, d, d, d, d, d, d, d, d, d, d, d, d, d, d, d, d, d, d]
def sho121_at5 : List Fm := [d, d, d, d, d, .tup [.own (.pair (.pair (.int .i64) (.sl (.int .i64))) .str) 100501 false, .val .bool], d, d]
noncomputable def impl_ElementsOf_at5 : ((Int × ((List Int) × ((List Int) × (List (Int × (ByteArray × (Int × Int))))))) × Unit) → Option (((List ((Int × (List Int)) × ByteArray)) × Bool × Unit) × Unit) := fun ((v0_0, v0_1, v0_2, v0_3), _) =>
  Option.bind (impl_AutomatonValid (v0_0, v0_1, v0_2, v0_3)) fun r0 =>
    bif (!r0) then
      some (([], false, ()), ())
    else
      Option.bind (loopF impl_ElementsOf_at5_l5 ((v0_0, v0_1, v0_2, v0_3, ()), ([], true, ()), (List.take 2 (List.drop 0 [(⟨#[(97 : UInt8)]⟩ : ByteArray), (⟨#[(98 : UInt8)]⟩ : ByteArray)])), ((2 : Nat) : Int), (0 : Int), ())) fun ((r1, r2, _), _) =>
        Option.bind (loopF impl_ElementsOf_at5_l11 (((List.take (List.length r1) (List.drop 0 r1)), r2, ()), (0 : Int), ())) fun ((r3, r4, _), _) =>
          bif (!r4) then
            some (([], false, ()), ())
          else
            some (((List.take (List.length r3) (List.drop 0 r3)), true, ()), ())
theorem impl_ElementsOf_at5_eq : inlStep f155.ntmps 8 5 E121_at5 L121_at5_2 f155.results.toList (codeOf f155) shi121_at5 sho121_at5 = impl_ElementsOf_at5 := by kernel_rfl
noncomputable def I121_at5 : CallD := ⟨f155.ntmps, shi121_at5, 8, sho121_at5, impl_ElementsOf_at5⟩
theorem I121_at5_ok : InlOk prog 5 155 I121_at5 := inlOk_of (tysOk_of tyl_ok) E121_at5_ok (L := L121_at5_2) func155 (by kernel_rfl) (c := codeOf f155) (by kernel_rfl) (codeOk_in (L := L121_at5_2) (tysOk_of tyl_ok) E121_at5_ok mixed (c := codeOf f155) (bs := [loopOf f155 5, loopOf f155 11]) (by kernel_rfl) (allCons (loop121_at5_5 rfl) (allCons (loop121_at5_11 rfl) allNil)) (by kernel_rfl)) (by kernel_rfl) (by kernel_rfl) impl_ElementsOf_at5_eq
noncomputable def E121 : Env := ⟨ty0, fun g => ifEq g 60 (some A60) (ifEq g 179 (some A179) (ifEq g 182 (some A182) (ifEq g 183 (some A183) (ifEq g 157 (some A157) (ifEq g 159 (some A159) (none)))))), fun _ => none, fun _ => none, fun d => ifI (Nat.beq d 5) (some (155, I121_at5)) (none)⟩
theorem E121_ok : FnsOk prog E121 := (oneIl (d0 := 5) (g0 := 155) I121_at5_ok (oneFn A60_ok func60 (by kernel_rfl) (by kernel_rfl) (oneFn A179_ok func179 (by kernel_rfl) (by kernel_rfl) (oneFn A182_ok func182 (by kernel_rfl) (by kernel_rfl) (oneFn A183_ok func183 (by kernel_rfl) (by kernel_rfl) (oneFn A157_ok func157 (by kernel_rfl) (by kernel_rfl) (oneFn A159_ok func159 (by kernel_rfl) (by kernel_rfl) (noFns _ _))))))))
noncomputable def L121_0 : Nat → Option LoopD := fun _ => none
noncomputable def impl_ElementsOf : (Int × ((List Int) × ((List Int) × (List (Int × (ByteArray × (Int × Int))))))) → Option ((List ((Int × (List Int)) × ByteArray)) × Bool) := fun (a0_0, a0_1, a0_2, a0_3) =>
  Option.bind (impl_ElementsOf_at5 ((a0_0, a0_1, a0_2, a0_3), ())) fun ((r0, r1, _), _) =>
    some ((List.take (List.length r0) (List.drop 0 r0)), r1)
noncomputable def A121 : FnA := ⟨[.v (.pair (.int .i64) (.pair (.sl (.int .i64)) (.pair (.sl (.int .i64)) (.sl (.pair (.int .i64) (.pair .str (.pair (.int .i64) (.int .i64))))))))], true, [.sl (.pair (.pair (.int .i64) (.sl (.int .i64))) .str), .bool], fun x => impl_ElementsOf x.1⟩
theorem impl_ElementsOf_eq : fnF E121 L121_0 [.v (.pair (.int .i64) (.pair (.sl (.int .i64)) (.pair (.sl (.int .i64)) (.sl (.pair (.int .i64) (.pair .str (.pair (.int .i64) (.int .i64))))))))] true [.sl (.pair (.pair (.int .i64) (.sl (.int .i64))) .str), .bool] f121.ntmps f121.results.toList (codeOf f121) = fun x => impl_ElementsOf x.1 := by kernel_rfl
theorem A121_ok : FnOk prog 121 A121 := by
  have h := fnOk_of_run (P := prog) (E := E121) (tysOk_of tyl_ok) E121_ok (L := L121_0) (ps := [.v (.pair (.int .i64) (.pair (.sl (.int .i64)) (.pair (.sl (.int .i64)) (.sl (.pair (.int .i64) (.pair .str (.pair (.int .i64) (.int .i64))))))))]) (own := true) (outs := [.sl (.pair (.pair (.int .i64) (.sl (.int .i64))) .str), .bool]) func121 (c := codeOf f121) (by kernel_rfl) (codeOk_in (L := L121_0) (tysOk_of tyl_ok) E121_ok mixed (c := codeOf f121) (bs := []) (by kernel_rfl) allNil (by kernel_rfl))
  rw [impl_ElementsOf_eq] at h
  exact h
/-! impl.firstWith -/
noncomputable def E118 : Env := ⟨ty0, fun g => ifEq g 121 (some A121) (none), fun _ => none, fun _ => none, fun _ => none⟩
theorem E118_ok : FnsOk prog E118 := (oneFn A121_ok func121 (by kernel_rfl) (by kernel_rfl) (noFns _ _))
noncomputable def L118_0 : Nat → Option LoopD := fun _ => none
def sh118_3 : List Fm := [d, .clo [.pair (.int .i64) (.sl (.int .i64))] .bool, d, d, d, d, d, d, d, d, d, d, d, d, d, .cell (.own (.pair (.pair (.int .i64) (.sl (.int .i64))) .str) 101500 false), .cell (.val (.int .i64)), .cell (.val (.int .i64)), d, d, d, d, d, d, d, d, d, d]
def xs118_3 : List (Ex × List Fm) := [(.ret, [d, d, d, d, .cell (.val .str), .cell (.val .bool), d, d, d, d, d, d, d, d, d, d, d, d, d, d, d, d, d, d, d, d, d, d]), (.exit 0, [d, d, d, d, d, d, d, d, d, d, d, d, d, d, d, d, d, d, d, d, d, d, d, d, d, d, d, d])]
noncomputable def impl_firstWith_l3 : ((((Int × (List Int)) × Unit) → Option (Bool)) × (List ((Int × (List Int)) × ByteArray)) × Int × Int × Unit) → Option (((((Int × (List Int)) × Unit) → Option (Bool)) × (List ((Int × (List Int)) × ByteArray)) × Int × Int × Unit) ⊕ ((ByteArray × Bool × Unit) ⊕ (Unit))) := fun (v1, v15, v16, v17, _) =>
  bif (decide (v17 < v16)) then
    if (((0 : Int) ≤ v17) ∧ (v17 < (((List.length v15) : Nat) : Int))) then
      Option.bind (v1 (((List.getD v15 (0 + (Int.toNat v17)) (((0 : Int), []), (⟨Array.empty⟩ : ByteArray))).1.1, (List.getD v15 (0 + (Int.toNat v17)) (((0 : Int), []), (⟨Array.empty⟩ : ByteArray))).1.2), ())) fun r0 =>
        bif r0 then
          some (Sum.inr (Sum.inl ((List.getD v15 (0 + (Int.toNat v17)) (((0 : Int), []), (⟨Array.empty⟩ : ByteArray))).2, true, ())))
        else
          some (Sum.inl (v1, (List.take (List.length v15) (List.drop 0 v15)), v16, (IntKind.wrap .i64 (v17 + (1 : Int))), ()))
    else
      none
  else
    some (Sum.inr (Sum.inr ()))
theorem impl_firstWith_l3_eq : loopStep 28 E118 L118_0 (loopOf f118 3) sh118_3 xs118_3 = impl_firstWith_l3 := by kernel_rfl
theorem loop118_3 {L : Nat → Option LoopD} (h : L 3 = some ⟨28, sh118_3, xs118_3, impl_firstWith_l3⟩) : LoopOk prog L (loopOf f118 3) :=
  loopOk (tysOk_of tyl_ok) E118_ok (codeOk_in (L := L118_0) (tysOk_of tyl_ok) E118_ok mixed (c := loopOf f118 3) (bs := []) (by kernel_rfl) allNil (by kernel_rfl)) (by kernel_rfl) (by kernel_rfl) impl_firstWith_l3_eq (by rw [show firstId (loopOf f118 3) = 3 from by kernel_rfl]; exact h)
noncomputable def L118_1 : Nat → Option LoopD := fun n => ifEq n 3 (some ⟨28, sh118_3, xs118_3, impl_firstWith_l3⟩) (L118_0 n)
noncomputable def impl_firstWith : (Int × ((List Int) × ((List Int) × (List (Int × (ByteArray × (Int × Int))))))) → (((Int × (List Int)) × Unit) → Option (Bool)) → Option (ByteArray × Bool) := fun (a0_0, a0_1, a0_2, a0_3) a1 =>
  Option.bind (impl_ElementsOf (a0_0, a0_1, a0_2, a0_3)) fun (r0, r1) =>
    Option.bind (loopF impl_firstWith_l3 (a1, (List.take (List.length r0) (List.drop 0 r0)), (((List.length r0) : Nat) : Int), (0 : Int), ())) fun r2 =>
      (match r2 with
      | .inl (d3, d4, _) =>
          some (d3, d4)
      | .inr _ =>
          some ((⟨#[]⟩ : ByteArray), false))
noncomputable def A118 : FnA := ⟨[.v (.pair (.int .i64) (.pair (.sl (.int .i64)) (.pair (.sl (.int .i64)) (.sl (.pair (.int .i64) (.pair .str (.pair (.int .i64) (.int .i64)))))))), .clo [.pair (.int .i64) (.sl (.int .i64))] .bool], true, [.str, .bool], fun x => impl_firstWith x.1 x.2.1⟩
theorem impl_firstWith_eq : fnF E118 L118_1 [.v (.pair (.int .i64) (.pair (.sl (.int .i64)) (.pair (.sl (.int .i64)) (.sl (.pair (.int .i64) (.pair .str (.pair (.int .i64) (.int .i64)))))))), .clo [.pair (.int .i64) (.sl (.int .i64))] .bool] true [.str, .bool] f118.ntmps f118.results.toList (codeOf f118) = fun x => impl_firstWith x.1 x.2.1 := by kernel_rfl
theorem A118_ok : FnOk prog 118 A118 := by
  have h := fnOk_of_run (P := prog) (E := E118) (tysOk_of tyl_ok) E118_ok (L := L118_1) (ps := [.v (.pair (.int .i64) (.pair (.sl (.int .i64)) (.pair (.sl (.int .i64)) (.sl (.pair (.int .i64) (.pair .str (.pair (.int .i64) (.int .i64)))))))), .clo [.pair (.int .i64) (.sl (.int .i64))] .bool]) (own := true) (outs := [.str, .bool]) func118 (c := codeOf f118) (by kernel_rfl) (codeOk_in (L := L118_1) (tysOk_of tyl_ok) E118_ok mixed (c := codeOf f118) (bs := [loopOf f118 3]) (by kernel_rfl) (allCons (loop118_3 rfl) allNil) (by kernel_rfl))
  rw [impl_firstWith_eq] at h
  exact h
/-! impl.GradeBetween -/
noncomputable def E161 : Env := ⟨ty0, fun g => ifEq g 60 (some A60) (ifEq g 124 (some A124) (ifEq g 113 (some A113) (none))), fun _ => none, fun _ => none, fun _ => none⟩
theorem E161_ok : FnsOk prog E161 := (oneFn A60_ok func60 (by kernel_rfl) (by kernel_rfl) (oneFn A124_ok func124 (by kernel_rfl) (by kernel_rfl) (oneFn A113_ok func113 (by kernel_rfl) (by kernel_rfl) (noFns _ _))))
noncomputable def L161_0 : Nat → Option LoopD := fun _ => none
def sh161_8 : List Fm := [d, d, .box 100200 [.val (.int .i64), .val (.sl (.int .i64)), .val (.sl (.int .i64)), .val (.sl (.pair (.int .i64) (.pair .str (.pair (.int .i64) (.int .i64)))))], .box 100300 [.val (.int .i64), .val (.sl (.int .i64))], d, .cell (.val (.int .i64)), d, .cell (.val (.int .i64)), d, d, d, d, d, d, d, d, d, d, d, d, d, d, d, d, d, d, .cell (.val (.sl (.int .i64))), .cell (.val (.int .i64)), .cell (.val (.int .i64)), d, d, d, d, .cell (.val (.sl (.int .i64))), .cell (.val (.int .i64)), .cell (.val (.int .i64)), d, d, d, d, d, d, d, d, d, d, d, d]
def xs161_8 : List (Ex × List Fm) := [(.exit 2, [d, d, .box 100200 [.val (.int .i64), .val (.sl (.int .i64)), .val (.sl (.int .i64)), .val (.sl (.pair (.int .i64) (.pair .str (.pair (.int .i64) (.int .i64)))))], .box 100300 [.val (.int .i64), .val (.sl (.int .i64))], d, .cell (.val (.int .i64)), d, d, d, d, d, d, d, d, d, d, d, d, d, d, d, d, d, d, d, d, .cell (.val (.sl (.int .i64))), .cell (.val (.int .i64)), .cell (.val (.int .i64)), d, d, d, d, d, d, d, d, d, d, d, d, d, d, d, d, d, d, d])]
noncomputable def impl_GradeBetween_l8 : ((Int × (List Int) × (List Int) × (List (Int × (ByteArray × (Int × Int)))) × Unit) × (Int × (List Int) × Unit) × Int × Int × (List Int) × Int × Int × (List Int) × Int × Int × Unit) → Option (((Int × (List Int) × (List Int) × (List (Int × (ByteArray × (Int × Int)))) × Unit) × (Int × (List Int) × Unit) × Int × Int × (List Int) × Int × Int × (List Int) × Int × Int × Unit) ⊕ (((Int × (List Int) × (List Int) × (List (Int × (ByteArray × (Int × Int)))) × Unit) × (Int × (List Int) × Unit) × Int × (List Int) × Int × Int × Unit))) := fun ((v2_0, v2_1, v2_2, v2_3, _), (v3_0, v3_1, _), v5, v7, v26, v27, v28, v33, v34, v35, _) =>
  bif (decide (v35 < v34)) then
    if (((0 : Int) ≤ v35) ∧ (v35 < (((List.length v33) : Nat) : Int))) then
      Option.bind (impl_Matrix_at (v3_0, v3_1) v7 (List.getD v33 (Int.toNat v35) (0 : Int))) fun r0 =>
        some (Sum.inl ((v2_0, v2_1, v2_2, v2_3, ()), (v3_0, v3_1, ()), (if (r0 < v5) then r0 else v5), v7, v26, v27, v28, v33, v34, (IntKind.wrap .i64 (v35 + (1 : Int))), ()))
    else
      none
  else
    some (Sum.inr ((v2_0, v2_1, v2_2, v2_3, ()), (v3_0, v3_1, ()), v5, v26, v27, v28, ()))
theorem impl_GradeBetween_l8_eq : loopStep 48 E161 L161_0 (loopOf f161 8) sh161_8 xs161_8 = impl_GradeBetween_l8 := by kernel_rfl
theorem loop161_8 {L : Nat → Option LoopD} (h : L 8 = some ⟨48, sh161_8, xs161_8, impl_GradeBetween_l8⟩) : LoopOk prog L (loopOf f161 8) :=
  loopOk (tysOk_of tyl_ok) E161_ok (codeOk_in (L := L161_0) (tysOk_of tyl_ok) E161_ok mixed (c := loopOf f161 8) (bs := []) (by kernel_rfl) allNil (by kernel_rfl)) (by kernel_rfl) (by kernel_rfl) impl_GradeBetween_l8_eq (by rw [show firstId (loopOf f161 8) = 8 from by kernel_rfl]; exact h)
noncomputable def L161_1 : Nat → Option LoopD := fun n => ifEq n 8 (some ⟨48, sh161_8, xs161_8, impl_GradeBetween_l8⟩) (L161_0 n)
def sh161_5 : List Fm := [d, d, .box 100200 [.val (.int .i64), .val (.sl (.int .i64)), .val (.sl (.int .i64)), .val (.sl (.pair (.int .i64) (.pair .str (.pair (.int .i64) (.int .i64)))))], .box 100300 [.val (.int .i64), .val (.sl (.int .i64))], d, .cell (.val (.int .i64)), d, d, d, d, d, d, d, d, d, d, d, d, d, d, d, d, d, d, d, d, .cell (.val (.sl (.int .i64))), .cell (.val (.int .i64)), .cell (.val (.int .i64)), d, d, d, d, d, d, d, d, d, d, d, d, d, d, d, d, d, d, d]
def xs161_5 : List (Ex × List Fm) := [(.exit 0, [d, d, d, d, d, .cell (.val (.int .i64)), d, d, d, d, d, d, d, d, d, d, d, d, d, d, d, d, d, d, d, d, d, d, d, d, d, d, d, d, d, d, d, d, d, d, d, d, d, d, d, d, d, d])]
noncomputable def impl_GradeBetween_l5 : ((Int × (List Int) × (List Int) × (List (Int × (ByteArray × (Int × Int)))) × Unit) × (Int × (List Int) × Unit) × Int × (List Int) × Int × Int × Unit) → Option (((Int × (List Int) × (List Int) × (List (Int × (ByteArray × (Int × Int)))) × Unit) × (Int × (List Int) × Unit) × Int × (List Int) × Int × Int × Unit) ⊕ ((Int × Unit))) := fun ((v2_0, v2_1, v2_2, v2_3, _), (v3_0, v3_1, _), v5, v26, v27, v28, _) =>
  bif (decide (v28 < v27)) then
    if (((0 : Int) ≤ v28) ∧ (v28 < (((List.length v26) : Nat) : Int))) then
      Option.bind (loopF impl_GradeBetween_l8 ((v2_0, v2_1, v2_2, v2_3, ()), (v3_0, v3_1, ()), v5, (List.getD v26 (Int.toNat v28) (0 : Int)), v26, v27, v28, v2_2, (((List.length v2_2) : Nat) : Int), (0 : Int), ())) fun ((r0, r1, r2, r3, _), (r4, r5, _), r6, r7, r8, r9, _) =>
        some (Sum.inl ((r0, r1, r2, r3, ()), (r4, r5, ()), r6, r7, r8, (IntKind.wrap .i64 (r9 + (1 : Int))), ()))
    else
      none
  else
    some (Sum.inr (v5, ()))
theorem impl_GradeBetween_l5_eq : loopStep 48 E161 L161_1 (loopOf f161 5) sh161_5 xs161_5 = impl_GradeBetween_l5 := by kernel_rfl
theorem loop161_5 {L : Nat → Option LoopD} (h : L 5 = some ⟨48, sh161_5, xs161_5, impl_GradeBetween_l5⟩) : LoopOk prog L (loopOf f161 5) :=
  loopOk (tysOk_of tyl_ok) E161_ok (codeOk_in (L := L161_1) (tysOk_of tyl_ok) E161_ok mixed (c := loopOf f161 5) (bs := [loopOf f161 8]) (by kernel_rfl) (allCons (loop161_8 rfl) allNil) (by kernel_rfl)) (by kernel_rfl) (by kernel_rfl) impl_GradeBetween_l5_eq (by rw [show firstId (loopOf f161 5) = 5 from by kernel_rfl]; exact h)
noncomputable def L161_2 : Nat → Option LoopD := fun n => ifEq n 5 (some ⟨48, sh161_5, xs161_5, impl_GradeBetween_l5⟩) (L161_1 n)
noncomputable def impl_GradeBetween : (Int × ((List Int) × ((List Int) × (List (Int × (ByteArray × (Int × Int))))))) → (Int × (List Int)) → Option (Int) := fun (a0_0, a0_1, a0_2, a0_3) (a1_0, a1_1) =>
  Option.bind (impl_AutomatonValid (a0_0, a0_1, a0_2, a0_3)) fun r0 =>
    bif (!r0) then
      some (-1 : Int)
    else
      Option.bind (impl_GradesValid (a1_0, a1_1)) fun r1 =>
        bif (!r1) then
          some (-1 : Int)
        else
          bif (a1_0 != a0_0) then
            some (-1 : Int)
          else
            Option.bind (loopF impl_GradeBetween_l5 ((a0_0, a0_1, a0_2, a0_3, ()), (a1_0, a1_1, ()), (3 : Int), a0_1, (((List.length a0_1) : Nat) : Int), (0 : Int), ())) fun (r2, _) =>
              some r2
noncomputable def A161 : FnA := ⟨[.v (.pair (.int .i64) (.pair (.sl (.int .i64)) (.pair (.sl (.int .i64)) (.sl (.pair (.int .i64) (.pair .str (.pair (.int .i64) (.int .i64)))))))), .v (.pair (.int .i64) (.sl (.int .i64)))], true, [.int .i64], fun x => impl_GradeBetween x.1 x.2.1⟩
theorem impl_GradeBetween_eq : fnF E161 L161_2 [.v (.pair (.int .i64) (.pair (.sl (.int .i64)) (.pair (.sl (.int .i64)) (.sl (.pair (.int .i64) (.pair .str (.pair (.int .i64) (.int .i64)))))))), .v (.pair (.int .i64) (.sl (.int .i64)))] true [.int .i64] f161.ntmps f161.results.toList (codeOf f161) = fun x => impl_GradeBetween x.1 x.2.1 := by kernel_rfl
theorem A161_ok : FnOk prog 161 A161 := by
  have h := fnOk_of_run (P := prog) (E := E161) (tysOk_of tyl_ok) E161_ok (L := L161_2) (ps := [.v (.pair (.int .i64) (.pair (.sl (.int .i64)) (.pair (.sl (.int .i64)) (.sl (.pair (.int .i64) (.pair .str (.pair (.int .i64) (.int .i64)))))))), .v (.pair (.int .i64) (.sl (.int .i64)))]) (own := true) (outs := [.int .i64]) func161 (c := codeOf f161) (by kernel_rfl) (codeOk_in (L := L161_2) (tysOk_of tyl_ok) E161_ok mixed (c := codeOf f161) (bs := [loopOf f161 5]) (by kernel_rfl) (allCons (loop161_5 rfl) allNil) (by kernel_rfl))
  rw [impl_GradeBetween_eq] at h
  exact h
/-! impl.GrowingOf$1 -/
noncomputable def E160 : Env := ⟨ty0, fun g => ifEq g 161 (some A161) (none), fun _ => none, fun _ => none, fun _ => none⟩
theorem E160_ok : FnsOk prog E160 := (oneFn A161_ok func161 (by kernel_rfl) (by kernel_rfl) (noFns _ _))
noncomputable def L160_0 : Nat → Option LoopD := fun _ => none
noncomputable def impl_GrowingOf_1 : (Int × (List Int)) → (Int × ((List Int) × ((List Int) × (List (Int × (ByteArray × (Int × Int))))))) → Option (Bool) := fun (a0_0, a0_1) (a1_0, a1_1, a1_2, a1_3) =>
  Option.bind (impl_GradeBetween (a1_0, a1_1, a1_2, a1_3) (a0_0, a0_1)) fun r0 =>
    some (r0 == (2 : Int))
noncomputable def A160 : FnA := ⟨[.v (.pair (.int .i64) (.sl (.int .i64))), .cap (.pair (.int .i64) (.pair (.sl (.int .i64)) (.pair (.sl (.int .i64)) (.sl (.pair (.int .i64) (.pair .str (.pair (.int .i64) (.int .i64))))))))], true, [.bool], fun x => impl_GrowingOf_1 x.1 x.2.1⟩
theorem impl_GrowingOf_1_eq : fnF E160 L160_0 [.v (.pair (.int .i64) (.sl (.int .i64))), .cap (.pair (.int .i64) (.pair (.sl (.int .i64)) (.pair (.sl (.int .i64)) (.sl (.pair (.int .i64) (.pair .str (.pair (.int .i64) (.int .i64))))))))] true [.bool] f160.ntmps f160.results.toList (codeOf f160) = fun x => impl_GrowingOf_1 x.1 x.2.1 := by kernel_rfl
theorem A160_ok : FnOk prog 160 A160 := by
  have h := fnOk_of_run (P := prog) (E := E160) (tysOk_of tyl_ok) E160_ok (L := L160_0) (ps := [.v (.pair (.int .i64) (.sl (.int .i64))), .cap (.pair (.int .i64) (.pair (.sl (.int .i64)) (.pair (.sl (.int .i64)) (.sl (.pair (.int .i64) (.pair .str (.pair (.int .i64) (.int .i64))))))))]) (own := true) (outs := [.bool]) func160 (c := codeOf f160) (by kernel_rfl) (codeOk_in (L := L160_0) (tysOk_of tyl_ok) E160_ok mixed (c := codeOf f160) (bs := []) (by kernel_rfl) allNil (by kernel_rfl))
  rw [impl_GrowingOf_1_eq] at h
  exact h
/-! impl.GrowingOf -/
noncomputable def E122 : Env := ⟨ty0, fun g => ifEq g 118 (some A118) (ifEq g 160 (some A160) (none)), fun _ => none, fun _ => none, fun _ => none⟩
theorem E122_ok : FnsOk prog E122 := (oneFn A118_ok func118 (by kernel_rfl) (by kernel_rfl) (oneFn A160_ok func160 (by kernel_rfl) (by kernel_rfl) (noFns _ _)))
noncomputable def L122_0 : Nat → Option LoopD := fun _ => none
noncomputable def impl_GrowingOf : (Int × ((List Int) × ((List Int) × (List (Int × (ByteArray × (Int × Int))))))) → Option (ByteArray × Bool) := fun (a0_0, a0_1, a0_2, a0_3) =>
  Option.bind (impl_firstWith (a0_0, a0_1, a0_2, a0_3) (fun y0 => (impl_GrowingOf_1 y0.1 (a0_0, a0_1, a0_2, a0_3)))) fun (r1, r2) =>
    some (r1, r2)
noncomputable def A122 : FnA := ⟨[.v (.pair (.int .i64) (.pair (.sl (.int .i64)) (.pair (.sl (.int .i64)) (.sl (.pair (.int .i64) (.pair .str (.pair (.int .i64) (.int .i64))))))))], true, [.str, .bool], fun x => impl_GrowingOf x.1⟩
theorem impl_GrowingOf_eq : fnF E122 L122_0 [.v (.pair (.int .i64) (.pair (.sl (.int .i64)) (.pair (.sl (.int .i64)) (.sl (.pair (.int .i64) (.pair .str (.pair (.int .i64) (.int .i64))))))))] true [.str, .bool] f122.ntmps f122.results.toList (codeOf f122) = fun x => impl_GrowingOf x.1 := by kernel_rfl
theorem A122_ok : FnOk prog 122 A122 := by
  have h := fnOk_of_run (P := prog) (E := E122) (tysOk_of tyl_ok) E122_ok (L := L122_0) (ps := [.v (.pair (.int .i64) (.pair (.sl (.int .i64)) (.pair (.sl (.int .i64)) (.sl (.pair (.int .i64) (.pair .str (.pair (.int .i64) (.int .i64))))))))]) (own := true) (outs := [.str, .bool]) func122 (c := codeOf f122) (by kernel_rfl) (codeOk_in (L := L122_0) (tysOk_of tyl_ok) E122_ok mixed (c := codeOf f122) (bs := []) (by kernel_rfl) allNil (by kernel_rfl))
  rw [impl_GrowingOf_eq] at h
  exact h
/-! impl.IsBounded -/
noncomputable def E70 : Env := ⟨ty0, fun g => ifEq g 121 (some A121) (ifEq g 122 (some A122) (none)), fun _ => none, fun _ => none, fun _ => none⟩
theorem E70_ok : FnsOk prog E70 := (oneFn A121_ok func121 (by kernel_rfl) (by kernel_rfl) (oneFn A122_ok func122 (by kernel_rfl) (by kernel_rfl) (noFns _ _)))
noncomputable def L70_0 : Nat → Option LoopD := fun _ => none
noncomputable def impl_IsBounded : (Int × ((List Int) × ((List Int) × (List (Int × (ByteArray × (Int × Int))))))) → Option (Bool × Bool) := fun (a0_0, a0_1, a0_2, a0_3) =>
  Option.bind (impl_ElementsOf (a0_0, a0_1, a0_2, a0_3)) fun (r0, r1) =>
    Option.bind (impl_GrowingOf (a0_0, a0_1, a0_2, a0_3)) fun (r2, r3) =>
      bif r1 then
        some ((!r3), r1)
      else
        some (false, r1)
noncomputable def A70 : FnA := ⟨[.v (.pair (.int .i64) (.pair (.sl (.int .i64)) (.pair (.sl (.int .i64)) (.sl (.pair (.int .i64) (.pair .str (.pair (.int .i64) (.int .i64))))))))], true, [.bool, .bool], fun x => impl_IsBounded x.1⟩
theorem impl_IsBounded_eq : fnF E70 L70_0 [.v (.pair (.int .i64) (.pair (.sl (.int .i64)) (.pair (.sl (.int .i64)) (.sl (.pair (.int .i64) (.pair .str (.pair (.int .i64) (.int .i64))))))))] true [.bool, .bool] f70.ntmps f70.results.toList (codeOf f70) = fun x => impl_IsBounded x.1 := by kernel_rfl
theorem A70_ok : FnOk prog 70 A70 := by
  have h := fnOk_of_run (P := prog) (E := E70) (tysOk_of tyl_ok) E70_ok (L := L70_0) (ps := [.v (.pair (.int .i64) (.pair (.sl (.int .i64)) (.pair (.sl (.int .i64)) (.sl (.pair (.int .i64) (.pair .str (.pair (.int .i64) (.int .i64))))))))]) (own := true) (outs := [.bool, .bool]) func70 (c := codeOf f70) (by kernel_rfl) (codeOk_in (L := L70_0) (tysOk_of tyl_ok) E70_ok mixed (c := codeOf f70) (bs := []) (by kernel_rfl) allNil (by kernel_rfl))
  rw [impl_IsBounded_eq] at h
  exact h
/-! laws.eqIntS -/
noncomputable def E31 : Env := ⟨ty0, fun _ => none, fun _ => none, fun _ => none, fun _ => none⟩
theorem E31_ok : FnsOk prog E31 := (noFns _ _)
noncomputable def L31_0 : Nat → Option LoopD := fun _ => none
def sh31_4 : List Fm := [.cell (.val (.sl (.int .i64))), .cell (.val (.sl (.int .i64))), d, d, d, .cell (.val (.int .i64)), d, d, d, d, d, d, d, d, d, d, d, d, d, d, d, d, d, d, d, d]
def xs31_4 : List (Ex × List Fm) := [(.ret, [d, d, d, d, .cell (.val .bool), d, d, d, d, d, d, d, d, d, d, d, d, d, d, d, d, d, d, d, d, d]), (.exit 0, [d, d, d, d, d, d, d, d, d, d, d, d, d, d, d, d, d, d, d, d, d, d, d, d, d, d])]
noncomputable def laws_eqIntS_l4 : ((List Int) × (List Int) × Int × Unit) → Option (((List Int) × (List Int) × Int × Unit) ⊕ ((Bool × Unit) ⊕ (Unit))) := fun (v0, v1, v5, _) =>
  bif (decide (v5 < (((List.length v0) : Nat) : Int))) then
    if (((0 : Int) ≤ v5) ∧ (v5 < (((List.length v0) : Nat) : Int))) then
      if (((0 : Int) ≤ v5) ∧ (v5 < (((List.length v1) : Nat) : Int))) then
        bif ((List.getD v0 (Int.toNat v5) (0 : Int)) != (List.getD v1 (Int.toNat v5) (0 : Int))) then
          some (Sum.inr (Sum.inl (false, ())))
        else
          some (Sum.inl (v0, v1, (IntKind.wrap .i64 (v5 + (1 : Int))), ()))
      else
        none
    else
      none
  else
    some (Sum.inr (Sum.inr ()))
theorem laws_eqIntS_l4_eq : loopStep 26 E31 L31_0 (loopOf f31 4) sh31_4 xs31_4 = laws_eqIntS_l4 := by kernel_rfl
theorem loop31_4 {L : Nat → Option LoopD} (h : L 4 = some ⟨26, sh31_4, xs31_4, laws_eqIntS_l4⟩) : LoopOk prog L (loopOf f31 4) :=
  loopOk (tysOk_of tyl_ok) E31_ok (codeOk_in (L := L31_0) (tysOk_of tyl_ok) E31_ok mixed (c := loopOf f31 4) (bs := []) (by kernel_rfl) allNil (by kernel_rfl)) (by kernel_rfl) (by kernel_rfl) laws_eqIntS_l4_eq (by rw [show firstId (loopOf f31 4) = 4 from by kernel_rfl]; exact h)
noncomputable def L31_1 : Nat → Option LoopD := fun n => ifEq n 4 (some ⟨26, sh31_4, xs31_4, laws_eqIntS_l4⟩) (L31_0 n)
noncomputable def laws_eqIntS : (List Int) → (List Int) → Option (Bool) := fun a0 a1 =>
  bif ((((List.length a0) : Nat) : Int) != (((List.length a1) : Nat) : Int)) then
    some false
  else
    Option.bind (loopF laws_eqIntS_l4 (a0, a1, (0 : Int), ())) fun r0 =>
      (match r0 with
      | .inl (d1, _) =>
          some d1
      | .inr _ =>
          some true)
noncomputable def A31 : FnA := ⟨[.v (.sl (.int .i64)), .v (.sl (.int .i64))], true, [.bool], fun x => laws_eqIntS x.1 x.2.1⟩
theorem laws_eqIntS_eq : fnF E31 L31_1 [.v (.sl (.int .i64)), .v (.sl (.int .i64))] true [.bool] f31.ntmps f31.results.toList (codeOf f31) = fun x => laws_eqIntS x.1 x.2.1 := by kernel_rfl
theorem A31_ok : FnOk prog 31 A31 := by
  have h := fnOk_of_run (P := prog) (E := E31) (tysOk_of tyl_ok) E31_ok (L := L31_1) (ps := [.v (.sl (.int .i64)), .v (.sl (.int .i64))]) (own := true) (outs := [.bool]) func31 (c := codeOf f31) (by kernel_rfl) (codeOk_in (L := L31_1) (tysOk_of tyl_ok) E31_ok mixed (c := codeOf f31) (bs := [loopOf f31 4]) (by kernel_rfl) (allCons (loop31_4 rfl) allNil) (by kernel_rfl))
  rw [laws_eqIntS_eq] at h
  exact h
/-! laws.eqStep -/
noncomputable def E133 : Env := ⟨ty0, fun _ => none, fun _ => none, fun _ => none, fun _ => none⟩
theorem E133_ok : FnsOk prog E133 := (noFns _ _)
noncomputable def L133_0 : Nat → Option LoopD := fun _ => none
noncomputable def laws_eqStep : (Int × (ByteArray × (Int × Int))) → (Int × (ByteArray × (Int × Int))) → Option (Bool) := fun (a0_0, a0_1, a0_2, a0_3) (a1_0, a1_1, a1_2, a1_3) =>
  bif (a0_0 != a1_0) then
    some false
  else
    bif (!((ByteArray.toList a0_1) == (ByteArray.toList a1_1))) then
      some false
    else
      bif (a0_2 != a1_2) then
        some false
      else
        bif (a0_3 != a1_3) then
          some false
        else
          some true
noncomputable def A133 : FnA := ⟨[.v (.pair (.int .i64) (.pair .str (.pair (.int .i64) (.int .i64)))), .v (.pair (.int .i64) (.pair .str (.pair (.int .i64) (.int .i64))))], true, [.bool], fun x => laws_eqStep x.1 x.2.1⟩
theorem laws_eqStep_eq : fnF E133 L133_0 [.v (.pair (.int .i64) (.pair .str (.pair (.int .i64) (.int .i64)))), .v (.pair (.int .i64) (.pair .str (.pair (.int .i64) (.int .i64))))] true [.bool] f133.ntmps f133.results.toList (codeOf f133) = fun x => laws_eqStep x.1 x.2.1 := by kernel_rfl
theorem A133_ok : FnOk prog 133 A133 := by
  have h := fnOk_of_run (P := prog) (E := E133) (tysOk_of tyl_ok) E133_ok (L := L133_0) (ps := [.v (.pair (.int .i64) (.pair .str (.pair (.int .i64) (.int .i64)))), .v (.pair (.int .i64) (.pair .str (.pair (.int .i64) (.int .i64))))]) (own := true) (outs := [.bool]) func133 (c := codeOf f133) (by kernel_rfl) (codeOk_in (L := L133_0) (tysOk_of tyl_ok) E133_ok mixed (c := codeOf f133) (bs := []) (by kernel_rfl) allNil (by kernel_rfl))
  rw [laws_eqStep_eq] at h
  exact h
/-! laws.eqStepS -/
noncomputable def E84 : Env := ⟨ty0, fun g => ifEq g 133 (some A133) (none), fun _ => none, fun _ => none, fun _ => none⟩
theorem E84_ok : FnsOk prog E84 := (oneFn A133_ok func133 (by kernel_rfl) (by kernel_rfl) (noFns _ _))
noncomputable def L84_0 : Nat → Option LoopD := fun _ => none
def sh84_4 : List Fm := [.cell (.val (.sl (.pair (.int .i64) (.pair .str (.pair (.int .i64) (.int .i64)))))), .cell (.val (.sl (.pair (.int .i64) (.pair .str (.pair (.int .i64) (.int .i64)))))), d, d, d, .cell (.val (.int .i64)), d, d, d, d, d, d, d, d, d, d, d, d, d, d, d, d, d, d, d, d, d]
def xs84_4 : List (Ex × List Fm) := [(.ret, [d, d, d, d, .cell (.val .bool), d, d, d, d, d, d, d, d, d, d, d, d, d, d, d, d, d, d, d, d, d, d]), (.exit 0, [d, d, d, d, d, d, d, d, d, d, d, d, d, d, d, d, d, d, d, d, d, d, d, d, d, d, d])]
noncomputable def laws_eqStepS_l4 : ((List (Int × (ByteArray × (Int × Int)))) × (List (Int × (ByteArray × (Int × Int)))) × Int × Unit) → Option (((List (Int × (ByteArray × (Int × Int)))) × (List (Int × (ByteArray × (Int × Int)))) × Int × Unit) ⊕ ((Bool × Unit) ⊕ (Unit))) := fun (v0, v1, v5, _) =>
  bif (decide (v5 < (((List.length v0) : Nat) : Int))) then
    if (((0 : Int) ≤ v5) ∧ (v5 < (((List.length v0) : Nat) : Int))) then
      if (((0 : Int) ≤ v5) ∧ (v5 < (((List.length v1) : Nat) : Int))) then
        Option.bind (laws_eqStep (List.getD v0 (Int.toNat v5) ((0 : Int), (⟨Array.empty⟩ : ByteArray), (0 : Int), (0 : Int))) (List.getD v1 (Int.toNat v5) ((0 : Int), (⟨Array.empty⟩ : ByteArray), (0 : Int), (0 : Int)))) fun r0 =>
          bif (!r0) then
            some (Sum.inr (Sum.inl (false, ())))
          else
            some (Sum.inl (v0, v1, (IntKind.wrap .i64 (v5 + (1 : Int))), ()))
      else
        none
    else
      none
  else
    some (Sum.inr (Sum.inr ()))
theorem laws_eqStepS_l4_eq : loopStep 27 E84 L84_0 (loopOf f84 4) sh84_4 xs84_4 = laws_eqStepS_l4 := by kernel_rfl
theorem loop84_4 {L : Nat → Option LoopD} (h : L 4 = some ⟨27, sh84_4, xs84_4, laws_eqStepS_l4⟩) : LoopOk prog L (loopOf f84 4) :=
  loopOk (tysOk_of tyl_ok) E84_ok (codeOk_in (L := L84_0) (tysOk_of tyl_ok) E84_ok mixed (c := loopOf f84 4) (bs := []) (by kernel_rfl) allNil (by kernel_rfl)) (by kernel_rfl) (by kernel_rfl) laws_eqStepS_l4_eq (by rw [show firstId (loopOf f84 4) = 4 from by kernel_rfl]; exact h)
noncomputable def L84_1 : Nat → Option LoopD := fun n => ifEq n 4 (some ⟨27, sh84_4, xs84_4, laws_eqStepS_l4⟩) (L84_0 n)
noncomputable def laws_eqStepS : (List (Int × (ByteArray × (Int × Int)))) → (List (Int × (ByteArray × (Int × Int)))) → Option (Bool) := fun a0 a1 =>
  bif ((((List.length a0) : Nat) : Int) != (((List.length a1) : Nat) : Int)) then
    some false
  else
    Option.bind (loopF laws_eqStepS_l4 (a0, a1, (0 : Int), ())) fun r0 =>
      (match r0 with
      | .inl (d1, _) =>
          some d1
      | .inr _ =>
          some true)
noncomputable def A84 : FnA := ⟨[.v (.sl (.pair (.int .i64) (.pair .str (.pair (.int .i64) (.int .i64))))), .v (.sl (.pair (.int .i64) (.pair .str (.pair (.int .i64) (.int .i64)))))], true, [.bool], fun x => laws_eqStepS x.1 x.2.1⟩
theorem laws_eqStepS_eq : fnF E84 L84_1 [.v (.sl (.pair (.int .i64) (.pair .str (.pair (.int .i64) (.int .i64))))), .v (.sl (.pair (.int .i64) (.pair .str (.pair (.int .i64) (.int .i64)))))] true [.bool] f84.ntmps f84.results.toList (codeOf f84) = fun x => laws_eqStepS x.1 x.2.1 := by kernel_rfl
theorem A84_ok : FnOk prog 84 A84 := by
  have h := fnOk_of_run (P := prog) (E := E84) (tysOk_of tyl_ok) E84_ok (L := L84_1) (ps := [.v (.sl (.pair (.int .i64) (.pair .str (.pair (.int .i64) (.int .i64))))), .v (.sl (.pair (.int .i64) (.pair .str (.pair (.int .i64) (.int .i64)))))]) (own := true) (outs := [.bool]) func84 (c := codeOf f84) (by kernel_rfl) (codeOk_in (L := L84_1) (tysOk_of tyl_ok) E84_ok mixed (c := codeOf f84) (bs := [loopOf f84 4]) (by kernel_rfl) (allCons (loop84_4 rfl) allNil) (by kernel_rfl))
  rw [laws_eqStepS_eq] at h
  exact h
/-! laws.eqAutomaton -/
noncomputable def E25 : Env := ⟨ty0, fun g => ifEq g 31 (some A31) (ifEq g 84 (some A84) (none)), fun _ => none, fun _ => none, fun _ => none⟩
theorem E25_ok : FnsOk prog E25 := (oneFn A31_ok func31 (by kernel_rfl) (by kernel_rfl) (oneFn A84_ok func84 (by kernel_rfl) (by kernel_rfl) (noFns _ _)))
noncomputable def L25_0 : Nat → Option LoopD := fun _ => none
noncomputable def laws_eqAutomaton : (Int × ((List Int) × ((List Int) × (List (Int × (ByteArray × (Int × Int))))))) → (Int × ((List Int) × ((List Int) × (List (Int × (ByteArray × (Int × Int))))))) → Option (Bool) := fun (a0_0, a0_1, a0_2, a0_3) (a1_0, a1_1, a1_2, a1_3) =>
  bif (a0_0 != a1_0) then
    some false
  else
    Option.bind (laws_eqIntS a0_1 a1_1) fun r0 =>
      bif (!r0) then
        some false
      else
        Option.bind (laws_eqIntS a0_2 a1_2) fun r1 =>
          bif (!r1) then
            some false
          else
            Option.bind (laws_eqStepS a0_3 a1_3) fun r2 =>
              bif (!r2) then
                some false
              else
                some true
noncomputable def A25 : FnA := ⟨[.v (.pair (.int .i64) (.pair (.sl (.int .i64)) (.pair (.sl (.int .i64)) (.sl (.pair (.int .i64) (.pair .str (.pair (.int .i64) (.int .i64)))))))), .v (.pair (.int .i64) (.pair (.sl (.int .i64)) (.pair (.sl (.int .i64)) (.sl (.pair (.int .i64) (.pair .str (.pair (.int .i64) (.int .i64))))))))], true, [.bool], fun x => laws_eqAutomaton x.1 x.2.1⟩
theorem laws_eqAutomaton_eq : fnF E25 L25_0 [.v (.pair (.int .i64) (.pair (.sl (.int .i64)) (.pair (.sl (.int .i64)) (.sl (.pair (.int .i64) (.pair .str (.pair (.int .i64) (.int .i64)))))))), .v (.pair (.int .i64) (.pair (.sl (.int .i64)) (.pair (.sl (.int .i64)) (.sl (.pair (.int .i64) (.pair .str (.pair (.int .i64) (.int .i64))))))))] true [.bool] f25.ntmps f25.results.toList (codeOf f25) = fun x => laws_eqAutomaton x.1 x.2.1 := by kernel_rfl
theorem A25_ok : FnOk prog 25 A25 := by
  have h := fnOk_of_run (P := prog) (E := E25) (tysOk_of tyl_ok) E25_ok (L := L25_0) (ps := [.v (.pair (.int .i64) (.pair (.sl (.int .i64)) (.pair (.sl (.int .i64)) (.sl (.pair (.int .i64) (.pair .str (.pair (.int .i64) (.int .i64)))))))), .v (.pair (.int .i64) (.pair (.sl (.int .i64)) (.pair (.sl (.int .i64)) (.sl (.pair (.int .i64) (.pair .str (.pair (.int .i64) (.int .i64))))))))]) (own := true) (outs := [.bool]) func25 (c := codeOf f25) (by kernel_rfl) (codeOk_in (L := L25_0) (tysOk_of tyl_ok) E25_ok mixed (c := codeOf f25) (bs := []) (by kernel_rfl) allNil (by kernel_rfl))
  rw [laws_eqAutomaton_eq] at h
  exact h
/-! laws.FnExactIsBounded -/
noncomputable def E14 : Env := ⟨ty0, fun g => ifEq g 20 (some A20) (ifEq g 22 (some A22) (ifEq g 69 (some A69) (ifEq g 70 (some A70) (ifEq g 25 (some A25) (none))))), fun _ => none, fun _ => none, fun _ => none⟩
theorem E14_ok : FnsOk prog E14 := (oneFn A20_ok func20 (by kernel_rfl) (by kernel_rfl) (oneFn A22_ok func22 (by kernel_rfl) (by kernel_rfl) (oneFn A69_ok func69 (by kernel_rfl) (by kernel_rfl) (oneFn A70_ok func70 (by kernel_rfl) (by kernel_rfl) (oneFn A25_ok func25 (by kernel_rfl) (by kernel_rfl) (noFns _ _))))))
noncomputable def L14_0 : Nat → Option LoopD := fun _ => none
noncomputable def laws_FnExactIsBounded : (Int × ((List Int) × ((List Int) × (List (Int × (ByteArray × (Int × Int))))))) → Option (Bool) := fun (a0_0, a0_1, a0_2, a0_3) =>
  Option.bind (laws_szAutomaton (a0_0, a0_1, a0_2, a0_3) (1048576 : Int)) fun r0 =>
    bif (decide (r0 < (0 : Int))) then
      some true
    else
      Option.bind (laws_toAutomaton (a0_0, a0_1, a0_2, a0_3)) fun (r1, r2, r3, r4) =>
        Option.bind (spec_IsBounded (r1, (List.take (List.length r2) (List.drop 0 r2)), (List.take (List.length r3) (List.drop 0 r3)), (List.take (List.length r4) (List.drop 0 r4)))) fun (r5, r6) =>
          Option.bind (laws_toAutomaton (a0_0, a0_1, a0_2, a0_3)) fun (r7, r8, r9, r10) =>
            Option.bind (impl_IsBounded (r7, (List.take (List.length r8) (List.drop 0 r8)), (List.take (List.length r9) (List.drop 0 r9)), (List.take (List.length r10) (List.drop 0 r10)))) fun (r11, r12) =>
              bif (!(r11 == r5)) then
                some false
              else
                bif (!(r12 == r6)) then
                  some false
                else
                  Option.bind (laws_toAutomaton (a0_0, a0_1, a0_2, a0_3)) fun (r13, r14, r15, r16) =>
                    Option.bind (laws_eqAutomaton (r7, (List.take (List.length r8) (List.drop 0 r8)), (List.take (List.length r9) (List.drop 0 r9)), (List.take (List.length r10) (List.drop 0 r10))) (r13, (List.take (List.length r14) (List.drop 0 r14)), (List.take (List.length r15) (List.drop 0 r15)), (List.take (List.length r16) (List.drop 0 r16)))) fun r17 =>
                      bif (!r17) then
                        some false
                      else
                        some true
noncomputable def A14 : FnA := ⟨[.v (.pair (.int .i64) (.pair (.sl (.int .i64)) (.pair (.sl (.int .i64)) (.sl (.pair (.int .i64) (.pair .str (.pair (.int .i64) (.int .i64))))))))], true, [.bool], fun x => laws_FnExactIsBounded x.1⟩
theorem laws_FnExactIsBounded_eq : fnF E14 L14_0 [.v (.pair (.int .i64) (.pair (.sl (.int .i64)) (.pair (.sl (.int .i64)) (.sl (.pair (.int .i64) (.pair .str (.pair (.int .i64) (.int .i64))))))))] true [.bool] f14.ntmps f14.results.toList (codeOf f14) = fun x => laws_FnExactIsBounded x.1 := by kernel_rfl
theorem A14_ok : FnOk prog 14 A14 := by
  have h := fnOk_of_run (P := prog) (E := E14) (tysOk_of tyl_ok) E14_ok (L := L14_0) (ps := [.v (.pair (.int .i64) (.pair (.sl (.int .i64)) (.pair (.sl (.int .i64)) (.sl (.pair (.int .i64) (.pair .str (.pair (.int .i64) (.int .i64))))))))]) (own := true) (outs := [.bool]) func14 (c := codeOf f14) (by kernel_rfl) (codeOk_in (L := L14_0) (tysOk_of tyl_ok) E14_ok mixed (c := codeOf f14) (bs := []) (by kernel_rfl) allNil (by kernel_rfl))
  rw [laws_FnExactIsBounded_eq] at h
  exact h
/-! spec.GrowingBetween -/
noncomputable def E67 : Env := ⟨ty0, fun g => ifEq g 117 (some A117) (ifEq g 79 (some A79) (none)), fun _ => none, fun _ => none, fun _ => none⟩
theorem E67_ok : FnsOk prog E67 := (oneFn A117_ok func117 (by kernel_rfl) (by kernel_rfl) (oneFn A79_ok func79 (by kernel_rfl) (by kernel_rfl) (noFns _ _)))
noncomputable def L67_0 : Nat → Option LoopD := fun _ => none
def sh67_3 : List Fm := [d, .cell (.val (.int .i64)), .cell (.val (.int .i64)), .box 100300 [.val (.int .i64), .val (.sl (.int .i64)), .val (.sl (.int .i64)), .val (.sl (.pair (.int .i64) (.pair .str (.pair (.int .i64) (.int .i64)))))], d, d, d, d, d, d, d, d, d, d, d, d, d, .cell (.own (.pair (.pair (.int .i64) (.sl (.int .i64))) .str) 101700 false), .cell (.val (.int .i64)), .cell (.val (.int .i64)), d, d, d, d, d, d, d, d, d, d, d, d, d, d, d, d, d, d, d, d, d, d, d, d, d, d, d, d, d, d, d, d]
def xs67_3 : List (Ex × List Fm) := [(.ret, [d, d, d, d, d, d, .cell (.val .str), .cell (.val .bool), d, d, d, d, d, d, d, d, d, d, d, d, d, d, d, d, d, d, d, d, d, d, d, d, d, d, d, d, d, d, d, d, d, d, d, d, d, d, d, d, d, d, d, d]), (.exit 0, [d, d, d, d, d, d, d, d, d, d, d, d, d, d, d, d, d, d, d, d, d, d, d, d, d, d, d, d, d, d, d, d, d, d, d, d, d, d, d, d, d, d, d, d, d, d, d, d, d, d, d, d])]
noncomputable def spec_GrowingBetween_l3 : (Int × Int × (Int × (List Int) × (List Int) × (List (Int × (ByteArray × (Int × Int)))) × Unit) × (List ((Int × (List Int)) × ByteArray)) × Int × Int × Unit) → Option ((Int × Int × (Int × (List Int) × (List Int) × (List (Int × (ByteArray × (Int × Int)))) × Unit) × (List ((Int × (List Int)) × ByteArray)) × Int × Int × Unit) ⊕ ((ByteArray × Bool × Unit) ⊕ (Unit))) := fun (v1, v2, (v3_0, v3_1, v3_2, v3_3, _), v17, v18, v19, _) =>
  bif (decide (v19 < v18)) then
    if (((0 : Int) ≤ v19) ∧ (v19 < (((List.length v17) : Nat) : Int))) then
      Option.bind (spec_l1In v1 (0 : Int) (IntKind.wrap .i64 (v3_0 - (1 : Int)))) fun r0 =>
        bif r0 then
          Option.bind (spec_l1In v2 (0 : Int) (IntKind.wrap .i64 (v3_0 - (1 : Int)))) fun r1 =>
            bif r1 then
              if (((0 : Int) ≤ (IntKind.wrap .i64 ((IntKind.wrap .i64 (v1 * v3_0)) + v2))) ∧ ((IntKind.wrap .i64 ((IntKind.wrap .i64 (v1 * v3_0)) + v2)) < (((List.length (List.getD v17 (0 + (Int.toNat v19)) (((0 : Int), []), (⟨Array.empty⟩ : ByteArray))).1.2) : Nat) : Int))) then
                bif ((List.getD (List.getD v17 (0 + (Int.toNat v19)) (((0 : Int), []), (⟨Array.empty⟩ : ByteArray))).1.2 (Int.toNat (IntKind.wrap .i64 ((IntKind.wrap .i64 (v1 * v3_0)) + v2))) (0 : Int)) == (2 : Int)) then
                  some (Sum.inr (Sum.inl ((List.getD v17 (0 + (Int.toNat v19)) (((0 : Int), []), (⟨Array.empty⟩ : ByteArray))).2, true, ())))
                else
                  some (Sum.inl (v1, v2, (v3_0, v3_1, v3_2, v3_3, ()), (List.take (List.length v17) (List.drop 0 v17)), v18, (IntKind.wrap .i64 (v19 + (1 : Int))), ()))
              else
                none
            else
              some (Sum.inl (v1, v2, (v3_0, v3_1, v3_2, v3_3, ()), (List.take (List.length v17) (List.drop 0 v17)), v18, (IntKind.wrap .i64 (v19 + (1 : Int))), ()))
        else
          some (Sum.inl (v1, v2, (v3_0, v3_1, v3_2, v3_3, ()), (List.take (List.length v17) (List.drop 0 v17)), v18, (IntKind.wrap .i64 (v19 + (1 : Int))), ()))
    else
      none
  else
    some (Sum.inr (Sum.inr ()))
theorem spec_GrowingBetween_l3_eq : loopStep 52 E67 L67_0 (loopOf f67 3) sh67_3 xs67_3 = spec_GrowingBetween_l3 := by kernel_rfl
theorem loop67_3 {L : Nat → Option LoopD} (h : L 3 = some ⟨52, sh67_3, xs67_3, spec_GrowingBetween_l3⟩) : LoopOk prog L (loopOf f67 3) :=
  loopOk (tysOk_of tyl_ok) E67_ok (codeOk_in (L := L67_0) (tysOk_of tyl_ok) E67_ok mixed (c := loopOf f67 3) (bs := []) (by kernel_rfl) allNil (by kernel_rfl)) (by kernel_rfl) (by kernel_rfl) spec_GrowingBetween_l3_eq (by rw [show firstId (loopOf f67 3) = 3 from by kernel_rfl]; exact h)
noncomputable def L67_1 : Nat → Option LoopD := fun n => ifEq n 3 (some ⟨52, sh67_3, xs67_3, spec_GrowingBetween_l3⟩) (L67_0 n)
noncomputable def spec_GrowingBetween : (Int × ((List Int) × ((List Int) × (List (Int × (ByteArray × (Int × Int))))))) → Int → Int → Option (ByteArray × Bool) := fun (a0_0, a0_1, a0_2, a0_3) a1 a2 =>
  Option.bind (spec_ElementsOf (a0_0, a0_1, a0_2, a0_3)) fun (r0, r1) =>
    Option.bind (loopF spec_GrowingBetween_l3 (a1, a2, (a0_0, a0_1, a0_2, a0_3, ()), (List.take (List.length r0) (List.drop 0 r0)), (((List.length r0) : Nat) : Int), (0 : Int), ())) fun r2 =>
      (match r2 with
      | .inl (d3, d4, _) =>
          some (d3, d4)
      | .inr _ =>
          some ((⟨#[]⟩ : ByteArray), false))
noncomputable def A67 : FnA := ⟨[.v (.pair (.int .i64) (.pair (.sl (.int .i64)) (.pair (.sl (.int .i64)) (.sl (.pair (.int .i64) (.pair .str (.pair (.int .i64) (.int .i64)))))))), .v (.int .i64), .v (.int .i64)], true, [.str, .bool], fun x => spec_GrowingBetween x.1 x.2.1 x.2.2.1⟩
theorem spec_GrowingBetween_eq : fnF E67 L67_1 [.v (.pair (.int .i64) (.pair (.sl (.int .i64)) (.pair (.sl (.int .i64)) (.sl (.pair (.int .i64) (.pair .str (.pair (.int .i64) (.int .i64)))))))), .v (.int .i64), .v (.int .i64)] true [.str, .bool] f67.ntmps f67.results.toList (codeOf f67) = fun x => spec_GrowingBetween x.1 x.2.1 x.2.2.1 := by kernel_rfl
theorem A67_ok : FnOk prog 67 A67 := by
  have h := fnOk_of_run (P := prog) (E := E67) (tysOk_of tyl_ok) E67_ok (L := L67_1) (ps := [.v (.pair (.int .i64) (.pair (.sl (.int .i64)) (.pair (.sl (.int .i64)) (.sl (.pair (.int .i64) (.pair .str (.pair (.int .i64) (.int .i64)))))))), .v (.int .i64), .v (.int .i64)]) (own := true) (outs := [.str, .bool]) func67 (c := codeOf f67) (by kernel_rfl) (codeOk_in (L := L67_1) (tysOk_of tyl_ok) E67_ok mixed (c := codeOf f67) (bs := [loopOf f67 3]) (by kernel_rfl) (allCons (loop67_3 rfl) allNil) (by kernel_rfl))
  rw [spec_GrowingBetween_eq] at h
  exact h
/-! impl.GrowingBetween$1 -/
noncomputable def E119 : Env := ⟨ty0, fun g => ifEq g 113 (some A113) (none), fun _ => none, fun _ => none, fun _ => none⟩
theorem E119_ok : FnsOk prog E119 := (oneFn A113_ok func113 (by kernel_rfl) (by kernel_rfl) (noFns _ _))
noncomputable def L119_0 : Nat → Option LoopD := fun _ => none
noncomputable def impl_GrowingBetween_1 : (Int × (List Int)) → Int → Int → Option (Bool) := fun (a0_0, a0_1) a1 a2 =>
  Option.bind (impl_Matrix_at (a0_0, a0_1) a1 a2) fun r0 =>
    some (r0 == (2 : Int))
noncomputable def A119 : FnA := ⟨[.v (.pair (.int .i64) (.sl (.int .i64))), .cap (.int .i64), .cap (.int .i64)], true, [.bool], fun x => impl_GrowingBetween_1 x.1 x.2.1 x.2.2.1⟩
theorem impl_GrowingBetween_1_eq : fnF E119 L119_0 [.v (.pair (.int .i64) (.sl (.int .i64))), .cap (.int .i64), .cap (.int .i64)] true [.bool] f119.ntmps f119.results.toList (codeOf f119) = fun x => impl_GrowingBetween_1 x.1 x.2.1 x.2.2.1 := by kernel_rfl
theorem A119_ok : FnOk prog 119 A119 := by
  have h := fnOk_of_run (P := prog) (E := E119) (tysOk_of tyl_ok) E119_ok (L := L119_0) (ps := [.v (.pair (.int .i64) (.sl (.int .i64))), .cap (.int .i64), .cap (.int .i64)]) (own := true) (outs := [.bool]) func119 (c := codeOf f119) (by kernel_rfl) (codeOk_in (L := L119_0) (tysOk_of tyl_ok) E119_ok mixed (c := codeOf f119) (bs := []) (by kernel_rfl) allNil (by kernel_rfl))
  rw [impl_GrowingBetween_1_eq] at h
  exact h
/-! impl.GrowingBetween -/
noncomputable def E68 : Env := ⟨ty0, fun g => ifEq g 118 (some A118) (ifEq g 119 (some A119) (none)), fun _ => none, fun _ => none, fun _ => none⟩
theorem E68_ok : FnsOk prog E68 := (oneFn A118_ok func118 (by kernel_rfl) (by kernel_rfl) (oneFn A119_ok func119 (by kernel_rfl) (by kernel_rfl) (noFns _ _)))
noncomputable def L68_0 : Nat → Option LoopD := fun _ => none
noncomputable def impl_GrowingBetween : (Int × ((List Int) × ((List Int) × (List (Int × (ByteArray × (Int × Int))))))) → Int → Int → Option (ByteArray × Bool) := fun (a0_0, a0_1, a0_2, a0_3) a1 a2 =>
  bif (decide (a1 < (0 : Int))) then
    some ((⟨#[]⟩ : ByteArray), false)
  else
    bif (decide (a1 ≥ a0_0)) then
      some ((⟨#[]⟩ : ByteArray), false)
    else
      bif (decide (a2 < (0 : Int))) then
        some ((⟨#[]⟩ : ByteArray), false)
      else
        bif (decide (a2 ≥ a0_0)) then
          some ((⟨#[]⟩ : ByteArray), false)
        else
          Option.bind (impl_firstWith (a0_0, a0_1, a0_2, a0_3) (fun y0 => (impl_GrowingBetween_1 y0.1 a1 a2))) fun (r1, r2) =>
            some (r1, r2)
noncomputable def A68 : FnA := ⟨[.v (.pair (.int .i64) (.pair (.sl (.int .i64)) (.pair (.sl (.int .i64)) (.sl (.pair (.int .i64) (.pair .str (.pair (.int .i64) (.int .i64)))))))), .v (.int .i64), .v (.int .i64)], true, [.str, .bool], fun x => impl_GrowingBetween x.1 x.2.1 x.2.2.1⟩
theorem impl_GrowingBetween_eq : fnF E68 L68_0 [.v (.pair (.int .i64) (.pair (.sl (.int .i64)) (.pair (.sl (.int .i64)) (.sl (.pair (.int .i64) (.pair .str (.pair (.int .i64) (.int .i64)))))))), .v (.int .i64), .v (.int .i64)] true [.str, .bool] f68.ntmps f68.results.toList (codeOf f68) = fun x => impl_GrowingBetween x.1 x.2.1 x.2.2.1 := by kernel_rfl
theorem A68_ok : FnOk prog 68 A68 := by
  have h := fnOk_of_run (P := prog) (E := E68) (tysOk_of tyl_ok) E68_ok (L := L68_0) (ps := [.v (.pair (.int .i64) (.pair (.sl (.int .i64)) (.pair (.sl (.int .i64)) (.sl (.pair (.int .i64) (.pair .str (.pair (.int .i64) (.int .i64)))))))), .v (.int .i64), .v (.int .i64)]) (own := true) (outs := [.str, .bool]) func68 (c := codeOf f68) (by kernel_rfl) (codeOk_in (L := L68_0) (tysOk_of tyl_ok) E68_ok mixed (c := codeOf f68) (bs := []) (by kernel_rfl) allNil (by kernel_rfl))
  rw [impl_GrowingBetween_eq] at h
  exact h
/-! laws.FnExactGrowingBetween -/
noncomputable def E13 : Env := ⟨ty0, fun g => ifEq g 20 (some A20) (ifEq g 22 (some A22) (ifEq g 67 (some A67) (ifEq g 68 (some A68) (ifEq g 25 (some A25) (none))))), fun _ => none, fun _ => none, fun _ => none⟩
theorem E13_ok : FnsOk prog E13 := (oneFn A20_ok func20 (by kernel_rfl) (by kernel_rfl) (oneFn A22_ok func22 (by kernel_rfl) (by kernel_rfl) (oneFn A67_ok func67 (by kernel_rfl) (by kernel_rfl) (oneFn A68_ok func68 (by kernel_rfl) (by kernel_rfl) (oneFn A25_ok func25 (by kernel_rfl) (by kernel_rfl) (noFns _ _))))))
noncomputable def L13_0 : Nat → Option LoopD := fun _ => none
noncomputable def laws_FnExactGrowingBetween : (Int × ((List Int) × ((List Int) × (List (Int × (ByteArray × (Int × Int))))))) → Int → Int → Option (Bool) := fun (a0_0, a0_1, a0_2, a0_3) a1 a2 =>
  Option.bind (laws_szAutomaton (a0_0, a0_1, a0_2, a0_3) (1048576 : Int)) fun r0 =>
    bif (decide (r0 < (0 : Int))) then
      some true
    else
      Option.bind (laws_toAutomaton (a0_0, a0_1, a0_2, a0_3)) fun (r1, r2, r3, r4) =>
        Option.bind (spec_GrowingBetween (r1, (List.take (List.length r2) (List.drop 0 r2)), (List.take (List.length r3) (List.drop 0 r3)), (List.take (List.length r4) (List.drop 0 r4))) a1 a2) fun (r5, r6) =>
          Option.bind (laws_toAutomaton (a0_0, a0_1, a0_2, a0_3)) fun (r7, r8, r9, r10) =>
            Option.bind (impl_GrowingBetween (r7, (List.take (List.length r8) (List.drop 0 r8)), (List.take (List.length r9) (List.drop 0 r9)), (List.take (List.length r10) (List.drop 0 r10))) a1 a2) fun (r11, r12) =>
              bif (!((ByteArray.toList r11) == (ByteArray.toList r5))) then
                some false
              else
                bif (!(r12 == r6)) then
                  some false
                else
                  Option.bind (laws_toAutomaton (a0_0, a0_1, a0_2, a0_3)) fun (r13, r14, r15, r16) =>
                    Option.bind (laws_eqAutomaton (r7, (List.take (List.length r8) (List.drop 0 r8)), (List.take (List.length r9) (List.drop 0 r9)), (List.take (List.length r10) (List.drop 0 r10))) (r13, (List.take (List.length r14) (List.drop 0 r14)), (List.take (List.length r15) (List.drop 0 r15)), (List.take (List.length r16) (List.drop 0 r16)))) fun r17 =>
                      bif (!r17) then
                        some false
                      else
                        some true
noncomputable def A13 : FnA := ⟨[.v (.pair (.int .i64) (.pair (.sl (.int .i64)) (.pair (.sl (.int .i64)) (.sl (.pair (.int .i64) (.pair .str (.pair (.int .i64) (.int .i64)))))))), .v (.int .i64), .v (.int .i64)], true, [.bool], fun x => laws_FnExactGrowingBetween x.1 x.2.1 x.2.2.1⟩
theorem laws_FnExactGrowingBetween_eq : fnF E13 L13_0 [.v (.pair (.int .i64) (.pair (.sl (.int .i64)) (.pair (.sl (.int .i64)) (.sl (.pair (.int .i64) (.pair .str (.pair (.int .i64) (.int .i64)))))))), .v (.int .i64), .v (.int .i64)] true [.bool] f13.ntmps f13.results.toList (codeOf f13) = fun x => laws_FnExactGrowingBetween x.1 x.2.1 x.2.2.1 := by kernel_rfl
theorem A13_ok : FnOk prog 13 A13 := by
  have h := fnOk_of_run (P := prog) (E := E13) (tysOk_of tyl_ok) E13_ok (L := L13_0) (ps := [.v (.pair (.int .i64) (.pair (.sl (.int .i64)) (.pair (.sl (.int .i64)) (.sl (.pair (.int .i64) (.pair .str (.pair (.int .i64) (.int .i64)))))))), .v (.int .i64), .v (.int .i64)]) (own := true) (outs := [.bool]) func13 (c := codeOf f13) (by kernel_rfl) (codeOk_in (L := L13_0) (tysOk_of tyl_ok) E13_ok mixed (c := codeOf f13) (bs := []) (by kernel_rfl) allNil (by kernel_rfl))
  rw [laws_FnExactGrowingBetween_eq] at h
  exact h
end Go.Proofs.Ytooigaliccnldaa
