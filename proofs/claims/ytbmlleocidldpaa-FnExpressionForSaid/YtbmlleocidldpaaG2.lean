/- What Go functions that the laws reach compute, and that they do: written by a program of this session. -/
import Derived.Test.YtbmlleocidldpaaG1
import Derived.KernelRfl
set_option linter.unusedVariables false
namespace Go.Proofs.Ytbmlleocidldpaa
open Go Go.Proofs.Ytbmlleocidldpaa.Am Go.Proofs.Try
set_option maxRecDepth 100000
/-! impl.ElementsOf -/
noncomputable def E41_at5_at32 : Env := ⟨ty0, fun g => ifEq g 27 (some A27) (ifEq g 12 (some A12) (ifEq g 135 (some A135) (ifEq g 136 (some A136) (ifEq g 94 (some A94) (ifEq g 96 (some A96) (none)))))), fun _ => none, fun _ => none, fun _ => none⟩
theorem E41_at5_at32_ok : FnsOk prog E41_at5_at32 := (oneFn A27_ok func27 (by kernel_rfl) (by kernel_rfl) (oneFn A12_ok func12 (by kernel_rfl) (by kernel_rfl) (oneFn A135_ok func135 (by kernel_rfl) (by kernel_rfl) (oneFn A136_ok func136 (by kernel_rfl) (by kernel_rfl) (oneFn A94_ok func94 (by kernel_rfl) (by kernel_rfl) (oneFn A96_ok func96 (by kernel_rfl) (by kernel_rfl) (noFns _ _)))))))
noncomputable def L41_at5_at32_0 : Nat → Option LoopD := fun _ => none
def shi41_at5_at32 : List Fm := [.box 100000 [.own (.pair (.pair (.int .i64) (.sl (.int .i64))) .str) 100001 false, .val .bool], .agg [.val (.int .i64), .own (.int .i64) 100102 false], .cell (.val .str), d, d, d, d, d, d, d, d, d, d, d, d, d, d, d, d, d, d, d, d, d, d, d, d, d, d, d, d, d, d, d, d, d, d, d, d, .fnv 93, .box 104000 [.val (.int .i64), .val (.sl (.int .i64)), .val (.sl (.int .i64)), .val (.sl (.pair (.int .i64) (.pair .str (.pair (.int .i64) (.int .i64)))))], d, d, d, .ali 100000 0, d, d, d, d, d, d, d, d, d, d, .cell (.own .str 105500 false), .cell (.val (.int .i64)), .cell (.val (.int .i64)), d, d, d, d, d, d, d, d, d, d, d, d, d, d, d, d, d, d, d, d, d, d, d, d, d, d, d, d, d, d, d, d, d, d, d, d, d, d, d, d, d, d, d, d, d, d, d, d, d, d]
def sho41_at5_at32 : List Fm := [d, .fnv 93, .box 100200 [.val (.int .i64), .val (.sl (.int .i64)), .val (.sl (.int .i64)), .val (.sl (.pair (.int .i64) (.pair .str (.pair (.int .i64) (.int .i64)))))], d, d, d, .box 100600 [.own (.pair (.pair (.int .i64) (.sl (.int .i64))) .str) 100601 false, .val .bool], d, d, d, d, d, d, d, d, d, d, .cell (.own .str 101700 false), .cell (.val (.int .i64)), .cell (.val (.int .i64)), d, d, d, d, d, d, d, d, d, d, d, d, d, d, d, d, d, d, d, d, d, d, d, d, d, d, d, d, d, d, d, d, d, d, d, d, d, d, d, d, d, d, d, d, d, d, d, d, d, d]
noncomputable def impl_ElementsOf_at5_at32 : (((List ((Int × (List Int)) × ByteArray)) × Bool × Unit) × (Int × (List Int) × Unit) × ByteArray × (Int × (List Int) × (List Int) × (List (Int × (ByteArray × (Int × Int)))) × Unit) × (List ByteArray) × Int × Int × Unit) → Option ((Int × (List Int) × (List Int) × (List (Int × (ByteArray × (Int × Int)))) × Unit) × ((List ((Int × (List Int)) × ByteArray)) × Bool × Unit) × (List ByteArray) × Int × Int × Unit) := fun ((v0_0, v0_1, _), (v1_0, v1_1, _), v2, (v40_0, v40_1, v40_2, v40_3, _), v55, v56, v57, _) =>
  Option.bind (slices_ContainsFunc_Element (List.take (List.length v0_0) (List.drop 0 v0_0)) (fun y0 => (impl_found_put_1 y0.1 (v1_0, (List.take (List.length v1_1) (List.drop 0 v1_1)))))) fun r1 =>
    bif r1 then
      some ((v40_0, v40_1, v40_2, v40_3, ()), ((List.take (List.length v0_0) (List.drop 0 v0_0)), v0_1, ()), (List.take (List.length v55) (List.drop 0 v55)), v56, v57, ())
    else
      bif (decide ((((List.length v0_0) : Nat) : Int) ≥ (120 : Int))) then
        some ((v40_0, v40_1, v40_2, v40_3, ()), ((List.take (List.length v0_0) (List.drop 0 v0_0)), false, ()), (List.take (List.length v55) (List.drop 0 v55)), v56, v57, ())
      else
        bif (decide ((((ByteArray.size v2) : Nat) : Int) > (120 : Int))) then
          some ((v40_0, v40_1, v40_2, v40_3, ()), ((List.take (List.length v0_0) (List.drop 0 v0_0)), false, ()), (List.take (List.length v55) (List.drop 0 v55)), v56, v57, ())
        else
          if (((0 + (List.length v0_0)) = (List.length v0_0)) ∧ ((((List.length v0_0) + (List.length (List.take 1 (List.drop 0 [((v1_0, (List.take (List.length v1_1) (List.drop 0 v1_1))), v2)])))) * 48) ≤ 140737488355328)) then
            some ((v40_0, v40_1, v40_2, v40_3, ()), ((List.take ((List.length v0_0) + (List.length (List.take 1 (List.drop 0 [((v1_0, (List.take (List.length v1_1) (List.drop 0 v1_1))), v2)])))) (List.drop 0 ((List.drop 0 v0_0) ++ (List.take 1 (List.drop 0 [((v1_0, (List.take (List.length v1_1) (List.drop 0 v1_1))), v2)]))))), v0_1, ()), (List.take (List.length v55) (List.drop 0 v55)), v56, v57, ())
          else
            none
theorem impl_ElementsOf_at5_at32_eq : inlStep f95.ntmps 62 32 E41_at5_at32 L41_at5_at32_0 f95.results.toList (codeOf f95) shi41_at5_at32 sho41_at5_at32 = impl_ElementsOf_at5_at32 := by kernel_rfl
noncomputable def I41_at5_at32 : CallD := ⟨f95.ntmps, shi41_at5_at32, 62, sho41_at5_at32, impl_ElementsOf_at5_at32⟩
theorem I41_at5_at32_ok : InlOk prog 32 95 I41_at5_at32 := inlOk_of (tysOk_of tyl_ok) E41_at5_at32_ok (L := L41_at5_at32_0) func95 (by kernel_rfl) (c := codeOf f95) (by kernel_rfl) (codeOk_in (L := L41_at5_at32_0) (tysOk_of tyl_ok) E41_at5_at32_ok mixed (c := codeOf f95) (bs := []) (by kernel_rfl) allNil (by kernel_rfl)) (by kernel_rfl) (by kernel_rfl) impl_ElementsOf_at5_at32_eq
noncomputable def E41_at5_at52_at31 : Env := ⟨ty0, fun g => ifEq g 27 (some A27) (ifEq g 12 (some A12) (ifEq g 135 (some A135) (ifEq g 136 (some A136) (ifEq g 94 (some A94) (ifEq g 96 (some A96) (none)))))), fun _ => none, fun _ => none, fun _ => none⟩
theorem E41_at5_at52_at31_ok : FnsOk prog E41_at5_at52_at31 := (oneFn A27_ok func27 (by kernel_rfl) (by kernel_rfl) (oneFn A12_ok func12 (by kernel_rfl) (by kernel_rfl) (oneFn A135_ok func135 (by kernel_rfl) (by kernel_rfl) (oneFn A136_ok func136 (by kernel_rfl) (by kernel_rfl) (oneFn A94_ok func94 (by kernel_rfl) (by kernel_rfl) (oneFn A96_ok func96 (by kernel_rfl) (by kernel_rfl) (noFns _ _)))))))
noncomputable def L41_at5_at52_at31_0 : Nat → Option LoopD := fun _ => none
def shi41_at5_at52_at31 : List Fm := [.box 100000 [.own (.pair (.pair (.int .i64) (.sl (.int .i64))) .str) 100001 false, .val .bool], .agg [.val (.int .i64), .own (.int .i64) 100102 false], .cell (.val .str), d, d, d, d, d, d, d, d, d, d, d, d, d, d, d, d, d, d, d, d, d, d, d, d, d, d, d, d, d, d, d, d, d, d, d, .ali 100000 0, .cell (.val (.int .i64)), d, d, .box 104200 [.val (.int .i64), .val (.sl (.int .i64)), .val .str], d, d, d, d, d, d, d, d, d, d, d, d, d, d, d, d, d, d, d, d, d, d, d, d, d, d, d, d, d, d, d, d, d, d, d, d, d, d, d, d, d, d, d, d, d, d, d, d, d, d, d, d, d, d, d, d, d, d, d, d, d, d, d, d, d, d, d, d, d, d, d, d, d, d, d, d, d, d, .fnv 93, d, d, d, d, .ali 100000 0, d, d, d, d, .cell (.val (.int .i64)), d, d, d, d, d, d, d, d, d, d, d, d, d, d, d, d, d, d, d, d, d, d, d, d, d, d, d, d, d, d, d, d, d, d, d, d, d, d, d, d, d, d, d, d, d, d, d, d, d, d, d, d, d, d, d, d, d, d]
def sho41_at5_at52_at31 : List Fm := [.box 100000 [.own (.pair (.pair (.int .i64) (.sl (.int .i64))) .str) 100001 false, .val .bool], .cell (.val (.int .i64)), d, d, .box 100400 [.val (.int .i64), .val (.sl (.int .i64)), .val .str], d, d, d, d, d, d, d, d, d, d, d, d, d, d, d, d, d, d, d, d, d, d, d, d, d, d, d, d, d, d, d, d, d, d, d, d, d, d, d, d, d, d, d, d, d, d, d, d, d, d, d, d, d, d, d, d, d, d, d, d, d, d, d, d, d, d, d, d, d, d, d, d, d, d, d, d, d, d, .fnv 93, d, d, d, d, .ali 100000 0, d, d, d, d, .cell (.val (.int .i64)), d, d, d, d, d, d, d, d, d, d, d, d, d, d, d, d, d, d, d, d, d, d, d, d, d, d, d, d, d, d, d, d, d, d, d, d, d, d, d, d, d, d, d, d, d, d, d, d, d, d, d, d, d, d, d, d, d, d]
noncomputable def impl_ElementsOf_at5_at52_at31 : (((List ((Int × (List Int)) × ByteArray)) × Bool × Unit) × (Int × (List Int) × Unit) × ByteArray × Int × (Int × (List Int) × ByteArray × Unit) × Int × Unit) → Option (((List ((Int × (List Int)) × ByteArray)) × Bool × Unit) × Int × (Int × (List Int) × ByteArray × Unit) × Int × Unit) := fun ((v0_0, v0_1, _), (v1_0, v1_1, _), v2, v39, (v42_0, v42_1, v42_2, _), v131, _) =>
  Option.bind (slices_ContainsFunc_Element (List.take (List.length v0_0) (List.drop 0 v0_0)) (fun y0 => (impl_found_put_1 y0.1 (v1_0, (List.take (List.length v1_1) (List.drop 0 v1_1)))))) fun r1 =>
    bif r1 then
      some (((List.take (List.length v0_0) (List.drop 0 v0_0)), v0_1, ()), v39, (v42_0, v42_1, v42_2, ()), v131, ())
    else
      bif (decide ((((List.length v0_0) : Nat) : Int) ≥ (120 : Int))) then
        some (((List.take (List.length v0_0) (List.drop 0 v0_0)), false, ()), v39, (v42_0, v42_1, v42_2, ()), v131, ())
      else
        bif (decide ((((ByteArray.size v2) : Nat) : Int) > (120 : Int))) then
          some (((List.take (List.length v0_0) (List.drop 0 v0_0)), false, ()), v39, (v42_0, v42_1, v42_2, ()), v131, ())
        else
          if (((0 + (List.length v0_0)) = (List.length v0_0)) ∧ ((((List.length v0_0) + (List.length (List.take 1 (List.drop 0 [((v1_0, (List.take (List.length v1_1) (List.drop 0 v1_1))), v2)])))) * 48) ≤ 140737488355328)) then
            some (((List.take ((List.length v0_0) + (List.length (List.take 1 (List.drop 0 [((v1_0, (List.take (List.length v1_1) (List.drop 0 v1_1))), v2)])))) (List.drop 0 ((List.drop 0 v0_0) ++ (List.take 1 (List.drop 0 [((v1_0, (List.take (List.length v1_1) (List.drop 0 v1_1))), v2)]))))), v0_1, ()), v39, (v42_0, v42_1, v42_2, ()), v131, ())
          else
            none
theorem impl_ElementsOf_at5_at52_at31_eq : inlStep f95.ntmps 82 31 E41_at5_at52_at31 L41_at5_at52_at31_0 f95.results.toList (codeOf f95) shi41_at5_at52_at31 sho41_at5_at52_at31 = impl_ElementsOf_at5_at52_at31 := by kernel_rfl
noncomputable def I41_at5_at52_at31 : CallD := ⟨f95.ntmps, shi41_at5_at52_at31, 82, sho41_at5_at52_at31, impl_ElementsOf_at5_at52_at31⟩
theorem I41_at5_at52_at31_ok : InlOk prog 31 95 I41_at5_at52_at31 := inlOk_of (tysOk_of tyl_ok) E41_at5_at52_at31_ok (L := L41_at5_at52_at31_0) func95 (by kernel_rfl) (c := codeOf f95) (by kernel_rfl) (codeOk_in (L := L41_at5_at52_at31_0) (tysOk_of tyl_ok) E41_at5_at52_at31_ok mixed (c := codeOf f95) (bs := []) (by kernel_rfl) allNil (by kernel_rfl)) (by kernel_rfl) (by kernel_rfl) impl_ElementsOf_at5_at52_at31_eq
noncomputable def E41_at5_at52_at65 : Env := ⟨ty0, fun g => ifEq g 27 (some A27) (ifEq g 12 (some A12) (ifEq g 135 (some A135) (ifEq g 136 (some A136) (ifEq g 94 (some A94) (ifEq g 96 (some A96) (none)))))), fun _ => none, fun _ => none, fun _ => none⟩
theorem E41_at5_at52_at65_ok : FnsOk prog E41_at5_at52_at65 := (oneFn A27_ok func27 (by kernel_rfl) (by kernel_rfl) (oneFn A12_ok func12 (by kernel_rfl) (by kernel_rfl) (oneFn A135_ok func135 (by kernel_rfl) (by kernel_rfl) (oneFn A136_ok func136 (by kernel_rfl) (by kernel_rfl) (oneFn A94_ok func94 (by kernel_rfl) (by kernel_rfl) (oneFn A96_ok func96 (by kernel_rfl) (by kernel_rfl) (noFns _ _)))))))
noncomputable def L41_at5_at52_at65_0 : Nat → Option LoopD := fun _ => none
def shi41_at5_at52_at65 : List Fm := [.box 100000 [.own (.pair (.pair (.int .i64) (.sl (.int .i64))) .str) 100001 false, .val .bool], .cell (.val (.pair (.int .i64) (.sl (.int .i64)))), .cell (.val .str), d, d, d, d, d, d, d, d, d, d, d, d, d, d, d, d, d, d, d, d, d, d, d, d, d, d, d, d, d, d, d, d, d, d, d, .ali 100000 0, .cell (.val (.int .i64)), d, d, .box 104200 [.val (.int .i64), .val (.sl (.int .i64)), .val .str], d, d, .cell (.val (.int .i64)), .box 104600 [.val (.int .i64), .val (.sl (.int .i64)), .val .str], .box 104700 [.val (.int .i64), .val (.sl (.int .i64))], d, d, d, d, d, d, d, d, d, d, d, d, d, d, d, d, d, d, d, d, d, d, d, d, d, d, d, d, d, d, d, d, d, d, d, d, d, d, d, d, d, d, d, d, d, d, d, d, d, d, d, d, d, d, d, d, d, d, d, d, d, d, d, d, d, d, d, d, d, d, d, d, d, .fnv 93, d, d, d, d, .ali 100000 0, d, d, d, d, .cell (.val (.int .i64)), d, d, d, d, d, d, d, d, d, d, d, d, d, d, d, d, d, d, d, d, d, d, d, d, d, d, d, d, d, d, d, d, d, d, d, d, d, d, d, d, d, d, d, d, d, d, d, d, d, d, d, d, d, d, d, d, d, d]
def sho41_at5_at52_at65 : List Fm := [.box 100000 [.own (.pair (.pair (.int .i64) (.sl (.int .i64))) .str) 100001 false, .val .bool], .cell (.val (.int .i64)), d, d, .box 100400 [.val (.int .i64), .val (.sl (.int .i64)), .val .str], d, d, .cell (.val (.int .i64)), .box 100800 [.val (.int .i64), .val (.sl (.int .i64)), .val .str], .box 100900 [.val (.int .i64), .val (.sl (.int .i64))], d, d, d, d, d, d, d, d, d, d, d, d, d, d, d, d, d, d, d, d, d, d, d, d, d, d, d, d, d, d, d, d, d, d, d, d, d, d, d, d, d, d, d, d, d, d, d, d, d, d, d, d, d, d, d, d, d, d, d, d, d, d, d, d, d, d, d, d, d, d, d, d, d, .fnv 93, d, d, d, d, .ali 100000 0, d, d, d, d, .cell (.val (.int .i64)), d, d, d, d, d, d, d, d, d, d, d, d, d, d, d, d, d, d, d, d, d, d, d, d, d, d, d, d, d, d, d, d, d, d, d, d, d, d, d, d, d, d, d, d, d, d, d, d, d, d, d, d, d, d, d, d, d, d]
noncomputable def impl_ElementsOf_at5_at52_at65 : (((List ((Int × (List Int)) × ByteArray)) × Bool × Unit) × (Int × (List Int)) × ByteArray × Int × (Int × (List Int) × ByteArray × Unit) × Int × (Int × (List Int) × ByteArray × Unit) × (Int × (List Int) × Unit) × Int × Unit) → Option (((List ((Int × (List Int)) × ByteArray)) × Bool × Unit) × Int × (Int × (List Int) × ByteArray × Unit) × Int × (Int × (List Int) × ByteArray × Unit) × (Int × (List Int) × Unit) × Int × Unit) := fun ((v0_0, v0_1, _), (v1_0, v1_1), v2, v39, (v42_0, v42_1, v42_2, _), v45, (v46_0, v46_1, v46_2, _), (v47_0, v47_1, _), v131, _) =>
  Option.bind (slices_ContainsFunc_Element (List.take (List.length v0_0) (List.drop 0 v0_0)) (fun y0 => (impl_found_put_1 y0.1 (v1_0, v1_1)))) fun r1 =>
    bif r1 then
      some (((List.take (List.length v0_0) (List.drop 0 v0_0)), v0_1, ()), v39, (v42_0, v42_1, v42_2, ()), v45, (v46_0, v46_1, v46_2, ()), (v47_0, v47_1, ()), v131, ())
    else
      bif (decide ((((List.length v0_0) : Nat) : Int) ≥ (120 : Int))) then
        some (((List.take (List.length v0_0) (List.drop 0 v0_0)), false, ()), v39, (v42_0, v42_1, v42_2, ()), v45, (v46_0, v46_1, v46_2, ()), (v47_0, v47_1, ()), v131, ())
      else
        bif (decide ((((ByteArray.size v2) : Nat) : Int) > (120 : Int))) then
          some (((List.take (List.length v0_0) (List.drop 0 v0_0)), false, ()), v39, (v42_0, v42_1, v42_2, ()), v45, (v46_0, v46_1, v46_2, ()), (v47_0, v47_1, ()), v131, ())
        else
          if (((0 + (List.length v0_0)) = (List.length v0_0)) ∧ ((((List.length v0_0) + (List.length (List.take 1 (List.drop 0 [((v1_0, v1_1), v2)])))) * 48) ≤ 140737488355328)) then
            some (((List.take ((List.length v0_0) + (List.length (List.take 1 (List.drop 0 [((v1_0, v1_1), v2)])))) (List.drop 0 ((List.drop 0 v0_0) ++ (List.take 1 (List.drop 0 [((v1_0, v1_1), v2)]))))), v0_1, ()), v39, (v42_0, v42_1, v42_2, ()), v45, (v46_0, v46_1, v46_2, ()), (v47_0, v47_1, ()), v131, ())
          else
            none
theorem impl_ElementsOf_at5_at52_at65_eq : inlStep f95.ntmps 82 65 E41_at5_at52_at65 L41_at5_at52_at65_0 f95.results.toList (codeOf f95) shi41_at5_at52_at65 sho41_at5_at52_at65 = impl_ElementsOf_at5_at52_at65 := by kernel_rfl
noncomputable def I41_at5_at52_at65 : CallD := ⟨f95.ntmps, shi41_at5_at52_at65, 82, sho41_at5_at52_at65, impl_ElementsOf_at5_at52_at65⟩
theorem I41_at5_at52_at65_ok : InlOk prog 65 95 I41_at5_at52_at65 := inlOk_of (tysOk_of tyl_ok) E41_at5_at52_at65_ok (L := L41_at5_at52_at65_0) func95 (by kernel_rfl) (c := codeOf f95) (by kernel_rfl) (codeOk_in (L := L41_at5_at52_at65_0) (tysOk_of tyl_ok) E41_at5_at52_at65_ok mixed (c := codeOf f95) (bs := []) (by kernel_rfl) allNil (by kernel_rfl)) (by kernel_rfl) (by kernel_rfl) impl_ElementsOf_at5_at52_at65_eq
noncomputable def E41_at5_at52_at81 : Env := ⟨ty0, fun g => ifEq g 27 (some A27) (ifEq g 12 (some A12) (ifEq g 135 (some A135) (ifEq g 136 (some A136) (ifEq g 94 (some A94) (ifEq g 96 (some A96) (none)))))), fun _ => none, fun _ => none, fun _ => none⟩
theorem E41_at5_at52_at81_ok : FnsOk prog E41_at5_at52_at81 := (oneFn A27_ok func27 (by kernel_rfl) (by kernel_rfl) (oneFn A12_ok func12 (by kernel_rfl) (by kernel_rfl) (oneFn A135_ok func135 (by kernel_rfl) (by kernel_rfl) (oneFn A136_ok func136 (by kernel_rfl) (by kernel_rfl) (oneFn A94_ok func94 (by kernel_rfl) (by kernel_rfl) (oneFn A96_ok func96 (by kernel_rfl) (by kernel_rfl) (noFns _ _)))))))
noncomputable def L41_at5_at52_at81_0 : Nat → Option LoopD := fun _ => none
def shi41_at5_at52_at81 : List Fm := [.box 100000 [.own (.pair (.pair (.int .i64) (.sl (.int .i64))) .str) 100001 false, .val .bool], .agg [.val (.int .i64), .own (.int .i64) 100102 false], .cell (.val .str), d, d, d, d, d, d, d, d, d, d, d, d, d, d, d, d, d, d, d, d, d, d, d, d, d, d, d, d, d, d, d, d, d, d, d, .ali 100000 0, .cell (.val (.int .i64)), d, d, .box 104200 [.val (.int .i64), .val (.sl (.int .i64)), .val .str], d, d, .cell (.val (.int .i64)), d, d, d, d, d, d, d, d, d, d, d, d, d, d, d, d, d, d, d, d, d, d, d, d, d, d, d, d, d, d, d, d, d, d, d, d, d, d, d, d, d, d, d, d, d, d, d, d, d, d, d, d, d, d, d, d, d, d, d, d, d, d, d, d, d, d, d, d, d, d, d, d, d, d, d, .fnv 93, d, d, d, d, .ali 100000 0, d, d, d, d, .cell (.val (.int .i64)), d, d, d, d, d, d, d, d, d, d, d, d, d, d, d, d, d, d, d, d, d, d, d, d, d, d, d, d, d, d, d, d, d, d, d, d, d, d, d, d, d, d, d, d, d, d, d, d, d, d, d, d, d, d, d, d, d, d]
def sho41_at5_at52_at81 : List Fm := [.box 100000 [.own (.pair (.pair (.int .i64) (.sl (.int .i64))) .str) 100001 false, .val .bool], .cell (.val (.int .i64)), d, d, .box 100400 [.val (.int .i64), .val (.sl (.int .i64)), .val .str], d, d, .cell (.val (.int .i64)), d, d, d, d, d, d, d, d, d, d, d, d, d, d, d, d, d, d, d, d, d, d, d, d, d, d, d, d, d, d, d, d, d, d, d, d, d, d, d, d, d, d, d, d, d, d, d, d, d, d, d, d, d, d, d, d, d, d, d, d, d, d, d, d, d, d, d, d, d, d, d, d, d, d, d, .fnv 93, d, d, d, d, .ali 100000 0, d, d, d, d, .cell (.val (.int .i64)), d, d, d, d, d, d, d, d, d, d, d, d, d, d, d, d, d, d, d, d, d, d, d, d, d, d, d, d, d, d, d, d, d, d, d, d, d, d, d, d, d, d, d, d, d, d, d, d, d, d, d, d, d, d, d, d, d, d]
noncomputable def impl_ElementsOf_at5_at52_at81 : (((List ((Int × (List Int)) × ByteArray)) × Bool × Unit) × (Int × (List Int) × Unit) × ByteArray × Int × (Int × (List Int) × ByteArray × Unit) × Int × Int × Unit) → Option (((List ((Int × (List Int)) × ByteArray)) × Bool × Unit) × Int × (Int × (List Int) × ByteArray × Unit) × Int × Int × Unit) := fun ((v0_0, v0_1, _), (v1_0, v1_1, _), v2, v39, (v42_0, v42_1, v42_2, _), v45, v131, _) =>
  Option.bind (slices_ContainsFunc_Element (List.take (List.length v0_0) (List.drop 0 v0_0)) (fun y0 => (impl_found_put_1 y0.1 (v1_0, (List.take (List.length v1_1) (List.drop 0 v1_1)))))) fun r1 =>
    bif r1 then
      some (((List.take (List.length v0_0) (List.drop 0 v0_0)), v0_1, ()), v39, (v42_0, v42_1, v42_2, ()), v45, v131, ())
    else
      bif (decide ((((List.length v0_0) : Nat) : Int) ≥ (120 : Int))) then
        some (((List.take (List.length v0_0) (List.drop 0 v0_0)), false, ()), v39, (v42_0, v42_1, v42_2, ()), v45, v131, ())
      else
        bif (decide ((((ByteArray.size v2) : Nat) : Int) > (120 : Int))) then
          some (((List.take (List.length v0_0) (List.drop 0 v0_0)), false, ()), v39, (v42_0, v42_1, v42_2, ()), v45, v131, ())
        else
          if (((0 + (List.length v0_0)) = (List.length v0_0)) ∧ ((((List.length v0_0) + (List.length (List.take 1 (List.drop 0 [((v1_0, (List.take (List.length v1_1) (List.drop 0 v1_1))), v2)])))) * 48) ≤ 140737488355328)) then
            some (((List.take ((List.length v0_0) + (List.length (List.take 1 (List.drop 0 [((v1_0, (List.take (List.length v1_1) (List.drop 0 v1_1))), v2)])))) (List.drop 0 ((List.drop 0 v0_0) ++ (List.take 1 (List.drop 0 [((v1_0, (List.take (List.length v1_1) (List.drop 0 v1_1))), v2)]))))), v0_1, ()), v39, (v42_0, v42_1, v42_2, ()), v45, v131, ())
          else
            none
theorem impl_ElementsOf_at5_at52_at81_eq : inlStep f95.ntmps 82 81 E41_at5_at52_at81 L41_at5_at52_at81_0 f95.results.toList (codeOf f95) shi41_at5_at52_at81 sho41_at5_at52_at81 = impl_ElementsOf_at5_at52_at81 := by kernel_rfl
noncomputable def I41_at5_at52_at81 : CallD := ⟨f95.ntmps, shi41_at5_at52_at81, 82, sho41_at5_at52_at81, impl_ElementsOf_at5_at52_at81⟩
theorem I41_at5_at52_at81_ok : InlOk prog 81 95 I41_at5_at52_at81 := inlOk_of (tysOk_of tyl_ok) E41_at5_at52_at81_ok (L := L41_at5_at52_at81_0) func95 (by kernel_rfl) (c := codeOf f95) (by kernel_rfl) (codeOk_in (L := L41_at5_at52_at81_0) (tysOk_of tyl_ok) E41_at5_at52_at81_ok mixed (c := codeOf f95) (bs := []) (by kernel_rfl) allNil (by kernel_rfl)) (by kernel_rfl) (by kernel_rfl) impl_ElementsOf_at5_at52_at81_eq
noncomputable def E41_at5_at52 : Env := ⟨ty0, fun g => ifEq g 27 (some A27) (ifEq g 12 (some A12) (ifEq g 135 (some A135) (ifEq g 136 (some A136) (ifEq g 94 (some A94) (ifEq g 96 (some A96) (none)))))), fun _ => none, fun _ => none, fun d => ifI (Nat.beq d 31) (some (95, I41_at5_at52_at31)) (ifI (Nat.beq d 65) (some (95, I41_at5_at52_at65)) (ifI (Nat.beq d 81) (some (95, I41_at5_at52_at81)) (none)))⟩
theorem E41_at5_at52_ok : FnsOk prog E41_at5_at52 := (oneIl (d0 := 31) (g0 := 95) I41_at5_at52_at31_ok (oneIl (d0 := 65) (g0 := 95) I41_at5_at52_at65_ok (oneIl (d0 := 81) (g0 := 95) I41_at5_at52_at81_ok (oneFn A27_ok func27 (by kernel_rfl) (by kernel_rfl) (oneFn A12_ok func12 (by kernel_rfl) (by kernel_rfl) (oneFn A135_ok func135 (by kernel_rfl) (by kernel_rfl) (oneFn A136_ok func136 (by kernel_rfl) (by kernel_rfl) (oneFn A94_ok func94 (by kernel_rfl) (by kernel_rfl) (oneFn A96_ok func96 (by kernel_rfl) (by kernel_rfl) (noFns _ _))))))))))
noncomputable def L41_at5_at52_0 : Nat → Option LoopD := fun _ => none
def sh41_at5_at52_5 : List Fm := [.box 100000 [.own (.pair (.pair (.int .i64) (.sl (.int .i64))) .str) 100001 false, .val .bool], .cell (.val (.int .i64)), d, d, .box 100400 [.val (.int .i64), .val (.sl (.int .i64)), .val .str], d, d, .cell (.val (.int .i64)), d, d, d, d, d, d, d, d, d, d, d, d, d, d, d, d, d, d, d, d, d, d, d, d, d, d, d, d, d, d, d, d, d, d, d, d, d, d, d, d, d, d, d, d, d, d, d, d, d, d, d, d, d, d, d, d, d, d, d, d, d, d, d, d, d, d, d, d, d, d, d, d, d, d, d, .fnv 93, d, d, d, d, .ali 100000 0, d, d, d, d, .cell (.val (.int .i64)), d, d, d, d, d, d, d, d, d, d, d, d, d, d, d, d, d, d, d, d, d, d, d, d, d, d, d, d, d, d, d, d, d, d, d, d, d, d, d, d, d, d, d, d, d, d, d, d, d, d, d, d, d, d, d, d, d, d]
def xs41_at5_at52_5 : List (Ex × List Fm) := [(.exit 0, [d, d, d, d, d, d, d, d, d, d, d, d, d, d, d, d, d, d, d, d, d, d, d, d, d, d, d, d, d, d, d, d, d, d, d, d, d, d, d, d, d, d, d, d, d, d, d, d, d, d, d, d, d, d, d, d, d, d, d, d, d, d, d, d, d, d, d, d, d, d, d, d, d, d, d, d, d, d, d, d, d, d, d, .fnv 93, d, d, d, d, .box 108800 [.own (.pair (.pair (.int .i64) (.sl (.int .i64))) .str) 108801 false, .val .bool], d, d, d, d, .cell (.val (.int .i64)), d, d, d, d, d, d, d, d, d, d, d, d, d, d, d, d, d, d, d, d, d, d, d, d, d, d, d, d, d, d, d, d, d, d, d, d, d, d, d, d, d, d, d, d, d, d, d, d, d, d, d, d, d, d, d, d, d, d])]
noncomputable def impl_ElementsOf_at5_at52_l5 : (((List ((Int × (List Int)) × ByteArray)) × Bool × Unit) × Int × (Int × (List Int) × ByteArray × Unit) × Int × Int × Unit) → Option ((((List ((Int × (List Int)) × ByteArray)) × Bool × Unit) × Int × (Int × (List Int) × ByteArray × Unit) × Int × Int × Unit) ⊕ ((((List ((Int × (List Int)) × ByteArray)) × Bool × Unit) × Int × Unit))) := fun ((v0_0, v0_1, _), v1, (v4_0, v4_1, v4_2, _), v7, v93, _) =>
  bif (decide (v7 ≤ v1)) then
    bif v0_1 then
      if (((0 : Int) ≤ v7) ∧ (v7 < (((List.length v0_0) : Nat) : Int))) then
        Option.bind (impl_MulGrades (v4_0, v4_1) ((List.getD v0_0 (0 + (Int.toNat v7)) (((0 : Int), []), (⟨Array.empty⟩ : ByteArray))).1.1, (List.getD v0_0 (0 + (Int.toNat v7)) (((0 : Int), []), (⟨Array.empty⟩ : ByteArray))).1.2)) fun ((r0, r1), r2) =>
          if (((ByteArray.size v4_2) + (ByteArray.size (List.getD v0_0 (0 + (Int.toNat v7)) (((0 : Int), []), (⟨Array.empty⟩ : ByteArray))).2)) ≤ 9223372036854775807) then
            Option.bind (impl_ElementsOf_at5_at52_at65 (((List.take (List.length v0_0) (List.drop 0 v0_0)), v0_1, ()), (r0, (List.take (List.length r1) (List.drop 0 r1))), (v4_2 ++ (List.getD v0_0 (0 + (Int.toNat v7)) (((0 : Int), []), (⟨Array.empty⟩ : ByteArray))).2), v1, (v4_0, v4_1, v4_2, ()), v7, ((List.getD v0_0 (0 + (Int.toNat v7)) (((0 : Int), []), (⟨Array.empty⟩ : ByteArray))).1.1, (List.getD v0_0 (0 + (Int.toNat v7)) (((0 : Int), []), (⟨Array.empty⟩ : ByteArray))).1.2, (List.getD v0_0 (0 + (Int.toNat v7)) (((0 : Int), []), (⟨Array.empty⟩ : ByteArray))).2, ()), (r0, (List.take (List.length r1) (List.drop 0 r1)), ()), v93, ())) fun ((r3, r4, _), r5, (r6, r7, r8, _), r9, (r10, r11, r12, _), (r13, r14, _), r15, _) =>
              Option.bind (impl_MulGrades (r10, r11) (r6, r7)) fun ((r16, r17), r18) =>
                if (((ByteArray.size r12) + (ByteArray.size r8)) ≤ 9223372036854775807) then
                  Option.bind (impl_ElementsOf_at5_at52_at81 (((List.take (List.length r3) (List.drop 0 r3)), r4, ()), (r16, (List.take (List.length r17) (List.drop 0 r17)), ()), (r12 ++ r8), r5, (r6, r7, r8, ()), r9, r15, ())) fun ((r19, r20, _), r21, (r22, r23, r24, _), r25, r26, _) =>
                    some (Sum.inl (((List.take (List.length r19) (List.drop 0 r19)), r20, ()), r21, (r22, r23, r24, ()), (IntKind.wrap .i64 (r25 + (1 : Int))), r26, ()))
                else
                  none
          else
            none
      else
        none
    else
      some (Sum.inr (((List.take (List.length v0_0) (List.drop 0 v0_0)), v0_1, ()), v93, ()))
  else
    some (Sum.inr (((List.take (List.length v0_0) (List.drop 0 v0_0)), v0_1, ()), v93, ()))
theorem impl_ElementsOf_at5_at52_l5_eq : loopStep 82 E41_at5_at52 L41_at5_at52_0 (loopOf f93 5) sh41_at5_at52_5 xs41_at5_at52_5 = impl_ElementsOf_at5_at52_l5 := by kernel_rfl
theorem loop41_at5_at52_5 {L : Nat → Option LoopD} (h : L 5 = some ⟨82, sh41_at5_at52_5, xs41_at5_at52_5, impl_ElementsOf_at5_at52_l5⟩) : LoopOk prog L (loopOf f93 5) :=
  loopOk (tysOk_of tyl_ok) E41_at5_at52_ok (codeOk_in (L := L41_at5_at52_0) (tysOk_of tyl_ok) E41_at5_at52_ok mixed (c := loopOf f93 5) (bs := []) (by kernel_rfl) allNil (by kernel_rfl)) (by kernel_rfl) (by kernel_rfl) impl_ElementsOf_at5_at52_l5_eq (by rw [show firstId (loopOf f93 5) = 5 from by kernel_rfl]; exact h)
noncomputable def L41_at5_at52_1 : Nat → Option LoopD := fun n => ifEq n 5 (some ⟨82, sh41_at5_at52_5, xs41_at5_at52_5, impl_ElementsOf_at5_at52_l5⟩) (L41_at5_at52_0 n)
def shi41_at5_at52 : List Fm := [.box 100000 [.own (.pair (.pair (.int .i64) (.sl (.int .i64))) .str) 100001 false, .val .bool], .cell (.val (.int .i64)), d, d, d, d, d, d, d, d, d, d, d, d, d, d, d, d, d, d, d, d, d, d, d, d, d, d, d, d, d, d, d, d, d, d, d, d, d, d, d, d, d, d, d, d, d, d, d, d, d, d, d, d, d, d, d, d, d, d, d, d, d, d, d, d, d, d, d, d, d, d, d, d, d, d, d, d, d, d, d, d, d, .fnv 93, d, d, d, d, .ali 100000 0, d, d, d, d, .cell (.val (.int .i64)), d, d, d, d, d, d, d, d, d, d, d, d, d, d, d, d, d, d, d, d, d, d, d, d, d, d, d, d, d, d, d, d, d, d, d, d, d, d, d, d, d, d, d, d, d, d, d, d, d, d, d, d, d, d, d, d, d, d]
def sho41_at5_at52 : List Fm := [d, .fnv 93, d, d, d, d, .box 100600 [.own (.pair (.pair (.int .i64) (.sl (.int .i64))) .str) 100601 false, .val .bool], d, d, d, d, .cell (.val (.int .i64)), d, d, d, d, d, d, d, d, d, d, d, d, d, d, d, d, d, d, d, d, d, d, d, d, d, d, d, d, d, d, d, d, d, d, d, d, d, d, d, d, d, d, d, d, d, d, d, d, d, d, d, d, d, d, d, d, d, d]
noncomputable def impl_ElementsOf_at5_at52 : (((List ((Int × (List Int)) × ByteArray)) × Bool × Unit) × Int × Int × Unit) → Option (((List ((Int × (List Int)) × ByteArray)) × Bool × Unit) × Int × Unit) := fun ((v0_0, v0_1, _), v1, v93, _) =>
  if (((0 : Int) ≤ v1) ∧ (v1 < (((List.length v0_0) : Nat) : Int))) then
    Option.bind (impl_Stabilise ((List.getD v0_0 (0 + (Int.toNat v1)) (((0 : Int), []), (⟨Array.empty⟩ : ByteArray))).1.1, (List.getD v0_0 (0 + (Int.toNat v1)) (((0 : Int), []), (⟨Array.empty⟩ : ByteArray))).1.2)) fun ((r0, r1), r2) =>
      bif r2 then
        if (((ByteArray.size (⟨#[(40 : UInt8)]⟩ : ByteArray)) + (ByteArray.size (List.getD v0_0 (0 + (Int.toNat v1)) (((0 : Int), []), (⟨Array.empty⟩ : ByteArray))).2)) ≤ 9223372036854775807) then
          if (((ByteArray.size ((⟨#[(40 : UInt8)]⟩ : ByteArray) ++ (List.getD v0_0 (0 + (Int.toNat v1)) (((0 : Int), []), (⟨Array.empty⟩ : ByteArray))).2)) + (ByteArray.size (⟨#[(41 : UInt8), (35 : UInt8)]⟩ : ByteArray))) ≤ 9223372036854775807) then
            Option.bind (impl_ElementsOf_at5_at52_at31 (((List.take (List.length v0_0) (List.drop 0 v0_0)), v0_1, ()), (r0, (List.take (List.length r1) (List.drop 0 r1)), ()), (((⟨#[(40 : UInt8)]⟩ : ByteArray) ++ (List.getD v0_0 (0 + (Int.toNat v1)) (((0 : Int), []), (⟨Array.empty⟩ : ByteArray))).2) ++ (⟨#[(41 : UInt8), (35 : UInt8)]⟩ : ByteArray)), v1, ((List.getD v0_0 (0 + (Int.toNat v1)) (((0 : Int), []), (⟨Array.empty⟩ : ByteArray))).1.1, (List.getD v0_0 (0 + (Int.toNat v1)) (((0 : Int), []), (⟨Array.empty⟩ : ByteArray))).1.2, (List.getD v0_0 (0 + (Int.toNat v1)) (((0 : Int), []), (⟨Array.empty⟩ : ByteArray))).2, ()), v93, ())) fun ((r3, r4, _), r5, (r6, r7, r8, _), r9, _) =>
              Option.bind (loopF impl_ElementsOf_at5_at52_l5 (((List.take (List.length r3) (List.drop 0 r3)), r4, ()), r5, (r6, r7, r8, ()), (0 : Int), r9, ())) fun ((r10, r11, _), r12, _) =>
                some (((List.take (List.length r10) (List.drop 0 r10)), r11, ()), r12, ())
          else
            none
        else
          none
      else
        Option.bind (loopF impl_ElementsOf_at5_at52_l5 (((List.take (List.length v0_0) (List.drop 0 v0_0)), v0_1, ()), v1, ((List.getD v0_0 (0 + (Int.toNat v1)) (((0 : Int), []), (⟨Array.empty⟩ : ByteArray))).1.1, (List.getD v0_0 (0 + (Int.toNat v1)) (((0 : Int), []), (⟨Array.empty⟩ : ByteArray))).1.2, (List.getD v0_0 (0 + (Int.toNat v1)) (((0 : Int), []), (⟨Array.empty⟩ : ByteArray))).2, ()), (0 : Int), v93, ())) fun ((r13, r14, _), r15, _) =>
          some (((List.take (List.length r13) (List.drop 0 r13)), r14, ()), r15, ())
  else
    none
theorem impl_ElementsOf_at5_at52_eq : inlStep f93.ntmps 62 52 E41_at5_at52 L41_at5_at52_1 f93.results.toList (codeOf f93) shi41_at5_at52 sho41_at5_at52 = impl_ElementsOf_at5_at52 := by kernel_rfl
noncomputable def I41_at5_at52 : CallD := ⟨f93.ntmps, shi41_at5_at52, 62, sho41_at5_at52, impl_ElementsOf_at5_at52⟩
theorem I41_at5_at52_ok : InlOk prog 52 93 I41_at5_at52 := inlOk_of (tysOk_of tyl_ok) E41_at5_at52_ok (L := L41_at5_at52_1) func93 (by kernel_rfl) (c := codeOf f93) (by kernel_rfl) (codeOk_in (L := L41_at5_at52_1) (tysOk_of tyl_ok) E41_at5_at52_ok mixed (c := codeOf f93) (bs := [loopOf f93 5]) (by kernel_rfl) (allCons (loop41_at5_at52_5 rfl) allNil) (by kernel_rfl)) (by kernel_rfl) (by kernel_rfl) impl_ElementsOf_at5_at52_eq
noncomputable def E41_at5 : Env := ⟨ty0, fun g => ifEq g 27 (some A27) (ifEq g 12 (some A12) (ifEq g 135 (some A135) (ifEq g 136 (some A136) (ifEq g 94 (some A94) (ifEq g 96 (some A96) (none)))))), fun _ => none, fun _ => none, fun d => ifI (Nat.beq d 32) (some (95, I41_at5_at32)) (ifI (Nat.beq d 52) (some (93, I41_at5_at52)) (none))⟩
theorem E41_at5_ok : FnsOk prog E41_at5 := (oneIl (d0 := 32) (g0 := 95) I41_at5_at32_ok (oneIl (d0 := 52) (g0 := 93) I41_at5_at52_ok (oneFn A27_ok func27 (by kernel_rfl) (by kernel_rfl) (oneFn A12_ok func12 (by kernel_rfl) (by kernel_rfl) (oneFn A135_ok func135 (by kernel_rfl) (by kernel_rfl) (oneFn A136_ok func136 (by kernel_rfl) (by kernel_rfl) (oneFn A94_ok func94 (by kernel_rfl) (by kernel_rfl) (oneFn A96_ok func96 (by kernel_rfl) (by kernel_rfl) (noFns _ _)))))))))
noncomputable def L41_at5_0 : Nat → Option LoopD := fun _ => none
def sh41_at5_5 : List Fm := [d, .fnv 93, .box 100200 [.val (.int .i64), .val (.sl (.int .i64)), .val (.sl (.int .i64)), .val (.sl (.pair (.int .i64) (.pair .str (.pair (.int .i64) (.int .i64)))))], d, d, d, .box 100600 [.own (.pair (.pair (.int .i64) (.sl (.int .i64))) .str) 100601 false, .val .bool], d, d, d, d, d, d, d, d, d, d, .cell (.own .str 101700 false), .cell (.val (.int .i64)), .cell (.val (.int .i64)), d, d, d, d, d, d, d, d, d, d, d, d, d, d, d, d, d, d, d, d, d, d, d, d, d, d, d, d, d, d, d, d, d, d, d, d, d, d, d, d, d, d, d, d, d, d, d, d, d, d]
def xs41_at5_5 : List (Ex × List Fm) := [(.exit 0, [d, .fnv 93, d, d, d, d, .box 100600 [.own (.pair (.pair (.int .i64) (.sl (.int .i64))) .str) 100601 false, .val .bool], d, d, d, d, d, d, d, d, d, d, d, d, d, d, d, d, d, d, d, d, d, d, d, d, d, d, d, d, d, d, d, d, d, d, d, d, d, d, d, d, d, d, d, d, d, d, d, d, d, d, d, d, d, d, d, d, d, d, d, d, d, d, d])]
noncomputable def impl_ElementsOf_at5_l5 : ((Int × (List Int) × (List Int) × (List (Int × (ByteArray × (Int × Int)))) × Unit) × ((List ((Int × (List Int)) × ByteArray)) × Bool × Unit) × (List ByteArray) × Int × Int × Unit) → Option (((Int × (List Int) × (List Int) × (List (Int × (ByteArray × (Int × Int)))) × Unit) × ((List ((Int × (List Int)) × ByteArray)) × Bool × Unit) × (List ByteArray) × Int × Int × Unit) ⊕ ((((List ((Int × (List Int)) × ByteArray)) × Bool × Unit) × Unit))) := fun ((v2_0, v2_1, v2_2, v2_3, _), (v6_0, v6_1, _), v17, v18, v19, _) =>
  bif (decide (v19 < v18)) then
    if (((0 : Int) ≤ v19) ∧ (v19 < (((List.length v17) : Nat) : Int))) then
      Option.bind (impl_ValueOf (v2_0, v2_1, v2_2, v2_3) (List.getD v17 (0 + (Int.toNat v19)) (⟨Array.empty⟩ : ByteArray))) fun ((r0, r1), r2) =>
        Option.bind (impl_ElementsOf_at5_at32 (((List.take (List.length v6_0) (List.drop 0 v6_0)), v6_1, ()), (r0, (List.take (List.length r1) (List.drop 0 r1)), ()), (List.getD v17 (0 + (Int.toNat v19)) (⟨Array.empty⟩ : ByteArray)), (v2_0, v2_1, v2_2, v2_3, ()), (List.take (List.length v17) (List.drop 0 v17)), v18, v19, ())) fun ((r3, r4, r5, r6, _), (r7, r8, _), r9, r10, r11, _) =>
          some (Sum.inl ((r3, r4, r5, r6, ()), ((List.take (List.length r7) (List.drop 0 r7)), r8, ()), (List.take (List.length r9) (List.drop 0 r9)), r10, (IntKind.wrap .i64 (r11 + (1 : Int))), ()))
    else
      none
  else
    some (Sum.inr (((List.take (List.length v6_0) (List.drop 0 v6_0)), v6_1, ()), ()))
theorem impl_ElementsOf_at5_l5_eq : loopStep 62 E41_at5 L41_at5_0 (loopOf f92 5) sh41_at5_5 xs41_at5_5 = impl_ElementsOf_at5_l5 := by kernel_rfl
theorem loop41_at5_5 {L : Nat → Option LoopD} (h : L 5 = some ⟨62, sh41_at5_5, xs41_at5_5, impl_ElementsOf_at5_l5⟩) : LoopOk prog L (loopOf f92 5) :=
  loopOk (tysOk_of tyl_ok) E41_at5_ok (codeOk_in (L := L41_at5_0) (tysOk_of tyl_ok) E41_at5_ok mixed (c := loopOf f92 5) (bs := []) (by kernel_rfl) allNil (by kernel_rfl)) (by kernel_rfl) (by kernel_rfl) impl_ElementsOf_at5_l5_eq (by rw [show firstId (loopOf f92 5) = 5 from by kernel_rfl]; exact h)
noncomputable def L41_at5_1 : Nat → Option LoopD := fun n => ifEq n 5 (some ⟨62, sh41_at5_5, xs41_at5_5, impl_ElementsOf_at5_l5⟩) (L41_at5_0 n)
def sh41_at5_11 : List Fm := [d, .fnv 93, d, d, d, d, .box 100600 [.own (.pair (.pair (.int .i64) (.sl (.int .i64))) .str) 100601 false, .val .bool], d, d, d, d, .cell (.val (.int .i64)), d, d, d, d, d, d, d, d, d, d, d, d, d, d, d, d, d, d, d, d, d, d, d, d, d, d, d, d, d, d, d, d, d, d, d, d, d, d, d, d, d, d, d, d, d, d, d, d, d, d, d, d, d, d, d, d, d, d]
def xs41_at5_11 : List (Ex × List Fm) := [(.exit 2, [d, d, d, d, d, d, .box 100600 [.own (.pair (.pair (.int .i64) (.sl (.int .i64))) .str) 100601 false, .val .bool], d, d, d, d, d, d, d, d, d, d, d, d, d, d, d, d, d, d, d, d, d, d, d, d, d, d, d, d, d, d, d, d, d, d, d, d, d, d, d, d, d, d, d, d, d, d, d, d, d, d, d, d, d, d, d, d, d, d, d, d, d, d, d])]
noncomputable def impl_ElementsOf_at5_l11 : (((List ((Int × (List Int)) × ByteArray)) × Bool × Unit) × Int × Unit) → Option ((((List ((Int × (List Int)) × ByteArray)) × Bool × Unit) × Int × Unit) ⊕ ((((List ((Int × (List Int)) × ByteArray)) × Bool × Unit) × Unit))) := fun ((v6_0, v6_1, _), v11, _) =>
  bif (decide (v11 < (((List.length v6_0) : Nat) : Int))) then
    bif v6_1 then
      Option.bind (impl_ElementsOf_at5_at52 (((List.take (List.length v6_0) (List.drop 0 v6_0)), v6_1, ()), v11, v11, ())) fun ((r0, r1, _), r2, _) =>
        some (Sum.inl (((List.take (List.length r0) (List.drop 0 r0)), r1, ()), (IntKind.wrap .i64 (r2 + (1 : Int))), ()))
    else
      some (Sum.inr (((List.take (List.length v6_0) (List.drop 0 v6_0)), v6_1, ()), ()))
  else
    some (Sum.inr (((List.take (List.length v6_0) (List.drop 0 v6_0)), v6_1, ()), ()))
theorem impl_ElementsOf_at5_l11_eq : loopStep 62 E41_at5 L41_at5_1 (loopOf f92 11) sh41_at5_11 xs41_at5_11 = impl_ElementsOf_at5_l11 := by kernel_rfl
theorem loop41_at5_11 {L : Nat → Option LoopD} (h : L 11 = some ⟨62, sh41_at5_11, xs41_at5_11, impl_ElementsOf_at5_l11⟩) : LoopOk prog L (loopOf f92 11) :=
  loopOk (tysOk_of tyl_ok) E41_at5_ok (codeOk_in (L := L41_at5_1) (tysOk_of tyl_ok) E41_at5_ok mixed (c := loopOf f92 11) (bs := []) (by kernel_rfl) allNil (by kernel_rfl)) (by kernel_rfl) (by kernel_rfl) impl_ElementsOf_at5_l11_eq (by rw [show firstId (loopOf f92 11) = 11 from by kernel_rfl]; exact h)
noncomputable def L41_at5_2 : Nat → Option LoopD := fun n => ifEq n 11 (some ⟨62, sh41_at5_11, xs41_at5_11, impl_ElementsOf_at5_l11⟩) (L41_at5_1 n)
def shi41_at5 : List Fm := [.cell (.val (.pair (.int .i64) (.pair (.sl (.int .i64)) (.pair (.sl (.int .i64)) (.sl (.pair (.int .i64) (.pair .str (.pair (.int .i64) (.int .i64))))))))), .fnv 93, d, d, d, d, d, d, d, d, d, d, d, d, d, d, d, d, d, d, d, d, d, d, d, d, d, d, d, d, d, d, d, d, d, d, d, d, d, d, d, d, d, d, d, d, d, d, d, d, d, d, d, d, d, d, d, d, d, d, d, d, d, d, d, d, d, d, d, d]
def sho41_at5 : List Fm := [d, d, d, d, d, .tup [.own (.pair (.pair (.int .i64) (.sl (.int .i64))) .str) 100501 false, .val .bool], d, d]
noncomputable def impl_ElementsOf_at5 : ((Int × ((List Int) × ((List Int) × (List (Int × (ByteArray × (Int × Int))))))) × Unit) → Option (((List ((Int × (List Int)) × ByteArray)) × Bool × Unit) × Unit) := fun ((v0_0, v0_1, v0_2, v0_3), _) =>
  Option.bind (impl_AutomatonValid (v0_0, v0_1, v0_2, v0_3)) fun r0 =>
    bif (!r0) then
      some (([], false, ()), ())
    else
      Option.bind (loopF impl_ElementsOf_at5_l5 ((v0_0, v0_1, v0_2, v0_3, ()), ([], true, ()), (List.take 2 (List.drop 0 [(⟨#[(97 : UInt8)]⟩ : ByteArray), (⟨#[(98 : UInt8)]⟩ : ByteArray)])), ((2 : Nat) : Int), (0 : Int), ())) fun ((r1, r2, _), _) =>
        Option.bind (loopF impl_ElementsOf_at5_l11 (((List.take (List.length r1) (List.drop 0 r1)), r2, ()), (0 : Int), ())) fun ((r3, r4, _), _) =>
          bif (!r4) then
            some (([], false, ()), ())
          else
            some (((List.take (List.length r3) (List.drop 0 r3)), true, ()), ())
theorem impl_ElementsOf_at5_eq : inlStep f92.ntmps 8 5 E41_at5 L41_at5_2 f92.results.toList (codeOf f92) shi41_at5 sho41_at5 = impl_ElementsOf_at5 := by kernel_rfl
noncomputable def I41_at5 : CallD := ⟨f92.ntmps, shi41_at5, 8, sho41_at5, impl_ElementsOf_at5⟩
theorem I41_at5_ok : InlOk prog 5 92 I41_at5 := inlOk_of (tysOk_of tyl_ok) E41_at5_ok (L := L41_at5_2) func92 (by kernel_rfl) (c := codeOf f92) (by kernel_rfl) (codeOk_in (L := L41_at5_2) (tysOk_of tyl_ok) E41_at5_ok mixed (c := codeOf f92) (bs := [loopOf f92 5, loopOf f92 11]) (by kernel_rfl) (allCons (loop41_at5_5 rfl) (allCons (loop41_at5_11 rfl) allNil)) (by kernel_rfl)) (by kernel_rfl) (by kernel_rfl) impl_ElementsOf_at5_eq
noncomputable def E41 : Env := ⟨ty0, fun g => ifEq g 27 (some A27) (ifEq g 12 (some A12) (ifEq g 135 (some A135) (ifEq g 136 (some A136) (ifEq g 94 (some A94) (ifEq g 96 (some A96) (none)))))), fun _ => none, fun _ => none, fun d => ifI (Nat.beq d 5) (some (92, I41_at5)) (none)⟩
theorem E41_ok : FnsOk prog E41 := (oneIl (d0 := 5) (g0 := 92) I41_at5_ok (oneFn A27_ok func27 (by kernel_rfl) (by kernel_rfl) (oneFn A12_ok func12 (by kernel_rfl) (by kernel_rfl) (oneFn A135_ok func135 (by kernel_rfl) (by kernel_rfl) (oneFn A136_ok func136 (by kernel_rfl) (by kernel_rfl) (oneFn A94_ok func94 (by kernel_rfl) (by kernel_rfl) (oneFn A96_ok func96 (by kernel_rfl) (by kernel_rfl) (noFns _ _))))))))
noncomputable def L41_0 : Nat → Option LoopD := fun _ => none
noncomputable def impl_ElementsOf : (Int × ((List Int) × ((List Int) × (List (Int × (ByteArray × (Int × Int))))))) → Option ((List ((Int × (List Int)) × ByteArray)) × Bool) := fun (a0_0, a0_1, a0_2, a0_3) =>
  Option.bind (impl_ElementsOf_at5 ((a0_0, a0_1, a0_2, a0_3), ())) fun ((r0, r1, _), _) =>
    some ((List.take (List.length r0) (List.drop 0 r0)), r1)
noncomputable def A41 : FnA := ⟨[.v (.pair (.int .i64) (.pair (.sl (.int .i64)) (.pair (.sl (.int .i64)) (.sl (.pair (.int .i64) (.pair .str (.pair (.int .i64) (.int .i64))))))))], true, [.sl (.pair (.pair (.int .i64) (.sl (.int .i64))) .str), .bool], fun x => impl_ElementsOf x.1⟩
theorem impl_ElementsOf_eq : fnF E41 L41_0 [.v (.pair (.int .i64) (.pair (.sl (.int .i64)) (.pair (.sl (.int .i64)) (.sl (.pair (.int .i64) (.pair .str (.pair (.int .i64) (.int .i64))))))))] true [.sl (.pair (.pair (.int .i64) (.sl (.int .i64))) .str), .bool] f41.ntmps f41.results.toList (codeOf f41) = fun x => impl_ElementsOf x.1 := by kernel_rfl
theorem A41_ok : FnOk prog 41 A41 := by
  have h := fnOk_of_run (P := prog) (E := E41) (tysOk_of tyl_ok) E41_ok (L := L41_0) (ps := [.v (.pair (.int .i64) (.pair (.sl (.int .i64)) (.pair (.sl (.int .i64)) (.sl (.pair (.int .i64) (.pair .str (.pair (.int .i64) (.int .i64))))))))]) (own := true) (outs := [.sl (.pair (.pair (.int .i64) (.sl (.int .i64))) .str), .bool]) func41 (c := codeOf f41) (by kernel_rfl) (codeOk_in (L := L41_0) (tysOk_of tyl_ok) E41_ok mixed (c := codeOf f41) (bs := []) (by kernel_rfl) allNil (by kernel_rfl))
  rw [impl_ElementsOf_eq] at h
  exact h
/-! impl.ExpressionFor -/
noncomputable def E10 : Env := ⟨ty0, fun g => ifEq g 41 (some A41) (ifEq g 49 (some A49) (none)), fun _ => none, fun _ => none, fun _ => none⟩
theorem E10_ok : FnsOk prog E10 := (oneFn A41_ok func41 (by kernel_rfl) (by kernel_rfl) (oneFn A49_ok func49 (by kernel_rfl) (by kernel_rfl) (noFns _ _)))
noncomputable def L10_0 : Nat → Option LoopD := fun _ => none
def sh10_3 : List Fm := [d, d, d, .box 100300 [.val (.int .i64), .val (.sl (.int .i64))], d, d, d, d, d, d, d, d, d, d, d, .cell (.own (.pair (.pair (.int .i64) (.sl (.int .i64))) .str) 101500 false), .cell (.val (.int .i64)), .cell (.val (.int .i64)), d, d, d, d, d, d, d, d, d, d]
def xs10_3 : List (Ex × List Fm) := [(.ret, [d, d, d, d, .cell (.val .str), .cell (.val .bool), d, d, d, d, d, d, d, d, d, d, d, d, d, d, d, d, d, d, d, d, d, d]), (.exit 0, [d, d, d, d, d, d, d, d, d, d, d, d, d, d, d, d, d, d, d, d, d, d, d, d, d, d, d, d])]
noncomputable def impl_ExpressionFor_l3 : ((Int × (List Int) × Unit) × (List ((Int × (List Int)) × ByteArray)) × Int × Int × Unit) → Option (((Int × (List Int) × Unit) × (List ((Int × (List Int)) × ByteArray)) × Int × Int × Unit) ⊕ ((ByteArray × Bool × Unit) ⊕ (Unit))) := fun ((v3_0, v3_1, _), v15, v16, v17, _) =>
  bif (decide (v17 < v16)) then
    if (((0 : Int) ≤ v17) ∧ (v17 < (((List.length v15) : Nat) : Int))) then
      Option.bind (impl_SameMatrix ((List.getD v15 (0 + (Int.toNat v17)) (((0 : Int), []), (⟨Array.empty⟩ : ByteArray))).1.1, (List.getD v15 (0 + (Int.toNat v17)) (((0 : Int), []), (⟨Array.empty⟩ : ByteArray))).1.2) (v3_0, v3_1)) fun r0 =>
        bif r0 then
          some (Sum.inr (Sum.inl ((List.getD v15 (0 + (Int.toNat v17)) (((0 : Int), []), (⟨Array.empty⟩ : ByteArray))).2, true, ())))
        else
          some (Sum.inl ((v3_0, v3_1, ()), (List.take (List.length v15) (List.drop 0 v15)), v16, (IntKind.wrap .i64 (v17 + (1 : Int))), ()))
    else
      none
  else
    some (Sum.inr (Sum.inr ()))
theorem impl_ExpressionFor_l3_eq : loopStep 28 E10 L10_0 (loopOf f10 3) sh10_3 xs10_3 = impl_ExpressionFor_l3 := by kernel_rfl
theorem loop10_3 {L : Nat → Option LoopD} (h : L 3 = some ⟨28, sh10_3, xs10_3, impl_ExpressionFor_l3⟩) : LoopOk prog L (loopOf f10 3) :=
  loopOk (tysOk_of tyl_ok) E10_ok (codeOk_in (L := L10_0) (tysOk_of tyl_ok) E10_ok mixed (c := loopOf f10 3) (bs := []) (by kernel_rfl) allNil (by kernel_rfl)) (by kernel_rfl) (by kernel_rfl) impl_ExpressionFor_l3_eq (by rw [show firstId (loopOf f10 3) = 3 from by kernel_rfl]; exact h)
noncomputable def L10_1 : Nat → Option LoopD := fun n => ifEq n 3 (some ⟨28, sh10_3, xs10_3, impl_ExpressionFor_l3⟩) (L10_0 n)
noncomputable def impl_ExpressionFor : (Int × ((List Int) × ((List Int) × (List (Int × (ByteArray × (Int × Int))))))) → (Int × (List Int)) → Option (ByteArray × Bool) := fun (a0_0, a0_1, a0_2, a0_3) (a1_0, a1_1) =>
  Option.bind (impl_ElementsOf (a0_0, a0_1, a0_2, a0_3)) fun (r0, r1) =>
    Option.bind (loopF impl_ExpressionFor_l3 ((a1_0, a1_1, ()), (List.take (List.length r0) (List.drop 0 r0)), (((List.length r0) : Nat) : Int), (0 : Int), ())) fun r2 =>
      (match r2 with
      | .inl (d3, d4, _) =>
          some (d3, d4)
      | .inr _ =>
          some ((⟨#[]⟩ : ByteArray), false))
noncomputable def A10 : FnA := ⟨[.v (.pair (.int .i64) (.pair (.sl (.int .i64)) (.pair (.sl (.int .i64)) (.sl (.pair (.int .i64) (.pair .str (.pair (.int .i64) (.int .i64)))))))), .v (.pair (.int .i64) (.sl (.int .i64)))], true, [.str, .bool], fun x => impl_ExpressionFor x.1 x.2.1⟩
theorem impl_ExpressionFor_eq : fnF E10 L10_1 [.v (.pair (.int .i64) (.pair (.sl (.int .i64)) (.pair (.sl (.int .i64)) (.sl (.pair (.int .i64) (.pair .str (.pair (.int .i64) (.int .i64)))))))), .v (.pair (.int .i64) (.sl (.int .i64)))] true [.str, .bool] f10.ntmps f10.results.toList (codeOf f10) = fun x => impl_ExpressionFor x.1 x.2.1 := by kernel_rfl
theorem A10_ok : FnOk prog 10 A10 := by
  have h := fnOk_of_run (P := prog) (E := E10) (tysOk_of tyl_ok) E10_ok (L := L10_1) (ps := [.v (.pair (.int .i64) (.pair (.sl (.int .i64)) (.pair (.sl (.int .i64)) (.sl (.pair (.int .i64) (.pair .str (.pair (.int .i64) (.int .i64)))))))), .v (.pair (.int .i64) (.sl (.int .i64)))]) (own := true) (outs := [.str, .bool]) func10 (c := codeOf f10) (by kernel_rfl) (codeOk_in (L := L10_1) (tysOk_of tyl_ok) E10_ok mixed (c := codeOf f10) (bs := [loopOf f10 3]) (by kernel_rfl) (allCons (loop10_3 rfl) allNil) (by kernel_rfl))
  rw [impl_ExpressionFor_eq] at h
  exact h
/-! spec.SameMatrix -/
noncomputable def E50 : Env := ⟨ty0, fun g => ifEq g 103 (some A103) (none), fun _ => none, fun _ => none, fun _ => none⟩
theorem E50_ok : FnsOk prog E50 := (oneFn A103_ok func103 (by kernel_rfl) (by kernel_rfl) (noFns _ _))
noncomputable def L50_0 : Nat → Option LoopD := fun _ => none
noncomputable def spec_SameMatrix : (Int × (List Int)) → (Int × (List Int)) → Option (Bool) := fun (a0_0, a0_1) (a1_0, a1_1) =>
  bif (a0_0 == a1_0) then
    Option.bind (spec_l2Same a0_1 a1_1) fun r0 =>
      some r0
  else
    some false
noncomputable def A50 : FnA := ⟨[.v (.pair (.int .i64) (.sl (.int .i64))), .v (.pair (.int .i64) (.sl (.int .i64)))], true, [.bool], fun x => spec_SameMatrix x.1 x.2.1⟩
theorem spec_SameMatrix_eq : fnF E50 L50_0 [.v (.pair (.int .i64) (.sl (.int .i64))), .v (.pair (.int .i64) (.sl (.int .i64)))] true [.bool] f50.ntmps f50.results.toList (codeOf f50) = fun x => spec_SameMatrix x.1 x.2.1 := by kernel_rfl
theorem A50_ok : FnOk prog 50 A50 := by
  have h := fnOk_of_run (P := prog) (E := E50) (tysOk_of tyl_ok) E50_ok (L := L50_0) (ps := [.v (.pair (.int .i64) (.sl (.int .i64))), .v (.pair (.int .i64) (.sl (.int .i64)))]) (own := true) (outs := [.bool]) func50 (c := codeOf f50) (by kernel_rfl) (codeOk_in (L := L50_0) (tysOk_of tyl_ok) E50_ok mixed (c := codeOf f50) (bs := []) (by kernel_rfl) allNil (by kernel_rfl))
  rw [spec_SameMatrix_eq] at h
  exact h
/-! spec.ExpressionFor -/
noncomputable def E11 : Env := ⟨ty0, fun g => ifEq g 40 (some A40) (ifEq g 50 (some A50) (none)), fun _ => none, fun _ => none, fun _ => none⟩
theorem E11_ok : FnsOk prog E11 := (oneFn A40_ok func40 (by kernel_rfl) (by kernel_rfl) (oneFn A50_ok func50 (by kernel_rfl) (by kernel_rfl) (noFns _ _)))
noncomputable def L11_0 : Nat → Option LoopD := fun _ => none
def sh11_3 : List Fm := [d, d, d, .box 100300 [.val (.int .i64), .val (.sl (.int .i64))], d, d, d, d, d, d, d, d, d, d, d, .cell (.own (.pair (.pair (.int .i64) (.sl (.int .i64))) .str) 101500 false), .cell (.val (.int .i64)), .cell (.val (.int .i64)), d, d, d, d, d, d, d, d, d, d]
def xs11_3 : List (Ex × List Fm) := [(.ret, [d, d, d, d, .cell (.val .str), .cell (.val .bool), d, d, d, d, d, d, d, d, d, d, d, d, d, d, d, d, d, d, d, d, d, d]), (.exit 0, [d, d, d, d, d, d, d, d, d, d, d, d, d, d, d, d, d, d, d, d, d, d, d, d, d, d, d, d])]
noncomputable def spec_ExpressionFor_l3 : ((Int × (List Int) × Unit) × (List ((Int × (List Int)) × ByteArray)) × Int × Int × Unit) → Option (((Int × (List Int) × Unit) × (List ((Int × (List Int)) × ByteArray)) × Int × Int × Unit) ⊕ ((ByteArray × Bool × Unit) ⊕ (Unit))) := fun ((v3_0, v3_1, _), v15, v16, v17, _) =>
  bif (decide (v17 < v16)) then
    if (((0 : Int) ≤ v17) ∧ (v17 < (((List.length v15) : Nat) : Int))) then
      Option.bind (spec_SameMatrix ((List.getD v15 (0 + (Int.toNat v17)) (((0 : Int), []), (⟨Array.empty⟩ : ByteArray))).1.1, (List.getD v15 (0 + (Int.toNat v17)) (((0 : Int), []), (⟨Array.empty⟩ : ByteArray))).1.2) (v3_0, v3_1)) fun r0 =>
        bif r0 then
          some (Sum.inr (Sum.inl ((List.getD v15 (0 + (Int.toNat v17)) (((0 : Int), []), (⟨Array.empty⟩ : ByteArray))).2, true, ())))
        else
          some (Sum.inl ((v3_0, v3_1, ()), (List.take (List.length v15) (List.drop 0 v15)), v16, (IntKind.wrap .i64 (v17 + (1 : Int))), ()))
    else
      none
  else
    some (Sum.inr (Sum.inr ()))
theorem spec_ExpressionFor_l3_eq : loopStep 28 E11 L11_0 (loopOf f11 3) sh11_3 xs11_3 = spec_ExpressionFor_l3 := by kernel_rfl
theorem loop11_3 {L : Nat → Option LoopD} (h : L 3 = some ⟨28, sh11_3, xs11_3, spec_ExpressionFor_l3⟩) : LoopOk prog L (loopOf f11 3) :=
  loopOk (tysOk_of tyl_ok) E11_ok (codeOk_in (L := L11_0) (tysOk_of tyl_ok) E11_ok mixed (c := loopOf f11 3) (bs := []) (by kernel_rfl) allNil (by kernel_rfl)) (by kernel_rfl) (by kernel_rfl) spec_ExpressionFor_l3_eq (by rw [show firstId (loopOf f11 3) = 3 from by kernel_rfl]; exact h)
noncomputable def L11_1 : Nat → Option LoopD := fun n => ifEq n 3 (some ⟨28, sh11_3, xs11_3, spec_ExpressionFor_l3⟩) (L11_0 n)
noncomputable def spec_ExpressionFor : (Int × ((List Int) × ((List Int) × (List (Int × (ByteArray × (Int × Int))))))) → (Int × (List Int)) → Option (ByteArray × Bool) := fun (a0_0, a0_1, a0_2, a0_3) (a1_0, a1_1) =>
  Option.bind (spec_ElementsOf (a0_0, a0_1, a0_2, a0_3)) fun (r0, r1) =>
    Option.bind (loopF spec_ExpressionFor_l3 ((a1_0, a1_1, ()), (List.take (List.length r0) (List.drop 0 r0)), (((List.length r0) : Nat) : Int), (0 : Int), ())) fun r2 =>
      (match r2 with
      | .inl (d3, d4, _) =>
          some (d3, d4)
      | .inr _ =>
          some ((⟨#[]⟩ : ByteArray), false))
noncomputable def A11 : FnA := ⟨[.v (.pair (.int .i64) (.pair (.sl (.int .i64)) (.pair (.sl (.int .i64)) (.sl (.pair (.int .i64) (.pair .str (.pair (.int .i64) (.int .i64)))))))), .v (.pair (.int .i64) (.sl (.int .i64)))], true, [.str, .bool], fun x => spec_ExpressionFor x.1 x.2.1⟩
theorem spec_ExpressionFor_eq : fnF E11 L11_1 [.v (.pair (.int .i64) (.pair (.sl (.int .i64)) (.pair (.sl (.int .i64)) (.sl (.pair (.int .i64) (.pair .str (.pair (.int .i64) (.int .i64)))))))), .v (.pair (.int .i64) (.sl (.int .i64)))] true [.str, .bool] f11.ntmps f11.results.toList (codeOf f11) = fun x => spec_ExpressionFor x.1 x.2.1 := by kernel_rfl
theorem A11_ok : FnOk prog 11 A11 := by
  have h := fnOk_of_run (P := prog) (E := E11) (tysOk_of tyl_ok) E11_ok (L := L11_1) (ps := [.v (.pair (.int .i64) (.pair (.sl (.int .i64)) (.pair (.sl (.int .i64)) (.sl (.pair (.int .i64) (.pair .str (.pair (.int .i64) (.int .i64)))))))), .v (.pair (.int .i64) (.sl (.int .i64)))]) (own := true) (outs := [.str, .bool]) func11 (c := codeOf f11) (by kernel_rfl) (codeOk_in (L := L11_1) (tysOk_of tyl_ok) E11_ok mixed (c := codeOf f11) (bs := [loopOf f11 3]) (by kernel_rfl) (allCons (loop11_3 rfl) allNil) (by kernel_rfl))
  rw [spec_ExpressionFor_eq] at h
  exact h
/-! spec.l7Draw -/
noncomputable def R107 (spec_l7Draw_rec : ((List Int) × Int) → Int → Option ((ByteArray) × (((List Int) × Int) × Unit))) : FnM := ⟨[.bx (.pair (.sl (.int .u8)) (.int .i64)), .v (.int .i64)], true, [.str], none, fun x => spec_l7Draw_rec x.1 x.2.1⟩
noncomputable def E107 (spec_l7Draw_rec : ((List Int) × Int) → Int → Option ((ByteArray) × (((List Int) × Int) × Unit))) : Env := ⟨ty0, fun _ => none, fun g => ifEq g 47 (some A47) (ifEq g 107 (some (R107 spec_l7Draw_rec)) (ifEq g 108 (some A108) (none))), fun _ => none, fun _ => none⟩
theorem E107_ok (spec_l7Draw_rec : ((List Int) × Int) → Int → Option ((ByteArray) × (((List Int) × Int) × Unit))) (hrec : FnMOk prog 107 (R107 spec_l7Draw_rec)) : FnsOk prog (E107 spec_l7Draw_rec) := (oneMs A47_ok (by kernel_rfl) func47 (by kernel_rfl) (by kernel_rfl) (oneMs hrec (by kernel_rfl) func107 (by kernel_rfl) (by kernel_rfl) (oneMs A108_ok (by kernel_rfl) func108 (by kernel_rfl) (by kernel_rfl) (noFns _ _))))
noncomputable def L107_0 (spec_l7Draw_rec : ((List Int) × Int) → Int → Option ((ByteArray) × (((List Int) × Int) × Unit))) : Nat → Option LoopD := fun _ => none
def sh107_3 : List Fm := [.box 200000 [.val (.sl (.int .u8)), .val (.int .i64)], .cell (.val (.int .i64)), d, d, d, .cell (.val .str), d, d, .cell (.val (.int .i64)), .cell (.val (.int .i64)), d, d, d, d, d, d, d, d, d, d, d, d, d, d, d, d, d, d, d, d, d, d, d]
def xs107_3 : List (Ex × List Fm) := [(.exit 0, [.box 200000 [.val (.sl (.int .u8)), .val (.int .i64)], d, d, d, d, .cell (.val .str), d, d, d, d, d, d, d, d, d, d, d, d, d, d, d, d, d, d, d, d, d, d, d, d, d, d, d])]
noncomputable def spec_l7Draw_l3 (spec_l7Draw_rec : ((List Int) × Int) → Int → Option ((ByteArray) × (((List Int) × Int) × Unit))) : (((List Int) × Int × Unit) × Int × ByteArray × Int × Int × Unit) → Option ((((List Int) × Int × Unit) × Int × ByteArray × Int × Int × Unit) ⊕ ((((List Int) × Int × Unit) × ByteArray × Unit))) := fun ((v0_0, v0_1, _), v1, v5, v8, v9, _) =>
  bif (decide (v9 < v8)) then
    bif (decide (v1 > (0 : Int))) then
      Option.bind (spec_l13Rd_pick (v0_0, v0_1) (3 : Int)) fun (r0, (r1, r2), _) =>
        bif (r0 == (0 : Int)) then
          if (((ByteArray.size v5) + (ByteArray.size (⟨#[(40 : UInt8)]⟩ : ByteArray))) ≤ 9223372036854775807) then
            Option.bind (spec_l7Draw_rec (r1, r2) (IntKind.wrap .i64 (v1 - (1 : Int)))) fun (r3, (r4, r5), _) =>
              if (((ByteArray.size (v5 ++ (⟨#[(40 : UInt8)]⟩ : ByteArray))) + (ByteArray.size r3)) ≤ 9223372036854775807) then
                if (((ByteArray.size ((v5 ++ (⟨#[(40 : UInt8)]⟩ : ByteArray)) ++ r3)) + (ByteArray.size (⟨#[(41 : UInt8), (35 : UInt8)]⟩ : ByteArray))) ≤ 9223372036854775807) then
                  some (Sum.inl ((r4, r5, ()), v1, (((v5 ++ (⟨#[(40 : UInt8)]⟩ : ByteArray)) ++ r3) ++ (⟨#[(41 : UInt8), (35 : UInt8)]⟩ : ByteArray)), v8, (IntKind.wrap .i64 (v9 + (1 : Int))), ()))
                else
                  none
              else
                none
          else
            none
        else
          Option.bind (spec_l13Rd_of (r1, r2) (List.take 2 (List.drop 0 [(⟨#[(97 : UInt8)]⟩ : ByteArray), (⟨#[(98 : UInt8)]⟩ : ByteArray)]))) fun (r6, (r7, r8), _) =>
            if (((ByteArray.size v5) + (ByteArray.size r6)) ≤ 9223372036854775807) then
              some (Sum.inl ((r7, r8, ()), v1, (v5 ++ r6), v8, (IntKind.wrap .i64 (v9 + (1 : Int))), ()))
            else
              none
    else
      Option.bind (spec_l13Rd_of (v0_0, v0_1) (List.take 2 (List.drop 0 [(⟨#[(97 : UInt8)]⟩ : ByteArray), (⟨#[(98 : UInt8)]⟩ : ByteArray)]))) fun (r9, (r10, r11), _) =>
        if (((ByteArray.size v5) + (ByteArray.size r9)) ≤ 9223372036854775807) then
          some (Sum.inl ((r10, r11, ()), v1, (v5 ++ r9), v8, (IntKind.wrap .i64 (v9 + (1 : Int))), ()))
        else
          none
  else
    some (Sum.inr ((v0_0, v0_1, ()), v5, ()))
theorem spec_l7Draw_l3_eq (spec_l7Draw_rec : ((List Int) × Int) → Int → Option ((ByteArray) × (((List Int) × Int) × Unit))) : loopStep 33 (E107 spec_l7Draw_rec) (L107_0 spec_l7Draw_rec) (loopOf f107 3) sh107_3 xs107_3 = (spec_l7Draw_l3 spec_l7Draw_rec) := by kernel_rfl
theorem loop107_3 (spec_l7Draw_rec : ((List Int) × Int) → Int → Option ((ByteArray) × (((List Int) × Int) × Unit))) (hrec : FnMOk prog 107 (R107 spec_l7Draw_rec)) {L : Nat → Option LoopD} (h : L 3 = some ⟨33, sh107_3, xs107_3, (spec_l7Draw_l3 spec_l7Draw_rec)⟩) : LoopOk prog L (loopOf f107 3) :=
  loopOk (tysOk_of tyl_ok) (E107_ok spec_l7Draw_rec hrec) (codeOk_in (L := (L107_0 spec_l7Draw_rec)) (tysOk_of tyl_ok) (E107_ok spec_l7Draw_rec hrec) mixed (c := loopOf f107 3) (bs := []) (by kernel_rfl) allNil (by kernel_rfl)) (by kernel_rfl) (by kernel_rfl) (spec_l7Draw_l3_eq spec_l7Draw_rec) (by rw [show firstId (loopOf f107 3) = 3 from by kernel_rfl]; exact h)
noncomputable def L107_1 (spec_l7Draw_rec : ((List Int) × Int) → Int → Option ((ByteArray) × (((List Int) × Int) × Unit))) : Nat → Option LoopD := fun n => ifEq n 3 (some ⟨33, sh107_3, xs107_3, (spec_l7Draw_l3 spec_l7Draw_rec)⟩) ((L107_0 spec_l7Draw_rec) n)
noncomputable def spec_l7Draw_step (spec_l7Draw_rec : ((List Int) × Int) → Int → Option ((ByteArray) × (((List Int) × Int) × Unit))) : ((List Int) × Int) → Int → Option ((ByteArray) × (((List Int) × Int) × Unit)) := fun (a0_0, a0_1) a1 =>
  Option.bind (spec_l13Rd_pick (a0_0, a0_1) (3 : Int)) fun (r0, (r1, r2), _) =>
    Option.bind (loopF (spec_l7Draw_l3 spec_l7Draw_rec) ((r1, r2, ()), a1, (⟨#[]⟩ : ByteArray), (IntKind.wrap .i64 ((1 : Int) + r0)), (0 : Int), ())) fun ((r3, r4, _), r5, _) =>
      some (r5, (r3, r4), ())
theorem spec_l7Draw_step_eq (spec_l7Draw_rec : ((List Int) × Int) → Int → Option ((ByteArray) × (((List Int) × Int) × Unit))) : fnMF (E107 spec_l7Draw_rec) (L107_1 spec_l7Draw_rec) [.bx (.pair (.sl (.int .u8)) (.int .i64)), .v (.int .i64)] true [.str] f107.ntmps f107.results.toList (codeOf f107) = fun x => (spec_l7Draw_step spec_l7Draw_rec) x.1 x.2.1 := by kernel_rfl
theorem spec_l7Draw_step_ok (spec_l7Draw_rec : ((List Int) × Int) → Int → Option ((ByteArray) × (((List Int) × Int) × Unit))) (hrec : FnMOk prog 107 (R107 spec_l7Draw_rec)) : FnMOk prog 107 ⟨[.bx (.pair (.sl (.int .u8)) (.int .i64)), .v (.int .i64)], true, [.str], none, fun x => (spec_l7Draw_step spec_l7Draw_rec) x.1 x.2.1⟩ := by
  have h := fnMOk_of_run (P := prog) (E := (E107 spec_l7Draw_rec)) (tysOk_of tyl_ok) (E107_ok spec_l7Draw_rec hrec) (L := (L107_1 spec_l7Draw_rec)) (ps := [.bx (.pair (.sl (.int .u8)) (.int .i64)), .v (.int .i64)]) (own := true) (outs := [.str]) func107 (c := codeOf f107) (by kernel_rfl) (codeOk_in (L := (L107_1 spec_l7Draw_rec)) (tysOk_of tyl_ok) (E107_ok spec_l7Draw_rec hrec) mixed (c := codeOf f107) (bs := [loopOf f107 3]) (by kernel_rfl) (allCons (loop107_3 spec_l7Draw_rec hrec rfl) allNil) (by kernel_rfl)) (by kernel_rfl)
  rw [(spec_l7Draw_step_eq spec_l7Draw_rec)] at h
  exact h
/-- so many calls within each other -/
noncomputable def spec_l7Draw_fuel : Nat → ((List Int) × Int) → Int → Option ((ByteArray) × (((List Int) × Int) × Unit))
  | 0 => fun _ _ => none
  | n + 1 => spec_l7Draw_step (spec_l7Draw_fuel n)
theorem spec_l7Draw_fuel_ok : ∀ n, FnMOk prog 107 (R107 (spec_l7Draw_fuel n))
  | 0 => fun xs r h => by cases h
  | n + 1 => spec_l7Draw_step_ok (spec_l7Draw_fuel n) (spec_l7Draw_fuel_ok n)
noncomputable def spec_l7Draw : ((List Int) × Int) → Int → Option ((ByteArray) × (((List Int) × Int) × Unit)) := spec_l7Draw_fuel 200
noncomputable def A107 : FnM := R107 spec_l7Draw
theorem A107_ok : FnMOk prog 107 A107 := spec_l7Draw_fuel_ok 200
/-! spec.l7Text -/
noncomputable def E53 : Env := ⟨ty0, fun _ => none, fun g => ifEq g 47 (some A47) (ifEq g 107 (some A107) (ifEq g 108 (some A108) (none))), fun _ => none, fun _ => none⟩
theorem E53_ok : FnsOk prog E53 := (oneMs A47_ok (by kernel_rfl) func47 (by kernel_rfl) (by kernel_rfl) (oneMs A107_ok (by kernel_rfl) func107 (by kernel_rfl) (by kernel_rfl) (oneMs A108_ok (by kernel_rfl) func108 (by kernel_rfl) (by kernel_rfl) (noFns _ _))))
noncomputable def L53_0 : Nat → Option LoopD := fun _ => none
noncomputable def spec_l7Text : ((List Int) × Int) → Option ((ByteArray) × (((List Int) × Int) × Unit)) := fun (a0_0, a0_1) =>
  Option.bind (spec_l13Rd_pick (a0_0, a0_1) (3 : Int)) fun (r0, (r1, r2), _) =>
    Option.bind (spec_l7Draw (r1, r2) r0) fun (r3, (r4, r5), _) =>
      Option.bind (spec_l13Rd_pick (r4, r5) (12 : Int)) fun (r6, (r7, r8), _) =>
        bif (decide (r6 > (0 : Int))) then
          some (r3, (r7, r8), ())
        else
          Option.bind (spec_l13Rd_pick (r7, r8) (((ByteArray.size r3) : Nat) : Int)) fun (r9, (r10, r11), _) =>
            if (((0 : Int) ≤ r9) ∧ (r9 ≤ (((ByteArray.size r3) : Nat) : Int))) then
              Option.bind (spec_l13Rd_of (r10, r11) (List.take 6 (List.drop 0 [(⟨#[]⟩ : ByteArray), (⟨#[(40 : UInt8)]⟩ : ByteArray), (⟨#[(41 : UInt8)]⟩ : ByteArray), (⟨#[(35 : UInt8)]⟩ : ByteArray), (⟨#[(41 : UInt8), (35 : UInt8)]⟩ : ByteArray), (⟨#[(99 : UInt8)]⟩ : ByteArray)]))) fun (r12, (r13, r14), _) =>
                if (((ByteArray.size (ByteArray.extract r3 0 (Int.toNat r9))) + (ByteArray.size r12)) ≤ 9223372036854775807) then
                  Option.bind (spec_l13Rd_pick (r13, r14) (2 : Int)) fun (r15, (r16, r17), _) =>
                    if (((0 : Int) ≤ (IntKind.wrap .i64 (r9 + r15))) ∧ ((IntKind.wrap .i64 (r9 + r15)) ≤ (((ByteArray.size r3) : Nat) : Int))) then
                      if (((ByteArray.size ((ByteArray.extract r3 0 (Int.toNat r9)) ++ r12)) + (ByteArray.size (ByteArray.extract r3 (Int.toNat (IntKind.wrap .i64 (r9 + r15))) (ByteArray.size r3)))) ≤ 9223372036854775807) then
                        some ((((ByteArray.extract r3 0 (Int.toNat r9)) ++ r12) ++ (ByteArray.extract r3 (Int.toNat (IntKind.wrap .i64 (r9 + r15))) (ByteArray.size r3))), (r16, r17), ())
                      else
                        none
                    else
                      none
                else
                  none
            else
              none
noncomputable def A53 : FnM := ⟨[.bx (.pair (.sl (.int .u8)) (.int .i64))], true, [.str], none, fun x => spec_l7Text x.1⟩
theorem spec_l7Text_eq : fnMF E53 L53_0 [.bx (.pair (.sl (.int .u8)) (.int .i64))] true [.str] f53.ntmps f53.results.toList (codeOf f53) = fun x => spec_l7Text x.1 := by kernel_rfl
theorem A53_ok : FnMOk prog 53 A53 := by
  have h := fnMOk_of_run (P := prog) (E := E53) (tysOk_of tyl_ok) E53_ok (L := L53_0) (ps := [.bx (.pair (.sl (.int .u8)) (.int .i64))]) (own := true) (outs := [.str]) func53 (c := codeOf f53) (by kernel_rfl) (codeOk_in (L := L53_0) (tysOk_of tyl_ok) E53_ok mixed (c := codeOf f53) (bs := []) (by kernel_rfl) allNil (by kernel_rfl)) (by kernel_rfl)
  rw [spec_l7Text_eq] at h
  exact h
/-! spec.DrawBoundOf -/
noncomputable def E13 : Env := ⟨ty0, fun _ => none, fun g => ifEq g 53 (some A53) (none), fun g => ifEq g 45 (some A45) (none), fun _ => none⟩
theorem E13_ok : FnsOk prog E13 := (oneBs A45_ok func45 (by kernel_rfl) (by kernel_rfl) (oneMs A53_ok (by kernel_rfl) func53 (by kernel_rfl) (by kernel_rfl) (noFns _ _)))
noncomputable def L13_0 : Nat → Option LoopD := fun _ => none
noncomputable def spec_DrawBoundOf : (List Int) → Option (ByteArray) := fun a0 =>
  Option.bind (spec_l13Open a0) fun (r0, r1) =>
    Option.bind (spec_l7Text (r0, r1)) fun (r2, (r3, r4), _) =>
      some r2
noncomputable def A13 : FnA := ⟨[.v (.sl (.int .u8))], true, [.str], fun x => spec_DrawBoundOf x.1⟩
theorem spec_DrawBoundOf_eq : fnF E13 L13_0 [.v (.sl (.int .u8))] true [.str] f13.ntmps f13.results.toList (codeOf f13) = fun x => spec_DrawBoundOf x.1 := by kernel_rfl
theorem A13_ok : FnOk prog 13 A13 := by
  have h := fnOk_of_run (P := prog) (E := E13) (tysOk_of tyl_ok) E13_ok (L := L13_0) (ps := [.v (.sl (.int .u8))]) (own := true) (outs := [.str]) func13 (c := codeOf f13) (by kernel_rfl) (codeOk_in (L := L13_0) (tysOk_of tyl_ok) E13_ok mixed (c := codeOf f13) (bs := []) (by kernel_rfl) allNil (by kernel_rfl))
  rw [spec_DrawBoundOf_eq] at h
  exact h
/-! laws.daSame -/
noncomputable def E28 : Env := ⟨ty0, fun _ => none, fun _ => none, fun _ => none, fun _ => none⟩
theorem E28_ok : FnsOk prog E28 := (noFns _ _)
noncomputable def L28_0 : Nat → Option LoopD := fun _ => none
def sh28_2 : List Fm := [.cell (.val (.sl (.int .i64))), .cell (.val (.sl (.int .i64))), d, d, d, d, d, d, d, d, .cell (.val (.int .i64)), .cell (.val (.int .i64)), d, d, d, d, d, d, d, d, d, d, d, d, d, d, d, d, d]
def xs28_2 : List (Ex × List Fm) := [(.ret, [d, d, d, d, .cell (.val .bool), d, d, d, d, d, d, d, d, d, d, d, d, d, d, d, d, d, d, d, d, d, d, d, d]), (.exit 0, [.cell (.val (.sl (.int .i64))), .cell (.val (.sl (.int .i64))), d, d, d, d, d, d, d, d, d, d, d, d, d, d, d, d, d, d, d, d, d, d, d, d, d, d, d])]
noncomputable def laws_daSame_l2 : ((List Int) × (List Int) × Int × Int × Unit) → Option (((List Int) × (List Int) × Int × Int × Unit) ⊕ ((Bool × Unit) ⊕ ((List Int) × (List Int) × Unit))) := fun (v0, v1, v10, v11, _) =>
  bif (decide (v11 < v10)) then
    if (((0 : Int) ≤ v11) ∧ (v11 < (((List.length v0) : Nat) : Int))) then
      if (((0 : Int) ≤ v11) ∧ (v11 < (((List.length v1) : Nat) : Int))) then
        bif ((List.getD v0 (Int.toNat v11) (0 : Int)) != (List.getD v1 (Int.toNat v11) (0 : Int))) then
          some (Sum.inr (Sum.inl (false, ())))
        else
          some (Sum.inl (v0, v1, v10, (IntKind.wrap .i64 (v11 + (1 : Int))), ()))
      else
        none
    else
      none
  else
    some (Sum.inr (Sum.inr (v0, v1, ())))
theorem laws_daSame_l2_eq : loopStep 29 E28 L28_0 (loopOf f28 2) sh28_2 xs28_2 = laws_daSame_l2 := by kernel_rfl
theorem loop28_2 {L : Nat → Option LoopD} (h : L 2 = some ⟨29, sh28_2, xs28_2, laws_daSame_l2⟩) : LoopOk prog L (loopOf f28 2) :=
  loopOk (tysOk_of tyl_ok) E28_ok (codeOk_in (L := L28_0) (tysOk_of tyl_ok) E28_ok mixed (c := loopOf f28 2) (bs := []) (by kernel_rfl) allNil (by kernel_rfl)) (by kernel_rfl) (by kernel_rfl) laws_daSame_l2_eq (by rw [show firstId (loopOf f28 2) = 2 from by kernel_rfl]; exact h)
noncomputable def L28_1 : Nat → Option LoopD := fun n => ifEq n 2 (some ⟨29, sh28_2, xs28_2, laws_daSame_l2⟩) (L28_0 n)
noncomputable def laws_daSame : (List Int) → (List Int) → Option (Bool) := fun a0 a1 =>
  Option.bind (loopF laws_daSame_l2 (a0, a1, (if ((((List.length a1) : Nat) : Int) < (((List.length a0) : Nat) : Int)) then (((List.length a1) : Nat) : Int) else (((List.length a0) : Nat) : Int)), (0 : Int), ())) fun r0 =>
    (match r0 with
    | .inl (d1, _) =>
        some d1
    | .inr (d2, d3, _) =>
        some ((((List.length d2) : Nat) : Int) == (((List.length d3) : Nat) : Int)))
noncomputable def A28 : FnA := ⟨[.v (.sl (.int .i64)), .v (.sl (.int .i64))], true, [.bool], fun x => laws_daSame x.1 x.2.1⟩
theorem laws_daSame_eq : fnF E28 L28_1 [.v (.sl (.int .i64)), .v (.sl (.int .i64))] true [.bool] f28.ntmps f28.results.toList (codeOf f28) = fun x => laws_daSame x.1 x.2.1 := by kernel_rfl
theorem A28_ok : FnOk prog 28 A28 := by
  have h := fnOk_of_run (P := prog) (E := E28) (tysOk_of tyl_ok) E28_ok (L := L28_1) (ps := [.v (.sl (.int .i64)), .v (.sl (.int .i64))]) (own := true) (outs := [.bool]) func28 (c := codeOf f28) (by kernel_rfl) (codeOk_in (L := L28_1) (tysOk_of tyl_ok) E28_ok mixed (c := codeOf f28) (bs := [loopOf f28 2]) (by kernel_rfl) (allCons (loop28_2 rfl) allNil) (by kernel_rfl))
  rw [laws_daSame_eq] at h
  exact h
/-! laws.daMatrix -/
noncomputable def E14 : Env := ⟨ty0, fun g => ifEq g 28 (some A28) (none), fun _ => none, fun _ => none, fun _ => none⟩
theorem E14_ok : FnsOk prog E14 := (oneFn A28_ok func28 (by kernel_rfl) (by kernel_rfl) (noFns _ _))
noncomputable def L14_0 : Nat → Option LoopD := fun _ => none
noncomputable def laws_daMatrix : (Int × (List Int)) → (Int × (List Int)) → Option (Bool) := fun (a0_0, a0_1) (a1_0, a1_1) =>
  bif (a0_0 == a1_0) then
    Option.bind (laws_daSame a0_1 a1_1) fun r0 =>
      some r0
  else
    some false
noncomputable def A14 : FnA := ⟨[.v (.pair (.int .i64) (.sl (.int .i64))), .v (.pair (.int .i64) (.sl (.int .i64)))], true, [.bool], fun x => laws_daMatrix x.1 x.2.1⟩
theorem laws_daMatrix_eq : fnF E14 L14_0 [.v (.pair (.int .i64) (.sl (.int .i64))), .v (.pair (.int .i64) (.sl (.int .i64)))] true [.bool] f14.ntmps f14.results.toList (codeOf f14) = fun x => laws_daMatrix x.1 x.2.1 := by kernel_rfl
theorem A14_ok : FnOk prog 14 A14 := by
  have h := fnOk_of_run (P := prog) (E := E14) (tysOk_of tyl_ok) E14_ok (L := L14_0) (ps := [.v (.pair (.int .i64) (.sl (.int .i64))), .v (.pair (.int .i64) (.sl (.int .i64)))]) (own := true) (outs := [.bool]) func14 (c := codeOf f14) (by kernel_rfl) (codeOk_in (L := L14_0) (tysOk_of tyl_ok) E14_ok mixed (c := codeOf f14) (bs := []) (by kernel_rfl) allNil (by kernel_rfl))
  rw [laws_daMatrix_eq] at h
  exact h
/-! laws.FnExpressionFor -/
noncomputable def E3 : Env := ⟨ty0, fun g => ifEq g 9 (some A9) (ifEq g 10 (some A10) (ifEq g 11 (some A11) (ifEq g 12 (some A12) (ifEq g 13 (some A13) (ifEq g 14 (some A14) (none)))))), fun _ => none, fun _ => none, fun _ => none⟩
theorem E3_ok : FnsOk prog E3 := (oneFn A9_ok func9 (by kernel_rfl) (by kernel_rfl) (oneFn A10_ok func10 (by kernel_rfl) (by kernel_rfl) (oneFn A11_ok func11 (by kernel_rfl) (by kernel_rfl) (oneFn A12_ok func12 (by kernel_rfl) (by kernel_rfl) (oneFn A13_ok func13 (by kernel_rfl) (by kernel_rfl) (oneFn A14_ok func14 (by kernel_rfl) (by kernel_rfl) (noFns _ _)))))))
noncomputable def L3_0 : Nat → Option LoopD := fun _ => none
noncomputable def laws_FnExpressionFor : (List Int) → (List Int) → Option (Bool) := fun a0 a1 =>
  bif (decide ((((List.length a0) : Nat) : Int) > (1048576 : Int))) then
    some true
  else
    bif (decide ((((List.length a1) : Nat) : Int) > (1048576 : Int))) then
      some true
    else
      Option.bind (spec_DrawExpressionFor a0) fun ((r0, r1, r2, r3), r4, r5) =>
        Option.bind (impl_ExpressionFor (r0, r1, r2, r3) (r4, r5)) fun (r6, r7) =>
          Option.bind (spec_ExpressionFor (r0, r1, r2, r3) (r4, r5)) fun (r8, r9) =>
            bif (!((ByteArray.toList r6) == (ByteArray.toList r8))) then
              bif ((ByteArray.toList r6) == (ByteArray.toList r8)) then
                bif (r7 == r9) then
                  some ((ByteArray.toList r6) == (ByteArray.toList (⟨#[]⟩ : ByteArray)))
                else
                  some false
              else
                some false
            else
              bif (!(r7 == r9)) then
                bif ((ByteArray.toList r6) == (ByteArray.toList r8)) then
                  bif (r7 == r9) then
                    some ((ByteArray.toList r6) == (ByteArray.toList (⟨#[]⟩ : ByteArray)))
                  else
                    some false
                else
                  some false
              else
                bif (!r7) then
                  bif ((ByteArray.toList r6) == (ByteArray.toList r8)) then
                    bif (r7 == r9) then
                      some ((ByteArray.toList r6) == (ByteArray.toList (⟨#[]⟩ : ByteArray)))
                    else
                      some false
                  else
                    some false
                else
                  Option.bind (impl_ValueOf (r0, r1, r2, r3) r6) fun ((r10, r11), r12) =>
                    Option.bind (spec_DrawBoundOf a1) fun r13 =>
                      Option.bind (impl_ValueOf (r0, r1, r2, r3) r13) fun ((r14, r15), r16) =>
                        Option.bind (impl_ExpressionFor (r0, r1, r2, r3) (r14, (List.take (List.length r15) (List.drop 0 r15)))) fun (r17, r18) =>
                          Option.bind (impl_ValueOf (r0, r1, r2, r3) r17) fun ((r19, r20), r21) =>
                            bif r12 then
                              Option.bind (laws_daMatrix (r10, (List.take (List.length r11) (List.drop 0 r11))) (r4, r5)) fun r22 =>
                                bif r22 then
                                  bif (!r16) then
                                    some true
                                  else
                                    bif r18 then
                                      Option.bind (laws_daMatrix (r19, (List.take (List.length r20) (List.drop 0 r20))) (r14, (List.take (List.length r15) (List.drop 0 r15)))) fun r23 =>
                                        some r23
                                    else
                                      some false
                                else
                                  some false
                            else
                              some false
noncomputable def A3 : FnA := ⟨[.v (.sl (.int .u8)), .v (.sl (.int .u8))], true, [.bool], fun x => laws_FnExpressionFor x.1 x.2.1⟩
theorem laws_FnExpressionFor_eq : fnF E3 L3_0 [.v (.sl (.int .u8)), .v (.sl (.int .u8))] true [.bool] f3.ntmps f3.results.toList (codeOf f3) = fun x => laws_FnExpressionFor x.1 x.2.1 := by kernel_rfl
theorem A3_ok : FnOk prog 3 A3 := by
  have h := fnOk_of_run (P := prog) (E := E3) (tysOk_of tyl_ok) E3_ok (L := L3_0) (ps := [.v (.sl (.int .u8)), .v (.sl (.int .u8))]) (own := true) (outs := [.bool]) func3 (c := codeOf f3) (by kernel_rfl) (codeOk_in (L := L3_0) (tysOk_of tyl_ok) E3_ok mixed (c := codeOf f3) (bs := []) (by kernel_rfl) allNil (by kernel_rfl))
  rw [laws_FnExpressionFor_eq] at h
  exact h
end Go.Proofs.Ytbmlleocidldpaa
