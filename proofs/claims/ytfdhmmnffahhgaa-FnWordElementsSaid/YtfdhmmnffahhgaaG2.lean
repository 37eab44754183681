/- What Go functions that the laws reach compute, and that they do: written by a program of this session. -/
import Derived.Test.YtfdhmmnffahhgaaG1
import Derived.KernelRfl
set_option linter.unusedVariables false
namespace Go.Proofs.Ytfdhmmnffahhgaa
open Go Go.Proofs.Ytfdhmmnffahhgaa.Am Go.Proofs.Try
set_option maxRecDepth 100000
/-! impl.ElementsOf -/
noncomputable def E13_at5_at32 : Env := ⟨ty0, fun g => ifEq g 21 (some A21) (ifEq g 33 (some A33) (ifEq g 79 (some A79) (ifEq g 80 (some A80) (ifEq g 48 (some A48) (ifEq g 34 (some A34) (none)))))), fun _ => none, fun _ => none, fun _ => none⟩
theorem E13_at5_at32_ok : FnsOk prog E13_at5_at32 := (oF A21_ok func21 (oF A33_ok func33 (oF A79_ok func79 (oF A80_ok func80 (oF A48_ok func48 (oF A34_ok func34 (noFns _ _)))))))
noncomputable def L13_at5_at32_0 : Nat → Option LoopD := fun _ => none
def shi13_at5_at32 : List Fm := .box 100000 [.own (.pair (.pair (.int .i64) (.sl (.int .i64))) .str) 100001 false, .val .bool] :: .agg [.val (.int .i64), .own (.int .i64) 100102 false] :: .cell (.val .str) :: D 36 (.fnv 47 [] :: .box 104000 [.val (.int .i64), .val (.sl (.int .i64)), .val (.sl (.int .i64)), .val (.sl (.pair (.int .i64) (.pair .str (.pair (.int .i64) (.int .i64)))))] :: d :: d :: d :: .ali 100000 0 :: D 10 (.cell (.own .str 105500 false) :: .cell (.val (.int .i64)) :: .cell (.val (.int .i64)) :: D 50 []))
def sho13_at5_at32 : List Fm := d :: .fnv 47 [] :: .box 100200 [.val (.int .i64), .val (.sl (.int .i64)), .val (.sl (.int .i64)), .val (.sl (.pair (.int .i64) (.pair .str (.pair (.int .i64) (.int .i64)))))] :: d :: d :: d :: .box 100600 [.own (.pair (.pair (.int .i64) (.sl (.int .i64))) .str) 100601 false, .val .bool] :: D 10 (.cell (.own .str 101700 false) :: .cell (.val (.int .i64)) :: .cell (.val (.int .i64)) :: D 50 [])
noncomputable def impl_ElementsOf_at5_at32 : (((List ((Int × (List Int)) × ByteArray)) × Bool × Unit) × (Int × (List Int) × Unit) × ByteArray × (Int × (List Int) × (List Int) × (List (Int × (ByteArray × (Int × Int)))) × Unit) × (List ByteArray) × Int × Int × Unit) → Option ((Int × (List Int) × (List Int) × (List (Int × (ByteArray × (Int × Int)))) × Unit) × ((List ((Int × (List Int)) × ByteArray)) × Bool × Unit) × (List ByteArray) × Int × Int × Unit) := fun ((v0_0, v0_1, _), (v1_0, v1_1, _), v2, (v40_0, v40_1, v40_2, v40_3, _), v55, v56, v57, _) =>
 Option.bind (slices_ContainsFunc_Element (List.take (List.length v0_0) (List.drop 0 v0_0)) (fun y0 => (impl_found_put_1 y0.1 (v1_0, (List.take (List.length v1_1) (List.drop 0 v1_1)))))) fun r1 =>
  bif r1 then
   some ((v40_0, v40_1, v40_2, v40_3, ()), ((List.take (List.length v0_0) (List.drop 0 v0_0)), v0_1, ()), (List.take (List.length v55) (List.drop 0 v55)), v56, v57, ())
  else
   bif (decide ((((List.length v0_0) : Nat) : Int) ≥ (120 : Int))) then
    some ((v40_0, v40_1, v40_2, v40_3, ()), ((List.take (List.length v0_0) (List.drop 0 v0_0)), false, ()), (List.take (List.length v55) (List.drop 0 v55)), v56, v57, ())
   else
    bif (decide ((((ByteArray.size v2) : Nat) : Int) > (120 : Int))) then
     some ((v40_0, v40_1, v40_2, v40_3, ()), ((List.take (List.length v0_0) (List.drop 0 v0_0)), false, ()), (List.take (List.length v55) (List.drop 0 v55)), v56, v57, ())
    else
     if (((0 + (List.length v0_0)) = (List.length v0_0)) ∧ ((((List.length v0_0) + (List.length (List.take 1 (List.drop 0 [((v1_0, (List.take (List.length v1_1) (List.drop 0 v1_1))), v2)])))) * 48) ≤ 140737488355328)) then
      some ((v40_0, v40_1, v40_2, v40_3, ()), ((List.take ((List.length v0_0) + (List.length (List.take 1 (List.drop 0 [((v1_0, (List.take (List.length v1_1) (List.drop 0 v1_1))), v2)])))) (List.drop 0 ((List.drop 0 v0_0) ++ (List.take 1 (List.drop 0 [((v1_0, (List.take (List.length v1_1) (List.drop 0 v1_1))), v2)]))))), v0_1, ()), (List.take (List.length v55) (List.drop 0 v55)), v56, v57, ())
     else
      none
theorem impl_ElementsOf_at5_at32_eq : inlStep f35.ntmps 62 32 E13_at5_at32 L13_at5_at32_0 f35.results.toList (codeOf f35) shi13_at5_at32 sho13_at5_at32 = impl_ElementsOf_at5_at32 := by kernel_rfl
noncomputable def I13_at5_at32 : CallD := ⟨f35.ntmps, shi13_at5_at32, 62, sho13_at5_at32, impl_ElementsOf_at5_at32, 0⟩
theorem I13_at5_at32_ok : InlOk prog 32 35 I13_at5_at32 := inlOk_of (tysOk_of tyl_ok) E13_at5_at32_ok (L := L13_at5_at32_0) func35 (by kernel_rfl) (c := codeOf f35) (by kernel_rfl) (codeOk_in (L := L13_at5_at32_0) (tysOk_of tyl_ok) E13_at5_at32_ok mixed (c := codeOf f35) (bs := []) (by kernel_rfl) allNil (by kernel_rfl)) (by kernel_rfl) (by kernel_rfl) impl_ElementsOf_at5_at32_eq
noncomputable def E13_at5_at52_at31 : Env := ⟨ty0, fun g => ifEq g 21 (some A21) (ifEq g 33 (some A33) (ifEq g 79 (some A79) (ifEq g 80 (some A80) (ifEq g 48 (some A48) (ifEq g 34 (some A34) (none)))))), fun _ => none, fun _ => none, fun _ => none⟩
theorem E13_at5_at52_at31_ok : FnsOk prog E13_at5_at52_at31 := (oF A21_ok func21 (oF A33_ok func33 (oF A79_ok func79 (oF A80_ok func80 (oF A48_ok func48 (oF A34_ok func34 (noFns _ _)))))))
noncomputable def L13_at5_at52_at31_0 : Nat → Option LoopD := fun _ => none
def shi13_at5_at52_at31 : List Fm := .box 100000 [.own (.pair (.pair (.int .i64) (.sl (.int .i64))) .str) 100001 false, .val .bool] :: .agg [.val (.int .i64), .own (.int .i64) 100102 false] :: .cell (.val .str) :: D 35 (.ali 100000 0 :: .cell (.val (.int .i64)) :: d :: d :: .box 104200 [.val (.int .i64), .val (.sl (.int .i64)), .val .str] :: D 78 (.fnv 47 [] :: D 4 (.ali 100000 0 :: D 4 (.cell (.val (.int .i64)) :: D 58 []))))
def sho13_at5_at52_at31 : List Fm := .box 100000 [.own (.pair (.pair (.int .i64) (.sl (.int .i64))) .str) 100001 false, .val .bool] :: .cell (.val (.int .i64)) :: d :: d :: .box 100400 [.val (.int .i64), .val (.sl (.int .i64)), .val .str] :: D 78 (.fnv 47 [] :: D 4 (.ali 100000 0 :: D 4 (.cell (.val (.int .i64)) :: D 58 [])))
noncomputable def impl_ElementsOf_at5_at52_at31 : (((List ((Int × (List Int)) × ByteArray)) × Bool × Unit) × (Int × (List Int) × Unit) × ByteArray × Int × (Int × (List Int) × ByteArray × Unit) × Int × Unit) → Option (((List ((Int × (List Int)) × ByteArray)) × Bool × Unit) × Int × (Int × (List Int) × ByteArray × Unit) × Int × Unit) := fun ((v0_0, v0_1, _), (v1_0, v1_1, _), v2, v39, (v42_0, v42_1, v42_2, _), v131, _) =>
 Option.bind (slices_ContainsFunc_Element (List.take (List.length v0_0) (List.drop 0 v0_0)) (fun y0 => (impl_found_put_1 y0.1 (v1_0, (List.take (List.length v1_1) (List.drop 0 v1_1)))))) fun r1 =>
  bif r1 then
   some (((List.take (List.length v0_0) (List.drop 0 v0_0)), v0_1, ()), v39, (v42_0, v42_1, v42_2, ()), v131, ())
  else
   bif (decide ((((List.length v0_0) : Nat) : Int) ≥ (120 : Int))) then
    some (((List.take (List.length v0_0) (List.drop 0 v0_0)), false, ()), v39, (v42_0, v42_1, v42_2, ()), v131, ())
   else
    bif (decide ((((ByteArray.size v2) : Nat) : Int) > (120 : Int))) then
     some (((List.take (List.length v0_0) (List.drop 0 v0_0)), false, ()), v39, (v42_0, v42_1, v42_2, ()), v131, ())
    else
     if (((0 + (List.length v0_0)) = (List.length v0_0)) ∧ ((((List.length v0_0) + (List.length (List.take 1 (List.drop 0 [((v1_0, (List.take (List.length v1_1) (List.drop 0 v1_1))), v2)])))) * 48) ≤ 140737488355328)) then
      some (((List.take ((List.length v0_0) + (List.length (List.take 1 (List.drop 0 [((v1_0, (List.take (List.length v1_1) (List.drop 0 v1_1))), v2)])))) (List.drop 0 ((List.drop 0 v0_0) ++ (List.take 1 (List.drop 0 [((v1_0, (List.take (List.length v1_1) (List.drop 0 v1_1))), v2)]))))), v0_1, ()), v39, (v42_0, v42_1, v42_2, ()), v131, ())
     else
      none
theorem impl_ElementsOf_at5_at52_at31_eq : inlStep f35.ntmps 82 31 E13_at5_at52_at31 L13_at5_at52_at31_0 f35.results.toList (codeOf f35) shi13_at5_at52_at31 sho13_at5_at52_at31 = impl_ElementsOf_at5_at52_at31 := by kernel_rfl
noncomputable def I13_at5_at52_at31 : CallD := ⟨f35.ntmps, shi13_at5_at52_at31, 82, sho13_at5_at52_at31, impl_ElementsOf_at5_at52_at31, 0⟩
theorem I13_at5_at52_at31_ok : InlOk prog 31 35 I13_at5_at52_at31 := inlOk_of (tysOk_of tyl_ok) E13_at5_at52_at31_ok (L := L13_at5_at52_at31_0) func35 (by kernel_rfl) (c := codeOf f35) (by kernel_rfl) (codeOk_in (L := L13_at5_at52_at31_0) (tysOk_of tyl_ok) E13_at5_at52_at31_ok mixed (c := codeOf f35) (bs := []) (by kernel_rfl) allNil (by kernel_rfl)) (by kernel_rfl) (by kernel_rfl) impl_ElementsOf_at5_at52_at31_eq
noncomputable def E13_at5_at52_at65 : Env := ⟨ty0, fun g => ifEq g 21 (some A21) (ifEq g 33 (some A33) (ifEq g 79 (some A79) (ifEq g 80 (some A80) (ifEq g 48 (some A48) (ifEq g 34 (some A34) (none)))))), fun _ => none, fun _ => none, fun _ => none⟩
theorem E13_at5_at52_at65_ok : FnsOk prog E13_at5_at52_at65 := (oF A21_ok func21 (oF A33_ok func33 (oF A79_ok func79 (oF A80_ok func80 (oF A48_ok func48 (oF A34_ok func34 (noFns _ _)))))))
noncomputable def L13_at5_at52_at65_0 : Nat → Option LoopD := fun _ => none
def shi13_at5_at52_at65 : List Fm := .box 100000 [.own (.pair (.pair (.int .i64) (.sl (.int .i64))) .str) 100001 false, .val .bool] :: .cell (.val (.pair (.int .i64) (.sl (.int .i64)))) :: .cell (.val .str) :: D 35 (.ali 100000 0 :: .cell (.val (.int .i64)) :: d :: d :: .box 104200 [.val (.int .i64), .val (.sl (.int .i64)), .val .str] :: d :: d :: .cell (.val (.int .i64)) :: .box 104600 [.val (.int .i64), .val (.sl (.int .i64)), .val .str] :: .box 104700 [.val (.int .i64), .val (.sl (.int .i64))] :: D 73 (.fnv 47 [] :: D 4 (.ali 100000 0 :: D 4 (.cell (.val (.int .i64)) :: D 58 []))))
def sho13_at5_at52_at65 : List Fm := .box 100000 [.own (.pair (.pair (.int .i64) (.sl (.int .i64))) .str) 100001 false, .val .bool] :: .cell (.val (.int .i64)) :: d :: d :: .box 100400 [.val (.int .i64), .val (.sl (.int .i64)), .val .str] :: d :: d :: .cell (.val (.int .i64)) :: .box 100800 [.val (.int .i64), .val (.sl (.int .i64)), .val .str] :: .box 100900 [.val (.int .i64), .val (.sl (.int .i64))] :: D 73 (.fnv 47 [] :: D 4 (.ali 100000 0 :: D 4 (.cell (.val (.int .i64)) :: D 58 [])))
noncomputable def impl_ElementsOf_at5_at52_at65 : (((List ((Int × (List Int)) × ByteArray)) × Bool × Unit) × (Int × (List Int)) × ByteArray × Int × (Int × (List Int) × ByteArray × Unit) × Int × (Int × (List Int) × ByteArray × Unit) × (Int × (List Int) × Unit) × Int × Unit) → Option (((List ((Int × (List Int)) × ByteArray)) × Bool × Unit) × Int × (Int × (List Int) × ByteArray × Unit) × Int × (Int × (List Int) × ByteArray × Unit) × (Int × (List Int) × Unit) × Int × Unit) := fun ((v0_0, v0_1, _), (v1_0, v1_1), v2, v39, (v42_0, v42_1, v42_2, _), v45, (v46_0, v46_1, v46_2, _), (v47_0, v47_1, _), v131, _) =>
 Option.bind (slices_ContainsFunc_Element (List.take (List.length v0_0) (List.drop 0 v0_0)) (fun y0 => (impl_found_put_1 y0.1 (v1_0, v1_1)))) fun r1 =>
  bif r1 then
   some (((List.take (List.length v0_0) (List.drop 0 v0_0)), v0_1, ()), v39, (v42_0, v42_1, v42_2, ()), v45, (v46_0, v46_1, v46_2, ()), (v47_0, v47_1, ()), v131, ())
  else
   bif (decide ((((List.length v0_0) : Nat) : Int) ≥ (120 : Int))) then
    some (((List.take (List.length v0_0) (List.drop 0 v0_0)), false, ()), v39, (v42_0, v42_1, v42_2, ()), v45, (v46_0, v46_1, v46_2, ()), (v47_0, v47_1, ()), v131, ())
   else
    bif (decide ((((ByteArray.size v2) : Nat) : Int) > (120 : Int))) then
     some (((List.take (List.length v0_0) (List.drop 0 v0_0)), false, ()), v39, (v42_0, v42_1, v42_2, ()), v45, (v46_0, v46_1, v46_2, ()), (v47_0, v47_1, ()), v131, ())
    else
     if (((0 + (List.length v0_0)) = (List.length v0_0)) ∧ ((((List.length v0_0) + (List.length (List.take 1 (List.drop 0 [((v1_0, v1_1), v2)])))) * 48) ≤ 140737488355328)) then
      some (((List.take ((List.length v0_0) + (List.length (List.take 1 (List.drop 0 [((v1_0, v1_1), v2)])))) (List.drop 0 ((List.drop 0 v0_0) ++ (List.take 1 (List.drop 0 [((v1_0, v1_1), v2)]))))), v0_1, ()), v39, (v42_0, v42_1, v42_2, ()), v45, (v46_0, v46_1, v46_2, ()), (v47_0, v47_1, ()), v131, ())
     else
      none
theorem impl_ElementsOf_at5_at52_at65_eq : inlStep f35.ntmps 82 65 E13_at5_at52_at65 L13_at5_at52_at65_0 f35.results.toList (codeOf f35) shi13_at5_at52_at65 sho13_at5_at52_at65 = impl_ElementsOf_at5_at52_at65 := by kernel_rfl
noncomputable def I13_at5_at52_at65 : CallD := ⟨f35.ntmps, shi13_at5_at52_at65, 82, sho13_at5_at52_at65, impl_ElementsOf_at5_at52_at65, 0⟩
theorem I13_at5_at52_at65_ok : InlOk prog 65 35 I13_at5_at52_at65 := inlOk_of (tysOk_of tyl_ok) E13_at5_at52_at65_ok (L := L13_at5_at52_at65_0) func35 (by kernel_rfl) (c := codeOf f35) (by kernel_rfl) (codeOk_in (L := L13_at5_at52_at65_0) (tysOk_of tyl_ok) E13_at5_at52_at65_ok mixed (c := codeOf f35) (bs := []) (by kernel_rfl) allNil (by kernel_rfl)) (by kernel_rfl) (by kernel_rfl) impl_ElementsOf_at5_at52_at65_eq
noncomputable def E13_at5_at52_at81 : Env := ⟨ty0, fun g => ifEq g 21 (some A21) (ifEq g 33 (some A33) (ifEq g 79 (some A79) (ifEq g 80 (some A80) (ifEq g 48 (some A48) (ifEq g 34 (some A34) (none)))))), fun _ => none, fun _ => none, fun _ => none⟩
theorem E13_at5_at52_at81_ok : FnsOk prog E13_at5_at52_at81 := (oF A21_ok func21 (oF A33_ok func33 (oF A79_ok func79 (oF A80_ok func80 (oF A48_ok func48 (oF A34_ok func34 (noFns _ _)))))))
noncomputable def L13_at5_at52_at81_0 : Nat → Option LoopD := fun _ => none
def shi13_at5_at52_at81 : List Fm := .box 100000 [.own (.pair (.pair (.int .i64) (.sl (.int .i64))) .str) 100001 false, .val .bool] :: .agg [.val (.int .i64), .own (.int .i64) 100102 false] :: .cell (.val .str) :: D 35 (.ali 100000 0 :: .cell (.val (.int .i64)) :: d :: d :: .box 104200 [.val (.int .i64), .val (.sl (.int .i64)), .val .str] :: d :: d :: .cell (.val (.int .i64)) :: D 75 (.fnv 47 [] :: D 4 (.ali 100000 0 :: D 4 (.cell (.val (.int .i64)) :: D 58 []))))
def sho13_at5_at52_at81 : List Fm := .box 100000 [.own (.pair (.pair (.int .i64) (.sl (.int .i64))) .str) 100001 false, .val .bool] :: .cell (.val (.int .i64)) :: d :: d :: .box 100400 [.val (.int .i64), .val (.sl (.int .i64)), .val .str] :: d :: d :: .cell (.val (.int .i64)) :: D 75 (.fnv 47 [] :: D 4 (.ali 100000 0 :: D 4 (.cell (.val (.int .i64)) :: D 58 [])))
noncomputable def impl_ElementsOf_at5_at52_at81 : (((List ((Int × (List Int)) × ByteArray)) × Bool × Unit) × (Int × (List Int) × Unit) × ByteArray × Int × (Int × (List Int) × ByteArray × Unit) × Int × Int × Unit) → Option (((List ((Int × (List Int)) × ByteArray)) × Bool × Unit) × Int × (Int × (List Int) × ByteArray × Unit) × Int × Int × Unit) := fun ((v0_0, v0_1, _), (v1_0, v1_1, _), v2, v39, (v42_0, v42_1, v42_2, _), v45, v131, _) =>
 Option.bind (slices_ContainsFunc_Element (List.take (List.length v0_0) (List.drop 0 v0_0)) (fun y0 => (impl_found_put_1 y0.1 (v1_0, (List.take (List.length v1_1) (List.drop 0 v1_1)))))) fun r1 =>
  bif r1 then
   some (((List.take (List.length v0_0) (List.drop 0 v0_0)), v0_1, ()), v39, (v42_0, v42_1, v42_2, ()), v45, v131, ())
  else
   bif (decide ((((List.length v0_0) : Nat) : Int) ≥ (120 : Int))) then
    some (((List.take (List.length v0_0) (List.drop 0 v0_0)), false, ()), v39, (v42_0, v42_1, v42_2, ()), v45, v131, ())
   else
    bif (decide ((((ByteArray.size v2) : Nat) : Int) > (120 : Int))) then
     some (((List.take (List.length v0_0) (List.drop 0 v0_0)), false, ()), v39, (v42_0, v42_1, v42_2, ()), v45, v131, ())
    else
     if (((0 + (List.length v0_0)) = (List.length v0_0)) ∧ ((((List.length v0_0) + (List.length (List.take 1 (List.drop 0 [((v1_0, (List.take (List.length v1_1) (List.drop 0 v1_1))), v2)])))) * 48) ≤ 140737488355328)) then
      some (((List.take ((List.length v0_0) + (List.length (List.take 1 (List.drop 0 [((v1_0, (List.take (List.length v1_1) (List.drop 0 v1_1))), v2)])))) (List.drop 0 ((List.drop 0 v0_0) ++ (List.take 1 (List.drop 0 [((v1_0, (List.take (List.length v1_1) (List.drop 0 v1_1))), v2)]))))), v0_1, ()), v39, (v42_0, v42_1, v42_2, ()), v45, v131, ())
     else
      none
theorem impl_ElementsOf_at5_at52_at81_eq : inlStep f35.ntmps 82 81 E13_at5_at52_at81 L13_at5_at52_at81_0 f35.results.toList (codeOf f35) shi13_at5_at52_at81 sho13_at5_at52_at81 = impl_ElementsOf_at5_at52_at81 := by kernel_rfl
noncomputable def I13_at5_at52_at81 : CallD := ⟨f35.ntmps, shi13_at5_at52_at81, 82, sho13_at5_at52_at81, impl_ElementsOf_at5_at52_at81, 0⟩
theorem I13_at5_at52_at81_ok : InlOk prog 81 35 I13_at5_at52_at81 := inlOk_of (tysOk_of tyl_ok) E13_at5_at52_at81_ok (L := L13_at5_at52_at81_0) func35 (by kernel_rfl) (c := codeOf f35) (by kernel_rfl) (codeOk_in (L := L13_at5_at52_at81_0) (tysOk_of tyl_ok) E13_at5_at52_at81_ok mixed (c := codeOf f35) (bs := []) (by kernel_rfl) allNil (by kernel_rfl)) (by kernel_rfl) (by kernel_rfl) impl_ElementsOf_at5_at52_at81_eq
noncomputable def E13_at5_at52 : Env := ⟨ty0, fun g => ifEq g 21 (some A21) (ifEq g 33 (some A33) (ifEq g 79 (some A79) (ifEq g 80 (some A80) (ifEq g 48 (some A48) (ifEq g 34 (some A34) (none)))))), fun _ => none, fun _ => none, fun d => ifI (Nat.beq d 31) (some (35, I13_at5_at52_at31)) (ifI (Nat.beq d 65) (some (35, I13_at5_at52_at65)) (ifI (Nat.beq d 81) (some (35, I13_at5_at52_at81)) (none)))⟩
theorem E13_at5_at52_ok : FnsOk prog E13_at5_at52 := (oneIl (d0 := 31) (g0 := 35) I13_at5_at52_at31_ok (oneIl (d0 := 65) (g0 := 35) I13_at5_at52_at65_ok (oneIl (d0 := 81) (g0 := 35) I13_at5_at52_at81_ok (oF A21_ok func21 (oF A33_ok func33 (oF A79_ok func79 (oF A80_ok func80 (oF A48_ok func48 (oF A34_ok func34 (noFns _ _))))))))))
noncomputable def L13_at5_at52_0 : Nat → Option LoopD := fun _ => none
def sh13_at5_at52_5 : List Fm := .box 100000 [.own (.pair (.pair (.int .i64) (.sl (.int .i64))) .str) 100001 false, .val .bool] :: .cell (.val (.int .i64)) :: d :: d :: .box 100400 [.val (.int .i64), .val (.sl (.int .i64)), .val .str] :: d :: d :: .cell (.val (.int .i64)) :: D 75 (.fnv 47 [] :: D 4 (.ali 100000 0 :: D 4 (.cell (.val (.int .i64)) :: D 58 [])))
def xs13_at5_at52_5 : List (Ex × List Fm) := [(.exit 0, [d, d, d, d, d, d, d, d, d, d, d, d, d, d, d, d, d, d, d, d, d, d, d, d, d, d, d, d, d, d, d, d, d, d, d, d, d, d, d, d, d, d, d, d, d, d, d, d, d, d, d, d, d, d, d, d, d, d, d, d, d, d, d, d, d, d, d, d, d, d, d, d, d, d, d, d, d, d, d, d, d, d, d, .fnv 47 [], d, d, d, d, .box 108800 [.own (.pair (.pair (.int .i64) (.sl (.int .i64))) .str) 108801 false, .val .bool], d, d, d, d, .cell (.val (.int .i64)), d, d, d, d, d, d, d, d, d, d, d, d, d, d, d, d, d, d, d, d, d, d, d, d, d, d, d, d, d, d, d, d, d, d, d, d, d, d, d, d, d, d, d, d, d, d, d, d, d, d, d, d, d, d, d, d, d, d])]
noncomputable def impl_ElementsOf_at5_at52_l5 : (((List ((Int × (List Int)) × ByteArray)) × Bool × Unit) × Int × (Int × (List Int) × ByteArray × Unit) × Int × Int × Unit) → Option ((((List ((Int × (List Int)) × ByteArray)) × Bool × Unit) × Int × (Int × (List Int) × ByteArray × Unit) × Int × Int × Unit) ⊕ ((((List ((Int × (List Int)) × ByteArray)) × Bool × Unit) × Int × Unit))) := fun ((v0_0, v0_1, _), v1, (v4_0, v4_1, v4_2, _), v7, v93, _) =>
 bif (decide (v7 ≤ v1)) then
  bif v0_1 then
   if (((0 : Int) ≤ v7) ∧ (v7 < (((List.length v0_0) : Nat) : Int))) then
    Option.bind (impl_MulGrades (v4_0, v4_1) ((List.getD v0_0 (0 + (Int.toNat v7)) (((0 : Int), []), (⟨Array.empty⟩ : ByteArray))).1.1, (List.getD v0_0 (0 + (Int.toNat v7)) (((0 : Int), []), (⟨Array.empty⟩ : ByteArray))).1.2)) fun ((r0, r1), r2) =>
     if (((ByteArray.size v4_2) + (ByteArray.size (List.getD v0_0 (0 + (Int.toNat v7)) (((0 : Int), []), (⟨Array.empty⟩ : ByteArray))).2)) ≤ 9223372036854775807) then
      Option.bind (impl_ElementsOf_at5_at52_at65 (((List.take (List.length v0_0) (List.drop 0 v0_0)), v0_1, ()), (r0, (List.take (List.length r1) (List.drop 0 r1))), (v4_2 ++ (List.getD v0_0 (0 + (Int.toNat v7)) (((0 : Int), []), (⟨Array.empty⟩ : ByteArray))).2), v1, (v4_0, v4_1, v4_2, ()), v7, ((List.getD v0_0 (0 + (Int.toNat v7)) (((0 : Int), []), (⟨Array.empty⟩ : ByteArray))).1.1, (List.getD v0_0 (0 + (Int.toNat v7)) (((0 : Int), []), (⟨Array.empty⟩ : ByteArray))).1.2, (List.getD v0_0 (0 + (Int.toNat v7)) (((0 : Int), []), (⟨Array.empty⟩ : ByteArray))).2, ()), (r0, (List.take (List.length r1) (List.drop 0 r1)), ()), v93, ())) fun ((r3, r4, _), r5, (r6, r7, r8, _), r9, (r10, r11, r12, _), (r13, r14, _), r15, _) =>
       Option.bind (impl_MulGrades (r10, r11) (r6, r7)) fun ((r16, r17), r18) =>
        if (((ByteArray.size r12) + (ByteArray.size r8)) ≤ 9223372036854775807) then
         Option.bind (impl_ElementsOf_at5_at52_at81 (((List.take (List.length r3) (List.drop 0 r3)), r4, ()), (r16, (List.take (List.length r17) (List.drop 0 r17)), ()), (r12 ++ r8), r5, (r6, r7, r8, ()), r9, r15, ())) fun ((r19, r20, _), r21, (r22, r23, r24, _), r25, r26, _) =>
          some (Sum.inl (((List.take (List.length r19) (List.drop 0 r19)), r20, ()), r21, (r22, r23, r24, ()), (IntKind.wrap .i64 (r25 + (1 : Int))), r26, ()))
        else
         none
     else
      none
   else
    none
  else
   some (Sum.inr (((List.take (List.length v0_0) (List.drop 0 v0_0)), v0_1, ()), v93, ()))
 else
  some (Sum.inr (((List.take (List.length v0_0) (List.drop 0 v0_0)), v0_1, ()), v93, ()))
theorem impl_ElementsOf_at5_at52_l5_eq : loopStep 82 E13_at5_at52 L13_at5_at52_0 (loopOf f47 5) sh13_at5_at52_5 xs13_at5_at52_5 = impl_ElementsOf_at5_at52_l5 := by kernel_rfl
theorem loop13_at5_at52_5 {L} (h : L 5 = some ⟨82, sh13_at5_at52_5, xs13_at5_at52_5, impl_ElementsOf_at5_at52_l5⟩) : LoopOk prog L (loopOf f47 5) := lo impl_ElementsOf_at5_at52_l5_eq E13_at5_at52_ok allNil h
noncomputable def L13_at5_at52_1 : Nat → Option LoopD := fun n => ifEq n 5 (some ⟨82, sh13_at5_at52_5, xs13_at5_at52_5, impl_ElementsOf_at5_at52_l5⟩) (L13_at5_at52_0 n)
def shi13_at5_at52 : List Fm := .box 100000 [.own (.pair (.pair (.int .i64) (.sl (.int .i64))) .str) 100001 false, .val .bool] :: .cell (.val (.int .i64)) :: D 81 (.fnv 47 [] :: D 4 (.ali 100000 0 :: D 4 (.cell (.val (.int .i64)) :: D 58 [])))
def sho13_at5_at52 : List Fm := d :: .fnv 47 [] :: D 4 (.box 100600 [.own (.pair (.pair (.int .i64) (.sl (.int .i64))) .str) 100601 false, .val .bool] :: D 4 (.cell (.val (.int .i64)) :: D 58 []))
noncomputable def impl_ElementsOf_at5_at52 : (((List ((Int × (List Int)) × ByteArray)) × Bool × Unit) × Int × Int × Unit) → Option (((List ((Int × (List Int)) × ByteArray)) × Bool × Unit) × Int × Unit) := fun ((v0_0, v0_1, _), v1, v93, _) =>
 if (((0 : Int) ≤ v1) ∧ (v1 < (((List.length v0_0) : Nat) : Int))) then
  Option.bind (impl_Stabilise ((List.getD v0_0 (0 + (Int.toNat v1)) (((0 : Int), []), (⟨Array.empty⟩ : ByteArray))).1.1, (List.getD v0_0 (0 + (Int.toNat v1)) (((0 : Int), []), (⟨Array.empty⟩ : ByteArray))).1.2)) fun ((r0, r1), r2) =>
   bif r2 then
    if (((ByteArray.size (⟨#[(40 : UInt8)]⟩ : ByteArray)) + (ByteArray.size (List.getD v0_0 (0 + (Int.toNat v1)) (((0 : Int), []), (⟨Array.empty⟩ : ByteArray))).2)) ≤ 9223372036854775807) then
     if (((ByteArray.size ((⟨#[(40 : UInt8)]⟩ : ByteArray) ++ (List.getD v0_0 (0 + (Int.toNat v1)) (((0 : Int), []), (⟨Array.empty⟩ : ByteArray))).2)) + (ByteArray.size (⟨#[(41 : UInt8), (35 : UInt8)]⟩ : ByteArray))) ≤ 9223372036854775807) then
      Option.bind (impl_ElementsOf_at5_at52_at31 (((List.take (List.length v0_0) (List.drop 0 v0_0)), v0_1, ()), (r0, (List.take (List.length r1) (List.drop 0 r1)), ()), (((⟨#[(40 : UInt8)]⟩ : ByteArray) ++ (List.getD v0_0 (0 + (Int.toNat v1)) (((0 : Int), []), (⟨Array.empty⟩ : ByteArray))).2) ++ (⟨#[(41 : UInt8), (35 : UInt8)]⟩ : ByteArray)), v1, ((List.getD v0_0 (0 + (Int.toNat v1)) (((0 : Int), []), (⟨Array.empty⟩ : ByteArray))).1.1, (List.getD v0_0 (0 + (Int.toNat v1)) (((0 : Int), []), (⟨Array.empty⟩ : ByteArray))).1.2, (List.getD v0_0 (0 + (Int.toNat v1)) (((0 : Int), []), (⟨Array.empty⟩ : ByteArray))).2, ()), v93, ())) fun ((r3, r4, _), r5, (r6, r7, r8, _), r9, _) =>
       Option.bind (loopF impl_ElementsOf_at5_at52_l5 (((List.take (List.length r3) (List.drop 0 r3)), r4, ()), r5, (r6, r7, r8, ()), (0 : Int), r9, ())) fun ((r10, r11, _), r12, _) =>
        some (((List.take (List.length r10) (List.drop 0 r10)), r11, ()), r12, ())
     else
      none
    else
     none
   else
    Option.bind (loopF impl_ElementsOf_at5_at52_l5 (((List.take (List.length v0_0) (List.drop 0 v0_0)), v0_1, ()), v1, ((List.getD v0_0 (0 + (Int.toNat v1)) (((0 : Int), []), (⟨Array.empty⟩ : ByteArray))).1.1, (List.getD v0_0 (0 + (Int.toNat v1)) (((0 : Int), []), (⟨Array.empty⟩ : ByteArray))).1.2, (List.getD v0_0 (0 + (Int.toNat v1)) (((0 : Int), []), (⟨Array.empty⟩ : ByteArray))).2, ()), (0 : Int), v93, ())) fun ((r13, r14, _), r15, _) =>
     some (((List.take (List.length r13) (List.drop 0 r13)), r14, ()), r15, ())
 else
  none
theorem impl_ElementsOf_at5_at52_eq : inlStep f47.ntmps 62 52 E13_at5_at52 L13_at5_at52_1 f47.results.toList (codeOf f47) shi13_at5_at52 sho13_at5_at52 = impl_ElementsOf_at5_at52 := by kernel_rfl
noncomputable def I13_at5_at52 : CallD := ⟨f47.ntmps, shi13_at5_at52, 62, sho13_at5_at52, impl_ElementsOf_at5_at52, 0⟩
theorem I13_at5_at52_ok : InlOk prog 52 47 I13_at5_at52 := inlOk_of (tysOk_of tyl_ok) E13_at5_at52_ok (L := L13_at5_at52_1) func47 (by kernel_rfl) (c := codeOf f47) (by kernel_rfl) (codeOk_in (L := L13_at5_at52_1) (tysOk_of tyl_ok) E13_at5_at52_ok mixed (c := codeOf f47) (bs := [loopOf f47 5]) (by kernel_rfl) (allCons (loop13_at5_at52_5 rfl) allNil) (by kernel_rfl)) (by kernel_rfl) (by kernel_rfl) impl_ElementsOf_at5_at52_eq
noncomputable def E13_at5 : Env := ⟨ty0, fun g => ifEq g 21 (some A21) (ifEq g 33 (some A33) (ifEq g 79 (some A79) (ifEq g 80 (some A80) (ifEq g 48 (some A48) (ifEq g 34 (some A34) (none)))))), fun _ => none, fun _ => none, fun d => ifI (Nat.beq d 32) (some (35, I13_at5_at32)) (ifI (Nat.beq d 52) (some (47, I13_at5_at52)) (none))⟩
theorem E13_at5_ok : FnsOk prog E13_at5 := (oneIl (d0 := 32) (g0 := 35) I13_at5_at32_ok (oneIl (d0 := 52) (g0 := 47) I13_at5_at52_ok (oF A21_ok func21 (oF A33_ok func33 (oF A79_ok func79 (oF A80_ok func80 (oF A48_ok func48 (oF A34_ok func34 (noFns _ _)))))))))
noncomputable def L13_at5_0 : Nat → Option LoopD := fun _ => none
def sh13_at5_5 : List Fm := d :: .fnv 47 [] :: .box 100200 [.val (.int .i64), .val (.sl (.int .i64)), .val (.sl (.int .i64)), .val (.sl (.pair (.int .i64) (.pair .str (.pair (.int .i64) (.int .i64)))))] :: d :: d :: d :: .box 100600 [.own (.pair (.pair (.int .i64) (.sl (.int .i64))) .str) 100601 false, .val .bool] :: D 10 (.cell (.own .str 101700 false) :: .cell (.val (.int .i64)) :: .cell (.val (.int .i64)) :: D 50 [])
def xs13_at5_5 : List (Ex × List Fm) := [(.exit 0, [d, .fnv 47 [], d, d, d, d, .box 100600 [.own (.pair (.pair (.int .i64) (.sl (.int .i64))) .str) 100601 false, .val .bool], d, d, d, d, d, d, d, d, d, d, d, d, d, d, d, d, d, d, d, d, d, d, d, d, d, d, d, d, d, d, d, d, d, d, d, d, d, d, d, d, d, d, d, d, d, d, d, d, d, d, d, d, d, d, d, d, d, d, d, d, d, d, d])]
noncomputable def impl_ElementsOf_at5_l5 : ((Int × (List Int) × (List Int) × (List (Int × (ByteArray × (Int × Int)))) × Unit) × ((List ((Int × (List Int)) × ByteArray)) × Bool × Unit) × (List ByteArray) × Int × Int × Unit) → Option (((Int × (List Int) × (List Int) × (List (Int × (ByteArray × (Int × Int)))) × Unit) × ((List ((Int × (List Int)) × ByteArray)) × Bool × Unit) × (List ByteArray) × Int × Int × Unit) ⊕ ((((List ((Int × (List Int)) × ByteArray)) × Bool × Unit) × Unit))) := fun ((v2_0, v2_1, v2_2, v2_3, _), (v6_0, v6_1, _), v17, v18, v19, _) =>
 bif (decide (v19 < v18)) then
  if (((0 : Int) ≤ v19) ∧ (v19 < (((List.length v17) : Nat) : Int))) then
   Option.bind (impl_ValueOf (v2_0, v2_1, v2_2, v2_3) (List.getD v17 (0 + (Int.toNat v19)) (⟨Array.empty⟩ : ByteArray))) fun ((r0, r1), r2) =>
    Option.bind (impl_ElementsOf_at5_at32 (((List.take (List.length v6_0) (List.drop 0 v6_0)), v6_1, ()), (r0, (List.take (List.length r1) (List.drop 0 r1)), ()), (List.getD v17 (0 + (Int.toNat v19)) (⟨Array.empty⟩ : ByteArray)), (v2_0, v2_1, v2_2, v2_3, ()), (List.take (List.length v17) (List.drop 0 v17)), v18, v19, ())) fun ((r3, r4, r5, r6, _), (r7, r8, _), r9, r10, r11, _) =>
     some (Sum.inl ((r3, r4, r5, r6, ()), ((List.take (List.length r7) (List.drop 0 r7)), r8, ()), (List.take (List.length r9) (List.drop 0 r9)), r10, (IntKind.wrap .i64 (r11 + (1 : Int))), ()))
  else
   none
 else
  some (Sum.inr (((List.take (List.length v6_0) (List.drop 0 v6_0)), v6_1, ()), ()))
theorem impl_ElementsOf_at5_l5_eq : loopStep 62 E13_at5 L13_at5_0 (loopOf f31 5) sh13_at5_5 xs13_at5_5 = impl_ElementsOf_at5_l5 := by kernel_rfl
theorem loop13_at5_5 {L} (h : L 5 = some ⟨62, sh13_at5_5, xs13_at5_5, impl_ElementsOf_at5_l5⟩) : LoopOk prog L (loopOf f31 5) := lo impl_ElementsOf_at5_l5_eq E13_at5_ok allNil h
noncomputable def L13_at5_1 : Nat → Option LoopD := fun n => ifEq n 5 (some ⟨62, sh13_at5_5, xs13_at5_5, impl_ElementsOf_at5_l5⟩) (L13_at5_0 n)
def sh13_at5_11 : List Fm := d :: .fnv 47 [] :: D 4 (.box 100600 [.own (.pair (.pair (.int .i64) (.sl (.int .i64))) .str) 100601 false, .val .bool] :: D 4 (.cell (.val (.int .i64)) :: D 58 []))
def xs13_at5_11 : List (Ex × List Fm) := [(.exit 2, [d, d, d, d, d, d, .box 100600 [.own (.pair (.pair (.int .i64) (.sl (.int .i64))) .str) 100601 false, .val .bool], d, d, d, d, d, d, d, d, d, d, d, d, d, d, d, d, d, d, d, d, d, d, d, d, d, d, d, d, d, d, d, d, d, d, d, d, d, d, d, d, d, d, d, d, d, d, d, d, d, d, d, d, d, d, d, d, d, d, d, d, d, d, d])]
noncomputable def impl_ElementsOf_at5_l11 : (((List ((Int × (List Int)) × ByteArray)) × Bool × Unit) × Int × Unit) → Option ((((List ((Int × (List Int)) × ByteArray)) × Bool × Unit) × Int × Unit) ⊕ ((((List ((Int × (List Int)) × ByteArray)) × Bool × Unit) × Unit))) := fun ((v6_0, v6_1, _), v11, _) =>
 bif (decide (v11 < (((List.length v6_0) : Nat) : Int))) then
  bif v6_1 then
   Option.bind (impl_ElementsOf_at5_at52 (((List.take (List.length v6_0) (List.drop 0 v6_0)), v6_1, ()), v11, v11, ())) fun ((r0, r1, _), r2, _) =>
    some (Sum.inl (((List.take (List.length r0) (List.drop 0 r0)), r1, ()), (IntKind.wrap .i64 (r2 + (1 : Int))), ()))
  else
   some (Sum.inr (((List.take (List.length v6_0) (List.drop 0 v6_0)), v6_1, ()), ()))
 else
  some (Sum.inr (((List.take (List.length v6_0) (List.drop 0 v6_0)), v6_1, ()), ()))
theorem impl_ElementsOf_at5_l11_eq : loopStep 62 E13_at5 L13_at5_1 (loopOf f31 11) sh13_at5_11 xs13_at5_11 = impl_ElementsOf_at5_l11 := by kernel_rfl
theorem loop13_at5_11 {L} (h : L 11 = some ⟨62, sh13_at5_11, xs13_at5_11, impl_ElementsOf_at5_l11⟩) : LoopOk prog L (loopOf f31 11) := lo impl_ElementsOf_at5_l11_eq E13_at5_ok allNil h
noncomputable def L13_at5_2 : Nat → Option LoopD := fun n => ifEq n 11 (some ⟨62, sh13_at5_11, xs13_at5_11, impl_ElementsOf_at5_l11⟩) (L13_at5_1 n)
def shi13_at5 : List Fm := .cell (.val (.pair (.int .i64) (.pair (.sl (.int .i64)) (.pair (.sl (.int .i64)) (.sl (.pair (.int .i64) (.pair .str (.pair (.int .i64) (.int .i64))))))))) :: .fnv 47 [] :: D 68 []
def sho13_at5 : List Fm := D 5 (.tup [.own (.pair (.pair (.int .i64) (.sl (.int .i64))) .str) 100501 false, .val .bool] :: d :: d :: [])
noncomputable def impl_ElementsOf_at5 : ((Int × ((List Int) × ((List Int) × (List (Int × (ByteArray × (Int × Int))))))) × Unit) → Option (((List ((Int × (List Int)) × ByteArray)) × Bool × Unit) × Unit) := fun ((v0_0, v0_1, v0_2, v0_3), _) =>
 Option.bind (impl_AutomatonValid (v0_0, v0_1, v0_2, v0_3)) fun r0 =>
  bif (!r0) then
   some (([], false, ()), ())
  else
   Option.bind (loopF impl_ElementsOf_at5_l5 ((v0_0, v0_1, v0_2, v0_3, ()), ([], true, ()), (List.take 2 (List.drop 0 [(⟨#[(97 : UInt8)]⟩ : ByteArray), (⟨#[(98 : UInt8)]⟩ : ByteArray)])), ((2 : Nat) : Int), (0 : Int), ())) fun ((r1, r2, _), _) =>
    Option.bind (loopF impl_ElementsOf_at5_l11 (((List.take (List.length r1) (List.drop 0 r1)), r2, ()), (0 : Int), ())) fun ((r3, r4, _), _) =>
     bif (!r4) then
      some (([], false, ()), ())
     else
      some (((List.take (List.length r3) (List.drop 0 r3)), true, ()), ())
theorem impl_ElementsOf_at5_eq : inlStep f31.ntmps 8 5 E13_at5 L13_at5_2 f31.results.toList (codeOf f31) shi13_at5 sho13_at5 = impl_ElementsOf_at5 := by kernel_rfl
noncomputable def I13_at5 : CallD := ⟨f31.ntmps, shi13_at5, 8, sho13_at5, impl_ElementsOf_at5, 0⟩
theorem I13_at5_ok : InlOk prog 5 31 I13_at5 := inlOk_of (tysOk_of tyl_ok) E13_at5_ok (L := L13_at5_2) func31 (by kernel_rfl) (c := codeOf f31) (by kernel_rfl) (codeOk_in (L := L13_at5_2) (tysOk_of tyl_ok) E13_at5_ok mixed (c := codeOf f31) (bs := [loopOf f31 5, loopOf f31 11]) (by kernel_rfl) (allCons (loop13_at5_5 rfl) (allCons (loop13_at5_11 rfl) allNil)) (by kernel_rfl)) (by kernel_rfl) (by kernel_rfl) impl_ElementsOf_at5_eq
noncomputable def E13 : Env := ⟨ty0, fun g => ifEq g 21 (some A21) (ifEq g 33 (some A33) (ifEq g 79 (some A79) (ifEq g 80 (some A80) (ifEq g 48 (some A48) (ifEq g 34 (some A34) (none)))))), fun _ => none, fun _ => none, fun d => ifI (Nat.beq d 5) (some (31, I13_at5)) (none)⟩
theorem E13_ok : FnsOk prog E13 := (oneIl (d0 := 5) (g0 := 31) I13_at5_ok (oF A21_ok func21 (oF A33_ok func33 (oF A79_ok func79 (oF A80_ok func80 (oF A48_ok func48 (oF A34_ok func34 (noFns _ _))))))))
noncomputable def L13_0 : Nat → Option LoopD := fun _ => none
noncomputable def impl_ElementsOf : (Int × ((List Int) × ((List Int) × (List (Int × (ByteArray × (Int × Int))))))) → Option ((List ((Int × (List Int)) × ByteArray)) × Bool) := fun (a0_0, a0_1, a0_2, a0_3) =>
 Option.bind (impl_ElementsOf_at5 ((a0_0, a0_1, a0_2, a0_3), ())) fun ((r0, r1, _), _) =>
  some ((List.take (List.length r0) (List.drop 0 r0)), r1)
noncomputable def A13 : FnA := ⟨[.v (.pair (.int .i64) (.pair (.sl (.int .i64)) (.pair (.sl (.int .i64)) (.sl (.pair (.int .i64) (.pair .str (.pair (.int .i64) (.int .i64))))))))], true, [.sl (.pair (.pair (.int .i64) (.sl (.int .i64))) .str), .bool], fun x => impl_ElementsOf x.1⟩
theorem impl_ElementsOf_eq : fnF E13 L13_0 [.v (.pair (.int .i64) (.pair (.sl (.int .i64)) (.pair (.sl (.int .i64)) (.sl (.pair (.int .i64) (.pair .str (.pair (.int .i64) (.int .i64))))))))] true [.sl (.pair (.pair (.int .i64) (.sl (.int .i64))) .str), .bool] f13.ntmps f13.results.toList (codeOf f13) = fun x => impl_ElementsOf x.1 := by kernel_rfl
theorem A13_ok : FnOk prog 13 A13 := fo impl_ElementsOf_eq func13 E13_ok allNil
/-! laws.FnWordElements -/
noncomputable def E3 : Env := ⟨ty0, fun g => ifEq g 6 (some A6) (ifEq g 7 (some A7) (ifEq g 8 (some A8) (ifEq g 9 (some A9) (ifEq g 10 (some A10) (ifEq g 11 (some A11) (ifEq g 12 (some A12) (ifEq g 13 (some A13) (none)))))))), fun _ => none, fun _ => none, fun _ => none⟩
theorem E3_ok : FnsOk prog E3 := (oF A6_ok func6 (oF A7_ok func7 (oF A8_ok func8 (oF A9_ok func9 (oF A10_ok func10 (oF A11_ok func11 (oF A12_ok func12 (oF A13_ok func13 (noFns _ _)))))))))
noncomputable def L3_0 : Nat → Option LoopD := fun _ => none
def sh3_9 : List Fm := d :: .cell (.val (.sl (.int .u8))) :: d :: d :: d :: .box 100500 [.val (.int .i64), .val (.sl (.int .i64)), .val (.sl (.int .i64)), .val (.sl (.pair (.int .i64) (.pair .str (.pair (.int .i64) (.int .i64)))))] :: .cell (.val (.sl (.pair (.pair (.int .i64) (.sl (.int .i64))) .str))) :: d :: .cell (.own (.pair (.pair (.int .i64) (.sl (.int .i64))) .str) 100800 false) :: D 64 (.cell (.val (.sl (.pair (.pair (.int .i64) (.sl (.int .i64))) .str))) :: .cell (.val (.int .i64)) :: .cell (.val (.int .i64)) :: D 113 [])
def xs3_9 : List (Ex × List Fm) := [(.ret, (D 4 (.cell (.val .bool) :: D 184 []))), (.exit 0, [d, .cell (.val (.sl (.int .u8))), d, d, d, .box 100500 [.val (.int .i64), .val (.sl (.int .i64)), .val (.sl (.int .i64)), .val (.sl (.pair (.int .i64) (.pair .str (.pair (.int .i64) (.int .i64)))))], .cell (.val (.sl (.pair (.pair (.int .i64) (.sl (.int .i64))) .str))), d, d, d, d, d, d, d, d, d, d, d, d, d, d, d, d, d, d, d, d, d, d, d, d, d, d, d, d, d, d, d, d, d, d, d, d, d, d, d, d, d, d, d, d, d, d, d, d, d, d, d, d, d, d, d, d, d, d, d, d, d, d, d, d, d, d, d, d, d, d, d, d, d, d, d, d, d, d, d, d, d, d, d, d, d, d, d, d, d, d, d, d, d, d, d, d, d, d, d, d, d, d, d, d, d, d, d, d, d, d, d, d, d, d, d, d, d, d, d, d, d, d, d, d, d, d, d, d, d, d, d, d, d, d, d, d, d, d, d, d, d, d, d, d, d, d, d, d, d, d, d, d, d, d, d, d, d, d, d, d, d, d, d, d, d, d, d, d, d, d, d, d, d, d, d, d, d, d, d, d, d, d])]
noncomputable def laws_FnWordElements_l9 : ((List Int) × (Int × (List Int) × (List Int) × (List (Int × (ByteArray × (Int × Int)))) × Unit) × (List ((Int × (List Int)) × ByteArray)) × (List ((Int × (List Int)) × ByteArray)) × (List ((Int × (List Int)) × ByteArray)) × Int × Int × Unit) → Option (((List Int) × (Int × (List Int) × (List Int) × (List (Int × (ByteArray × (Int × Int)))) × Unit) × (List ((Int × (List Int)) × ByteArray)) × (List ((Int × (List Int)) × ByteArray)) × (List ((Int × (List Int)) × ByteArray)) × Int × Int × Unit) ⊕ ((Bool × Unit) ⊕ ((List Int) × (Int × (List Int) × (List Int) × (List (Int × (ByteArray × (Int × Int)))) × Unit) × (List ((Int × (List Int)) × ByteArray)) × Unit))) := fun (v1, (v5_0, v5_1, v5_2, v5_3, _), v6, v8, v73, v74, v75, _) =>
 bif (decide (v75 < v74)) then
  if (((0 : Int) ≤ v75) ∧ (v75 < (((List.length v73) : Nat) : Int))) then
   Option.bind (impl_WordMatrix (v5_0, v5_1, v5_2, v5_3) (List.getD v73 (Int.toNat v75) (((0 : Int), []), (⟨Array.empty⟩ : ByteArray))).2) fun ((r0, r1), r2) =>
    Option.bind (impl_GradesOf (r0, (List.take (List.length r1) (List.drop 0 r1)))) fun ((r3, r4), r5) =>
     if (((0 : Int) ≤ v75) ∧ (v75 < (((List.length v8) : Nat) : Int))) then
      bif (!((ByteArray.toList (List.getD v73 (Int.toNat v75) (((0 : Int), []), (⟨Array.empty⟩ : ByteArray))).2) == (ByteArray.toList (List.getD v8 (0 + (Int.toNat v75)) (((0 : Int), []), (⟨Array.empty⟩ : ByteArray))).2))) then
       some (Sum.inr (Sum.inl (false, ())))
      else
       bif (!r5) then
        some (Sum.inr (Sum.inl (false, ())))
       else
        Option.bind (laws_daMatrix (r3, (List.take (List.length r4) (List.drop 0 r4))) ((List.getD v73 (Int.toNat v75) (((0 : Int), []), (⟨Array.empty⟩ : ByteArray))).1.1, (List.getD v73 (Int.toNat v75) (((0 : Int), []), (⟨Array.empty⟩ : ByteArray))).1.2)) fun r6 =>
         bif (!r6) then
          some (Sum.inr (Sum.inl (false, ())))
         else
          some (Sum.inl (v1, (v5_0, v5_1, v5_2, v5_3, ()), v6, (List.take (List.length v8) (List.drop 0 v8)), v73, v74, (IntKind.wrap .i64 (v75 + (1 : Int))), ()))
     else
      none
  else
   none
 else
  some (Sum.inr (Sum.inr (v1, (v5_0, v5_1, v5_2, v5_3, ()), v6, ())))
theorem laws_FnWordElements_l9_eq : loopStep 189 E3 L3_0 (loopOf f3 9) sh3_9 xs3_9 = laws_FnWordElements_l9 := by kernel_rfl
theorem loop3_9 {L} (h : L 9 = some ⟨189, sh3_9, xs3_9, laws_FnWordElements_l9⟩) : LoopOk prog L (loopOf f3 9) := lo laws_FnWordElements_l9_eq E3_ok allNil h
noncomputable def L3_1 : Nat → Option LoopD := fun n => ifEq n 9 (some ⟨189, sh3_9, xs3_9, laws_FnWordElements_l9⟩) (L3_0 n)
def sh3_22 : List Fm := D 6 (.cell (.val (.sl (.pair (.pair (.int .i64) (.sl (.int .i64))) .str))) :: D 12 (.box 101900 [.val (.int .i64), .own (.int .i64) 101902 false] :: d :: .cell (.own (.pair (.pair (.int .i64) (.sl (.int .i64))) .str) 102100 false) :: .cell (.val .bool) :: .cell (.val .bool) :: .cell (.val .bool) :: D 121 (.cell (.val (.sl (.pair (.pair (.int .i64) (.sl (.int .i64))) .str))) :: .cell (.val (.int .i64)) :: .cell (.val (.int .i64)) :: D 40 [])))
def xs3_22 : List (Ex × List Fm) := [(.exit 2, [d, d, d, d, d, d, .cell (.val (.sl (.pair (.pair (.int .i64) (.sl (.int .i64))) .str))), d, d, d, d, d, d, d, d, d, d, d, d, .box 101900 [.val (.int .i64), .own (.int .i64) 101902 false], d, .cell (.own (.pair (.pair (.int .i64) (.sl (.int .i64))) .str) 102100 false), .cell (.val .bool), .cell (.val .bool), .cell (.val .bool), d, d, d, d, d, d, d, d, d, d, d, d, d, d, d, d, d, d, d, d, d, d, d, d, d, d, d, d, d, d, d, d, d, d, d, d, d, d, d, d, d, d, d, d, d, d, d, d, d, d, d, d, d, d, d, d, d, d, d, d, d, d, d, d, d, d, d, d, d, d, d, d, d, d, d, d, d, d, d, d, d, d, d, d, d, d, d, d, d, d, d, d, d, d, d, d, d, d, d, d, d, d, d, d, d, d, d, d, d, d, d, d, d, d, d, d, d, d, d, d, d, d, d, d, d, d, d, d, d, d, d, d, d, d, d, d, d, d, d, d, d, d, d, d, d, d, d, d, d, d, d, d, d, d, d, d, d, d, d, d, d, d, d, d])]
noncomputable def laws_FnWordElements_l22 : ((List ((Int × (List Int)) × ByteArray)) × (Int × (List Int) × Unit) × (List ((Int × (List Int)) × ByteArray)) × Bool × Bool × Bool × (List ((Int × (List Int)) × ByteArray)) × Int × Int × Unit) → Option (((List ((Int × (List Int)) × ByteArray)) × (Int × (List Int) × Unit) × (List ((Int × (List Int)) × ByteArray)) × Bool × Bool × Bool × (List ((Int × (List Int)) × ByteArray)) × Int × Int × Unit) ⊕ (((List ((Int × (List Int)) × ByteArray)) × (Int × (List Int) × Unit) × (List ((Int × (List Int)) × ByteArray)) × Bool × Bool × Bool × Unit))) := fun (v6, (v19_0, v19_1, _), v21, v22, v23, v24, v146, v147, v148, _) =>
 bif (decide (v148 < v147)) then
  if (((0 : Int) ≤ v148) ∧ (v148 < (((List.length v146) : Nat) : Int))) then
   bif v23 then
    some (Sum.inl (v6, (v19_0, (List.take (List.length v19_1) (List.drop 0 v19_1)), ()), (List.take (List.length v21) (List.drop 0 v21)), v22, true, v24, v146, v147, (IntKind.wrap .i64 (v148 + (1 : Int))), ()))
   else
    Option.bind (laws_daMatrix ((List.getD v146 (Int.toNat v148) (((0 : Int), []), (⟨Array.empty⟩ : ByteArray))).1.1, (List.getD v146 (Int.toNat v148) (((0 : Int), []), (⟨Array.empty⟩ : ByteArray))).1.2) (v19_0, (List.take (List.length v19_1) (List.drop 0 v19_1)))) fun r0 =>
     some (Sum.inl (v6, (v19_0, (List.take (List.length v19_1) (List.drop 0 v19_1)), ()), (List.take (List.length v21) (List.drop 0 v21)), v22, r0, v24, v146, v147, (IntKind.wrap .i64 (v148 + (1 : Int))), ()))
  else
   none
 else
  some (Sum.inr (v6, (v19_0, (List.take (List.length v19_1) (List.drop 0 v19_1)), ()), (List.take (List.length v21) (List.drop 0 v21)), v22, v23, v24, ()))
theorem laws_FnWordElements_l22_eq : loopStep 189 E3 L3_1 (loopOf f3 22) sh3_22 xs3_22 = laws_FnWordElements_l22 := by kernel_rfl
theorem loop3_22 {L} (h : L 22 = some ⟨189, sh3_22, xs3_22, laws_FnWordElements_l22⟩) : LoopOk prog L (loopOf f3 22) := lo laws_FnWordElements_l22_eq E3_ok allNil h
noncomputable def L3_2 : Nat → Option LoopD := fun n => ifEq n 22 (some ⟨189, sh3_22, xs3_22, laws_FnWordElements_l22⟩) (L3_1 n)
def sh3_27 : List Fm := D 6 (.cell (.val (.sl (.pair (.pair (.int .i64) (.sl (.int .i64))) .str))) :: D 12 (.box 101900 [.val (.int .i64), .own (.int .i64) 101902 false] :: d :: .cell (.val (.sl (.pair (.pair (.int .i64) (.sl (.int .i64))) .str))) :: .cell (.val .bool) :: .cell (.val .bool) :: .cell (.val .bool) :: D 135 (.cell (.val (.sl (.pair (.pair (.int .i64) (.sl (.int .i64))) .str))) :: .cell (.val (.int .i64)) :: .cell (.val (.int .i64)) :: D 26 [])))
def xs3_27 : List (Ex × List Fm) := [(.exit 4, (D 6 (.cell (.val (.sl (.pair (.pair (.int .i64) (.sl (.int .i64))) .str))) :: D 14 (.cell (.val (.sl (.pair (.pair (.int .i64) (.sl (.int .i64))) .str))) :: .cell (.val .bool) :: .cell (.val .bool) :: .cell (.val .bool) :: D 164 []))))]
noncomputable def laws_FnWordElements_l27 : ((List ((Int × (List Int)) × ByteArray)) × (Int × (List Int) × Unit) × (List ((Int × (List Int)) × ByteArray)) × Bool × Bool × Bool × (List ((Int × (List Int)) × ByteArray)) × Int × Int × Unit) → Option (((List ((Int × (List Int)) × ByteArray)) × (Int × (List Int) × Unit) × (List ((Int × (List Int)) × ByteArray)) × Bool × Bool × Bool × (List ((Int × (List Int)) × ByteArray)) × Int × Int × Unit) ⊕ (((List ((Int × (List Int)) × ByteArray)) × (List ((Int × (List Int)) × ByteArray)) × Bool × Bool × Bool × Unit))) := fun (v6, (v19_0, v19_1, _), v21, v22, v23, v24, v160, v161, v162, _) =>
 bif (decide (v162 < v161)) then
  if (((0 : Int) ≤ v162) ∧ (v162 < (((List.length v160) : Nat) : Int))) then
   bif v24 then
    some (Sum.inl (v6, (v19_0, (List.take (List.length v19_1) (List.drop 0 v19_1)), ()), v21, v22, v23, true, v160, v161, (IntKind.wrap .i64 (v162 + (1 : Int))), ()))
   else
    Option.bind (laws_daMatrix ((List.getD v160 (Int.toNat v162) (((0 : Int), []), (⟨Array.empty⟩ : ByteArray))).1.1, (List.getD v160 (Int.toNat v162) (((0 : Int), []), (⟨Array.empty⟩ : ByteArray))).1.2) (v19_0, (List.take (List.length v19_1) (List.drop 0 v19_1)))) fun r0 =>
     some (Sum.inl (v6, (v19_0, (List.take (List.length v19_1) (List.drop 0 v19_1)), ()), v21, v22, v23, r0, v160, v161, (IntKind.wrap .i64 (v162 + (1 : Int))), ()))
  else
   none
 else
  some (Sum.inr (v6, v21, v22, v23, v24, ()))
theorem laws_FnWordElements_l27_eq : loopStep 189 E3 L3_2 (loopOf f3 27) sh3_27 xs3_27 = laws_FnWordElements_l27 := by kernel_rfl
theorem loop3_27 {L} (h : L 27 = some ⟨189, sh3_27, xs3_27, laws_FnWordElements_l27⟩) : LoopOk prog L (loopOf f3 27) := lo laws_FnWordElements_l27_eq E3_ok allNil h
noncomputable def L3_3 : Nat → Option LoopD := fun n => ifEq n 27 (some ⟨189, sh3_27, xs3_27, laws_FnWordElements_l27⟩) (L3_2 n)
noncomputable def laws_FnWordElements : (List Int) → (List Int) → Option (Bool) := fun a0 a1 =>
 bif (decide ((((List.length a0) : Nat) : Int) > (1048576 : Int))) then
  some true
 else
  bif (decide ((((List.length a1) : Nat) : Int) > (1048576 : Int))) then
   some true
  else
   Option.bind (spec_DrawWordElements a0) fun (r0, r1, r2, r3) =>
    Option.bind (impl_WordElements (r0, r1, r2, r3)) fun (r4, r5) =>
     Option.bind (spec_WordElements (r0, r1, r2, r3)) fun (r6, r7) =>
      bif ((((List.length r4) : Nat) : Int) != (((List.length r6) : Nat) : Int)) then
       bif ((((List.length r4) : Nat) : Int) == (((List.length r6) : Nat) : Int)) then
        some (r5 == r7)
       else
        some false
      else
       bif (!(r5 == r7)) then
        bif ((((List.length r4) : Nat) : Int) == (((List.length r6) : Nat) : Int)) then
         some (r5 == r7)
        else
         some false
       else
        bif (!r5) then
         bif ((((List.length r4) : Nat) : Int) == (((List.length r6) : Nat) : Int)) then
          some (r5 == r7)
         else
          some false
        else
         Option.bind (loopF laws_FnWordElements_l9 (a1, (r0, r1, r2, r3, ()), (List.take (List.length r4) (List.drop 0 r4)), (List.take (List.length r6) (List.drop 0 r6)), (List.take (List.length r4) (List.drop 0 r4)), (((List.length r4) : Nat) : Int), (0 : Int), ())) fun r8 =>
          (match r8 with
          | .inl (d9, _) =>
            some d9
          | .inr (d10, (d11, d12, d13, d14, _), d15, _) =>
            Option.bind (spec_DrawSwapWord d10) fun r16 =>
             Option.bind (impl_WordMatrix (d11, d12, d13, d14) r16) fun ((r17, r18), r19) =>
              Option.bind (impl_GradesOf (r17, (List.take (List.length r18) (List.drop 0 r18)))) fun ((r20, r21), r22) =>
               Option.bind (impl_ElementsOf (d11, d12, d13, d14)) fun (r23, r24) =>
                bif ((ByteArray.toList r16) == (ByteArray.toList (⟨#[]⟩ : ByteArray))) then
                 bif ((ByteArray.toList r16) == (ByteArray.toList (⟨#[]⟩ : ByteArray))) then
                  Option.bind (loopF laws_FnWordElements_l22 (d15, (r20, (List.take (List.length r21) (List.drop 0 r21)), ()), (List.take (List.length r23) (List.drop 0 r23)), r24, true, true, d15, (((List.length d15) : Nat) : Int), (0 : Int), ())) fun (r25, (r26, r27, _), r28, r29, r30, r31, _) =>
                   Option.bind (loopF laws_FnWordElements_l27 (r25, (r26, (List.take (List.length r27) (List.drop 0 r27)), ()), (List.take (List.length r28) (List.drop 0 r28)), r29, r30, r31, (List.take (List.length r28) (List.drop 0 r28)), (((List.length r28) : Nat) : Int), (0 : Int), ())) fun (r32, r33, r34, r35, r36, _) =>
                    bif r35 then
                     bif r36 then
                      bif (!r34) then
                       some true
                      else
                       some (decide ((((List.length r32) : Nat) : Int) ≤ (((List.length r33) : Nat) : Int)))
                     else
                      some false
                    else
                     some false
                 else
                  bif (!r19) then
                   Option.bind (loopF laws_FnWordElements_l22 (d15, (r20, (List.take (List.length r21) (List.drop 0 r21)), ()), (List.take (List.length r23) (List.drop 0 r23)), r24, true, true, d15, (((List.length d15) : Nat) : Int), (0 : Int), ())) fun (r37, (r38, r39, _), r40, r41, r42, r43, _) =>
                    Option.bind (loopF laws_FnWordElements_l27 (r37, (r38, (List.take (List.length r39) (List.drop 0 r39)), ()), (List.take (List.length r40) (List.drop 0 r40)), r41, r42, r43, (List.take (List.length r40) (List.drop 0 r40)), (((List.length r40) : Nat) : Int), (0 : Int), ())) fun (r44, r45, r46, r47, r48, _) =>
                     bif r47 then
                      bif r48 then
                       bif (!r46) then
                        some true
                       else
                        some (decide ((((List.length r44) : Nat) : Int) ≤ (((List.length r45) : Nat) : Int)))
                      else
                       some false
                     else
                      some false
                  else
                   Option.bind (loopF laws_FnWordElements_l22 (d15, (r20, (List.take (List.length r21) (List.drop 0 r21)), ()), (List.take (List.length r23) (List.drop 0 r23)), r24, true, (!r24), d15, (((List.length d15) : Nat) : Int), (0 : Int), ())) fun (r49, (r50, r51, _), r52, r53, r54, r55, _) =>
                    Option.bind (loopF laws_FnWordElements_l27 (r49, (r50, (List.take (List.length r51) (List.drop 0 r51)), ()), (List.take (List.length r52) (List.drop 0 r52)), r53, r54, r55, (List.take (List.length r52) (List.drop 0 r52)), (((List.length r52) : Nat) : Int), (0 : Int), ())) fun (r56, r57, r58, r59, r60, _) =>
                     bif r59 then
                      bif r60 then
                       bif (!r58) then
                        some true
                       else
                        some (decide ((((List.length r56) : Nat) : Int) ≤ (((List.length r57) : Nat) : Int)))
                      else
                       some false
                     else
                      some false
                else
                 bif ((ByteArray.toList r16) == (ByteArray.toList (⟨#[]⟩ : ByteArray))) then
                  Option.bind (loopF laws_FnWordElements_l22 (d15, (r20, (List.take (List.length r21) (List.drop 0 r21)), ()), (List.take (List.length r23) (List.drop 0 r23)), r24, (!r19), true, d15, (((List.length d15) : Nat) : Int), (0 : Int), ())) fun (r61, (r62, r63, _), r64, r65, r66, r67, _) =>
                   Option.bind (loopF laws_FnWordElements_l27 (r61, (r62, (List.take (List.length r63) (List.drop 0 r63)), ()), (List.take (List.length r64) (List.drop 0 r64)), r65, r66, r67, (List.take (List.length r64) (List.drop 0 r64)), (((List.length r64) : Nat) : Int), (0 : Int), ())) fun (r68, r69, r70, r71, r72, _) =>
                    bif r71 then
                     bif r72 then
                      bif (!r70) then
                       some true
                      else
                       some (decide ((((List.length r68) : Nat) : Int) ≤ (((List.length r69) : Nat) : Int)))
                     else
                      some false
                    else
                     some false
                 else
                  bif (!r19) then
                   Option.bind (loopF laws_FnWordElements_l22 (d15, (r20, (List.take (List.length r21) (List.drop 0 r21)), ()), (List.take (List.length r23) (List.drop 0 r23)), r24, (!r19), true, d15, (((List.length d15) : Nat) : Int), (0 : Int), ())) fun (r73, (r74, r75, _), r76, r77, r78, r79, _) =>
                    Option.bind (loopF laws_FnWordElements_l27 (r73, (r74, (List.take (List.length r75) (List.drop 0 r75)), ()), (List.take (List.length r76) (List.drop 0 r76)), r77, r78, r79, (List.take (List.length r76) (List.drop 0 r76)), (((List.length r76) : Nat) : Int), (0 : Int), ())) fun (r80, r81, r82, r83, r84, _) =>
                     bif r83 then
                      bif r84 then
                       bif (!r82) then
                        some true
                       else
                        some (decide ((((List.length r80) : Nat) : Int) ≤ (((List.length r81) : Nat) : Int)))
                      else
                       some false
                     else
                      some false
                  else
                   Option.bind (loopF laws_FnWordElements_l22 (d15, (r20, (List.take (List.length r21) (List.drop 0 r21)), ()), (List.take (List.length r23) (List.drop 0 r23)), r24, (!r19), (!r24), d15, (((List.length d15) : Nat) : Int), (0 : Int), ())) fun (r85, (r86, r87, _), r88, r89, r90, r91, _) =>
                    Option.bind (loopF laws_FnWordElements_l27 (r85, (r86, (List.take (List.length r87) (List.drop 0 r87)), ()), (List.take (List.length r88) (List.drop 0 r88)), r89, r90, r91, (List.take (List.length r88) (List.drop 0 r88)), (((List.length r88) : Nat) : Int), (0 : Int), ())) fun (r92, r93, r94, r95, r96, _) =>
                     bif r95 then
                      bif r96 then
                       bif (!r94) then
                        some true
                       else
                        some (decide ((((List.length r92) : Nat) : Int) ≤ (((List.length r93) : Nat) : Int)))
                      else
                       some false
                     else
                      some false)
noncomputable def A3 : FnA := ⟨[.v (.sl (.int .u8)), .v (.sl (.int .u8))], true, [.bool], fun x => laws_FnWordElements x.1 x.2.1⟩
theorem laws_FnWordElements_eq : fnF E3 L3_3 [.v (.sl (.int .u8)), .v (.sl (.int .u8))] true [.bool] f3.ntmps f3.results.toList (codeOf f3) = fun x => laws_FnWordElements x.1 x.2.1 := by kernel_rfl
theorem A3_ok : FnOk prog 3 A3 := fo laws_FnWordElements_eq func3 E3_ok (allCons (loop3_9 rfl) (allCons (loop3_22 rfl) (allCons (loop3_27 rfl) allNil)))
end Go.Proofs.Ytfdhmmnffahhgaa
