/- What Go functions that the laws reach compute, and that they do: written by a program of this session. -/
import Derived.Test.YtfdhmmnffahhgaaGreatG0
import Derived.KernelRfl
set_option linter.unusedVariables false
namespace Go.Proofs.YtfdhmmnffahhgaaGreat
open Go Go.Proofs.YtfdhmmnffahhgaaGreat.Am Go.Proofs.Tryz
set_option maxRecDepth 100000
/-! impl.ElementsOf -/
noncomputable def E41_at5_at32 : Env := ⟨ty0, fun g => ifEq g 34 (some A34) (ifEq g 42 (some A42) (ifEq g 95 (some A95) (ifEq g 96 (some A96) (ifEq g 64 (some A64) (ifEq g 66 (some A66) (none)))))), fun _ => none, fun _ => none, fun _ => none⟩
theorem E41_at5_at32_ok : FnsOk prog E41_at5_at32 := (oF A34_ok func34 (oF A42_ok func42 (oF A95_ok func95 (oF A96_ok func96 (oF A64_ok func64 (oF A66_ok func66 (noFns _ _)))))))
noncomputable def L41_at5_at32_0 : Nat → Option LoopD := fun _ => none
def shi41_at5_at32 : List Fm := .box 100000 [.own (.pair (.pair (.int .i64) (.sl (.int .i64))) .str) 100001 false, .val .bool] :: .agg [.val (.int .i64), .own (.int .i64) 100102 false] :: .cell (.val .str) :: D 36 (.fnv 63 [] :: .box 104000 [.val (.int .i64), .val (.sl (.int .i64)), .val (.sl (.int .i64)), .val (.sl (.pair (.int .i64) (.pair .str (.pair (.int .i64) (.int .i64)))))] :: d :: d :: d :: .ali 100000 0 :: D 10 (.cell (.own .str 105500 false) :: .cell (.val (.int .i64)) :: .cell (.val (.int .i64)) :: D 50 []))
def sho41_at5_at32 : List Fm := d :: .fnv 63 [] :: .box 100200 [.val (.int .i64), .val (.sl (.int .i64)), .val (.sl (.int .i64)), .val (.sl (.pair (.int .i64) (.pair .str (.pair (.int .i64) (.int .i64)))))] :: d :: d :: d :: .box 100600 [.own (.pair (.pair (.int .i64) (.sl (.int .i64))) .str) 100601 false, .val .bool] :: D 10 (.cell (.own .str 101700 false) :: .cell (.val (.int .i64)) :: .cell (.val (.int .i64)) :: D 50 [])
noncomputable def impl_ElementsOf_at5_at32 : (((List ((Int × (List Int)) × ByteArray)) × Bool × Unit) × (Int × (List Int) × Unit) × ByteArray × (Int × (List Int) × (List Int) × (List (Int × (ByteArray × (Int × Int)))) × Unit) × (List ByteArray) × Int × Int × Unit) → Option ((Int × (List Int) × (List Int) × (List (Int × (ByteArray × (Int × Int)))) × Unit) × ((List ((Int × (List Int)) × ByteArray)) × Bool × Unit) × (List ByteArray) × Int × Int × Unit) := fun ((v0_0, v0_1, _), (v1_0, v1_1, _), v2, (v40_0, v40_1, v40_2, v40_3, _), v55, v56, v57, _) =>
 Option.bind (slices_ContainsFunc_Element (List.take (List.length v0_0) (List.drop 0 v0_0)) (fun y0 => (impl_found_put_1 y0.1 (v1_0, (List.take (List.length v1_1) (List.drop 0 v1_1)))))) fun r1 =>
  bif r1 then
   some ((v40_0, v40_1, v40_2, v40_3, ()), ((List.take (List.length v0_0) (List.drop 0 v0_0)), v0_1, ()), (List.take (List.length v55) (List.drop 0 v55)), v56, v57, ())
  else
   bif (decide ((((List.length v0_0) : Nat) : Int) ≥ (120 : Int))) then
    some ((v40_0, v40_1, v40_2, v40_3, ()), ((List.take (List.length v0_0) (List.drop 0 v0_0)), false, ()), (List.take (List.length v55) (List.drop 0 v55)), v56, v57, ())
   else
    bif (decide ((((ByteArray.size v2) : Nat) : Int) > (120 : Int))) then
     some ((v40_0, v40_1, v40_2, v40_3, ()), ((List.take (List.length v0_0) (List.drop 0 v0_0)), false, ()), (List.take (List.length v55) (List.drop 0 v55)), v56, v57, ())
    else
     if (((0 + (List.length v0_0)) = (List.length v0_0)) ∧ ((((List.length v0_0) + (List.length (List.take 1 (List.drop 0 [((v1_0, (List.take (List.length v1_1) (List.drop 0 v1_1))), v2)])))) * 48) ≤ 140737488355328)) then
      some ((v40_0, v40_1, v40_2, v40_3, ()), ((List.take ((List.length v0_0) + (List.length (List.take 1 (List.drop 0 [((v1_0, (List.take (List.length v1_1) (List.drop 0 v1_1))), v2)])))) (List.drop 0 ((List.drop 0 v0_0) ++ (List.take 1 (List.drop 0 [((v1_0, (List.take (List.length v1_1) (List.drop 0 v1_1))), v2)]))))), v0_1, ()), (List.take (List.length v55) (List.drop 0 v55)), v56, v57, ())
     else
      none
theorem impl_ElementsOf_at5_at32_eq : inlStep f65.ntmps 62 32 E41_at5_at32 L41_at5_at32_0 f65.results.toList (codeOf f65) shi41_at5_at32 sho41_at5_at32 = impl_ElementsOf_at5_at32 := by kernel_rfl
noncomputable def I41_at5_at32 : CallD := ⟨f65.ntmps, shi41_at5_at32, 62, sho41_at5_at32, impl_ElementsOf_at5_at32, 0⟩
theorem I41_at5_at32_ok : InlOk prog 32 65 I41_at5_at32 := inlOk_of (tysOk_of tyl_ok) E41_at5_at32_ok (L := L41_at5_at32_0) func65 (by kernel_rfl) (c := codeOf f65) (by kernel_rfl) (codeOk_in (L := L41_at5_at32_0) (tysOk_of tyl_ok) E41_at5_at32_ok mixed (c := codeOf f65) (bs := []) (by kernel_rfl) allNil (by kernel_rfl)) (by kernel_rfl) (by kernel_rfl) impl_ElementsOf_at5_at32_eq
noncomputable def E41_at5_at52_at31 : Env := ⟨ty0, fun g => ifEq g 34 (some A34) (ifEq g 42 (some A42) (ifEq g 95 (some A95) (ifEq g 96 (some A96) (ifEq g 64 (some A64) (ifEq g 66 (some A66) (none)))))), fun _ => none, fun _ => none, fun _ => none⟩
theorem E41_at5_at52_at31_ok : FnsOk prog E41_at5_at52_at31 := (oF A34_ok func34 (oF A42_ok func42 (oF A95_ok func95 (oF A96_ok func96 (oF A64_ok func64 (oF A66_ok func66 (noFns _ _)))))))
noncomputable def L41_at5_at52_at31_0 : Nat → Option LoopD := fun _ => none
def shi41_at5_at52_at31 : List Fm := .box 100000 [.own (.pair (.pair (.int .i64) (.sl (.int .i64))) .str) 100001 false, .val .bool] :: .agg [.val (.int .i64), .own (.int .i64) 100102 false] :: .cell (.val .str) :: D 35 (.ali 100000 0 :: .cell (.val (.int .i64)) :: d :: d :: .box 104200 [.val (.int .i64), .val (.sl (.int .i64)), .val .str] :: D 78 (.fnv 63 [] :: D 4 (.ali 100000 0 :: D 4 (.cell (.val (.int .i64)) :: D 58 []))))
def sho41_at5_at52_at31 : List Fm := .box 100000 [.own (.pair (.pair (.int .i64) (.sl (.int .i64))) .str) 100001 false, .val .bool] :: .cell (.val (.int .i64)) :: d :: d :: .box 100400 [.val (.int .i64), .val (.sl (.int .i64)), .val .str] :: D 78 (.fnv 63 [] :: D 4 (.ali 100000 0 :: D 4 (.cell (.val (.int .i64)) :: D 58 [])))
noncomputable def impl_ElementsOf_at5_at52_at31 : (((List ((Int × (List Int)) × ByteArray)) × Bool × Unit) × (Int × (List Int) × Unit) × ByteArray × Int × (Int × (List Int) × ByteArray × Unit) × Int × Unit) → Option (((List ((Int × (List Int)) × ByteArray)) × Bool × Unit) × Int × (Int × (List Int) × ByteArray × Unit) × Int × Unit) := fun ((v0_0, v0_1, _), (v1_0, v1_1, _), v2, v39, (v42_0, v42_1, v42_2, _), v131, _) =>
 Option.bind (slices_ContainsFunc_Element (List.take (List.length v0_0) (List.drop 0 v0_0)) (fun y0 => (impl_found_put_1 y0.1 (v1_0, (List.take (List.length v1_1) (List.drop 0 v1_1)))))) fun r1 =>
  bif r1 then
   some (((List.take (List.length v0_0) (List.drop 0 v0_0)), v0_1, ()), v39, (v42_0, v42_1, v42_2, ()), v131, ())
  else
   bif (decide ((((List.length v0_0) : Nat) : Int) ≥ (120 : Int))) then
    some (((List.take (List.length v0_0) (List.drop 0 v0_0)), false, ()), v39, (v42_0, v42_1, v42_2, ()), v131, ())
   else
    bif (decide ((((ByteArray.size v2) : Nat) : Int) > (120 : Int))) then
     some (((List.take (List.length v0_0) (List.drop 0 v0_0)), false, ()), v39, (v42_0, v42_1, v42_2, ()), v131, ())
    else
     if (((0 + (List.length v0_0)) = (List.length v0_0)) ∧ ((((List.length v0_0) + (List.length (List.take 1 (List.drop 0 [((v1_0, (List.take (List.length v1_1) (List.drop 0 v1_1))), v2)])))) * 48) ≤ 140737488355328)) then
      some (((List.take ((List.length v0_0) + (List.length (List.take 1 (List.drop 0 [((v1_0, (List.take (List.length v1_1) (List.drop 0 v1_1))), v2)])))) (List.drop 0 ((List.drop 0 v0_0) ++ (List.take 1 (List.drop 0 [((v1_0, (List.take (List.length v1_1) (List.drop 0 v1_1))), v2)]))))), v0_1, ()), v39, (v42_0, v42_1, v42_2, ()), v131, ())
     else
      none
theorem impl_ElementsOf_at5_at52_at31_eq : inlStep f65.ntmps 82 31 E41_at5_at52_at31 L41_at5_at52_at31_0 f65.results.toList (codeOf f65) shi41_at5_at52_at31 sho41_at5_at52_at31 = impl_ElementsOf_at5_at52_at31 := by kernel_rfl
noncomputable def I41_at5_at52_at31 : CallD := ⟨f65.ntmps, shi41_at5_at52_at31, 82, sho41_at5_at52_at31, impl_ElementsOf_at5_at52_at31, 0⟩
theorem I41_at5_at52_at31_ok : InlOk prog 31 65 I41_at5_at52_at31 := inlOk_of (tysOk_of tyl_ok) E41_at5_at52_at31_ok (L := L41_at5_at52_at31_0) func65 (by kernel_rfl) (c := codeOf f65) (by kernel_rfl) (codeOk_in (L := L41_at5_at52_at31_0) (tysOk_of tyl_ok) E41_at5_at52_at31_ok mixed (c := codeOf f65) (bs := []) (by kernel_rfl) allNil (by kernel_rfl)) (by kernel_rfl) (by kernel_rfl) impl_ElementsOf_at5_at52_at31_eq
noncomputable def E41_at5_at52_at65 : Env := ⟨ty0, fun g => ifEq g 34 (some A34) (ifEq g 42 (some A42) (ifEq g 95 (some A95) (ifEq g 96 (some A96) (ifEq g 64 (some A64) (ifEq g 66 (some A66) (none)))))), fun _ => none, fun _ => none, fun _ => none⟩
theorem E41_at5_at52_at65_ok : FnsOk prog E41_at5_at52_at65 := (oF A34_ok func34 (oF A42_ok func42 (oF A95_ok func95 (oF A96_ok func96 (oF A64_ok func64 (oF A66_ok func66 (noFns _ _)))))))
noncomputable def L41_at5_at52_at65_0 : Nat → Option LoopD := fun _ => none
def shi41_at5_at52_at65 : List Fm := .box 100000 [.own (.pair (.pair (.int .i64) (.sl (.int .i64))) .str) 100001 false, .val .bool] :: .cell (.val (.pair (.int .i64) (.sl (.int .i64)))) :: .cell (.val .str) :: D 35 (.ali 100000 0 :: .cell (.val (.int .i64)) :: d :: d :: .box 104200 [.val (.int .i64), .val (.sl (.int .i64)), .val .str] :: d :: d :: .cell (.val (.int .i64)) :: .box 104600 [.val (.int .i64), .val (.sl (.int .i64)), .val .str] :: .box 104700 [.val (.int .i64), .val (.sl (.int .i64))] :: D 73 (.fnv 63 [] :: D 4 (.ali 100000 0 :: D 4 (.cell (.val (.int .i64)) :: D 58 []))))
def sho41_at5_at52_at65 : List Fm := .box 100000 [.own (.pair (.pair (.int .i64) (.sl (.int .i64))) .str) 100001 false, .val .bool] :: .cell (.val (.int .i64)) :: d :: d :: .box 100400 [.val (.int .i64), .val (.sl (.int .i64)), .val .str] :: d :: d :: .cell (.val (.int .i64)) :: .box 100800 [.val (.int .i64), .val (.sl (.int .i64)), .val .str] :: .box 100900 [.val (.int .i64), .val (.sl (.int .i64))] :: D 73 (.fnv 63 [] :: D 4 (.ali 100000 0 :: D 4 (.cell (.val (.int .i64)) :: D 58 [])))
noncomputable def impl_ElementsOf_at5_at52_at65 : (((List ((Int × (List Int)) × ByteArray)) × Bool × Unit) × (Int × (List Int)) × ByteArray × Int × (Int × (List Int) × ByteArray × Unit) × Int × (Int × (List Int) × ByteArray × Unit) × (Int × (List Int) × Unit) × Int × Unit) → Option (((List ((Int × (List Int)) × ByteArray)) × Bool × Unit) × Int × (Int × (List Int) × ByteArray × Unit) × Int × (Int × (List Int) × ByteArray × Unit) × (Int × (List Int) × Unit) × Int × Unit) := fun ((v0_0, v0_1, _), (v1_0, v1_1), v2, v39, (v42_0, v42_1, v42_2, _), v45, (v46_0, v46_1, v46_2, _), (v47_0, v47_1, _), v131, _) =>
 Option.bind (slices_ContainsFunc_Element (List.take (List.length v0_0) (List.drop 0 v0_0)) (fun y0 => (impl_found_put_1 y0.1 (v1_0, v1_1)))) fun r1 =>
  bif r1 then
   some (((List.take (List.length v0_0) (List.drop 0 v0_0)), v0_1, ()), v39, (v42_0, v42_1, v42_2, ()), v45, (v46_0, v46_1, v46_2, ()), (v47_0, v47_1, ()), v131, ())
  else
   bif (decide ((((List.length v0_0) : Nat) : Int) ≥ (120 : Int))) then
    some (((List.take (List.length v0_0) (List.drop 0 v0_0)), false, ()), v39, (v42_0, v42_1, v42_2, ()), v45, (v46_0, v46_1, v46_2, ()), (v47_0, v47_1, ()), v131, ())
   else
    bif (decide ((((ByteArray.size v2) : Nat) : Int) > (120 : Int))) then
     some (((List.take (List.length v0_0) (List.drop 0 v0_0)), false, ()), v39, (v42_0, v42_1, v42_2, ()), v45, (v46_0, v46_1, v46_2, ()), (v47_0, v47_1, ()), v131, ())
    else
     if (((0 + (List.length v0_0)) = (List.length v0_0)) ∧ ((((List.length v0_0) + (List.length (List.take 1 (List.drop 0 [((v1_0, v1_1), v2)])))) * 48) ≤ 140737488355328)) then
      some (((List.take ((List.length v0_0) + (List.length (List.take 1 (List.drop 0 [((v1_0, v1_1), v2)])))) (List.drop 0 ((List.drop 0 v0_0) ++ (List.take 1 (List.drop 0 [((v1_0, v1_1), v2)]))))), v0_1, ()), v39, (v42_0, v42_1, v42_2, ()), v45, (v46_0, v46_1, v46_2, ()), (v47_0, v47_1, ()), v131, ())
     else
      none
theorem impl_ElementsOf_at5_at52_at65_eq : inlStep f65.ntmps 82 65 E41_at5_at52_at65 L41_at5_at52_at65_0 f65.results.toList (codeOf f65) shi41_at5_at52_at65 sho41_at5_at52_at65 = impl_ElementsOf_at5_at52_at65 := by kernel_rfl
noncomputable def I41_at5_at52_at65 : CallD := ⟨f65.ntmps, shi41_at5_at52_at65, 82, sho41_at5_at52_at65, impl_ElementsOf_at5_at52_at65, 0⟩
theorem I41_at5_at52_at65_ok : InlOk prog 65 65 I41_at5_at52_at65 := inlOk_of (tysOk_of tyl_ok) E41_at5_at52_at65_ok (L := L41_at5_at52_at65_0) func65 (by kernel_rfl) (c := codeOf f65) (by kernel_rfl) (codeOk_in (L := L41_at5_at52_at65_0) (tysOk_of tyl_ok) E41_at5_at52_at65_ok mixed (c := codeOf f65) (bs := []) (by kernel_rfl) allNil (by kernel_rfl)) (by kernel_rfl) (by kernel_rfl) impl_ElementsOf_at5_at52_at65_eq
noncomputable def E41_at5_at52_at81 : Env := ⟨ty0, fun g => ifEq g 34 (some A34) (ifEq g 42 (some A42) (ifEq g 95 (some A95) (ifEq g 96 (some A96) (ifEq g 64 (some A64) (ifEq g 66 (some A66) (none)))))), fun _ => none, fun _ => none, fun _ => none⟩
theorem E41_at5_at52_at81_ok : FnsOk prog E41_at5_at52_at81 := (oF A34_ok func34 (oF A42_ok func42 (oF A95_ok func95 (oF A96_ok func96 (oF A64_ok func64 (oF A66_ok func66 (noFns _ _)))))))
noncomputable def L41_at5_at52_at81_0 : Nat → Option LoopD := fun _ => none
def shi41_at5_at52_at81 : List Fm := .box 100000 [.own (.pair (.pair (.int .i64) (.sl (.int .i64))) .str) 100001 false, .val .bool] :: .agg [.val (.int .i64), .own (.int .i64) 100102 false] :: .cell (.val .str) :: D 35 (.ali 100000 0 :: .cell (.val (.int .i64)) :: d :: d :: .box 104200 [.val (.int .i64), .val (.sl (.int .i64)), .val .str] :: d :: d :: .cell (.val (.int .i64)) :: D 75 (.fnv 63 [] :: D 4 (.ali 100000 0 :: D 4 (.cell (.val (.int .i64)) :: D 58 []))))
def sho41_at5_at52_at81 : List Fm := .box 100000 [.own (.pair (.pair (.int .i64) (.sl (.int .i64))) .str) 100001 false, .val .bool] :: .cell (.val (.int .i64)) :: d :: d :: .box 100400 [.val (.int .i64), .val (.sl (.int .i64)), .val .str] :: d :: d :: .cell (.val (.int .i64)) :: D 75 (.fnv 63 [] :: D 4 (.ali 100000 0 :: D 4 (.cell (.val (.int .i64)) :: D 58 [])))
noncomputable def impl_ElementsOf_at5_at52_at81 : (((List ((Int × (List Int)) × ByteArray)) × Bool × Unit) × (Int × (List Int) × Unit) × ByteArray × Int × (Int × (List Int) × ByteArray × Unit) × Int × Int × Unit) → Option (((List ((Int × (List Int)) × ByteArray)) × Bool × Unit) × Int × (Int × (List Int) × ByteArray × Unit) × Int × Int × Unit) := fun ((v0_0, v0_1, _), (v1_0, v1_1, _), v2, v39, (v42_0, v42_1, v42_2, _), v45, v131, _) =>
 Option.bind (slices_ContainsFunc_Element (List.take (List.length v0_0) (List.drop 0 v0_0)) (fun y0 => (impl_found_put_1 y0.1 (v1_0, (List.take (List.length v1_1) (List.drop 0 v1_1)))))) fun r1 =>
  bif r1 then
   some (((List.take (List.length v0_0) (List.drop 0 v0_0)), v0_1, ()), v39, (v42_0, v42_1, v42_2, ()), v45, v131, ())
  else
   bif (decide ((((List.length v0_0) : Nat) : Int) ≥ (120 : Int))) then
    some (((List.take (List.length v0_0) (List.drop 0 v0_0)), false, ()), v39, (v42_0, v42_1, v42_2, ()), v45, v131, ())
   else
    bif (decide ((((ByteArray.size v2) : Nat) : Int) > (120 : Int))) then
     some (((List.take (List.length v0_0) (List.drop 0 v0_0)), false, ()), v39, (v42_0, v42_1, v42_2, ()), v45, v131, ())
    else
     if (((0 + (List.length v0_0)) = (List.length v0_0)) ∧ ((((List.length v0_0) + (List.length (List.take 1 (List.drop 0 [((v1_0, (List.take (List.length v1_1) (List.drop 0 v1_1))), v2)])))) * 48) ≤ 140737488355328)) then
      some (((List.take ((List.length v0_0) + (List.length (List.take 1 (List.drop 0 [((v1_0, (List.take (List.length v1_1) (List.drop 0 v1_1))), v2)])))) (List.drop 0 ((List.drop 0 v0_0) ++ (List.take 1 (List.drop 0 [((v1_0, (List.take (List.length v1_1) (List.drop 0 v1_1))), v2)]))))), v0_1, ()), v39, (v42_0, v42_1, v42_2, ()), v45, v131, ())
     else
      none
theorem impl_ElementsOf_at5_at52_at81_eq : inlStep f65.ntmps 82 81 E41_at5_at52_at81 L41_at5_at52_at81_0 f65.results.toList (codeOf f65) shi41_at5_at52_at81 sho41_at5_at52_at81 = impl_ElementsOf_at5_at52_at81 := by kernel_rfl
noncomputable def I41_at5_at52_at81 : CallD := ⟨f65.ntmps, shi41_at5_at52_at81, 82, sho41_at5_at52_at81, impl_ElementsOf_at5_at52_at81, 0⟩
theorem I41_at5_at52_at81_ok : InlOk prog 81 65 I41_at5_at52_at81 := inlOk_of (tysOk_of tyl_ok) E41_at5_at52_at81_ok (L := L41_at5_at52_at81_0) func65 (by kernel_rfl) (c := codeOf f65) (by kernel_rfl) (codeOk_in (L := L41_at5_at52_at81_0) (tysOk_of tyl_ok) E41_at5_at52_at81_ok mixed (c := codeOf f65) (bs := []) (by kernel_rfl) allNil (by kernel_rfl)) (by kernel_rfl) (by kernel_rfl) impl_ElementsOf_at5_at52_at81_eq
noncomputable def E41_at5_at52 : Env := ⟨ty0, fun g => ifEq g 34 (some A34) (ifEq g 42 (some A42) (ifEq g 95 (some A95) (ifEq g 96 (some A96) (ifEq g 64 (some A64) (ifEq g 66 (some A66) (none)))))), fun _ => none, fun _ => none, fun d => ifI (Nat.beq d 31) (some (65, I41_at5_at52_at31)) (ifI (Nat.beq d 65) (some (65, I41_at5_at52_at65)) (ifI (Nat.beq d 81) (some (65, I41_at5_at52_at81)) (none)))⟩
theorem E41_at5_at52_ok : FnsOk prog E41_at5_at52 := (oneIl (d0 := 31) (g0 := 65) I41_at5_at52_at31_ok (oneIl (d0 := 65) (g0 := 65) I41_at5_at52_at65_ok (oneIl (d0 := 81) (g0 := 65) I41_at5_at52_at81_ok (oF A34_ok func34 (oF A42_ok func42 (oF A95_ok func95 (oF A96_ok func96 (oF A64_ok func64 (oF A66_ok func66 (noFns _ _))))))))))
noncomputable def L41_at5_at52_0 : Nat → Option LoopD := fun _ => none
def sh41_at5_at52_5 : List Fm := .box 100000 [.own (.pair (.pair (.int .i64) (.sl (.int .i64))) .str) 100001 false, .val .bool] :: .cell (.val (.int .i64)) :: d :: d :: .box 100400 [.val (.int .i64), .val (.sl (.int .i64)), .val .str] :: d :: d :: .cell (.val (.int .i64)) :: D 75 (.fnv 63 [] :: D 4 (.ali 100000 0 :: D 4 (.cell (.val (.int .i64)) :: D 58 [])))
def xs41_at5_at52_5 : List (Ex × List Fm) := [(.exit 0, [d, d, d, d, d, d, d, d, d, d, d, d, d, d, d, d, d, d, d, d, d, d, d, d, d, d, d, d, d, d, d, d, d, d, d, d, d, d, d, d, d, d, d, d, d, d, d, d, d, d, d, d, d, d, d, d, d, d, d, d, d, d, d, d, d, d, d, d, d, d, d, d, d, d, d, d, d, d, d, d, d, d, d, .fnv 63 [], d, d, d, d, .box 108800 [.own (.pair (.pair (.int .i64) (.sl (.int .i64))) .str) 108801 false, .val .bool], d, d, d, d, .cell (.val (.int .i64)), d, d, d, d, d, d, d, d, d, d, d, d, d, d, d, d, d, d, d, d, d, d, d, d, d, d, d, d, d, d, d, d, d, d, d, d, d, d, d, d, d, d, d, d, d, d, d, d, d, d, d, d, d, d, d, d, d, d])]
noncomputable def impl_ElementsOf_at5_at52_l5 : (((List ((Int × (List Int)) × ByteArray)) × Bool × Unit) × Int × (Int × (List Int) × ByteArray × Unit) × Int × Int × Unit) → Option ((((List ((Int × (List Int)) × ByteArray)) × Bool × Unit) × Int × (Int × (List Int) × ByteArray × Unit) × Int × Int × Unit) ⊕ ((((List ((Int × (List Int)) × ByteArray)) × Bool × Unit) × Int × Unit))) := fun ((v0_0, v0_1, _), v1, (v4_0, v4_1, v4_2, _), v7, v93, _) =>
 bif (decide (v7 ≤ v1)) then
  bif v0_1 then
   if (((0 : Int) ≤ v7) ∧ (v7 < (((List.length v0_0) : Nat) : Int))) then
    Option.bind (impl_MulGrades (v4_0, v4_1) ((List.getD v0_0 (0 + (Int.toNat v7)) (((0 : Int), []), (⟨Array.empty⟩ : ByteArray))).1.1, (List.getD v0_0 (0 + (Int.toNat v7)) (((0 : Int), []), (⟨Array.empty⟩ : ByteArray))).1.2)) fun ((r0, r1), r2) =>
     if (((ByteArray.size v4_2) + (ByteArray.size (List.getD v0_0 (0 + (Int.toNat v7)) (((0 : Int), []), (⟨Array.empty⟩ : ByteArray))).2)) ≤ 9223372036854775807) then
      Option.bind (impl_ElementsOf_at5_at52_at65 (((List.take (List.length v0_0) (List.drop 0 v0_0)), v0_1, ()), (r0, (List.take (List.length r1) (List.drop 0 r1))), (v4_2 ++ (List.getD v0_0 (0 + (Int.toNat v7)) (((0 : Int), []), (⟨Array.empty⟩ : ByteArray))).2), v1, (v4_0, v4_1, v4_2, ()), v7, ((List.getD v0_0 (0 + (Int.toNat v7)) (((0 : Int), []), (⟨Array.empty⟩ : ByteArray))).1.1, (List.getD v0_0 (0 + (Int.toNat v7)) (((0 : Int), []), (⟨Array.empty⟩ : ByteArray))).1.2, (List.getD v0_0 (0 + (Int.toNat v7)) (((0 : Int), []), (⟨Array.empty⟩ : ByteArray))).2, ()), (r0, (List.take (List.length r1) (List.drop 0 r1)), ()), v93, ())) fun ((r3, r4, _), r5, (r6, r7, r8, _), r9, (r10, r11, r12, _), (r13, r14, _), r15, _) =>
       Option.bind (impl_MulGrades (r10, r11) (r6, r7)) fun ((r16, r17), r18) =>
        if (((ByteArray.size r12) + (ByteArray.size r8)) ≤ 9223372036854775807) then
         Option.bind (impl_ElementsOf_at5_at52_at81 (((List.take (List.length r3) (List.drop 0 r3)), r4, ()), (r16, (List.take (List.length r17) (List.drop 0 r17)), ()), (r12 ++ r8), r5, (r6, r7, r8, ()), r9, r15, ())) fun ((r19, r20, _), r21, (r22, r23, r24, _), r25, r26, _) =>
          some (Sum.inl (((List.take (List.length r19) (List.drop 0 r19)), r20, ()), r21, (r22, r23, r24, ()), (IntKind.wrap .i64 (r25 + (1 : Int))), r26, ()))
        else
         none
     else
      none
   else
    none
  else
   some (Sum.inr (((List.take (List.length v0_0) (List.drop 0 v0_0)), v0_1, ()), v93, ()))
 else
  some (Sum.inr (((List.take (List.length v0_0) (List.drop 0 v0_0)), v0_1, ()), v93, ()))
theorem impl_ElementsOf_at5_at52_l5_eq : loopStep 82 E41_at5_at52 L41_at5_at52_0 (loopOf f63 5) sh41_at5_at52_5 xs41_at5_at52_5 = impl_ElementsOf_at5_at52_l5 := by kernel_rfl
theorem loop41_at5_at52_5 {L} (h : L 5 = some ⟨82, sh41_at5_at52_5, xs41_at5_at52_5, impl_ElementsOf_at5_at52_l5⟩) : LoopOk prog L (loopOf f63 5) := lo impl_ElementsOf_at5_at52_l5_eq E41_at5_at52_ok allNil h
noncomputable def L41_at5_at52_1 : Nat → Option LoopD := fun n => ifEq n 5 (some ⟨82, sh41_at5_at52_5, xs41_at5_at52_5, impl_ElementsOf_at5_at52_l5⟩) (L41_at5_at52_0 n)
def shi41_at5_at52 : List Fm := .box 100000 [.own (.pair (.pair (.int .i64) (.sl (.int .i64))) .str) 100001 false, .val .bool] :: .cell (.val (.int .i64)) :: D 81 (.fnv 63 [] :: D 4 (.ali 100000 0 :: D 4 (.cell (.val (.int .i64)) :: D 58 [])))
def sho41_at5_at52 : List Fm := d :: .fnv 63 [] :: D 4 (.box 100600 [.own (.pair (.pair (.int .i64) (.sl (.int .i64))) .str) 100601 false, .val .bool] :: D 4 (.cell (.val (.int .i64)) :: D 58 []))
noncomputable def impl_ElementsOf_at5_at52 : (((List ((Int × (List Int)) × ByteArray)) × Bool × Unit) × Int × Int × Unit) → Option (((List ((Int × (List Int)) × ByteArray)) × Bool × Unit) × Int × Unit) := fun ((v0_0, v0_1, _), v1, v93, _) =>
 if (((0 : Int) ≤ v1) ∧ (v1 < (((List.length v0_0) : Nat) : Int))) then
  Option.bind (impl_Stabilise ((List.getD v0_0 (0 + (Int.toNat v1)) (((0 : Int), []), (⟨Array.empty⟩ : ByteArray))).1.1, (List.getD v0_0 (0 + (Int.toNat v1)) (((0 : Int), []), (⟨Array.empty⟩ : ByteArray))).1.2)) fun ((r0, r1), r2) =>
   bif r2 then
    if (((ByteArray.size (⟨#[(40 : UInt8)]⟩ : ByteArray)) + (ByteArray.size (List.getD v0_0 (0 + (Int.toNat v1)) (((0 : Int), []), (⟨Array.empty⟩ : ByteArray))).2)) ≤ 9223372036854775807) then
     if (((ByteArray.size ((⟨#[(40 : UInt8)]⟩ : ByteArray) ++ (List.getD v0_0 (0 + (Int.toNat v1)) (((0 : Int), []), (⟨Array.empty⟩ : ByteArray))).2)) + (ByteArray.size (⟨#[(41 : UInt8), (35 : UInt8)]⟩ : ByteArray))) ≤ 9223372036854775807) then
      Option.bind (impl_ElementsOf_at5_at52_at31 (((List.take (List.length v0_0) (List.drop 0 v0_0)), v0_1, ()), (r0, (List.take (List.length r1) (List.drop 0 r1)), ()), (((⟨#[(40 : UInt8)]⟩ : ByteArray) ++ (List.getD v0_0 (0 + (Int.toNat v1)) (((0 : Int), []), (⟨Array.empty⟩ : ByteArray))).2) ++ (⟨#[(41 : UInt8), (35 : UInt8)]⟩ : ByteArray)), v1, ((List.getD v0_0 (0 + (Int.toNat v1)) (((0 : Int), []), (⟨Array.empty⟩ : ByteArray))).1.1, (List.getD v0_0 (0 + (Int.toNat v1)) (((0 : Int), []), (⟨Array.empty⟩ : ByteArray))).1.2, (List.getD v0_0 (0 + (Int.toNat v1)) (((0 : Int), []), (⟨Array.empty⟩ : ByteArray))).2, ()), v93, ())) fun ((r3, r4, _), r5, (r6, r7, r8, _), r9, _) =>
       Option.bind (loopF impl_ElementsOf_at5_at52_l5 (((List.take (List.length r3) (List.drop 0 r3)), r4, ()), r5, (r6, r7, r8, ()), (0 : Int), r9, ())) fun ((r10, r11, _), r12, _) =>
        some (((List.take (List.length r10) (List.drop 0 r10)), r11, ()), r12, ())
     else
      none
    else
     none
   else
    Option.bind (loopF impl_ElementsOf_at5_at52_l5 (((List.take (List.length v0_0) (List.drop 0 v0_0)), v0_1, ()), v1, ((List.getD v0_0 (0 + (Int.toNat v1)) (((0 : Int), []), (⟨Array.empty⟩ : ByteArray))).1.1, (List.getD v0_0 (0 + (Int.toNat v1)) (((0 : Int), []), (⟨Array.empty⟩ : ByteArray))).1.2, (List.getD v0_0 (0 + (Int.toNat v1)) (((0 : Int), []), (⟨Array.empty⟩ : ByteArray))).2, ()), (0 : Int), v93, ())) fun ((r13, r14, _), r15, _) =>
     some (((List.take (List.length r13) (List.drop 0 r13)), r14, ()), r15, ())
 else
  none
theorem impl_ElementsOf_at5_at52_eq : inlStep f63.ntmps 62 52 E41_at5_at52 L41_at5_at52_1 f63.results.toList (codeOf f63) shi41_at5_at52 sho41_at5_at52 = impl_ElementsOf_at5_at52 := by kernel_rfl
noncomputable def I41_at5_at52 : CallD := ⟨f63.ntmps, shi41_at5_at52, 62, sho41_at5_at52, impl_ElementsOf_at5_at52, 0⟩
theorem I41_at5_at52_ok : InlOk prog 52 63 I41_at5_at52 := inlOk_of (tysOk_of tyl_ok) E41_at5_at52_ok (L := L41_at5_at52_1) func63 (by kernel_rfl) (c := codeOf f63) (by kernel_rfl) (codeOk_in (L := L41_at5_at52_1) (tysOk_of tyl_ok) E41_at5_at52_ok mixed (c := codeOf f63) (bs := [loopOf f63 5]) (by kernel_rfl) (allCons (loop41_at5_at52_5 rfl) allNil) (by kernel_rfl)) (by kernel_rfl) (by kernel_rfl) impl_ElementsOf_at5_at52_eq
noncomputable def E41_at5 : Env := ⟨ty0, fun g => ifEq g 34 (some A34) (ifEq g 42 (some A42) (ifEq g 95 (some A95) (ifEq g 96 (some A96) (ifEq g 64 (some A64) (ifEq g 66 (some A66) (none)))))), fun _ => none, fun _ => none, fun d => ifI (Nat.beq d 32) (some (65, I41_at5_at32)) (ifI (Nat.beq d 52) (some (63, I41_at5_at52)) (none))⟩
theorem E41_at5_ok : FnsOk prog E41_at5 := (oneIl (d0 := 32) (g0 := 65) I41_at5_at32_ok (oneIl (d0 := 52) (g0 := 63) I41_at5_at52_ok (oF A34_ok func34 (oF A42_ok func42 (oF A95_ok func95 (oF A96_ok func96 (oF A64_ok func64 (oF A66_ok func66 (noFns _ _)))))))))
noncomputable def L41_at5_0 : Nat → Option LoopD := fun _ => none
def sh41_at5_5 : List Fm := d :: .fnv 63 [] :: .box 100200 [.val (.int .i64), .val (.sl (.int .i64)), .val (.sl (.int .i64)), .val (.sl (.pair (.int .i64) (.pair .str (.pair (.int .i64) (.int .i64)))))] :: d :: d :: d :: .box 100600 [.own (.pair (.pair (.int .i64) (.sl (.int .i64))) .str) 100601 false, .val .bool] :: D 10 (.cell (.own .str 101700 false) :: .cell (.val (.int .i64)) :: .cell (.val (.int .i64)) :: D 50 [])
def xs41_at5_5 : List (Ex × List Fm) := [(.exit 0, [d, .fnv 63 [], d, d, d, d, .box 100600 [.own (.pair (.pair (.int .i64) (.sl (.int .i64))) .str) 100601 false, .val .bool], d, d, d, d, d, d, d, d, d, d, d, d, d, d, d, d, d, d, d, d, d, d, d, d, d, d, d, d, d, d, d, d, d, d, d, d, d, d, d, d, d, d, d, d, d, d, d, d, d, d, d, d, d, d, d, d, d, d, d, d, d, d, d])]
noncomputable def impl_ElementsOf_at5_l5 : ((Int × (List Int) × (List Int) × (List (Int × (ByteArray × (Int × Int)))) × Unit) × ((List ((Int × (List Int)) × ByteArray)) × Bool × Unit) × (List ByteArray) × Int × Int × Unit) → Option (((Int × (List Int) × (List Int) × (List (Int × (ByteArray × (Int × Int)))) × Unit) × ((List ((Int × (List Int)) × ByteArray)) × Bool × Unit) × (List ByteArray) × Int × Int × Unit) ⊕ ((((List ((Int × (List Int)) × ByteArray)) × Bool × Unit) × Unit))) := fun ((v2_0, v2_1, v2_2, v2_3, _), (v6_0, v6_1, _), v17, v18, v19, _) =>
 bif (decide (v19 < v18)) then
  if (((0 : Int) ≤ v19) ∧ (v19 < (((List.length v17) : Nat) : Int))) then
   Option.bind (impl_ValueOf (v2_0, v2_1, v2_2, v2_3) (List.getD v17 (0 + (Int.toNat v19)) (⟨Array.empty⟩ : ByteArray))) fun ((r0, r1), r2) =>
    Option.bind (impl_ElementsOf_at5_at32 (((List.take (List.length v6_0) (List.drop 0 v6_0)), v6_1, ()), (r0, (List.take (List.length r1) (List.drop 0 r1)), ()), (List.getD v17 (0 + (Int.toNat v19)) (⟨Array.empty⟩ : ByteArray)), (v2_0, v2_1, v2_2, v2_3, ()), (List.take (List.length v17) (List.drop 0 v17)), v18, v19, ())) fun ((r3, r4, r5, r6, _), (r7, r8, _), r9, r10, r11, _) =>
     some (Sum.inl ((r3, r4, r5, r6, ()), ((List.take (List.length r7) (List.drop 0 r7)), r8, ()), (List.take (List.length r9) (List.drop 0 r9)), r10, (IntKind.wrap .i64 (r11 + (1 : Int))), ()))
  else
   none
 else
  some (Sum.inr (((List.take (List.length v6_0) (List.drop 0 v6_0)), v6_1, ()), ()))
theorem impl_ElementsOf_at5_l5_eq : loopStep 62 E41_at5 L41_at5_0 (loopOf f62 5) sh41_at5_5 xs41_at5_5 = impl_ElementsOf_at5_l5 := by kernel_rfl
theorem loop41_at5_5 {L} (h : L 5 = some ⟨62, sh41_at5_5, xs41_at5_5, impl_ElementsOf_at5_l5⟩) : LoopOk prog L (loopOf f62 5) := lo impl_ElementsOf_at5_l5_eq E41_at5_ok allNil h
noncomputable def L41_at5_1 : Nat → Option LoopD := fun n => ifEq n 5 (some ⟨62, sh41_at5_5, xs41_at5_5, impl_ElementsOf_at5_l5⟩) (L41_at5_0 n)
def sh41_at5_11 : List Fm := d :: .fnv 63 [] :: D 4 (.box 100600 [.own (.pair (.pair (.int .i64) (.sl (.int .i64))) .str) 100601 false, .val .bool] :: D 4 (.cell (.val (.int .i64)) :: D 58 []))
def xs41_at5_11 : List (Ex × List Fm) := [(.exit 2, [d, d, d, d, d, d, .box 100600 [.own (.pair (.pair (.int .i64) (.sl (.int .i64))) .str) 100601 false, .val .bool], d, d, d, d, d, d, d, d, d, d, d, d, d, d, d, d, d, d, d, d, d, d, d, d, d, d, d, d, d, d, d, d, d, d, d, d, d, d, d, d, d, d, d, d, d, d, d, d, d, d, d, d, d, d, d, d, d, d, d, d, d, d, d])]
noncomputable def impl_ElementsOf_at5_l11 : (((List ((Int × (List Int)) × ByteArray)) × Bool × Unit) × Int × Unit) → Option ((((List ((Int × (List Int)) × ByteArray)) × Bool × Unit) × Int × Unit) ⊕ ((((List ((Int × (List Int)) × ByteArray)) × Bool × Unit) × Unit))) := fun ((v6_0, v6_1, _), v11, _) =>
 bif (decide (v11 < (((List.length v6_0) : Nat) : Int))) then
  bif v6_1 then
   Option.bind (impl_ElementsOf_at5_at52 (((List.take (List.length v6_0) (List.drop 0 v6_0)), v6_1, ()), v11, v11, ())) fun ((r0, r1, _), r2, _) =>
    some (Sum.inl (((List.take (List.length r0) (List.drop 0 r0)), r1, ()), (IntKind.wrap .i64 (r2 + (1 : Int))), ()))
  else
   some (Sum.inr (((List.take (List.length v6_0) (List.drop 0 v6_0)), v6_1, ()), ()))
 else
  some (Sum.inr (((List.take (List.length v6_0) (List.drop 0 v6_0)), v6_1, ()), ()))
theorem impl_ElementsOf_at5_l11_eq : loopStep 62 E41_at5 L41_at5_1 (loopOf f62 11) sh41_at5_11 xs41_at5_11 = impl_ElementsOf_at5_l11 := by kernel_rfl
theorem loop41_at5_11 {L} (h : L 11 = some ⟨62, sh41_at5_11, xs41_at5_11, impl_ElementsOf_at5_l11⟩) : LoopOk prog L (loopOf f62 11) := lo impl_ElementsOf_at5_l11_eq E41_at5_ok allNil h
noncomputable def L41_at5_2 : Nat → Option LoopD := fun n => ifEq n 11 (some ⟨62, sh41_at5_11, xs41_at5_11, impl_ElementsOf_at5_l11⟩) (L41_at5_1 n)
def shi41_at5 : List Fm := .cell (.val (.pair (.int .i64) (.pair (.sl (.int .i64)) (.pair (.sl (.int .i64)) (.sl (.pair (.int .i64) (.pair .str (.pair (.int .i64) (.int .i64))))))))) :: .fnv 63 [] :: D 68 []
def sho41_at5 : List Fm := D 5 (.tup [.own (.pair (.pair (.int .i64) (.sl (.int .i64))) .str) 100501 false, .val .bool] :: d :: d :: [])
noncomputable def impl_ElementsOf_at5 : ((Int × ((List Int) × ((List Int) × (List (Int × (ByteArray × (Int × Int))))))) × Unit) → Option (((List ((Int × (List Int)) × ByteArray)) × Bool × Unit) × Unit) := fun ((v0_0, v0_1, v0_2, v0_3), _) =>
 Option.bind (impl_AutomatonValid (v0_0, v0_1, v0_2, v0_3)) fun r0 =>
  bif (!r0) then
   some (([], false, ()), ())
  else
   Option.bind (loopF impl_ElementsOf_at5_l5 ((v0_0, v0_1, v0_2, v0_3, ()), ([], true, ()), (List.take 2 (List.drop 0 [(⟨#[(97 : UInt8)]⟩ : ByteArray), (⟨#[(98 : UInt8)]⟩ : ByteArray)])), ((2 : Nat) : Int), (0 : Int), ())) fun ((r1, r2, _), _) =>
    Option.bind (loopF impl_ElementsOf_at5_l11 (((List.take (List.length r1) (List.drop 0 r1)), r2, ()), (0 : Int), ())) fun ((r3, r4, _), _) =>
     bif (!r4) then
      some (([], false, ()), ())
     else
      some (((List.take (List.length r3) (List.drop 0 r3)), true, ()), ())
theorem impl_ElementsOf_at5_eq : inlStep f62.ntmps 8 5 E41_at5 L41_at5_2 f62.results.toList (codeOf f62) shi41_at5 sho41_at5 = impl_ElementsOf_at5 := by kernel_rfl
noncomputable def I41_at5 : CallD := ⟨f62.ntmps, shi41_at5, 8, sho41_at5, impl_ElementsOf_at5, 0⟩
theorem I41_at5_ok : InlOk prog 5 62 I41_at5 := inlOk_of (tysOk_of tyl_ok) E41_at5_ok (L := L41_at5_2) func62 (by kernel_rfl) (c := codeOf f62) (by kernel_rfl) (codeOk_in (L := L41_at5_2) (tysOk_of tyl_ok) E41_at5_ok mixed (c := codeOf f62) (bs := [loopOf f62 5, loopOf f62 11]) (by kernel_rfl) (allCons (loop41_at5_5 rfl) (allCons (loop41_at5_11 rfl) allNil)) (by kernel_rfl)) (by kernel_rfl) (by kernel_rfl) impl_ElementsOf_at5_eq
noncomputable def E41 : Env := ⟨ty0, fun g => ifEq g 34 (some A34) (ifEq g 42 (some A42) (ifEq g 95 (some A95) (ifEq g 96 (some A96) (ifEq g 64 (some A64) (ifEq g 66 (some A66) (none)))))), fun _ => none, fun _ => none, fun d => ifI (Nat.beq d 5) (some (62, I41_at5)) (none)⟩
theorem E41_ok : FnsOk prog E41 := (oneIl (d0 := 5) (g0 := 62) I41_at5_ok (oF A34_ok func34 (oF A42_ok func42 (oF A95_ok func95 (oF A96_ok func96 (oF A64_ok func64 (oF A66_ok func66 (noFns _ _))))))))
noncomputable def L41_0 : Nat → Option LoopD := fun _ => none
noncomputable def impl_ElementsOf : (Int × ((List Int) × ((List Int) × (List (Int × (ByteArray × (Int × Int))))))) → Option ((List ((Int × (List Int)) × ByteArray)) × Bool) := fun (a0_0, a0_1, a0_2, a0_3) =>
 Option.bind (impl_ElementsOf_at5 ((a0_0, a0_1, a0_2, a0_3), ())) fun ((r0, r1, _), _) =>
  some ((List.take (List.length r0) (List.drop 0 r0)), r1)
noncomputable def A41 : FnA := ⟨[.v (.pair (.int .i64) (.pair (.sl (.int .i64)) (.pair (.sl (.int .i64)) (.sl (.pair (.int .i64) (.pair .str (.pair (.int .i64) (.int .i64))))))))], true, [.sl (.pair (.pair (.int .i64) (.sl (.int .i64))) .str), .bool], fun x => impl_ElementsOf x.1⟩
theorem impl_ElementsOf_eq : fnF E41 L41_0 [.v (.pair (.int .i64) (.pair (.sl (.int .i64)) (.pair (.sl (.int .i64)) (.sl (.pair (.int .i64) (.pair .str (.pair (.int .i64) (.int .i64))))))))] true [.sl (.pair (.pair (.int .i64) (.sl (.int .i64))) .str), .bool] f41.ntmps f41.results.toList (codeOf f41) = fun x => impl_ElementsOf x.1 := by kernel_rfl
theorem A41_ok : FnOk prog 41 A41 := fo impl_ElementsOf_eq func41 E41_ok allNil
/-! impl.firstWith -/
noncomputable def E31 : Env := ⟨ty0, fun g => ifEq g 41 (some A41) (none), fun _ => none, fun _ => none, fun _ => none⟩
theorem E31_ok : FnsOk prog E31 := (oF A41_ok func41 (noFns _ _))
noncomputable def L31_0 : Nat → Option LoopD := fun _ => none
def sh31_3 : List Fm := d :: .clo [.pair (.int .i64) (.sl (.int .i64))] .bool :: D 13 (.cell (.own (.pair (.pair (.int .i64) (.sl (.int .i64))) .str) 101500 false) :: .cell (.val (.int .i64)) :: .cell (.val (.int .i64)) :: D 10 [])
def xs31_3 : List (Ex × List Fm) := [(.ret, (D 4 (.cell (.val .str) :: .cell (.val .bool) :: D 22 []))), (.exit 0, (D 28 []))]
noncomputable def impl_firstWith_l3 : ((((Int × (List Int)) × Unit) → Option (Bool)) × (List ((Int × (List Int)) × ByteArray)) × Int × Int × Unit) → Option (((((Int × (List Int)) × Unit) → Option (Bool)) × (List ((Int × (List Int)) × ByteArray)) × Int × Int × Unit) ⊕ ((ByteArray × Bool × Unit) ⊕ (Unit))) := fun (v1, v15, v16, v17, _) =>
 bif (decide (v17 < v16)) then
  if (((0 : Int) ≤ v17) ∧ (v17 < (((List.length v15) : Nat) : Int))) then
   Option.bind (v1 (((List.getD v15 (0 + (Int.toNat v17)) (((0 : Int), []), (⟨Array.empty⟩ : ByteArray))).1.1, (List.getD v15 (0 + (Int.toNat v17)) (((0 : Int), []), (⟨Array.empty⟩ : ByteArray))).1.2), ())) fun r0 =>
    bif r0 then
     some (Sum.inr (Sum.inl ((List.getD v15 (0 + (Int.toNat v17)) (((0 : Int), []), (⟨Array.empty⟩ : ByteArray))).2, true, ())))
    else
     some (Sum.inl (v1, (List.take (List.length v15) (List.drop 0 v15)), v16, (IntKind.wrap .i64 (v17 + (1 : Int))), ()))
  else
   none
 else
  some (Sum.inr (Sum.inr ()))
theorem impl_firstWith_l3_eq : loopStep 28 E31 L31_0 (loopOf f31 3) sh31_3 xs31_3 = impl_firstWith_l3 := by kernel_rfl
theorem loop31_3 {L} (h : L 3 = some ⟨28, sh31_3, xs31_3, impl_firstWith_l3⟩) : LoopOk prog L (loopOf f31 3) := lo impl_firstWith_l3_eq E31_ok allNil h
noncomputable def L31_1 : Nat → Option LoopD := fun n => ifEq n 3 (some ⟨28, sh31_3, xs31_3, impl_firstWith_l3⟩) (L31_0 n)
noncomputable def impl_firstWith : (Int × ((List Int) × ((List Int) × (List (Int × (ByteArray × (Int × Int))))))) → (((Int × (List Int)) × Unit) → Option (Bool)) → Option (ByteArray × Bool) := fun (a0_0, a0_1, a0_2, a0_3) a1 =>
 Option.bind (impl_ElementsOf (a0_0, a0_1, a0_2, a0_3)) fun (r0, r1) =>
  Option.bind (loopF impl_firstWith_l3 (a1, (List.take (List.length r0) (List.drop 0 r0)), (((List.length r0) : Nat) : Int), (0 : Int), ())) fun r2 =>
   (match r2 with
   | .inl (d3, d4, _) =>
     some (d3, d4)
   | .inr _ =>
     some ((⟨#[]⟩ : ByteArray), false))
noncomputable def A31 : FnA := ⟨[.v (.pair (.int .i64) (.pair (.sl (.int .i64)) (.pair (.sl (.int .i64)) (.sl (.pair (.int .i64) (.pair .str (.pair (.int .i64) (.int .i64)))))))), .clo [.pair (.int .i64) (.sl (.int .i64))] .bool], true, [.str, .bool], fun x => impl_firstWith x.1 x.2.1⟩
theorem impl_firstWith_eq : fnF E31 L31_1 [.v (.pair (.int .i64) (.pair (.sl (.int .i64)) (.pair (.sl (.int .i64)) (.sl (.pair (.int .i64) (.pair .str (.pair (.int .i64) (.int .i64)))))))), .clo [.pair (.int .i64) (.sl (.int .i64))] .bool] true [.str, .bool] f31.ntmps f31.results.toList (codeOf f31) = fun x => impl_firstWith x.1 x.2.1 := by kernel_rfl
theorem A31_ok : FnOk prog 31 A31 := fo impl_firstWith_eq func31 E31_ok (allCons (loop31_3 rfl) allNil)
/-! impl.GradeBetween -/
noncomputable def E33 : Env := ⟨ty0, fun g => ifEq g 34 (some A34) (ifEq g 53 (some A53) (ifEq g 54 (some A54) (none))), fun _ => none, fun _ => none, fun _ => none⟩
theorem E33_ok : FnsOk prog E33 := (oF A34_ok func34 (oF A53_ok func53 (oF A54_ok func54 (noFns _ _))))
noncomputable def L33_0 : Nat → Option LoopD := fun _ => none
def sh33_8 : List Fm := d :: d :: .box 100200 [.val (.int .i64), .val (.sl (.int .i64)), .val (.sl (.int .i64)), .val (.sl (.pair (.int .i64) (.pair .str (.pair (.int .i64) (.int .i64)))))] :: .box 100300 [.val (.int .i64), .val (.sl (.int .i64))] :: d :: .cell (.val (.int .i64)) :: d :: .cell (.val (.int .i64)) :: D 18 (.cell (.val (.sl (.int .i64))) :: .cell (.val (.int .i64)) :: .cell (.val (.int .i64)) :: D 4 (.cell (.val (.sl (.int .i64))) :: .cell (.val (.int .i64)) :: .cell (.val (.int .i64)) :: D 12 []))
def xs33_8 : List (Ex × List Fm) := [(.exit 2, [d, d, .box 100200 [.val (.int .i64), .val (.sl (.int .i64)), .val (.sl (.int .i64)), .val (.sl (.pair (.int .i64) (.pair .str (.pair (.int .i64) (.int .i64)))))], .box 100300 [.val (.int .i64), .val (.sl (.int .i64))], d, .cell (.val (.int .i64)), d, d, d, d, d, d, d, d, d, d, d, d, d, d, d, d, d, d, d, d, .cell (.val (.sl (.int .i64))), .cell (.val (.int .i64)), .cell (.val (.int .i64)), d, d, d, d, d, d, d, d, d, d, d, d, d, d, d, d, d, d, d])]
noncomputable def impl_GradeBetween_l8 : ((Int × (List Int) × (List Int) × (List (Int × (ByteArray × (Int × Int)))) × Unit) × (Int × (List Int) × Unit) × Int × Int × (List Int) × Int × Int × (List Int) × Int × Int × Unit) → Option (((Int × (List Int) × (List Int) × (List (Int × (ByteArray × (Int × Int)))) × Unit) × (Int × (List Int) × Unit) × Int × Int × (List Int) × Int × Int × (List Int) × Int × Int × Unit) ⊕ (((Int × (List Int) × (List Int) × (List (Int × (ByteArray × (Int × Int)))) × Unit) × (Int × (List Int) × Unit) × Int × (List Int) × Int × Int × Unit))) := fun ((v2_0, v2_1, v2_2, v2_3, _), (v3_0, v3_1, _), v5, v7, v26, v27, v28, v33, v34, v35, _) =>
 bif (decide (v35 < v34)) then
  if (((0 : Int) ≤ v35) ∧ (v35 < (((List.length v33) : Nat) : Int))) then
   Option.bind (impl_Matrix_at (v3_0, v3_1) v7 (List.getD v33 (Int.toNat v35) (0 : Int))) fun r0 =>
    some (Sum.inl ((v2_0, v2_1, v2_2, v2_3, ()), (v3_0, v3_1, ()), (if (r0 < v5) then r0 else v5), v7, v26, v27, v28, v33, v34, (IntKind.wrap .i64 (v35 + (1 : Int))), ()))
  else
   none
 else
  some (Sum.inr ((v2_0, v2_1, v2_2, v2_3, ()), (v3_0, v3_1, ()), v5, v26, v27, v28, ()))
theorem impl_GradeBetween_l8_eq : loopStep 48 E33 L33_0 (loopOf f33 8) sh33_8 xs33_8 = impl_GradeBetween_l8 := by kernel_rfl
theorem loop33_8 {L} (h : L 8 = some ⟨48, sh33_8, xs33_8, impl_GradeBetween_l8⟩) : LoopOk prog L (loopOf f33 8) := lo impl_GradeBetween_l8_eq E33_ok allNil h
noncomputable def L33_1 : Nat → Option LoopD := fun n => ifEq n 8 (some ⟨48, sh33_8, xs33_8, impl_GradeBetween_l8⟩) (L33_0 n)
def sh33_5 : List Fm := d :: d :: .box 100200 [.val (.int .i64), .val (.sl (.int .i64)), .val (.sl (.int .i64)), .val (.sl (.pair (.int .i64) (.pair .str (.pair (.int .i64) (.int .i64)))))] :: .box 100300 [.val (.int .i64), .val (.sl (.int .i64))] :: d :: .cell (.val (.int .i64)) :: D 20 (.cell (.val (.sl (.int .i64))) :: .cell (.val (.int .i64)) :: .cell (.val (.int .i64)) :: D 19 [])
def xs33_5 : List (Ex × List Fm) := [(.exit 0, (D 5 (.cell (.val (.int .i64)) :: D 42 [])))]
noncomputable def impl_GradeBetween_l5 : ((Int × (List Int) × (List Int) × (List (Int × (ByteArray × (Int × Int)))) × Unit) × (Int × (List Int) × Unit) × Int × (List Int) × Int × Int × Unit) → Option (((Int × (List Int) × (List Int) × (List (Int × (ByteArray × (Int × Int)))) × Unit) × (Int × (List Int) × Unit) × Int × (List Int) × Int × Int × Unit) ⊕ ((Int × Unit))) := fun ((v2_0, v2_1, v2_2, v2_3, _), (v3_0, v3_1, _), v5, v26, v27, v28, _) =>
 bif (decide (v28 < v27)) then
  if (((0 : Int) ≤ v28) ∧ (v28 < (((List.length v26) : Nat) : Int))) then
   Option.bind (loopF impl_GradeBetween_l8 ((v2_0, v2_1, v2_2, v2_3, ()), (v3_0, v3_1, ()), v5, (List.getD v26 (Int.toNat v28) (0 : Int)), v26, v27, v28, v2_2, (((List.length v2_2) : Nat) : Int), (0 : Int), ())) fun ((r0, r1, r2, r3, _), (r4, r5, _), r6, r7, r8, r9, _) =>
    some (Sum.inl ((r0, r1, r2, r3, ()), (r4, r5, ()), r6, r7, r8, (IntKind.wrap .i64 (r9 + (1 : Int))), ()))
  else
   none
 else
  some (Sum.inr (v5, ()))
theorem impl_GradeBetween_l5_eq : loopStep 48 E33 L33_1 (loopOf f33 5) sh33_5 xs33_5 = impl_GradeBetween_l5 := by kernel_rfl
theorem loop33_5 {L} (h : L 5 = some ⟨48, sh33_5, xs33_5, impl_GradeBetween_l5⟩) : LoopOk prog L (loopOf f33 5) := lo impl_GradeBetween_l5_eq E33_ok (allCons (loop33_8 rfl) allNil) h
noncomputable def L33_2 : Nat → Option LoopD := fun n => ifEq n 5 (some ⟨48, sh33_5, xs33_5, impl_GradeBetween_l5⟩) (L33_1 n)
noncomputable def impl_GradeBetween : (Int × ((List Int) × ((List Int) × (List (Int × (ByteArray × (Int × Int))))))) → (Int × (List Int)) → Option (Int) := fun (a0_0, a0_1, a0_2, a0_3) (a1_0, a1_1) =>
 Option.bind (impl_AutomatonValid (a0_0, a0_1, a0_2, a0_3)) fun r0 =>
  bif (!r0) then
   some (-1 : Int)
  else
   Option.bind (impl_GradesValid (a1_0, a1_1)) fun r1 =>
    bif (!r1) then
     some (-1 : Int)
    else
     bif (a1_0 != a0_0) then
      some (-1 : Int)
     else
      Option.bind (loopF impl_GradeBetween_l5 ((a0_0, a0_1, a0_2, a0_3, ()), (a1_0, a1_1, ()), (3 : Int), a0_1, (((List.length a0_1) : Nat) : Int), (0 : Int), ())) fun (r2, _) =>
       some r2
noncomputable def A33 : FnA := ⟨[.v (.pair (.int .i64) (.pair (.sl (.int .i64)) (.pair (.sl (.int .i64)) (.sl (.pair (.int .i64) (.pair .str (.pair (.int .i64) (.int .i64)))))))), .v (.pair (.int .i64) (.sl (.int .i64)))], true, [.int .i64], fun x => impl_GradeBetween x.1 x.2.1⟩
theorem impl_GradeBetween_eq : fnF E33 L33_2 [.v (.pair (.int .i64) (.pair (.sl (.int .i64)) (.pair (.sl (.int .i64)) (.sl (.pair (.int .i64) (.pair .str (.pair (.int .i64) (.int .i64)))))))), .v (.pair (.int .i64) (.sl (.int .i64)))] true [.int .i64] f33.ntmps f33.results.toList (codeOf f33) = fun x => impl_GradeBetween x.1 x.2.1 := by kernel_rfl
theorem A33_ok : FnOk prog 33 A33 := fo impl_GradeBetween_eq func33 E33_ok (allCons (loop33_5 rfl) allNil)
/-! impl.GrowingOf$1 -/
noncomputable def E32 : Env := ⟨ty0, fun g => ifEq g 33 (some A33) (none), fun _ => none, fun _ => none, fun _ => none⟩
theorem E32_ok : FnsOk prog E32 := (oF A33_ok func33 (noFns _ _))
noncomputable def L32_0 : Nat → Option LoopD := fun _ => none
noncomputable def impl_GrowingOf_1 : (Int × (List Int)) → (Int × ((List Int) × ((List Int) × (List (Int × (ByteArray × (Int × Int))))))) → Option (Bool) := fun (a0_0, a0_1) (a1_0, a1_1, a1_2, a1_3) =>
 Option.bind (impl_GradeBetween (a1_0, a1_1, a1_2, a1_3) (a0_0, a0_1)) fun r0 =>
  some (r0 == (2 : Int))
noncomputable def A32 : FnA := ⟨[.v (.pair (.int .i64) (.sl (.int .i64))), .cap (.pair (.int .i64) (.pair (.sl (.int .i64)) (.pair (.sl (.int .i64)) (.sl (.pair (.int .i64) (.pair .str (.pair (.int .i64) (.int .i64))))))))], true, [.bool], fun x => impl_GrowingOf_1 x.1 x.2.1⟩
theorem impl_GrowingOf_1_eq : fnF E32 L32_0 [.v (.pair (.int .i64) (.sl (.int .i64))), .cap (.pair (.int .i64) (.pair (.sl (.int .i64)) (.pair (.sl (.int .i64)) (.sl (.pair (.int .i64) (.pair .str (.pair (.int .i64) (.int .i64))))))))] true [.bool] f32.ntmps f32.results.toList (codeOf f32) = fun x => impl_GrowingOf_1 x.1 x.2.1 := by kernel_rfl
theorem A32_ok : FnOk prog 32 A32 := fo impl_GrowingOf_1_eq func32 E32_ok allNil
/-! impl.GrowingOf -/
noncomputable def E12 : Env := ⟨ty0, fun g => ifEq g 31 (some A31) (ifEq g 32 (some A32) (none)), fun _ => none, fun _ => none, fun _ => none⟩
theorem E12_ok : FnsOk prog E12 := (oF A31_ok func31 (oF A32_ok func32 (noFns _ _)))
noncomputable def L12_0 : Nat → Option LoopD := fun _ => none
noncomputable def impl_GrowingOf : (Int × ((List Int) × ((List Int) × (List (Int × (ByteArray × (Int × Int))))))) → Option (ByteArray × Bool) := fun (a0_0, a0_1, a0_2, a0_3) =>
 Option.bind (impl_firstWith (a0_0, a0_1, a0_2, a0_3) (fun y0 => (impl_GrowingOf_1 y0.1 (a0_0, a0_1, a0_2, a0_3)))) fun (r1, r2) =>
  some (r1, r2)
noncomputable def A12 : FnA := ⟨[.v (.pair (.int .i64) (.pair (.sl (.int .i64)) (.pair (.sl (.int .i64)) (.sl (.pair (.int .i64) (.pair .str (.pair (.int .i64) (.int .i64))))))))], true, [.str, .bool], fun x => impl_GrowingOf x.1⟩
theorem impl_GrowingOf_eq : fnF E12 L12_0 [.v (.pair (.int .i64) (.pair (.sl (.int .i64)) (.pair (.sl (.int .i64)) (.sl (.pair (.int .i64) (.pair .str (.pair (.int .i64) (.int .i64))))))))] true [.str, .bool] f12.ntmps f12.results.toList (codeOf f12) = fun x => impl_GrowingOf x.1 := by kernel_rfl
theorem A12_ok : FnOk prog 12 A12 := fo impl_GrowingOf_eq func12 E12_ok allNil
/-! spec.l3Matrix -/
noncomputable def E71 : Env := ⟨ty0, fun _ => none, fun _ => none, fun _ => none, fun _ => none⟩
theorem E71_ok : FnsOk prog E71 := (noFns _ _)
noncomputable def L71_0 : Nat → Option LoopD := fun _ => none
def sh71_3 : List Fm := d :: .cell (.val .str) :: .box 100200 [.val (.int .i64), .val (.sl (.int .i64)), .val (.sl (.int .i64)), .val (.sl (.pair (.int .i64) (.pair .str (.pair (.int .i64) (.int .i64)))))] :: d :: .box 100400 [.val (.int .i64), .own (.int .i64) 100402 false] :: .box 100500 [.val (.int .i64), .own (.int .i64) 100502 false] :: D 9 (.cell (.val (.int .i64)) :: .cell (.val (.int .i64)) :: D 33 [])
def xs71_3 : List (Ex × List Fm) := [(.exit 0, [d, .cell (.val .str), .box 100200 [.val (.int .i64), .val (.sl (.int .i64)), .val (.sl (.int .i64)), .val (.sl (.pair (.int .i64) (.pair .str (.pair (.int .i64) (.int .i64)))))], d, .box 100400 [.val (.int .i64), .own (.int .i64) 100402 false], .box 100500 [.val (.int .i64), .own (.int .i64) 100502 false], d, d, d, d, d, d, d, d, d, d, d, d, d, d, d, d, d, d, d, d, d, d, d, d, d, d, d, d, d, d, d, d, d, d, d, d, d, d, d, d, d, d, d, d])]
noncomputable def spec_l3Matrix_l3 : (ByteArray × (Int × (List Int) × (List Int) × (List (Int × (ByteArray × (Int × Int)))) × Unit) × (Int × (List Int) × Unit) × (Int × (List Int) × Unit) × Int × Int × Unit) → Option ((ByteArray × (Int × (List Int) × (List Int) × (List (Int × (ByteArray × (Int × Int)))) × Unit) × (Int × (List Int) × Unit) × (Int × (List Int) × Unit) × Int × Int × Unit) ⊕ ((ByteArray × (Int × (List Int) × (List Int) × (List (Int × (ByteArray × (Int × Int)))) × Unit) × (Int × (List Int) × Unit) × (Int × (List Int) × Unit) × Unit))) := fun (v1, (v2_0, v2_1, v2_2, v2_3, _), (v4_0, v4_1, _), (v5_0, v5_1, _), v15, v16, _) =>
 bif (decide (v16 < v15)) then
  if (((0 + (List.length v5_1)) = (List.length v5_1)) ∧ ((((List.length v5_1) + (List.length (List.take 1 (List.drop 0 [(1000000 : Int)])))) * 8) ≤ 140737488355328)) then
   some (Sum.inl (v1, (v2_0, v2_1, v2_2, v2_3, ()), (v4_0, (List.take (List.length v4_1) (List.drop 0 v4_1)), ()), (v5_0, (List.take ((List.length v5_1) + (List.length (List.take 1 (List.drop 0 [(1000000 : Int)])))) (List.drop 0 ((List.drop 0 v5_1) ++ (List.take 1 (List.drop 0 [(1000000 : Int)]))))), ()), v15, (IntKind.wrap .i64 (v16 + (1 : Int))), ()))
  else
   none
 else
  some (Sum.inr (v1, (v2_0, v2_1, v2_2, v2_3, ()), (v4_0, (List.take (List.length v4_1) (List.drop 0 v4_1)), ()), (v5_0, (List.take (List.length v5_1) (List.drop 0 v5_1)), ()), ()))
theorem spec_l3Matrix_l3_eq : loopStep 50 E71 L71_0 (loopOf f71 3) sh71_3 xs71_3 = spec_l3Matrix_l3 := by kernel_rfl
theorem loop71_3 {L} (h : L 3 = some ⟨50, sh71_3, xs71_3, spec_l3Matrix_l3⟩) : LoopOk prog L (loopOf f71 3) := lo spec_l3Matrix_l3_eq E71_ok allNil h
noncomputable def L71_1 : Nat → Option LoopD := fun n => ifEq n 3 (some ⟨50, sh71_3, xs71_3, spec_l3Matrix_l3⟩) (L71_0 n)
def sh71_7 : List Fm := d :: .cell (.val .str) :: .box 100200 [.val (.int .i64), .val (.sl (.int .i64)), .val (.sl (.int .i64)), .val (.sl (.pair (.int .i64) (.pair .str (.pair (.int .i64) (.int .i64)))))] :: d :: .box 100400 [.val (.int .i64), .own (.int .i64) 100402 false] :: .box 100500 [.val (.int .i64), .own (.int .i64) 100502 false] :: D 19 (.cell (.val (.sl (.pair (.int .i64) (.pair .str (.pair (.int .i64) (.int .i64)))))) :: .cell (.val (.int .i64)) :: .cell (.val (.int .i64)) :: D 22 [])
def xs71_7 : List (Ex × List Fm) := [(.exit 2, [d, d, d, d, .box 100400 [.val (.int .i64), .own (.int .i64) 100402 false], .box 100500 [.val (.int .i64), .own (.int .i64) 100502 false], d, d, d, d, d, d, d, d, d, d, d, d, d, d, d, d, d, d, d, d, d, d, d, d, d, d, d, d, d, d, d, d, d, d, d, d, d, d, d, d, d, d, d, d])]
noncomputable def spec_l3Matrix_l7 : (ByteArray × (Int × (List Int) × (List Int) × (List (Int × (ByteArray × (Int × Int)))) × Unit) × (Int × (List Int) × Unit) × (Int × (List Int) × Unit) × (List (Int × (ByteArray × (Int × Int)))) × Int × Int × Unit) → Option ((ByteArray × (Int × (List Int) × (List Int) × (List (Int × (ByteArray × (Int × Int)))) × Unit) × (Int × (List Int) × Unit) × (Int × (List Int) × Unit) × (List (Int × (ByteArray × (Int × Int)))) × Int × Int × Unit) ⊕ (((Int × (List Int) × Unit) × (Int × (List Int) × Unit) × Unit))) := fun (v1, (v2_0, v2_1, v2_2, v2_3, _), (v4_0, v4_1, _), (v5_0, v5_1, _), v25, v26, v27, _) =>
 bif (decide (v27 < v26)) then
  if (((0 : Int) ≤ v27) ∧ (v27 < (((List.length v25) : Nat) : Int))) then
   bif ((ByteArray.toList (List.getD v25 (Int.toNat v27) ((0 : Int), (⟨Array.empty⟩ : ByteArray), (0 : Int), (0 : Int))).2.1) == (ByteArray.toList v1)) then
    if (((0 : Int) ≤ (IntKind.wrap .i64 ((IntKind.wrap .i64 ((List.getD v25 (Int.toNat v27) ((0 : Int), (⟨Array.empty⟩ : ByteArray), (0 : Int), (0 : Int))).1 * v2_0)) + (List.getD v25 (Int.toNat v27) ((0 : Int), (⟨Array.empty⟩ : ByteArray), (0 : Int), (0 : Int))).2.2.1))) ∧ ((IntKind.wrap .i64 ((IntKind.wrap .i64 ((List.getD v25 (Int.toNat v27) ((0 : Int), (⟨Array.empty⟩ : ByteArray), (0 : Int), (0 : Int))).1 * v2_0)) + (List.getD v25 (Int.toNat v27) ((0 : Int), (⟨Array.empty⟩ : ByteArray), (0 : Int), (0 : Int))).2.2.1)) < (((List.length v5_1) : Nat) : Int))) then
     some (Sum.inl (v1, (v2_0, v2_1, v2_2, v2_3, ()), (v4_0, (List.take (List.length v4_1) (List.drop 0 v4_1)), ()), (v5_0, (List.take (List.length v5_1) (List.drop 0 (List.set v5_1 (0 + (Int.toNat (IntKind.wrap .i64 ((IntKind.wrap .i64 ((List.getD v25 (Int.toNat v27) ((0 : Int), (⟨Array.empty⟩ : ByteArray), (0 : Int), (0 : Int))).1 * v2_0)) + (List.getD v25 (Int.toNat v27) ((0 : Int), (⟨Array.empty⟩ : ByteArray), (0 : Int), (0 : Int))).2.2.1)))) (List.getD v25 (Int.toNat v27) ((0 : Int), (⟨Array.empty⟩ : ByteArray), (0 : Int), (0 : Int))).2.2.2))), ()), v25, v26, (IntKind.wrap .i64 (v27 + (1 : Int))), ()))
    else
     none
   else
    some (Sum.inl (v1, (v2_0, v2_1, v2_2, v2_3, ()), (v4_0, (List.take (List.length v4_1) (List.drop 0 v4_1)), ()), (v5_0, (List.take (List.length v5_1) (List.drop 0 v5_1)), ()), v25, v26, (IntKind.wrap .i64 (v27 + (1 : Int))), ()))
  else
   none
 else
  some (Sum.inr ((v4_0, (List.take (List.length v4_1) (List.drop 0 v4_1)), ()), (v5_0, (List.take (List.length v5_1) (List.drop 0 v5_1)), ()), ()))
theorem spec_l3Matrix_l7_eq : loopStep 50 E71 L71_1 (loopOf f71 7) sh71_7 xs71_7 = spec_l3Matrix_l7 := by kernel_rfl
theorem loop71_7 {L} (h : L 7 = some ⟨50, sh71_7, xs71_7, spec_l3Matrix_l7⟩) : LoopOk prog L (loopOf f71 7) := lo spec_l3Matrix_l7_eq E71_ok allNil h
noncomputable def L71_2 : Nat → Option LoopD := fun n => ifEq n 7 (some ⟨50, sh71_7, xs71_7, spec_l3Matrix_l7⟩) (L71_1 n)
noncomputable def spec_l3Matrix : (Int × ((List Int) × ((List Int) × (List (Int × (ByteArray × (Int × Int))))))) → ByteArray → Option ((Int × (List Int))) := fun (a0_0, a0_1, a0_2, a0_3) a1 =>
 Option.bind (loopF spec_l3Matrix_l3 (a1, (a0_0, a0_1, a0_2, a0_3, ()), ((0 : Int), [], ()), (a0_0, [], ()), (IntKind.wrap .i64 (a0_0 * a0_0)), (0 : Int), ())) fun (r0, (r1, r2, r3, r4, _), (r5, r6, _), (r7, r8, _), _) =>
  Option.bind (loopF spec_l3Matrix_l7 (r0, (r1, r2, r3, r4, ()), (r5, (List.take (List.length r6) (List.drop 0 r6)), ()), (r7, (List.take (List.length r8) (List.drop 0 r8)), ()), r4, (((List.length r4) : Nat) : Int), (0 : Int), ())) fun ((r9, r10, _), (r11, r12, _), _) =>
   some (r11, (List.take (List.length r12) (List.drop 0 r12)))
noncomputable def A71 : FnA := ⟨[.v (.pair (.int .i64) (.pair (.sl (.int .i64)) (.pair (.sl (.int .i64)) (.sl (.pair (.int .i64) (.pair .str (.pair (.int .i64) (.int .i64)))))))), .v .str], true, [.pair (.int .i64) (.sl (.int .i64))], fun x => spec_l3Matrix x.1 x.2.1⟩
theorem spec_l3Matrix_eq : fnF E71 L71_2 [.v (.pair (.int .i64) (.pair (.sl (.int .i64)) (.pair (.sl (.int .i64)) (.sl (.pair (.int .i64) (.pair .str (.pair (.int .i64) (.int .i64)))))))), .v .str] true [.pair (.int .i64) (.sl (.int .i64))] f71.ntmps f71.results.toList (codeOf f71) = fun x => spec_l3Matrix x.1 x.2.1 := by kernel_rfl
theorem A71_ok : FnOk prog 71 A71 := fo spec_l3Matrix_eq func71 E71_ok (allCons (loop71_3 rfl) (allCons (loop71_7 rfl) allNil))
/-! spec.l6Grades -/
noncomputable def E117 : Env := ⟨ty0, fun _ => none, fun _ => none, fun _ => none, fun _ => none⟩
theorem E117_ok : FnsOk prog E117 := (noFns _ _)
noncomputable def L117_0 : Nat → Option LoopD := fun _ => none
def sh117_3 : List Fm := d :: d :: .box 100200 [.val (.int .i64), .own (.int .i64) 100202 false] :: .box 100300 [.val (.int .i64), .own (.int .i64) 100302 false] :: D 6 (.cell (.val (.sl (.int .i64))) :: .cell (.val (.int .i64)) :: .cell (.val (.int .i64)) :: D 25 [])
def xs117_3 : List (Ex × List Fm) := [(.exit 0, [d, d, .box 100200 [.val (.int .i64), .own (.int .i64) 100202 false], .box 100300 [.val (.int .i64), .own (.int .i64) 100302 false], d, d, d, d, d, d, d, d, d, d, d, d, d, d, d, d, d, d, d, d, d, d, d, d, d, d, d, d, d, d, d, d, d, d])]
noncomputable def spec_l6Grades_l3 : ((Int × (List Int) × Unit) × (Int × (List Int) × Unit) × (List Int) × Int × Int × Unit) → Option (((Int × (List Int) × Unit) × (Int × (List Int) × Unit) × (List Int) × Int × Int × Unit) ⊕ (((Int × (List Int) × Unit) × (Int × (List Int) × Unit) × Unit))) := fun ((v2_0, v2_1, _), (v3_0, v3_1, _), v10, v11, v12, _) =>
 bif (decide (v12 < v11)) then
  if (((0 : Int) ≤ v12) ∧ (v12 < (((List.length v10) : Nat) : Int))) then
   bif ((List.getD v10 (Int.toNat v12) (0 : Int)) == (0 : Int)) then
    if (((0 + (List.length v3_1)) = (List.length v3_1)) ∧ ((((List.length v3_1) + (List.length (List.take 1 (List.drop 0 [(0 : Int)])))) * 8) ≤ 140737488355328)) then
     some (Sum.inl ((v2_0, (List.take (List.length v2_1) (List.drop 0 v2_1)), ()), (v3_0, (List.take ((List.length v3_1) + (List.length (List.take 1 (List.drop 0 [(0 : Int)])))) (List.drop 0 ((List.drop 0 v3_1) ++ (List.take 1 (List.drop 0 [(0 : Int)]))))), ()), v10, v11, (IntKind.wrap .i64 (v12 + (1 : Int))), ()))
    else
     none
   else
    bif ((List.getD v10 (Int.toNat v12) (0 : Int)) == (1000000 : Int)) then
     if (((0 + (List.length v3_1)) = (List.length v3_1)) ∧ ((((List.length v3_1) + (List.length (List.take 1 (List.drop 0 [(3 : Int)])))) * 8) ≤ 140737488355328)) then
      some (Sum.inl ((v2_0, (List.take (List.length v2_1) (List.drop 0 v2_1)), ()), (v3_0, (List.take ((List.length v3_1) + (List.length (List.take 1 (List.drop 0 [(3 : Int)])))) (List.drop 0 ((List.drop 0 v3_1) ++ (List.take 1 (List.drop 0 [(3 : Int)]))))), ()), v10, v11, (IntKind.wrap .i64 (v12 + (1 : Int))), ()))
     else
      none
    else
     if (((0 + (List.length v3_1)) = (List.length v3_1)) ∧ ((((List.length v3_1) + (List.length (List.take 1 (List.drop 0 [(1 : Int)])))) * 8) ≤ 140737488355328)) then
      some (Sum.inl ((v2_0, (List.take (List.length v2_1) (List.drop 0 v2_1)), ()), (v3_0, (List.take ((List.length v3_1) + (List.length (List.take 1 (List.drop 0 [(1 : Int)])))) (List.drop 0 ((List.drop 0 v3_1) ++ (List.take 1 (List.drop 0 [(1 : Int)]))))), ()), v10, v11, (IntKind.wrap .i64 (v12 + (1 : Int))), ()))
     else
      none
  else
   none
 else
  some (Sum.inr ((v2_0, (List.take (List.length v2_1) (List.drop 0 v2_1)), ()), (v3_0, (List.take (List.length v3_1) (List.drop 0 v3_1)), ()), ()))
theorem spec_l6Grades_l3_eq : loopStep 38 E117 L117_0 (loopOf f117 3) sh117_3 xs117_3 = spec_l6Grades_l3 := by kernel_rfl
theorem loop117_3 {L} (h : L 3 = some ⟨38, sh117_3, xs117_3, spec_l6Grades_l3⟩) : LoopOk prog L (loopOf f117 3) := lo spec_l6Grades_l3_eq E117_ok allNil h
noncomputable def L117_1 : Nat → Option LoopD := fun n => ifEq n 3 (some ⟨38, sh117_3, xs117_3, spec_l6Grades_l3⟩) (L117_0 n)
noncomputable def spec_l6Grades : (Int × (List Int)) → Option ((Int × (List Int))) := fun (a0_0, a0_1) =>
 Option.bind (loopF spec_l6Grades_l3 (((0 : Int), [], ()), (a0_0, [], ()), a0_1, (((List.length a0_1) : Nat) : Int), (0 : Int), ())) fun ((r0, r1, _), (r2, r3, _), _) =>
  some (r2, (List.take (List.length r3) (List.drop 0 r3)))
noncomputable def A117 : FnA := ⟨[.v (.pair (.int .i64) (.sl (.int .i64)))], true, [.pair (.int .i64) (.sl (.int .i64))], fun x => spec_l6Grades x.1⟩
theorem spec_l6Grades_eq : fnF E117 L117_1 [.v (.pair (.int .i64) (.sl (.int .i64)))] true [.pair (.int .i64) (.sl (.int .i64))] f117.ntmps f117.results.toList (codeOf f117) = fun x => spec_l6Grades x.1 := by kernel_rfl
theorem A117_ok : FnOk prog 117 A117 := fo spec_l6Grades_eq func117 E117_ok (allCons (loop117_3 rfl) allNil)
/-! spec.l2Same -/
noncomputable def E133 : Env := ⟨ty0, fun _ => none, fun _ => none, fun _ => none, fun _ => none⟩
theorem E133_ok : FnsOk prog E133 := (noFns _ _)
noncomputable def L133_0 : Nat → Option LoopD := fun _ => none
def sh133_2 : List Fm := .cell (.val (.sl (.int .i64))) :: .cell (.val (.sl (.int .i64))) :: D 8 (.cell (.val (.int .i64)) :: .cell (.val (.int .i64)) :: D 17 [])
def xs133_2 : List (Ex × List Fm) := [(.ret, (D 4 (.cell (.val .bool) :: D 24 []))), (.exit 0, (.cell (.val (.sl (.int .i64))) :: .cell (.val (.sl (.int .i64))) :: D 27 []))]
noncomputable def spec_l2Same_l2 : ((List Int) × (List Int) × Int × Int × Unit) → Option (((List Int) × (List Int) × Int × Int × Unit) ⊕ ((Bool × Unit) ⊕ ((List Int) × (List Int) × Unit))) := fun (v0, v1, v10, v11, _) =>
 bif (decide (v11 < v10)) then
  if (((0 : Int) ≤ v11) ∧ (v11 < (((List.length v0) : Nat) : Int))) then
   if (((0 : Int) ≤ v11) ∧ (v11 < (((List.length v1) : Nat) : Int))) then
    bif ((List.getD v0 (Int.toNat v11) (0 : Int)) != (List.getD v1 (Int.toNat v11) (0 : Int))) then
     some (Sum.inr (Sum.inl (false, ())))
    else
     some (Sum.inl (v0, v1, v10, (IntKind.wrap .i64 (v11 + (1 : Int))), ()))
   else
    none
  else
   none
 else
  some (Sum.inr (Sum.inr (v0, v1, ())))
theorem spec_l2Same_l2_eq : loopStep 29 E133 L133_0 (loopOf f133 2) sh133_2 xs133_2 = spec_l2Same_l2 := by kernel_rfl
theorem loop133_2 {L} (h : L 2 = some ⟨29, sh133_2, xs133_2, spec_l2Same_l2⟩) : LoopOk prog L (loopOf f133 2) := lo spec_l2Same_l2_eq E133_ok allNil h
noncomputable def L133_1 : Nat → Option LoopD := fun n => ifEq n 2 (some ⟨29, sh133_2, xs133_2, spec_l2Same_l2⟩) (L133_0 n)
noncomputable def spec_l2Same : (List Int) → (List Int) → Option (Bool) := fun a0 a1 =>
 Option.bind (loopF spec_l2Same_l2 (a0, a1, (if ((((List.length a1) : Nat) : Int) < (((List.length a0) : Nat) : Int)) then (((List.length a1) : Nat) : Int) else (((List.length a0) : Nat) : Int)), (0 : Int), ())) fun r0 =>
  (match r0 with
  | .inl (d1, _) =>
    some d1
  | .inr (d2, d3, _) =>
    some ((((List.length d2) : Nat) : Int) == (((List.length d3) : Nat) : Int)))
noncomputable def A133 : FnA := ⟨[.v (.sl (.int .i64)), .v (.sl (.int .i64))], true, [.bool], fun x => spec_l2Same x.1 x.2.1⟩
theorem spec_l2Same_eq : fnF E133 L133_1 [.v (.sl (.int .i64)), .v (.sl (.int .i64))] true [.bool] f133.ntmps f133.results.toList (codeOf f133) = fun x => spec_l2Same x.1 x.2.1 := by kernel_rfl
theorem A133_ok : FnOk prog 133 A133 := fo spec_l2Same_eq func133 E133_ok (allCons (loop133_2 rfl) allNil)
/-! spec.l6Mul -/
noncomputable def E121 : Env := ⟨ty0, fun _ => none, fun _ => none, fun _ => none, fun _ => none⟩
theorem E121_ok : FnsOk prog E121 := (noFns _ _)
noncomputable def L121_0 : Nat → Option LoopD := fun _ => none
def sh121_7 : List Fm := d :: d :: .box 100200 [.val (.int .i64), .val (.sl (.int .i64))] :: .box 100300 [.val (.int .i64), .val (.sl (.int .i64))] :: .box 100400 [.val (.int .i64), .own (.int .i64) 100402 false] :: .box 100500 [.val (.int .i64), .own (.int .i64) 100502 false] :: .cell (.val (.int .i64)) :: .cell (.val (.int .i64)) :: D 8 (.cell (.val (.int .i64)) :: .cell (.val (.int .i64)) :: d :: d :: d :: .cell (.val (.int .i64)) :: .cell (.val (.int .i64)) :: D 40 [])
def xs121_7 : List (Ex × List Fm) := [(.exit 2, [d, d, .box 100200 [.val (.int .i64), .val (.sl (.int .i64))], .box 100300 [.val (.int .i64), .val (.sl (.int .i64))], .box 100400 [.val (.int .i64), .own (.int .i64) 100402 false], .box 100500 [.val (.int .i64), .own (.int .i64) 100502 false], d, .cell (.val (.int .i64)), d, d, d, d, d, d, d, d, .cell (.val (.int .i64)), .cell (.val (.int .i64)), d, d, d, d, d, d, d, d, d, d, d, d, d, d, d, d, d, d, d, d, d, d, d, d, d, d, d, d, d, d, d, d, d, d, d, d, d, d, d, d, d, d, d, d, d])]
noncomputable def spec_l6Mul_l7 : ((Int × (List Int) × Unit) × (Int × (List Int) × Unit) × (Int × (List Int) × Unit) × (Int × (List Int) × Unit) × Int × Int × Int × Int × Int × Int × Unit) → Option (((Int × (List Int) × Unit) × (Int × (List Int) × Unit) × (Int × (List Int) × Unit) × (Int × (List Int) × Unit) × Int × Int × Int × Int × Int × Int × Unit) ⊕ (((Int × (List Int) × Unit) × (Int × (List Int) × Unit) × (Int × (List Int) × Unit) × (Int × (List Int) × Unit) × Int × Int × Int × Unit))) := fun ((v2_0, v2_1, _), (v3_0, v3_1, _), (v4_0, v4_1, _), (v5_0, v5_1, _), v6, v7, v16, v17, v21, v22, _) =>
 bif (decide (v22 < v21)) then
  if (v2_0 = (0 : Int)) then
   none
  else
   if (((0 : Int) ≤ (IntKind.wrap .i64 ((IntKind.wrap .i64 ((IntKind.wrap .i64 (Int.tdiv v6 v2_0)) * v2_0)) + v22))) ∧ ((IntKind.wrap .i64 ((IntKind.wrap .i64 ((IntKind.wrap .i64 (Int.tdiv v6 v2_0)) * v2_0)) + v22)) < (((List.length v2_1) : Nat) : Int))) then
    if (v2_0 = (0 : Int)) then
     none
    else
     if (((0 : Int) ≤ (IntKind.wrap .i64 ((IntKind.wrap .i64 (v22 * v2_0)) + (Int.tmod v6 v2_0)))) ∧ ((IntKind.wrap .i64 ((IntKind.wrap .i64 (v22 * v2_0)) + (Int.tmod v6 v2_0))) < (((List.length v3_1) : Nat) : Int))) then
      some (Sum.inl ((v2_0, v2_1, ()), (v3_0, v3_1, ()), (v4_0, (List.take (List.length v4_1) (List.drop 0 v4_1)), ()), (v5_0, (List.take (List.length v5_1) (List.drop 0 v5_1)), ()), v6, (if ((if ((List.getD v3_1 (Int.toNat (IntKind.wrap .i64 ((IntKind.wrap .i64 (v22 * v2_0)) + (Int.tmod v6 v2_0)))) (0 : Int)) > (List.getD v2_1 (Int.toNat (IntKind.wrap .i64 ((IntKind.wrap .i64 ((IntKind.wrap .i64 (Int.tdiv v6 v2_0)) * v2_0)) + v22))) (0 : Int))) then (List.getD v3_1 (Int.toNat (IntKind.wrap .i64 ((IntKind.wrap .i64 (v22 * v2_0)) + (Int.tmod v6 v2_0)))) (0 : Int)) else (List.getD v2_1 (Int.toNat (IntKind.wrap .i64 ((IntKind.wrap .i64 ((IntKind.wrap .i64 (Int.tdiv v6 v2_0)) * v2_0)) + v22))) (0 : Int))) < v7) then (if ((List.getD v3_1 (Int.toNat (IntKind.wrap .i64 ((IntKind.wrap .i64 (v22 * v2_0)) + (Int.tmod v6 v2_0)))) (0 : Int)) > (List.getD v2_1 (Int.toNat (IntKind.wrap .i64 ((IntKind.wrap .i64 ((IntKind.wrap .i64 (Int.tdiv v6 v2_0)) * v2_0)) + v22))) (0 : Int))) then (List.getD v3_1 (Int.toNat (IntKind.wrap .i64 ((IntKind.wrap .i64 (v22 * v2_0)) + (Int.tmod v6 v2_0)))) (0 : Int)) else (List.getD v2_1 (Int.toNat (IntKind.wrap .i64 ((IntKind.wrap .i64 ((IntKind.wrap .i64 (Int.tdiv v6 v2_0)) * v2_0)) + v22))) (0 : Int))) else v7), v16, v17, v21, (IntKind.wrap .i64 (v22 + (1 : Int))), ()))
     else
      none
   else
    none
 else
  some (Sum.inr ((v2_0, v2_1, ()), (v3_0, v3_1, ()), (v4_0, (List.take (List.length v4_1) (List.drop 0 v4_1)), ()), (v5_0, (List.take (List.length v5_1) (List.drop 0 v5_1)), ()), v7, v16, v17, ()))
theorem spec_l6Mul_l7_eq : loopStep 63 E121 L121_0 (loopOf f121 7) sh121_7 xs121_7 = spec_l6Mul_l7 := by kernel_rfl
theorem loop121_7 {L} (h : L 7 = some ⟨63, sh121_7, xs121_7, spec_l6Mul_l7⟩) : LoopOk prog L (loopOf f121 7) := lo spec_l6Mul_l7_eq E121_ok allNil h
noncomputable def L121_1 : Nat → Option LoopD := fun n => ifEq n 7 (some ⟨63, sh121_7, xs121_7, spec_l6Mul_l7⟩) (L121_0 n)
def sh121_3 : List Fm := d :: d :: .box 100200 [.val (.int .i64), .val (.sl (.int .i64))] :: .box 100300 [.val (.int .i64), .val (.sl (.int .i64))] :: .box 100400 [.val (.int .i64), .own (.int .i64) 100402 false] :: .box 100500 [.val (.int .i64), .own (.int .i64) 100502 false] :: D 10 (.cell (.val (.int .i64)) :: .cell (.val (.int .i64)) :: D 45 [])
def xs121_3 : List (Ex × List Fm) := [(.exit 0, [d, d, d, d, .box 100400 [.val (.int .i64), .own (.int .i64) 100402 false], .box 100500 [.val (.int .i64), .own (.int .i64) 100502 false], d, d, d, d, d, d, d, d, d, d, d, d, d, d, d, d, d, d, d, d, d, d, d, d, d, d, d, d, d, d, d, d, d, d, d, d, d, d, d, d, d, d, d, d, d, d, d, d, d, d, d, d, d, d, d, d, d])]
noncomputable def spec_l6Mul_l3 : ((Int × (List Int) × Unit) × (Int × (List Int) × Unit) × (Int × (List Int) × Unit) × (Int × (List Int) × Unit) × Int × Int × Unit) → Option (((Int × (List Int) × Unit) × (Int × (List Int) × Unit) × (Int × (List Int) × Unit) × (Int × (List Int) × Unit) × Int × Int × Unit) ⊕ (((Int × (List Int) × Unit) × (Int × (List Int) × Unit) × Unit))) := fun ((v2_0, v2_1, _), (v3_0, v3_1, _), (v4_0, v4_1, _), (v5_0, v5_1, _), v16, v17, _) =>
 bif (decide (v17 < v16)) then
  Option.bind (loopF spec_l6Mul_l7 ((v2_0, v2_1, ()), (v3_0, v3_1, ()), (v4_0, (List.take (List.length v4_1) (List.drop 0 v4_1)), ()), (v5_0, (List.take (List.length v5_1) (List.drop 0 v5_1)), ()), v17, (3 : Int), v16, v17, v2_0, (0 : Int), ())) fun ((r0, r1, _), (r2, r3, _), (r4, r5, _), (r6, r7, _), r8, r9, r10, _) =>
   if (((0 + (List.length r7)) = (List.length r7)) ∧ ((((List.length r7) + (List.length (List.take 1 (List.drop 0 [r8])))) * 8) ≤ 140737488355328)) then
    some (Sum.inl ((r0, r1, ()), (r2, r3, ()), (r4, (List.take (List.length r5) (List.drop 0 r5)), ()), (r6, (List.take ((List.length r7) + (List.length (List.take 1 (List.drop 0 [r8])))) (List.drop 0 ((List.drop 0 r7) ++ (List.take 1 (List.drop 0 [r8]))))), ()), r9, (IntKind.wrap .i64 (r10 + (1 : Int))), ()))
   else
    none
 else
  some (Sum.inr ((v4_0, (List.take (List.length v4_1) (List.drop 0 v4_1)), ()), (v5_0, (List.take (List.length v5_1) (List.drop 0 v5_1)), ()), ()))
theorem spec_l6Mul_l3_eq : loopStep 63 E121 L121_1 (loopOf f121 3) sh121_3 xs121_3 = spec_l6Mul_l3 := by kernel_rfl
theorem loop121_3 {L} (h : L 3 = some ⟨63, sh121_3, xs121_3, spec_l6Mul_l3⟩) : LoopOk prog L (loopOf f121 3) := lo spec_l6Mul_l3_eq E121_ok (allCons (loop121_7 rfl) allNil) h
noncomputable def L121_2 : Nat → Option LoopD := fun n => ifEq n 3 (some ⟨63, sh121_3, xs121_3, spec_l6Mul_l3⟩) (L121_1 n)
noncomputable def spec_l6Mul : (Int × (List Int)) → (Int × (List Int)) → Option ((Int × (List Int))) := fun (a0_0, a0_1) (a1_0, a1_1) =>
 Option.bind (loopF spec_l6Mul_l3 ((a0_0, a0_1, ()), (a1_0, a1_1, ()), ((0 : Int), [], ()), (a0_0, [], ()), (IntKind.wrap .i64 (a0_0 * a0_0)), (0 : Int), ())) fun ((r0, r1, _), (r2, r3, _), _) =>
  some (r2, (List.take (List.length r3) (List.drop 0 r3)))
noncomputable def A121 : FnA := ⟨[.v (.pair (.int .i64) (.sl (.int .i64))), .v (.pair (.int .i64) (.sl (.int .i64)))], true, [.pair (.int .i64) (.sl (.int .i64))], fun x => spec_l6Mul x.1 x.2.1⟩
theorem spec_l6Mul_eq : fnF E121 L121_2 [.v (.pair (.int .i64) (.sl (.int .i64))), .v (.pair (.int .i64) (.sl (.int .i64)))] true [.pair (.int .i64) (.sl (.int .i64))] f121.ntmps f121.results.toList (codeOf f121) = fun x => spec_l6Mul x.1 x.2.1 := by kernel_rfl
theorem A121_ok : FnOk prog 121 A121 := fo spec_l6Mul_eq func121 E121_ok (allCons (loop121_3 rfl) allNil)
/-! spec.l6Idempotent -/
noncomputable def E119 : Env := ⟨ty0, fun g => ifEq g 121 (some A121) (ifEq g 133 (some A133) (none)), fun _ => none, fun _ => none, fun _ => none⟩
theorem E119_ok : FnsOk prog E119 := (oF A121_ok func121 (oF A133_ok func133 (noFns _ _)))
noncomputable def L119_0 : Nat → Option LoopD := fun _ => none
noncomputable def spec_l6Idempotent : (Int × (List Int)) → Option (Bool) := fun (a0_0, a0_1) =>
 Option.bind (spec_l6Mul (a0_0, a0_1) (a0_0, a0_1)) fun (r0, r1) =>
  Option.bind (spec_l2Same (List.take (List.length r1) (List.drop 0 r1)) a0_1) fun r2 =>
   some r2
noncomputable def A119 : FnA := ⟨[.v (.pair (.int .i64) (.sl (.int .i64)))], true, [.bool], fun x => spec_l6Idempotent x.1⟩
theorem spec_l6Idempotent_eq : fnF E119 L119_0 [.v (.pair (.int .i64) (.sl (.int .i64)))] true [.bool] f119.ntmps f119.results.toList (codeOf f119) = fun x => spec_l6Idempotent x.1 := by kernel_rfl
theorem A119_ok : FnOk prog 119 A119 := fo spec_l6Idempotent_eq func119 E119_ok allNil
/-! spec.l6Again -/
noncomputable def E134 : Env := ⟨ty0, fun _ => none, fun _ => none, fun _ => none, fun _ => none⟩
theorem E134_ok : FnsOk prog E134 := (noFns _ _)
noncomputable def L134_0 : Nat → Option LoopD := fun _ => none
noncomputable def spec_l6Again : Int → Option (Int) := fun a0 =>
 bif (a0 == (1 : Int)) then
  some (2 : Int)
 else
  some a0
noncomputable def A134 : FnA := ⟨[.v (.int .i64)], true, [.int .i64], fun x => spec_l6Again x.1⟩
theorem spec_l6Again_eq : fnF E134 L134_0 [.v (.int .i64)] true [.int .i64] f134.ntmps f134.results.toList (codeOf f134) = fun x => spec_l6Again x.1 := by kernel_rfl
theorem A134_ok : FnOk prog 134 A134 := fo spec_l6Again_eq func134 E134_ok allNil
/-! spec.l6Stable -/
noncomputable def E120 : Env := ⟨ty0, fun g => ifEq g 134 (some A134) (none), fun _ => none, fun _ => none, fun _ => none⟩
theorem E120_ok : FnsOk prog E120 := (oF A134_ok func134 (noFns _ _))
noncomputable def L120_0 : Nat → Option LoopD := fun _ => none
def sh120_7 : List Fm := d :: .box 100100 [.val (.int .i64), .val (.sl (.int .i64))] :: .box 100200 [.val (.int .i64), .own (.int .i64) 100202 false] :: .box 100300 [.val (.int .i64), .own (.int .i64) 100302 false] :: .cell (.val (.int .i64)) :: .cell (.val (.int .i64)) :: D 8 (.cell (.val (.int .i64)) :: .cell (.val (.int .i64)) :: d :: d :: d :: .cell (.val (.int .i64)) :: .cell (.val (.int .i64)) :: D 51 [])
def xs120_7 : List (Ex × List Fm) := [(.exit 2, [d, .box 100100 [.val (.int .i64), .val (.sl (.int .i64))], .box 100200 [.val (.int .i64), .own (.int .i64) 100202 false], .box 100300 [.val (.int .i64), .own (.int .i64) 100302 false], d, .cell (.val (.int .i64)), d, d, d, d, d, d, d, d, .cell (.val (.int .i64)), .cell (.val (.int .i64)), d, d, d, d, d, d, d, d, d, d, d, d, d, d, d, d, d, d, d, d, d, d, d, d, d, d, d, d, d, d, d, d, d, d, d, d, d, d, d, d, d, d, d, d, d, d, d, d, d, d, d, d, d, d, d, d])]
noncomputable def spec_l6Stable_l7 : ((Int × (List Int) × Unit) × (Int × (List Int) × Unit) × (Int × (List Int) × Unit) × Int × Int × Int × Int × Int × Int × Unit) → Option (((Int × (List Int) × Unit) × (Int × (List Int) × Unit) × (Int × (List Int) × Unit) × Int × Int × Int × Int × Int × Int × Unit) ⊕ (((Int × (List Int) × Unit) × (Int × (List Int) × Unit) × (Int × (List Int) × Unit) × Int × Int × Int × Unit))) := fun ((v1_0, v1_1, _), (v2_0, v2_1, _), (v3_0, v3_1, _), v4, v5, v14, v15, v19, v20, _) =>
 bif (decide (v20 < v19)) then
  if (v1_0 = (0 : Int)) then
   none
  else
   if (((0 : Int) ≤ (IntKind.wrap .i64 ((IntKind.wrap .i64 ((IntKind.wrap .i64 (Int.tdiv v4 v1_0)) * v1_0)) + v20))) ∧ ((IntKind.wrap .i64 ((IntKind.wrap .i64 ((IntKind.wrap .i64 (Int.tdiv v4 v1_0)) * v1_0)) + v20)) < (((List.length v1_1) : Nat) : Int))) then
    if (((0 : Int) ≤ (IntKind.wrap .i64 ((IntKind.wrap .i64 (v20 * v1_0)) + v20))) ∧ ((IntKind.wrap .i64 ((IntKind.wrap .i64 (v20 * v1_0)) + v20)) < (((List.length v1_1) : Nat) : Int))) then
     Option.bind (spec_l6Again (List.getD v1_1 (Int.toNat (IntKind.wrap .i64 ((IntKind.wrap .i64 (v20 * v1_0)) + v20))) (0 : Int))) fun r0 =>
      if (v1_0 = (0 : Int)) then
       none
      else
       if (((0 : Int) ≤ (IntKind.wrap .i64 ((IntKind.wrap .i64 (v20 * v1_0)) + (Int.tmod v4 v1_0)))) ∧ ((IntKind.wrap .i64 ((IntKind.wrap .i64 (v20 * v1_0)) + (Int.tmod v4 v1_0))) < (((List.length v1_1) : Nat) : Int))) then
        some (Sum.inl ((v1_0, v1_1, ()), (v2_0, (List.take (List.length v2_1) (List.drop 0 v2_1)), ()), (v3_0, (List.take (List.length v3_1) (List.drop 0 v3_1)), ()), v4, (if ((if ((List.getD v1_1 (Int.toNat (IntKind.wrap .i64 ((IntKind.wrap .i64 (v20 * v1_0)) + (Int.tmod v4 v1_0)))) (0 : Int)) > (if (r0 > (List.getD v1_1 (Int.toNat (IntKind.wrap .i64 ((IntKind.wrap .i64 ((IntKind.wrap .i64 (Int.tdiv v4 v1_0)) * v1_0)) + v20))) (0 : Int))) then r0 else (List.getD v1_1 (Int.toNat (IntKind.wrap .i64 ((IntKind.wrap .i64 ((IntKind.wrap .i64 (Int.tdiv v4 v1_0)) * v1_0)) + v20))) (0 : Int)))) then (List.getD v1_1 (Int.toNat (IntKind.wrap .i64 ((IntKind.wrap .i64 (v20 * v1_0)) + (Int.tmod v4 v1_0)))) (0 : Int)) else (if (r0 > (List.getD v1_1 (Int.toNat (IntKind.wrap .i64 ((IntKind.wrap .i64 ((IntKind.wrap .i64 (Int.tdiv v4 v1_0)) * v1_0)) + v20))) (0 : Int))) then r0 else (List.getD v1_1 (Int.toNat (IntKind.wrap .i64 ((IntKind.wrap .i64 ((IntKind.wrap .i64 (Int.tdiv v4 v1_0)) * v1_0)) + v20))) (0 : Int)))) < v5) then (if ((List.getD v1_1 (Int.toNat (IntKind.wrap .i64 ((IntKind.wrap .i64 (v20 * v1_0)) + (Int.tmod v4 v1_0)))) (0 : Int)) > (if (r0 > (List.getD v1_1 (Int.toNat (IntKind.wrap .i64 ((IntKind.wrap .i64 ((IntKind.wrap .i64 (Int.tdiv v4 v1_0)) * v1_0)) + v20))) (0 : Int))) then r0 else (List.getD v1_1 (Int.toNat (IntKind.wrap .i64 ((IntKind.wrap .i64 ((IntKind.wrap .i64 (Int.tdiv v4 v1_0)) * v1_0)) + v20))) (0 : Int)))) then (List.getD v1_1 (Int.toNat (IntKind.wrap .i64 ((IntKind.wrap .i64 (v20 * v1_0)) + (Int.tmod v4 v1_0)))) (0 : Int)) else (if (r0 > (List.getD v1_1 (Int.toNat (IntKind.wrap .i64 ((IntKind.wrap .i64 ((IntKind.wrap .i64 (Int.tdiv v4 v1_0)) * v1_0)) + v20))) (0 : Int))) then r0 else (List.getD v1_1 (Int.toNat (IntKind.wrap .i64 ((IntKind.wrap .i64 ((IntKind.wrap .i64 (Int.tdiv v4 v1_0)) * v1_0)) + v20))) (0 : Int)))) else v5), v14, v15, v19, (IntKind.wrap .i64 (v20 + (1 : Int))), ()))
       else
        none
    else
     none
   else
    none
 else
  some (Sum.inr ((v1_0, v1_1, ()), (v2_0, (List.take (List.length v2_1) (List.drop 0 v2_1)), ()), (v3_0, (List.take (List.length v3_1) (List.drop 0 v3_1)), ()), v5, v14, v15, ()))
theorem spec_l6Stable_l7_eq : loopStep 72 E120 L120_0 (loopOf f120 7) sh120_7 xs120_7 = spec_l6Stable_l7 := by kernel_rfl
theorem loop120_7 {L} (h : L 7 = some ⟨72, sh120_7, xs120_7, spec_l6Stable_l7⟩) : LoopOk prog L (loopOf f120 7) := lo spec_l6Stable_l7_eq E120_ok allNil h
noncomputable def L120_1 : Nat → Option LoopD := fun n => ifEq n 7 (some ⟨72, sh120_7, xs120_7, spec_l6Stable_l7⟩) (L120_0 n)
def sh120_3 : List Fm := d :: .box 100100 [.val (.int .i64), .val (.sl (.int .i64))] :: .box 100200 [.val (.int .i64), .own (.int .i64) 100202 false] :: .box 100300 [.val (.int .i64), .own (.int .i64) 100302 false] :: D 10 (.cell (.val (.int .i64)) :: .cell (.val (.int .i64)) :: D 56 [])
def xs120_3 : List (Ex × List Fm) := [(.exit 0, [d, d, .box 100200 [.val (.int .i64), .own (.int .i64) 100202 false], .box 100300 [.val (.int .i64), .own (.int .i64) 100302 false], d, d, d, d, d, d, d, d, d, d, d, d, d, d, d, d, d, d, d, d, d, d, d, d, d, d, d, d, d, d, d, d, d, d, d, d, d, d, d, d, d, d, d, d, d, d, d, d, d, d, d, d, d, d, d, d, d, d, d, d, d, d, d, d, d, d, d, d])]
noncomputable def spec_l6Stable_l3 : ((Int × (List Int) × Unit) × (Int × (List Int) × Unit) × (Int × (List Int) × Unit) × Int × Int × Unit) → Option (((Int × (List Int) × Unit) × (Int × (List Int) × Unit) × (Int × (List Int) × Unit) × Int × Int × Unit) ⊕ (((Int × (List Int) × Unit) × (Int × (List Int) × Unit) × Unit))) := fun ((v1_0, v1_1, _), (v2_0, v2_1, _), (v3_0, v3_1, _), v14, v15, _) =>
 bif (decide (v15 < v14)) then
  Option.bind (loopF spec_l6Stable_l7 ((v1_0, v1_1, ()), (v2_0, (List.take (List.length v2_1) (List.drop 0 v2_1)), ()), (v3_0, (List.take (List.length v3_1) (List.drop 0 v3_1)), ()), v15, (3 : Int), v14, v15, v1_0, (0 : Int), ())) fun ((r0, r1, _), (r2, r3, _), (r4, r5, _), r6, r7, r8, _) =>
   if (((0 + (List.length r5)) = (List.length r5)) ∧ ((((List.length r5) + (List.length (List.take 1 (List.drop 0 [r6])))) * 8) ≤ 140737488355328)) then
    some (Sum.inl ((r0, r1, ()), (r2, (List.take (List.length r3) (List.drop 0 r3)), ()), (r4, (List.take ((List.length r5) + (List.length (List.take 1 (List.drop 0 [r6])))) (List.drop 0 ((List.drop 0 r5) ++ (List.take 1 (List.drop 0 [r6]))))), ()), r7, (IntKind.wrap .i64 (r8 + (1 : Int))), ()))
   else
    none
 else
  some (Sum.inr ((v2_0, (List.take (List.length v2_1) (List.drop 0 v2_1)), ()), (v3_0, (List.take (List.length v3_1) (List.drop 0 v3_1)), ()), ()))
theorem spec_l6Stable_l3_eq : loopStep 72 E120 L120_1 (loopOf f120 3) sh120_3 xs120_3 = spec_l6Stable_l3 := by kernel_rfl
theorem loop120_3 {L} (h : L 3 = some ⟨72, sh120_3, xs120_3, spec_l6Stable_l3⟩) : LoopOk prog L (loopOf f120 3) := lo spec_l6Stable_l3_eq E120_ok (allCons (loop120_7 rfl) allNil) h
noncomputable def L120_2 : Nat → Option LoopD := fun n => ifEq n 3 (some ⟨72, sh120_3, xs120_3, spec_l6Stable_l3⟩) (L120_1 n)
noncomputable def spec_l6Stable : (Int × (List Int)) → Option ((Int × (List Int))) := fun (a0_0, a0_1) =>
 Option.bind (loopF spec_l6Stable_l3 ((a0_0, a0_1, ()), ((0 : Int), [], ()), (a0_0, [], ()), (IntKind.wrap .i64 (a0_0 * a0_0)), (0 : Int), ())) fun ((r0, r1, _), (r2, r3, _), _) =>
  some (r2, (List.take (List.length r3) (List.drop 0 r3)))
noncomputable def A120 : FnA := ⟨[.v (.pair (.int .i64) (.sl (.int .i64)))], true, [.pair (.int .i64) (.sl (.int .i64))], fun x => spec_l6Stable x.1⟩
theorem spec_l6Stable_eq : fnF E120 L120_2 [.v (.pair (.int .i64) (.sl (.int .i64)))] true [.pair (.int .i64) (.sl (.int .i64))] f120.ntmps f120.results.toList (codeOf f120) = fun x => spec_l6Stable x.1 := by kernel_rfl
theorem A120_ok : FnOk prog 120 A120 := fo spec_l6Stable_eq func120 E120_ok (allCons (loop120_3 rfl) allNil)
/-! spec.l8Elements -/
noncomputable def E90_at39 : Env := ⟨ty0, fun g => ifEq g 71 (some A71) (ifEq g 117 (some A117) (ifEq g 133 (some A133) (ifEq g 119 (some A119) (ifEq g 120 (some A120) (ifEq g 121 (some A121) (none)))))), fun _ => none, fun _ => none, fun _ => none⟩
theorem E90_at39_ok : FnsOk prog E90_at39 := (oF A71_ok func71 (oF A117_ok func117 (oF A133_ok func133 (oF A119_ok func119 (oF A120_ok func120 (oF A121_ok func121 (noFns _ _)))))))
noncomputable def L90_at39_0 : Nat → Option LoopD := fun _ => none
def sh90_at39_2 : List Fm := .box 100000 [.own (.pair (.pair (.int .i64) (.sl (.int .i64))) .str) 100001 true, .val .bool] :: d :: .cell (.val .str) :: d :: .box 100400 [.val (.int .i64), .val (.sl (.int .i64))] :: D 6 (.cell (.val (.sl (.pair (.pair (.int .i64) (.sl (.int .i64))) .str))) :: .cell (.val (.int .i64)) :: .cell (.val (.int .i64)) :: D 48 (.cell (.val .bool) :: .box 106300 [.val (.int .i64), .val (.sl (.int .i64)), .val (.sl (.int .i64)), .val (.sl (.pair (.int .i64) (.pair .str (.pair (.int .i64) (.int .i64)))))] :: d :: d :: d :: .ali 100000 0 :: .cell (.own (.pair (.pair (.int .i64) (.sl (.int .i64))) .str) 106800 false) :: D 12 (.cell (.own .str 108100 false) :: .cell (.val (.int .i64)) :: .cell (.val (.int .i64)) :: D 108 [])))
def xs90_at39_2 : List (Ex × List Fm) := [(.ret, [d, d, d, d, d, d, d, d, d, d, d, d, d, d, d, d, d, d, d, d, d, d, d, d, d, d, d, d, d, d, d, d, d, d, d, d, d, d, d, d, d, d, d, d, d, d, d, d, d, d, d, d, d, d, d, d, d, d, d, d, d, d, .cell (.val .bool), .box 106300 [.val (.int .i64), .val (.sl (.int .i64)), .val (.sl (.int .i64)), .val (.sl (.pair (.int .i64) (.pair .str (.pair (.int .i64) (.int .i64)))))], d, d, d, .box 106700 [.own (.pair (.pair (.int .i64) (.sl (.int .i64))) .str) 106701 true, .val .bool], .cell (.own (.pair (.pair (.int .i64) (.sl (.int .i64))) .str) 106800 false), d, d, d, d, d, d, d, d, d, d, d, d, .cell (.own .str 108100 false), .cell (.val (.int .i64)), .cell (.val (.int .i64)), d, d, d, d, d, d, d, d, d, d, d, d, d, d, d, d, d, d, d, d, d, d, d, d, d, d, d, d, d, d, d, d, d, d, d, d, d, d, d, d, d, d, d, d, d, d, d, d, d, d, d, d, d, d, d, d, d, d, d, d, d, d, d, d, d, d, d, d, d, d, d, d, d, d, d, d, d, d, d, d, d, d, d, d, d, d, d, d, d, d, d, d, d, d, d, d, d, d, d, d, d, d, d, d, d, d, d, d]), (.exit 0, [.box 100000 [.own (.pair (.pair (.int .i64) (.sl (.int .i64))) .str) 100001 true, .val .bool], d, .cell (.val .str), d, .box 100400 [.val (.int .i64), .val (.sl (.int .i64))], d, d, d, d, d, d, d, d, d, d, d, d, d, d, d, d, d, d, d, d, d, d, d, d, d, d, d, d, d, d, d, d, d, d, d, d, d, d, d, d, d, d, d, d, d, d, d, d, d, d, d, d, d, d, d, d, d, .cell (.val .bool), .box 106300 [.val (.int .i64), .val (.sl (.int .i64)), .val (.sl (.int .i64)), .val (.sl (.pair (.int .i64) (.pair .str (.pair (.int .i64) (.int .i64)))))], d, d, d, .ali 100000 0, .cell (.own (.pair (.pair (.int .i64) (.sl (.int .i64))) .str) 106800 false), d, d, d, d, d, d, d, d, d, d, d, d, .cell (.own .str 108100 false), .cell (.val (.int .i64)), .cell (.val (.int .i64)), d, d, d, d, d, d, d, d, d, d, d, d, d, d, d, d, d, d, d, d, d, d, d, d, d, d, d, d, d, d, d, d, d, d, d, d, d, d, d, d, d, d, d, d, d, d, d, d, d, d, d, d, d, d, d, d, d, d, d, d, d, d, d, d, d, d, d, d, d, d, d, d, d, d, d, d, d, d, d, d, d, d, d, d, d, d, d, d, d, d, d, d, d, d, d, d, d, d, d, d, d, d, d, d, d, d, d, d])]
noncomputable def spec_l8Elements_at39_l2 : (((List ((Int × (List Int)) × ByteArray)) × Bool × Unit) × ByteArray × (Int × (List Int) × Unit) × (List ((Int × (List Int)) × ByteArray)) × Int × Int × Bool × (Int × (List Int) × (List Int) × (List (Int × (ByteArray × (Int × Int)))) × Unit) × (List ((Int × (List Int)) × ByteArray)) × (List ByteArray) × Int × Int × Unit) → Option ((((List ((Int × (List Int)) × ByteArray)) × Bool × Unit) × ByteArray × (Int × (List Int) × Unit) × (List ((Int × (List Int)) × ByteArray)) × Int × Int × Bool × (Int × (List Int) × (List Int) × (List (Int × (ByteArray × (Int × Int)))) × Unit) × (List ((Int × (List Int)) × ByteArray)) × (List ByteArray) × Int × Int × Unit) ⊕ ((Bool × (Int × (List Int) × (List Int) × (List (Int × (ByteArray × (Int × Int)))) × Unit) × ((List ((Int × (List Int)) × ByteArray)) × Bool × Unit) × (List ((Int × (List Int)) × ByteArray)) × (List ByteArray) × Int × Int × Unit) ⊕ (((List ((Int × (List Int)) × ByteArray)) × Bool × Unit) × ByteArray × (Int × (List Int) × Unit) × Bool × (Int × (List Int) × (List Int) × (List (Int × (ByteArray × (Int × Int)))) × Unit) × (List ((Int × (List Int)) × ByteArray)) × (List ByteArray) × Int × Int × Unit))) := fun ((v0_0, v0_1, _), v2, (v4_0, v4_1, _), v11, v12, v13, v62, (v63_0, v63_1, v63_2, v63_3, _), v68, v81, v82, v83, _) =>
 bif (decide (v13 < v12)) then
  if (((0 : Int) ≤ v13) ∧ (v13 < (((List.length v11) : Nat) : Int))) then
   Option.bind (spec_l2Same (List.getD v11 (Int.toNat v13) (((0 : Int), []), (⟨Array.empty⟩ : ByteArray))).1.2 v4_1) fun r0 =>
    bif r0 then
     if ((0 + (List.length v0_0)) = (List.length v0_0)) then
      some (Sum.inr (Sum.inl (v62, (v63_0, v63_1, v63_2, v63_3, ()), ((List.drop 0 v0_0), v0_1, ()), (List.take (List.length v68) (List.drop 0 v68)), (List.take (List.length v81) (List.drop 0 v81)), v82, v83, ())))
     else
      none
    else
     if ((0 + (List.length v0_0)) = (List.length v0_0)) then
      some (Sum.inl (((List.drop 0 v0_0), v0_1, ()), v2, (v4_0, v4_1, ()), v11, v12, (IntKind.wrap .i64 (v13 + (1 : Int))), v62, (v63_0, v63_1, v63_2, v63_3, ()), (List.take (List.length v68) (List.drop 0 v68)), (List.take (List.length v81) (List.drop 0 v81)), v82, v83, ()))
     else
      none
  else
   none
 else
  if ((0 + (List.length v0_0)) = (List.length v0_0)) then
   some (Sum.inr (Sum.inr (((List.drop 0 v0_0), v0_1, ()), v2, (v4_0, v4_1, ()), v62, (v63_0, v63_1, v63_2, v63_3, ()), (List.take (List.length v68) (List.drop 0 v68)), (List.take (List.length v81) (List.drop 0 v81)), v82, v83, ())))
  else
   none
theorem spec_l8Elements_at39_l2_eq : loopStep 61 E90_at39 L90_at39_0 (loopOf f118 2) sh90_at39_2 xs90_at39_2 = spec_l8Elements_at39_l2 := by kernel_rfl
theorem loop90_at39_2 {L} (h : L 2 = some ⟨61, sh90_at39_2, xs90_at39_2, spec_l8Elements_at39_l2⟩) : LoopOk prog L (loopOf f118 2) := lo spec_l8Elements_at39_l2_eq E90_at39_ok allNil h
noncomputable def L90_at39_1 : Nat → Option LoopD := fun n => ifEq n 2 (some ⟨61, sh90_at39_2, xs90_at39_2, spec_l8Elements_at39_l2⟩) (L90_at39_0 n)
def shi90_at39 : List Fm := .box 100000 [.own (.pair (.pair (.int .i64) (.sl (.int .i64))) .str) 100001 true, .val .bool] :: .cell (.val (.pair (.int .i64) (.sl (.int .i64)))) :: .cell (.val .str) :: D 59 (.cell (.val .bool) :: .box 106300 [.val (.int .i64), .val (.sl (.int .i64)), .val (.sl (.int .i64)), .val (.sl (.pair (.int .i64) (.pair .str (.pair (.int .i64) (.int .i64)))))] :: d :: d :: d :: .ali 100000 0 :: .cell (.own (.pair (.pair (.int .i64) (.sl (.int .i64))) .str) 106800 false) :: D 12 (.cell (.own .str 108100 false) :: .cell (.val (.int .i64)) :: .cell (.val (.int .i64)) :: D 108 []))
def sho90_at39 : List Fm := d :: .cell (.val .bool) :: .box 100200 [.val (.int .i64), .val (.sl (.int .i64)), .val (.sl (.int .i64)), .val (.sl (.pair (.int .i64) (.pair .str (.pair (.int .i64) (.int .i64)))))] :: d :: d :: d :: .box 100600 [.own (.pair (.pair (.int .i64) (.sl (.int .i64))) .str) 100601 true, .val .bool] :: .cell (.own (.pair (.pair (.int .i64) (.sl (.int .i64))) .str) 100700 false) :: D 12 (.cell (.own .str 102000 false) :: .cell (.val (.int .i64)) :: .cell (.val (.int .i64)) :: D 108 [])
noncomputable def spec_l8Elements_at39 : (((List ((Int × (List Int)) × ByteArray)) × Bool × Unit) × (Int × (List Int)) × ByteArray × Bool × (Int × (List Int) × (List Int) × (List (Int × (ByteArray × (Int × Int)))) × Unit) × (List ((Int × (List Int)) × ByteArray)) × (List ByteArray) × Int × Int × Unit) → Option (Bool × (Int × (List Int) × (List Int) × (List (Int × (ByteArray × (Int × Int)))) × Unit) × ((List ((Int × (List Int)) × ByteArray)) × Bool × Unit) × (List ((Int × (List Int)) × ByteArray)) × (List ByteArray) × Int × Int × Unit) := fun ((v0_0, v0_1, _), (v1_0, v1_1), v2, v62, (v63_0, v63_1, v63_2, v63_3, _), v68, v81, v82, v83, _) =>
 if ((0 + (List.length v0_0)) = (List.length v0_0)) then
  Option.bind (loopF spec_l8Elements_at39_l2 (((List.drop 0 v0_0), v0_1, ()), v2, (v1_0, v1_1, ()), (List.take (List.length v0_0) (List.drop 0 v0_0)), (((List.length v0_0) : Nat) : Int), (0 : Int), v62, (v63_0, v63_1, v63_2, v63_3, ()), (List.take (List.length v68) (List.drop 0 v68)), (List.take (List.length v81) (List.drop 0 v81)), v82, v83, ())) fun r0 =>
   (match r0 with
   | .inl (d1, (d2, d3, d4, d5, _), (d6, d7, _), d8, d9, d10, d11, _) =>
     if ((0 + (List.length d6)) = (List.length d6)) then
      some (d1, (d2, d3, d4, d5, ()), ((List.drop 0 d6), d7, ()), (List.take (List.length d8) (List.drop 0 d8)), (List.take (List.length d9) (List.drop 0 d9)), d10, d11, ())
     else
      none
   | .inr ((d12, d13, _), d14, (d15, d16, _), d17, (d18, d19, d20, d21, _), d22, d23, d24, d25, _) =>
     bif d13 then
      if ((0 + (List.length d12)) = (List.length d12)) then
       some (d17, (d18, d19, d20, d21, ()), ((List.drop 0 d12), true, ()), (List.take (List.length d22) (List.drop 0 d22)), (List.take (List.length d23) (List.drop 0 d23)), d24, d25, ())
      else
       none
     else
      bif (decide ((((List.length d12) : Nat) : Int) ≥ (120 : Int))) then
       if ((0 + (List.length d12)) = (List.length d12)) then
        some (d17, (d18, d19, d20, d21, ()), ((List.drop 0 d12), true, ()), (List.take (List.length d22) (List.drop 0 d22)), (List.take (List.length d23) (List.drop 0 d23)), d24, d25, ())
       else
        none
      else
       bif (!(decide ((((ByteArray.size d14) : Nat) : Int) > (120 : Int)))) then
        if (((0 + (List.length d12)) = (List.length d12)) ∧ ((((List.length d12) + (List.length (List.take 1 (List.drop 0 [((d15, d16), d14)])))) * 48) ≤ 140737488355328)) then
         if ((0 + ((List.length d12) + (List.length (List.take 1 (List.drop 0 [((d15, d16), d14)]))))) = (List.length ((List.drop 0 d12) ++ (List.take 1 (List.drop 0 [((d15, d16), d14)]))))) then
          some (d17, (d18, d19, d20, d21, ()), ((List.drop 0 ((List.drop 0 d12) ++ (List.take 1 (List.drop 0 [((d15, d16), d14)])))), (decide ((((ByteArray.size d14) : Nat) : Int) > (120 : Int))), ()), (List.take (List.length d22) (List.drop 0 d22)), (List.take (List.length d23) (List.drop 0 d23)), d24, d25, ())
         else
          none
        else
         none
       else
        if ((0 + (List.length d12)) = (List.length d12)) then
         some (d17, (d18, d19, d20, d21, ()), ((List.drop 0 d12), (decide ((((ByteArray.size d14) : Nat) : Int) > (120 : Int))), ()), (List.take (List.length d22) (List.drop 0 d22)), (List.take (List.length d23) (List.drop 0 d23)), d24, d25, ())
        else
         none)
 else
  none
theorem spec_l8Elements_at39_eq : inlStep f118.ntmps 131 39 E90_at39 L90_at39_1 f118.results.toList (codeOf f118) shi90_at39 sho90_at39 = spec_l8Elements_at39 := by kernel_rfl
noncomputable def I90_at39 : CallD := ⟨f118.ntmps, shi90_at39, 131, sho90_at39, spec_l8Elements_at39, 0⟩
theorem I90_at39_ok : InlOk prog 39 118 I90_at39 := inlOk_of (tysOk_of tyl_ok) E90_at39_ok (L := L90_at39_1) func118 (by kernel_rfl) (c := codeOf f118) (by kernel_rfl) (codeOk_in (L := L90_at39_1) (tysOk_of tyl_ok) E90_at39_ok mixed (c := codeOf f118) (bs := [loopOf f118 2]) (by kernel_rfl) (allCons (loop90_at39_2 rfl) allNil) (by kernel_rfl)) (by kernel_rfl) (by kernel_rfl) spec_l8Elements_at39_eq
noncomputable def E90_at78 : Env := ⟨ty0, fun g => ifEq g 71 (some A71) (ifEq g 117 (some A117) (ifEq g 133 (some A133) (ifEq g 119 (some A119) (ifEq g 120 (some A120) (ifEq g 121 (some A121) (none)))))), fun _ => none, fun _ => none, fun _ => none⟩
theorem E90_at78_ok : FnsOk prog E90_at78 := (oF A71_ok func71 (oF A117_ok func117 (oF A133_ok func133 (oF A119_ok func119 (oF A120_ok func120 (oF A121_ok func121 (noFns _ _)))))))
noncomputable def L90_at78_0 : Nat → Option LoopD := fun _ => none
def sh90_at78_2 : List Fm := .box 100000 [.own (.pair (.pair (.int .i64) (.sl (.int .i64))) .str) 100001 true, .val .bool] :: d :: .cell (.val .str) :: d :: .box 100400 [.val (.int .i64), .own (.int .i64) 100402 false] :: D 6 (.cell (.val (.sl (.pair (.pair (.int .i64) (.sl (.int .i64))) .str))) :: .cell (.val (.int .i64)) :: .cell (.val (.int .i64)) :: D 48 (.cell (.val .bool) :: D 4 (.ali 100000 0 :: .cell (.val (.sl (.pair (.pair (.int .i64) (.sl (.int .i64))) .str))) :: d :: d :: d :: .cell (.val (.int .i64)) :: .box 107300 [.val (.int .i64), .val (.sl (.int .i64)), .val .str] :: D 118 [])))
def xs90_at78_2 : List (Ex × List Fm) := [(.ret, [d, d, d, d, d, d, d, d, d, d, d, d, d, d, d, d, d, d, d, d, d, d, d, d, d, d, d, d, d, d, d, d, d, d, d, d, d, d, d, d, d, d, d, d, d, d, d, d, d, d, d, d, d, d, d, d, d, d, d, d, d, d, .cell (.val .bool), d, d, d, d, .box 106700 [.own (.pair (.pair (.int .i64) (.sl (.int .i64))) .str) 106701 true, .val .bool], .cell (.val (.sl (.pair (.pair (.int .i64) (.sl (.int .i64))) .str))), d, d, d, .cell (.val (.int .i64)), .box 107300 [.val (.int .i64), .val (.sl (.int .i64)), .val .str], d, d, d, d, d, d, d, d, d, d, d, d, d, d, d, d, d, d, d, d, d, d, d, d, d, d, d, d, d, d, d, d, d, d, d, d, d, d, d, d, d, d, d, d, d, d, d, d, d, d, d, d, d, d, d, d, d, d, d, d, d, d, d, d, d, d, d, d, d, d, d, d, d, d, d, d, d, d, d, d, d, d, d, d, d, d, d, d, d, d, d, d, d, d, d, d, d, d, d, d, d, d, d, d, d, d, d, d, d, d, d, d, d, d, d, d, d, d]), (.exit 0, [.box 100000 [.own (.pair (.pair (.int .i64) (.sl (.int .i64))) .str) 100001 true, .val .bool], d, .cell (.val .str), d, .box 100400 [.val (.int .i64), .own (.int .i64) 100402 false], d, d, d, d, d, d, d, d, d, d, d, d, d, d, d, d, d, d, d, d, d, d, d, d, d, d, d, d, d, d, d, d, d, d, d, d, d, d, d, d, d, d, d, d, d, d, d, d, d, d, d, d, d, d, d, d, d, .cell (.val .bool), d, d, d, d, .ali 100000 0, .cell (.val (.sl (.pair (.pair (.int .i64) (.sl (.int .i64))) .str))), d, d, d, .cell (.val (.int .i64)), .box 107300 [.val (.int .i64), .val (.sl (.int .i64)), .val .str], d, d, d, d, d, d, d, d, d, d, d, d, d, d, d, d, d, d, d, d, d, d, d, d, d, d, d, d, d, d, d, d, d, d, d, d, d, d, d, d, d, d, d, d, d, d, d, d, d, d, d, d, d, d, d, d, d, d, d, d, d, d, d, d, d, d, d, d, d, d, d, d, d, d, d, d, d, d, d, d, d, d, d, d, d, d, d, d, d, d, d, d, d, d, d, d, d, d, d, d, d, d, d, d, d, d, d, d, d, d, d, d, d, d, d, d, d, d])]
noncomputable def spec_l8Elements_at78_l2 : (((List ((Int × (List Int)) × ByteArray)) × Bool × Unit) × ByteArray × (Int × (List Int) × Unit) × (List ((Int × (List Int)) × ByteArray)) × Int × Int × Bool × (List ((Int × (List Int)) × ByteArray)) × Int × (Int × (List Int) × ByteArray × Unit) × Unit) → Option ((((List ((Int × (List Int)) × ByteArray)) × Bool × Unit) × ByteArray × (Int × (List Int) × Unit) × (List ((Int × (List Int)) × ByteArray)) × Int × Int × Bool × (List ((Int × (List Int)) × ByteArray)) × Int × (Int × (List Int) × ByteArray × Unit) × Unit) ⊕ ((Bool × ((List ((Int × (List Int)) × ByteArray)) × Bool × Unit) × (List ((Int × (List Int)) × ByteArray)) × Int × (Int × (List Int) × ByteArray × Unit) × Unit) ⊕ (((List ((Int × (List Int)) × ByteArray)) × Bool × Unit) × ByteArray × (Int × (List Int) × Unit) × Bool × (List ((Int × (List Int)) × ByteArray)) × Int × (Int × (List Int) × ByteArray × Unit) × Unit))) := fun ((v0_0, v0_1, _), v2, (v4_0, v4_1, _), v11, v12, v13, v62, v68, v72, (v73_0, v73_1, v73_2, _), _) =>
 bif (decide (v13 < v12)) then
  if (((0 : Int) ≤ v13) ∧ (v13 < (((List.length v11) : Nat) : Int))) then
   Option.bind (spec_l2Same (List.getD v11 (Int.toNat v13) (((0 : Int), []), (⟨Array.empty⟩ : ByteArray))).1.2 (List.take (List.length v4_1) (List.drop 0 v4_1))) fun r0 =>
    bif r0 then
     if ((0 + (List.length v0_0)) = (List.length v0_0)) then
      some (Sum.inr (Sum.inl (v62, ((List.drop 0 v0_0), v0_1, ()), v68, v72, (v73_0, v73_1, v73_2, ()), ())))
     else
      none
    else
     if ((0 + (List.length v0_0)) = (List.length v0_0)) then
      some (Sum.inl (((List.drop 0 v0_0), v0_1, ()), v2, (v4_0, (List.take (List.length v4_1) (List.drop 0 v4_1)), ()), v11, v12, (IntKind.wrap .i64 (v13 + (1 : Int))), v62, v68, v72, (v73_0, v73_1, v73_2, ()), ()))
     else
      none
  else
   none
 else
  if ((0 + (List.length v0_0)) = (List.length v0_0)) then
   some (Sum.inr (Sum.inr (((List.drop 0 v0_0), v0_1, ()), v2, (v4_0, (List.take (List.length v4_1) (List.drop 0 v4_1)), ()), v62, v68, v72, (v73_0, v73_1, v73_2, ()), ())))
  else
   none
theorem spec_l8Elements_at78_l2_eq : loopStep 61 E90_at78 L90_at78_0 (loopOf f118 2) sh90_at78_2 xs90_at78_2 = spec_l8Elements_at78_l2 := by kernel_rfl
theorem loop90_at78_2 {L} (h : L 2 = some ⟨61, sh90_at78_2, xs90_at78_2, spec_l8Elements_at78_l2⟩) : LoopOk prog L (loopOf f118 2) := lo spec_l8Elements_at78_l2_eq E90_at78_ok allNil h
noncomputable def L90_at78_1 : Nat → Option LoopD := fun n => ifEq n 2 (some ⟨61, sh90_at78_2, xs90_at78_2, spec_l8Elements_at78_l2⟩) (L90_at78_0 n)
def shi90_at78 : List Fm := .box 100000 [.own (.pair (.pair (.int .i64) (.sl (.int .i64))) .str) 100001 true, .val .bool] :: .agg [.val (.int .i64), .own (.int .i64) 100102 false] :: .cell (.val .str) :: D 59 (.cell (.val .bool) :: D 4 (.ali 100000 0 :: .cell (.val (.sl (.pair (.pair (.int .i64) (.sl (.int .i64))) .str))) :: d :: d :: d :: .cell (.val (.int .i64)) :: .box 107300 [.val (.int .i64), .val (.sl (.int .i64)), .val .str] :: D 118 []))
def sho90_at78 : List Fm := d :: .cell (.val .bool) :: D 4 (.box 100600 [.own (.pair (.pair (.int .i64) (.sl (.int .i64))) .str) 100601 true, .val .bool] :: .cell (.val (.sl (.pair (.pair (.int .i64) (.sl (.int .i64))) .str))) :: d :: d :: d :: .cell (.val (.int .i64)) :: .box 101200 [.val (.int .i64), .val (.sl (.int .i64)), .val .str] :: D 118 [])
noncomputable def spec_l8Elements_at78 : (((List ((Int × (List Int)) × ByteArray)) × Bool × Unit) × (Int × (List Int) × Unit) × ByteArray × Bool × (List ((Int × (List Int)) × ByteArray)) × Int × (Int × (List Int) × ByteArray × Unit) × Unit) → Option (Bool × ((List ((Int × (List Int)) × ByteArray)) × Bool × Unit) × (List ((Int × (List Int)) × ByteArray)) × Int × (Int × (List Int) × ByteArray × Unit) × Unit) := fun ((v0_0, v0_1, _), (v1_0, v1_1, _), v2, v62, v68, v72, (v73_0, v73_1, v73_2, _), _) =>
 if ((0 + (List.length v0_0)) = (List.length v0_0)) then
  Option.bind (loopF spec_l8Elements_at78_l2 (((List.drop 0 v0_0), v0_1, ()), v2, (v1_0, (List.take (List.length v1_1) (List.drop 0 v1_1)), ()), (List.take (List.length v0_0) (List.drop 0 v0_0)), (((List.length v0_0) : Nat) : Int), (0 : Int), v62, v68, v72, (v73_0, v73_1, v73_2, ()), ())) fun r0 =>
   (match r0 with
   | .inl (d1, (d2, d3, _), d4, d5, (d6, d7, d8, _), _) =>
     if ((0 + (List.length d2)) = (List.length d2)) then
      some (d1, ((List.drop 0 d2), d3, ()), d4, d5, (d6, d7, d8, ()), ())
     else
      none
   | .inr ((d9, d10, _), d11, (d12, d13, _), d14, d15, d16, (d17, d18, d19, _), _) =>
     bif d10 then
      if ((0 + (List.length d9)) = (List.length d9)) then
       some (d14, ((List.drop 0 d9), true, ()), d15, d16, (d17, d18, d19, ()), ())
      else
       none
     else
      bif (decide ((((List.length d9) : Nat) : Int) ≥ (120 : Int))) then
       if ((0 + (List.length d9)) = (List.length d9)) then
        some (d14, ((List.drop 0 d9), true, ()), d15, d16, (d17, d18, d19, ()), ())
       else
        none
      else
       bif (!(decide ((((ByteArray.size d11) : Nat) : Int) > (120 : Int)))) then
        if (((0 + (List.length d9)) = (List.length d9)) ∧ ((((List.length d9) + (List.length (List.take 1 (List.drop 0 [((d12, (List.take (List.length d13) (List.drop 0 d13))), d11)])))) * 48) ≤ 140737488355328)) then
         if ((0 + ((List.length d9) + (List.length (List.take 1 (List.drop 0 [((d12, (List.take (List.length d13) (List.drop 0 d13))), d11)]))))) = (List.length ((List.drop 0 d9) ++ (List.take 1 (List.drop 0 [((d12, (List.take (List.length d13) (List.drop 0 d13))), d11)]))))) then
          some (d14, ((List.drop 0 ((List.drop 0 d9) ++ (List.take 1 (List.drop 0 [((d12, (List.take (List.length d13) (List.drop 0 d13))), d11)])))), (decide ((((ByteArray.size d11) : Nat) : Int) > (120 : Int))), ()), d15, d16, (d17, d18, d19, ()), ())
         else
          none
        else
         none
       else
        if ((0 + (List.length d9)) = (List.length d9)) then
         some (d14, ((List.drop 0 d9), (decide ((((ByteArray.size d11) : Nat) : Int) > (120 : Int))), ()), d15, d16, (d17, d18, d19, ()), ())
        else
         none)
 else
  none
theorem spec_l8Elements_at78_eq : inlStep f118.ntmps 131 78 E90_at78 L90_at78_1 f118.results.toList (codeOf f118) shi90_at78 sho90_at78 = spec_l8Elements_at78 := by kernel_rfl
noncomputable def I90_at78 : CallD := ⟨f118.ntmps, shi90_at78, 131, sho90_at78, spec_l8Elements_at78, 0⟩
theorem I90_at78_ok : InlOk prog 78 118 I90_at78 := inlOk_of (tysOk_of tyl_ok) E90_at78_ok (L := L90_at78_1) func118 (by kernel_rfl) (c := codeOf f118) (by kernel_rfl) (codeOk_in (L := L90_at78_1) (tysOk_of tyl_ok) E90_at78_ok mixed (c := codeOf f118) (bs := [loopOf f118 2]) (by kernel_rfl) (allCons (loop90_at78_2 rfl) allNil) (by kernel_rfl)) (by kernel_rfl) (by kernel_rfl) spec_l8Elements_at78_eq
noncomputable def E90_at107 : Env := ⟨ty0, fun g => ifEq g 71 (some A71) (ifEq g 117 (some A117) (ifEq g 133 (some A133) (ifEq g 119 (some A119) (ifEq g 120 (some A120) (ifEq g 121 (some A121) (none)))))), fun _ => none, fun _ => none, fun _ => none⟩
theorem E90_at107_ok : FnsOk prog E90_at107 := (oF A71_ok func71 (oF A117_ok func117 (oF A133_ok func133 (oF A119_ok func119 (oF A120_ok func120 (oF A121_ok func121 (noFns _ _)))))))
noncomputable def L90_at107_0 : Nat → Option LoopD := fun _ => none
def sh90_at107_2 : List Fm := .box 100000 [.own (.pair (.pair (.int .i64) (.sl (.int .i64))) .str) 100001 true, .val .bool] :: d :: .cell (.val .str) :: d :: .box 100400 [.val (.int .i64), .own (.int .i64) 100402 false] :: D 6 (.cell (.val (.sl (.pair (.pair (.int .i64) (.sl (.int .i64))) .str))) :: .cell (.val (.int .i64)) :: .cell (.val (.int .i64)) :: D 48 (.cell (.val .bool) :: D 4 (.ali 100000 0 :: .cell (.val (.sl (.pair (.pair (.int .i64) (.sl (.int .i64))) .str))) :: d :: d :: d :: .cell (.val (.int .i64)) :: .box 107300 [.val (.int .i64), .val (.sl (.int .i64)), .val .str] :: d :: d :: .box 107600 [.val (.int .i64), .val (.sl (.int .i64)), .val .str] :: D 74 (.cell (.val (.sl (.pair (.pair (.int .i64) (.sl (.int .i64))) .str))) :: .cell (.val (.int .i64)) :: .cell (.val (.int .i64)) :: D 38 []))))
def xs90_at107_2 : List (Ex × List Fm) := [(.ret, [d, d, d, d, d, d, d, d, d, d, d, d, d, d, d, d, d, d, d, d, d, d, d, d, d, d, d, d, d, d, d, d, d, d, d, d, d, d, d, d, d, d, d, d, d, d, d, d, d, d, d, d, d, d, d, d, d, d, d, d, d, d, .cell (.val .bool), d, d, d, d, .box 106700 [.own (.pair (.pair (.int .i64) (.sl (.int .i64))) .str) 106701 true, .val .bool], .cell (.val (.sl (.pair (.pair (.int .i64) (.sl (.int .i64))) .str))), d, d, d, .cell (.val (.int .i64)), .box 107300 [.val (.int .i64), .val (.sl (.int .i64)), .val .str], d, d, .box 107600 [.val (.int .i64), .val (.sl (.int .i64)), .val .str], d, d, d, d, d, d, d, d, d, d, d, d, d, d, d, d, d, d, d, d, d, d, d, d, d, d, d, d, d, d, d, d, d, d, d, d, d, d, d, d, d, d, d, d, d, d, d, d, d, d, d, d, d, d, d, d, d, d, d, d, d, d, d, d, d, d, d, d, d, d, d, d, d, d, .cell (.val (.sl (.pair (.pair (.int .i64) (.sl (.int .i64))) .str))), .cell (.val (.int .i64)), .cell (.val (.int .i64)), d, d, d, d, d, d, d, d, d, d, d, d, d, d, d, d, d, d, d, d, d, d, d, d, d, d, d, d, d, d, d, d, d, d, d, d, d, d]), (.exit 0, [.box 100000 [.own (.pair (.pair (.int .i64) (.sl (.int .i64))) .str) 100001 true, .val .bool], d, .cell (.val .str), d, .box 100400 [.val (.int .i64), .own (.int .i64) 100402 false], d, d, d, d, d, d, d, d, d, d, d, d, d, d, d, d, d, d, d, d, d, d, d, d, d, d, d, d, d, d, d, d, d, d, d, d, d, d, d, d, d, d, d, d, d, d, d, d, d, d, d, d, d, d, d, d, d, .cell (.val .bool), d, d, d, d, .ali 100000 0, .cell (.val (.sl (.pair (.pair (.int .i64) (.sl (.int .i64))) .str))), d, d, d, .cell (.val (.int .i64)), .box 107300 [.val (.int .i64), .val (.sl (.int .i64)), .val .str], d, d, .box 107600 [.val (.int .i64), .val (.sl (.int .i64)), .val .str], d, d, d, d, d, d, d, d, d, d, d, d, d, d, d, d, d, d, d, d, d, d, d, d, d, d, d, d, d, d, d, d, d, d, d, d, d, d, d, d, d, d, d, d, d, d, d, d, d, d, d, d, d, d, d, d, d, d, d, d, d, d, d, d, d, d, d, d, d, d, d, d, d, d, .cell (.val (.sl (.pair (.pair (.int .i64) (.sl (.int .i64))) .str))), .cell (.val (.int .i64)), .cell (.val (.int .i64)), d, d, d, d, d, d, d, d, d, d, d, d, d, d, d, d, d, d, d, d, d, d, d, d, d, d, d, d, d, d, d, d, d, d, d, d, d, d])]
noncomputable def spec_l8Elements_at107_l2 : (((List ((Int × (List Int)) × ByteArray)) × Bool × Unit) × ByteArray × (Int × (List Int) × Unit) × (List ((Int × (List Int)) × ByteArray)) × Int × Int × Bool × (List ((Int × (List Int)) × ByteArray)) × Int × (Int × (List Int) × ByteArray × Unit) × (Int × (List Int) × ByteArray × Unit) × (List ((Int × (List Int)) × ByteArray)) × Int × Int × Unit) → Option ((((List ((Int × (List Int)) × ByteArray)) × Bool × Unit) × ByteArray × (Int × (List Int) × Unit) × (List ((Int × (List Int)) × ByteArray)) × Int × Int × Bool × (List ((Int × (List Int)) × ByteArray)) × Int × (Int × (List Int) × ByteArray × Unit) × (Int × (List Int) × ByteArray × Unit) × (List ((Int × (List Int)) × ByteArray)) × Int × Int × Unit) ⊕ ((Bool × ((List ((Int × (List Int)) × ByteArray)) × Bool × Unit) × (List ((Int × (List Int)) × ByteArray)) × Int × (Int × (List Int) × ByteArray × Unit) × (Int × (List Int) × ByteArray × Unit) × (List ((Int × (List Int)) × ByteArray)) × Int × Int × Unit) ⊕ (((List ((Int × (List Int)) × ByteArray)) × Bool × Unit) × ByteArray × (Int × (List Int) × Unit) × Bool × (List ((Int × (List Int)) × ByteArray)) × Int × (Int × (List Int) × ByteArray × Unit) × (Int × (List Int) × ByteArray × Unit) × (List ((Int × (List Int)) × ByteArray)) × Int × Int × Unit))) := fun ((v0_0, v0_1, _), v2, (v4_0, v4_1, _), v11, v12, v13, v62, v68, v72, (v73_0, v73_1, v73_2, _), (v76_0, v76_1, v76_2, _), v151, v152, v153, _) =>
 bif (decide (v13 < v12)) then
  if (((0 : Int) ≤ v13) ∧ (v13 < (((List.length v11) : Nat) : Int))) then
   Option.bind (spec_l2Same (List.getD v11 (Int.toNat v13) (((0 : Int), []), (⟨Array.empty⟩ : ByteArray))).1.2 (List.take (List.length v4_1) (List.drop 0 v4_1))) fun r0 =>
    bif r0 then
     if ((0 + (List.length v0_0)) = (List.length v0_0)) then
      some (Sum.inr (Sum.inl (v62, ((List.drop 0 v0_0), v0_1, ()), v68, v72, (v73_0, v73_1, v73_2, ()), (v76_0, v76_1, v76_2, ()), v151, v152, v153, ())))
     else
      none
    else
     if ((0 + (List.length v0_0)) = (List.length v0_0)) then
      some (Sum.inl (((List.drop 0 v0_0), v0_1, ()), v2, (v4_0, (List.take (List.length v4_1) (List.drop 0 v4_1)), ()), v11, v12, (IntKind.wrap .i64 (v13 + (1 : Int))), v62, v68, v72, (v73_0, v73_1, v73_2, ()), (v76_0, v76_1, v76_2, ()), v151, v152, v153, ()))
     else
      none
  else
   none
 else
  if ((0 + (List.length v0_0)) = (List.length v0_0)) then
   some (Sum.inr (Sum.inr (((List.drop 0 v0_0), v0_1, ()), v2, (v4_0, (List.take (List.length v4_1) (List.drop 0 v4_1)), ()), v62, v68, v72, (v73_0, v73_1, v73_2, ()), (v76_0, v76_1, v76_2, ()), v151, v152, v153, ())))
  else
   none
theorem spec_l8Elements_at107_l2_eq : loopStep 61 E90_at107 L90_at107_0 (loopOf f118 2) sh90_at107_2 xs90_at107_2 = spec_l8Elements_at107_l2 := by kernel_rfl
theorem loop90_at107_2 {L} (h : L 2 = some ⟨61, sh90_at107_2, xs90_at107_2, spec_l8Elements_at107_l2⟩) : LoopOk prog L (loopOf f118 2) := lo spec_l8Elements_at107_l2_eq E90_at107_ok allNil h
noncomputable def L90_at107_1 : Nat → Option LoopD := fun n => ifEq n 2 (some ⟨61, sh90_at107_2, xs90_at107_2, spec_l8Elements_at107_l2⟩) (L90_at107_0 n)
def shi90_at107 : List Fm := .box 100000 [.own (.pair (.pair (.int .i64) (.sl (.int .i64))) .str) 100001 true, .val .bool] :: .agg [.val (.int .i64), .own (.int .i64) 100102 false] :: .cell (.val .str) :: D 59 (.cell (.val .bool) :: D 4 (.ali 100000 0 :: .cell (.val (.sl (.pair (.pair (.int .i64) (.sl (.int .i64))) .str))) :: d :: d :: d :: .cell (.val (.int .i64)) :: .box 107300 [.val (.int .i64), .val (.sl (.int .i64)), .val .str] :: d :: d :: .box 107600 [.val (.int .i64), .val (.sl (.int .i64)), .val .str] :: D 74 (.cell (.val (.sl (.pair (.pair (.int .i64) (.sl (.int .i64))) .str))) :: .cell (.val (.int .i64)) :: .cell (.val (.int .i64)) :: D 38 [])))
def sho90_at107 : List Fm := d :: .cell (.val .bool) :: D 4 (.box 100600 [.own (.pair (.pair (.int .i64) (.sl (.int .i64))) .str) 100601 true, .val .bool] :: .cell (.val (.sl (.pair (.pair (.int .i64) (.sl (.int .i64))) .str))) :: d :: d :: d :: .cell (.val (.int .i64)) :: .box 101200 [.val (.int .i64), .val (.sl (.int .i64)), .val .str] :: d :: d :: .box 101500 [.val (.int .i64), .val (.sl (.int .i64)), .val .str] :: D 74 (.cell (.val (.sl (.pair (.pair (.int .i64) (.sl (.int .i64))) .str))) :: .cell (.val (.int .i64)) :: .cell (.val (.int .i64)) :: D 38 []))
noncomputable def spec_l8Elements_at107 : (((List ((Int × (List Int)) × ByteArray)) × Bool × Unit) × (Int × (List Int) × Unit) × ByteArray × Bool × (List ((Int × (List Int)) × ByteArray)) × Int × (Int × (List Int) × ByteArray × Unit) × (Int × (List Int) × ByteArray × Unit) × (List ((Int × (List Int)) × ByteArray)) × Int × Int × Unit) → Option (Bool × ((List ((Int × (List Int)) × ByteArray)) × Bool × Unit) × (List ((Int × (List Int)) × ByteArray)) × Int × (Int × (List Int) × ByteArray × Unit) × (Int × (List Int) × ByteArray × Unit) × (List ((Int × (List Int)) × ByteArray)) × Int × Int × Unit) := fun ((v0_0, v0_1, _), (v1_0, v1_1, _), v2, v62, v68, v72, (v73_0, v73_1, v73_2, _), (v76_0, v76_1, v76_2, _), v151, v152, v153, _) =>
 if ((0 + (List.length v0_0)) = (List.length v0_0)) then
  Option.bind (loopF spec_l8Elements_at107_l2 (((List.drop 0 v0_0), v0_1, ()), v2, (v1_0, (List.take (List.length v1_1) (List.drop 0 v1_1)), ()), (List.take (List.length v0_0) (List.drop 0 v0_0)), (((List.length v0_0) : Nat) : Int), (0 : Int), v62, v68, v72, (v73_0, v73_1, v73_2, ()), (v76_0, v76_1, v76_2, ()), v151, v152, v153, ())) fun r0 =>
   (match r0 with
   | .inl (d1, (d2, d3, _), d4, d5, (d6, d7, d8, _), (d9, d10, d11, _), d12, d13, d14, _) =>
     if ((0 + (List.length d2)) = (List.length d2)) then
      some (d1, ((List.drop 0 d2), d3, ()), d4, d5, (d6, d7, d8, ()), (d9, d10, d11, ()), d12, d13, d14, ())
     else
      none
   | .inr ((d15, d16, _), d17, (d18, d19, _), d20, d21, d22, (d23, d24, d25, _), (d26, d27, d28, _), d29, d30, d31, _) =>
     bif d16 then
      if ((0 + (List.length d15)) = (List.length d15)) then
       some (d20, ((List.drop 0 d15), true, ()), d21, d22, (d23, d24, d25, ()), (d26, d27, d28, ()), d29, d30, d31, ())
      else
       none
     else
      bif (decide ((((List.length d15) : Nat) : Int) ≥ (120 : Int))) then
       if ((0 + (List.length d15)) = (List.length d15)) then
        some (d20, ((List.drop 0 d15), true, ()), d21, d22, (d23, d24, d25, ()), (d26, d27, d28, ()), d29, d30, d31, ())
       else
        none
      else
       bif (!(decide ((((ByteArray.size d17) : Nat) : Int) > (120 : Int)))) then
        if (((0 + (List.length d15)) = (List.length d15)) ∧ ((((List.length d15) + (List.length (List.take 1 (List.drop 0 [((d18, (List.take (List.length d19) (List.drop 0 d19))), d17)])))) * 48) ≤ 140737488355328)) then
         if ((0 + ((List.length d15) + (List.length (List.take 1 (List.drop 0 [((d18, (List.take (List.length d19) (List.drop 0 d19))), d17)]))))) = (List.length ((List.drop 0 d15) ++ (List.take 1 (List.drop 0 [((d18, (List.take (List.length d19) (List.drop 0 d19))), d17)]))))) then
          some (d20, ((List.drop 0 ((List.drop 0 d15) ++ (List.take 1 (List.drop 0 [((d18, (List.take (List.length d19) (List.drop 0 d19))), d17)])))), (decide ((((ByteArray.size d17) : Nat) : Int) > (120 : Int))), ()), d21, d22, (d23, d24, d25, ()), (d26, d27, d28, ()), d29, d30, d31, ())
         else
          none
        else
         none
       else
        if ((0 + (List.length d15)) = (List.length d15)) then
         some (d20, ((List.drop 0 d15), (decide ((((ByteArray.size d17) : Nat) : Int) > (120 : Int))), ()), d21, d22, (d23, d24, d25, ()), (d26, d27, d28, ()), d29, d30, d31, ())
        else
         none)
 else
  none
theorem spec_l8Elements_at107_eq : inlStep f118.ntmps 131 107 E90_at107 L90_at107_1 f118.results.toList (codeOf f118) shi90_at107 sho90_at107 = spec_l8Elements_at107 := by kernel_rfl
noncomputable def I90_at107 : CallD := ⟨f118.ntmps, shi90_at107, 131, sho90_at107, spec_l8Elements_at107, 0⟩
theorem I90_at107_ok : InlOk prog 107 118 I90_at107 := inlOk_of (tysOk_of tyl_ok) E90_at107_ok (L := L90_at107_1) func118 (by kernel_rfl) (c := codeOf f118) (by kernel_rfl) (codeOk_in (L := L90_at107_1) (tysOk_of tyl_ok) E90_at107_ok mixed (c := codeOf f118) (bs := [loopOf f118 2]) (by kernel_rfl) (allCons (loop90_at107_2 rfl) allNil) (by kernel_rfl)) (by kernel_rfl) (by kernel_rfl) spec_l8Elements_at107_eq
noncomputable def E90_at120 : Env := ⟨ty0, fun g => ifEq g 71 (some A71) (ifEq g 117 (some A117) (ifEq g 133 (some A133) (ifEq g 119 (some A119) (ifEq g 120 (some A120) (ifEq g 121 (some A121) (none)))))), fun _ => none, fun _ => none, fun _ => none⟩
theorem E90_at120_ok : FnsOk prog E90_at120 := (oF A71_ok func71 (oF A117_ok func117 (oF A133_ok func133 (oF A119_ok func119 (oF A120_ok func120 (oF A121_ok func121 (noFns _ _)))))))
noncomputable def L90_at120_0 : Nat → Option LoopD := fun _ => none
def sh90_at120_2 : List Fm := .box 100000 [.own (.pair (.pair (.int .i64) (.sl (.int .i64))) .str) 100001 true, .val .bool] :: d :: .cell (.val .str) :: d :: .box 100400 [.val (.int .i64), .own (.int .i64) 100402 false] :: D 6 (.cell (.val (.sl (.pair (.pair (.int .i64) (.sl (.int .i64))) .str))) :: .cell (.val (.int .i64)) :: .cell (.val (.int .i64)) :: D 48 (.cell (.val .bool) :: D 4 (.ali 100000 0 :: .cell (.val (.sl (.pair (.pair (.int .i64) (.sl (.int .i64))) .str))) :: d :: d :: d :: .cell (.val (.int .i64)) :: .box 107300 [.val (.int .i64), .val (.sl (.int .i64)), .val .str] :: D 77 (.cell (.val (.sl (.pair (.pair (.int .i64) (.sl (.int .i64))) .str))) :: .cell (.val (.int .i64)) :: .cell (.val (.int .i64)) :: D 38 []))))
def xs90_at120_2 : List (Ex × List Fm) := [(.ret, [d, d, d, d, d, d, d, d, d, d, d, d, d, d, d, d, d, d, d, d, d, d, d, d, d, d, d, d, d, d, d, d, d, d, d, d, d, d, d, d, d, d, d, d, d, d, d, d, d, d, d, d, d, d, d, d, d, d, d, d, d, d, .cell (.val .bool), d, d, d, d, .box 106700 [.own (.pair (.pair (.int .i64) (.sl (.int .i64))) .str) 106701 true, .val .bool], .cell (.val (.sl (.pair (.pair (.int .i64) (.sl (.int .i64))) .str))), d, d, d, .cell (.val (.int .i64)), .box 107300 [.val (.int .i64), .val (.sl (.int .i64)), .val .str], d, d, d, d, d, d, d, d, d, d, d, d, d, d, d, d, d, d, d, d, d, d, d, d, d, d, d, d, d, d, d, d, d, d, d, d, d, d, d, d, d, d, d, d, d, d, d, d, d, d, d, d, d, d, d, d, d, d, d, d, d, d, d, d, d, d, d, d, d, d, d, d, d, d, d, d, d, .cell (.val (.sl (.pair (.pair (.int .i64) (.sl (.int .i64))) .str))), .cell (.val (.int .i64)), .cell (.val (.int .i64)), d, d, d, d, d, d, d, d, d, d, d, d, d, d, d, d, d, d, d, d, d, d, d, d, d, d, d, d, d, d, d, d, d, d, d, d, d, d]), (.exit 0, [.box 100000 [.own (.pair (.pair (.int .i64) (.sl (.int .i64))) .str) 100001 true, .val .bool], d, .cell (.val .str), d, .box 100400 [.val (.int .i64), .own (.int .i64) 100402 false], d, d, d, d, d, d, d, d, d, d, d, d, d, d, d, d, d, d, d, d, d, d, d, d, d, d, d, d, d, d, d, d, d, d, d, d, d, d, d, d, d, d, d, d, d, d, d, d, d, d, d, d, d, d, d, d, d, .cell (.val .bool), d, d, d, d, .ali 100000 0, .cell (.val (.sl (.pair (.pair (.int .i64) (.sl (.int .i64))) .str))), d, d, d, .cell (.val (.int .i64)), .box 107300 [.val (.int .i64), .val (.sl (.int .i64)), .val .str], d, d, d, d, d, d, d, d, d, d, d, d, d, d, d, d, d, d, d, d, d, d, d, d, d, d, d, d, d, d, d, d, d, d, d, d, d, d, d, d, d, d, d, d, d, d, d, d, d, d, d, d, d, d, d, d, d, d, d, d, d, d, d, d, d, d, d, d, d, d, d, d, d, d, d, d, d, .cell (.val (.sl (.pair (.pair (.int .i64) (.sl (.int .i64))) .str))), .cell (.val (.int .i64)), .cell (.val (.int .i64)), d, d, d, d, d, d, d, d, d, d, d, d, d, d, d, d, d, d, d, d, d, d, d, d, d, d, d, d, d, d, d, d, d, d, d, d, d, d])]
noncomputable def spec_l8Elements_at120_l2 : (((List ((Int × (List Int)) × ByteArray)) × Bool × Unit) × ByteArray × (Int × (List Int) × Unit) × (List ((Int × (List Int)) × ByteArray)) × Int × Int × Bool × (List ((Int × (List Int)) × ByteArray)) × Int × (Int × (List Int) × ByteArray × Unit) × (List ((Int × (List Int)) × ByteArray)) × Int × Int × Unit) → Option ((((List ((Int × (List Int)) × ByteArray)) × Bool × Unit) × ByteArray × (Int × (List Int) × Unit) × (List ((Int × (List Int)) × ByteArray)) × Int × Int × Bool × (List ((Int × (List Int)) × ByteArray)) × Int × (Int × (List Int) × ByteArray × Unit) × (List ((Int × (List Int)) × ByteArray)) × Int × Int × Unit) ⊕ ((Bool × ((List ((Int × (List Int)) × ByteArray)) × Bool × Unit) × (List ((Int × (List Int)) × ByteArray)) × Int × (Int × (List Int) × ByteArray × Unit) × (List ((Int × (List Int)) × ByteArray)) × Int × Int × Unit) ⊕ (((List ((Int × (List Int)) × ByteArray)) × Bool × Unit) × ByteArray × (Int × (List Int) × Unit) × Bool × (List ((Int × (List Int)) × ByteArray)) × Int × (Int × (List Int) × ByteArray × Unit) × (List ((Int × (List Int)) × ByteArray)) × Int × Int × Unit))) := fun ((v0_0, v0_1, _), v2, (v4_0, v4_1, _), v11, v12, v13, v62, v68, v72, (v73_0, v73_1, v73_2, _), v151, v152, v153, _) =>
 bif (decide (v13 < v12)) then
  if (((0 : Int) ≤ v13) ∧ (v13 < (((List.length v11) : Nat) : Int))) then
   Option.bind (spec_l2Same (List.getD v11 (Int.toNat v13) (((0 : Int), []), (⟨Array.empty⟩ : ByteArray))).1.2 (List.take (List.length v4_1) (List.drop 0 v4_1))) fun r0 =>
    bif r0 then
     if ((0 + (List.length v0_0)) = (List.length v0_0)) then
      some (Sum.inr (Sum.inl (v62, ((List.drop 0 v0_0), v0_1, ()), v68, v72, (v73_0, v73_1, v73_2, ()), v151, v152, v153, ())))
     else
      none
    else
     if ((0 + (List.length v0_0)) = (List.length v0_0)) then
      some (Sum.inl (((List.drop 0 v0_0), v0_1, ()), v2, (v4_0, (List.take (List.length v4_1) (List.drop 0 v4_1)), ()), v11, v12, (IntKind.wrap .i64 (v13 + (1 : Int))), v62, v68, v72, (v73_0, v73_1, v73_2, ()), v151, v152, v153, ()))
     else
      none
  else
   none
 else
  if ((0 + (List.length v0_0)) = (List.length v0_0)) then
   some (Sum.inr (Sum.inr (((List.drop 0 v0_0), v0_1, ()), v2, (v4_0, (List.take (List.length v4_1) (List.drop 0 v4_1)), ()), v62, v68, v72, (v73_0, v73_1, v73_2, ()), v151, v152, v153, ())))
  else
   none
theorem spec_l8Elements_at120_l2_eq : loopStep 61 E90_at120 L90_at120_0 (loopOf f118 2) sh90_at120_2 xs90_at120_2 = spec_l8Elements_at120_l2 := by kernel_rfl
theorem loop90_at120_2 {L} (h : L 2 = some ⟨61, sh90_at120_2, xs90_at120_2, spec_l8Elements_at120_l2⟩) : LoopOk prog L (loopOf f118 2) := lo spec_l8Elements_at120_l2_eq E90_at120_ok allNil h
noncomputable def L90_at120_1 : Nat → Option LoopD := fun n => ifEq n 2 (some ⟨61, sh90_at120_2, xs90_at120_2, spec_l8Elements_at120_l2⟩) (L90_at120_0 n)
def shi90_at120 : List Fm := .box 100000 [.own (.pair (.pair (.int .i64) (.sl (.int .i64))) .str) 100001 true, .val .bool] :: .agg [.val (.int .i64), .own (.int .i64) 100102 false] :: .cell (.val .str) :: D 59 (.cell (.val .bool) :: D 4 (.ali 100000 0 :: .cell (.val (.sl (.pair (.pair (.int .i64) (.sl (.int .i64))) .str))) :: d :: d :: d :: .cell (.val (.int .i64)) :: .box 107300 [.val (.int .i64), .val (.sl (.int .i64)), .val .str] :: D 77 (.cell (.val (.sl (.pair (.pair (.int .i64) (.sl (.int .i64))) .str))) :: .cell (.val (.int .i64)) :: .cell (.val (.int .i64)) :: D 38 [])))
def sho90_at120 : List Fm := d :: .cell (.val .bool) :: D 4 (.box 100600 [.own (.pair (.pair (.int .i64) (.sl (.int .i64))) .str) 100601 true, .val .bool] :: .cell (.val (.sl (.pair (.pair (.int .i64) (.sl (.int .i64))) .str))) :: d :: d :: d :: .cell (.val (.int .i64)) :: .box 101200 [.val (.int .i64), .val (.sl (.int .i64)), .val .str] :: D 77 (.cell (.val (.sl (.pair (.pair (.int .i64) (.sl (.int .i64))) .str))) :: .cell (.val (.int .i64)) :: .cell (.val (.int .i64)) :: D 38 []))
noncomputable def spec_l8Elements_at120 : (((List ((Int × (List Int)) × ByteArray)) × Bool × Unit) × (Int × (List Int) × Unit) × ByteArray × Bool × (List ((Int × (List Int)) × ByteArray)) × Int × (Int × (List Int) × ByteArray × Unit) × (List ((Int × (List Int)) × ByteArray)) × Int × Int × Unit) → Option (Bool × ((List ((Int × (List Int)) × ByteArray)) × Bool × Unit) × (List ((Int × (List Int)) × ByteArray)) × Int × (Int × (List Int) × ByteArray × Unit) × (List ((Int × (List Int)) × ByteArray)) × Int × Int × Unit) := fun ((v0_0, v0_1, _), (v1_0, v1_1, _), v2, v62, v68, v72, (v73_0, v73_1, v73_2, _), v151, v152, v153, _) =>
 if ((0 + (List.length v0_0)) = (List.length v0_0)) then
  Option.bind (loopF spec_l8Elements_at120_l2 (((List.drop 0 v0_0), v0_1, ()), v2, (v1_0, (List.take (List.length v1_1) (List.drop 0 v1_1)), ()), (List.take (List.length v0_0) (List.drop 0 v0_0)), (((List.length v0_0) : Nat) : Int), (0 : Int), v62, v68, v72, (v73_0, v73_1, v73_2, ()), v151, v152, v153, ())) fun r0 =>
   (match r0 with
   | .inl (d1, (d2, d3, _), d4, d5, (d6, d7, d8, _), d9, d10, d11, _) =>
     if ((0 + (List.length d2)) = (List.length d2)) then
      some (d1, ((List.drop 0 d2), d3, ()), d4, d5, (d6, d7, d8, ()), d9, d10, d11, ())
     else
      none
   | .inr ((d12, d13, _), d14, (d15, d16, _), d17, d18, d19, (d20, d21, d22, _), d23, d24, d25, _) =>
     bif d13 then
      if ((0 + (List.length d12)) = (List.length d12)) then
       some (d17, ((List.drop 0 d12), true, ()), d18, d19, (d20, d21, d22, ()), d23, d24, d25, ())
      else
       none
     else
      bif (decide ((((List.length d12) : Nat) : Int) ≥ (120 : Int))) then
       if ((0 + (List.length d12)) = (List.length d12)) then
        some (d17, ((List.drop 0 d12), true, ()), d18, d19, (d20, d21, d22, ()), d23, d24, d25, ())
       else
        none
      else
       bif (!(decide ((((ByteArray.size d14) : Nat) : Int) > (120 : Int)))) then
        if (((0 + (List.length d12)) = (List.length d12)) ∧ ((((List.length d12) + (List.length (List.take 1 (List.drop 0 [((d15, (List.take (List.length d16) (List.drop 0 d16))), d14)])))) * 48) ≤ 140737488355328)) then
         if ((0 + ((List.length d12) + (List.length (List.take 1 (List.drop 0 [((d15, (List.take (List.length d16) (List.drop 0 d16))), d14)]))))) = (List.length ((List.drop 0 d12) ++ (List.take 1 (List.drop 0 [((d15, (List.take (List.length d16) (List.drop 0 d16))), d14)]))))) then
          some (d17, ((List.drop 0 ((List.drop 0 d12) ++ (List.take 1 (List.drop 0 [((d15, (List.take (List.length d16) (List.drop 0 d16))), d14)])))), (decide ((((ByteArray.size d14) : Nat) : Int) > (120 : Int))), ()), d18, d19, (d20, d21, d22, ()), d23, d24, d25, ())
         else
          none
        else
         none
       else
        if ((0 + (List.length d12)) = (List.length d12)) then
         some (d17, ((List.drop 0 d12), (decide ((((ByteArray.size d14) : Nat) : Int) > (120 : Int))), ()), d18, d19, (d20, d21, d22, ()), d23, d24, d25, ())
        else
         none)
 else
  none
theorem spec_l8Elements_at120_eq : inlStep f118.ntmps 131 120 E90_at120 L90_at120_1 f118.results.toList (codeOf f118) shi90_at120 sho90_at120 = spec_l8Elements_at120 := by kernel_rfl
noncomputable def I90_at120 : CallD := ⟨f118.ntmps, shi90_at120, 131, sho90_at120, spec_l8Elements_at120, 0⟩
theorem I90_at120_ok : InlOk prog 120 118 I90_at120 := inlOk_of (tysOk_of tyl_ok) E90_at120_ok (L := L90_at120_1) func118 (by kernel_rfl) (c := codeOf f118) (by kernel_rfl) (codeOk_in (L := L90_at120_1) (tysOk_of tyl_ok) E90_at120_ok mixed (c := codeOf f118) (bs := [loopOf f118 2]) (by kernel_rfl) (allCons (loop90_at120_2 rfl) allNil) (by kernel_rfl)) (by kernel_rfl) (by kernel_rfl) spec_l8Elements_at120_eq
noncomputable def E90 : Env := ⟨ty0, fun g => ifEq g 71 (some A71) (ifEq g 117 (some A117) (ifEq g 133 (some A133) (ifEq g 119 (some A119) (ifEq g 120 (some A120) (ifEq g 121 (some A121) (none)))))), fun _ => none, fun _ => none, fun d => ifI (Nat.beq d 39) (some (118, I90_at39)) (ifI (Nat.beq d 78) (some (118, I90_at78)) (ifI (Nat.beq d 107) (some (118, I90_at107)) (ifI (Nat.beq d 120) (some (118, I90_at120)) (none))))⟩
theorem E90_ok : FnsOk prog E90 := (oneIl (d0 := 39) (g0 := 118) I90_at39_ok (oneIl (d0 := 78) (g0 := 118) I90_at78_ok (oneIl (d0 := 107) (g0 := 118) I90_at107_ok (oneIl (d0 := 120) (g0 := 118) I90_at120_ok (oF A71_ok func71 (oF A117_ok func117 (oF A133_ok func133 (oF A119_ok func119 (oF A120_ok func120 (oF A121_ok func121 (noFns _ _)))))))))))
noncomputable def L90_0 : Nat → Option LoopD := fun _ => none
def sh90_4 : List Fm := d :: .cell (.val .bool) :: .box 100200 [.val (.int .i64), .val (.sl (.int .i64)), .val (.sl (.int .i64)), .val (.sl (.pair (.int .i64) (.pair .str (.pair (.int .i64) (.int .i64)))))] :: d :: d :: d :: .box 100600 [.own (.pair (.pair (.int .i64) (.sl (.int .i64))) .str) 100601 true, .val .bool] :: .cell (.own (.pair (.pair (.int .i64) (.sl (.int .i64))) .str) 100700 false) :: D 12 (.cell (.own .str 102000 false) :: .cell (.val (.int .i64)) :: .cell (.val (.int .i64)) :: D 108 [])
def xs90_4 : List (Ex × List Fm) := [(.exit 0, [d, .cell (.val .bool), d, d, d, d, .box 100600 [.own (.pair (.pair (.int .i64) (.sl (.int .i64))) .str) 100601 true, .val .bool], .cell (.own (.pair (.pair (.int .i64) (.sl (.int .i64))) .str) 100700 false), d, d, d, d, d, d, d, d, d, d, d, d, d, d, d, d, d, d, d, d, d, d, d, d, d, d, d, d, d, d, d, d, d, d, d, d, d, d, d, d, d, d, d, d, d, d, d, d, d, d, d, d, d, d, d, d, d, d, d, d, d, d, d, d, d, d, d, d, d, d, d, d, d, d, d, d, d, d, d, d, d, d, d, d, d, d, d, d, d, d, d, d, d, d, d, d, d, d, d, d, d, d, d, d, d, d, d, d, d, d, d, d, d, d, d, d, d, d, d, d, d, d, d])]
noncomputable def spec_l8Elements_l4 : (Bool × (Int × (List Int) × (List Int) × (List (Int × (ByteArray × (Int × Int)))) × Unit) × ((List ((Int × (List Int)) × ByteArray)) × Bool × Unit) × (List ((Int × (List Int)) × ByteArray)) × (List ByteArray) × Int × Int × Unit) → Option ((Bool × (Int × (List Int) × (List Int) × (List (Int × (ByteArray × (Int × Int)))) × Unit) × ((List ((Int × (List Int)) × ByteArray)) × Bool × Unit) × (List ((Int × (List Int)) × ByteArray)) × (List ByteArray) × Int × Int × Unit) ⊕ ((Bool × ((List ((Int × (List Int)) × ByteArray)) × Bool × Unit) × (List ((Int × (List Int)) × ByteArray)) × Unit))) := fun (v1, (v2_0, v2_1, v2_2, v2_3, _), (v6_0, v6_1, _), v7, v20, v21, v22, _) =>
 bif (decide (v22 < v21)) then
  if (((0 : Int) ≤ v22) ∧ (v22 < (((List.length v20) : Nat) : Int))) then
   Option.bind (spec_l3Matrix (v2_0, v2_1, v2_2, v2_3) (List.getD v20 (0 + (Int.toNat v22)) (⟨Array.empty⟩ : ByteArray))) fun (r0, r1) =>
    Option.bind (spec_l6Grades (r0, (List.take (List.length r1) (List.drop 0 r1)))) fun (r2, r3) =>
     if (((0 + (List.length v7)) = (List.length v7)) ∧ ((((List.length v7) + (List.length (List.take 1 (List.drop 0 [((r2, (List.take (List.length r3) (List.drop 0 r3))), (List.getD v20 (0 + (Int.toNat v22)) (⟨Array.empty⟩ : ByteArray)))])))) * 48) ≤ 140737488355328)) then
      if ((0 + (List.length v6_0)) = (List.length v6_0)) then
       Option.bind (spec_l8Elements_at39 (((List.drop 0 v6_0), v6_1, ()), (r2, (List.take (List.length r3) (List.drop 0 r3))), (List.getD v20 (0 + (Int.toNat v22)) (⟨Array.empty⟩ : ByteArray)), v1, (v2_0, v2_1, v2_2, v2_3, ()), (List.take ((List.length v7) + (List.length (List.take 1 (List.drop 0 [((r2, (List.take (List.length r3) (List.drop 0 r3))), (List.getD v20 (0 + (Int.toNat v22)) (⟨Array.empty⟩ : ByteArray)))])))) (List.drop 0 ((List.drop 0 v7) ++ (List.take 1 (List.drop 0 [((r2, (List.take (List.length r3) (List.drop 0 r3))), (List.getD v20 (0 + (Int.toNat v22)) (⟨Array.empty⟩ : ByteArray)))]))))), (List.take (List.length v20) (List.drop 0 v20)), v21, v22, ())) fun (r4, (r5, r6, r7, r8, _), (r9, r10, _), r11, r12, r13, r14, _) =>
        if ((0 + (List.length r9)) = (List.length r9)) then
         some (Sum.inl (r4, (r5, r6, r7, r8, ()), ((List.drop 0 r9), r10, ()), (List.take (List.length r11) (List.drop 0 r11)), (List.take (List.length r12) (List.drop 0 r12)), r13, (IntKind.wrap .i64 (r14 + (1 : Int))), ()))
        else
         none
      else
       none
     else
      none
  else
   none
 else
  if ((0 + (List.length v6_0)) = (List.length v6_0)) then
   some (Sum.inr (v1, ((List.drop 0 v6_0), v6_1, ()), (List.take (List.length v7) (List.drop 0 v7)), ()))
  else
   none
theorem spec_l8Elements_l4_eq : loopStep 131 E90 L90_0 (loopOf f90 4) sh90_4 xs90_4 = spec_l8Elements_l4 := by kernel_rfl
theorem loop90_4 {L} (h : L 4 = some ⟨131, sh90_4, xs90_4, spec_l8Elements_l4⟩) : LoopOk prog L (loopOf f90 4) := lo spec_l8Elements_l4_eq E90_ok allNil h
noncomputable def L90_1 : Nat → Option LoopD := fun n => ifEq n 4 (some ⟨131, sh90_4, xs90_4, spec_l8Elements_l4⟩) (L90_0 n)
def sh90_20 : List Fm := d :: .cell (.val .bool) :: D 4 (.box 100600 [.own (.pair (.pair (.int .i64) (.sl (.int .i64))) .str) 100601 true, .val .bool] :: .cell (.val (.sl (.pair (.pair (.int .i64) (.sl (.int .i64))) .str))) :: d :: d :: d :: .cell (.val (.int .i64)) :: .box 101200 [.val (.int .i64), .val (.sl (.int .i64)), .val .str] :: D 77 (.cell (.val (.sl (.pair (.pair (.int .i64) (.sl (.int .i64))) .str))) :: .cell (.val (.int .i64)) :: .cell (.val (.int .i64)) :: D 38 []))
def xs90_20 : List (Ex × List Fm) := [(.exit 4, [d, .cell (.val .bool), d, d, d, d, .box 100600 [.own (.pair (.pair (.int .i64) (.sl (.int .i64))) .str) 100601 true, .val .bool], .cell (.val (.sl (.pair (.pair (.int .i64) (.sl (.int .i64))) .str))), d, d, d, .cell (.val (.int .i64)), d, d, d, d, d, d, d, d, d, d, d, d, d, d, d, d, d, d, d, d, d, d, d, d, d, d, d, d, d, d, d, d, d, d, d, d, d, d, d, d, d, d, d, d, d, d, d, d, d, d, d, d, d, d, d, d, d, d, d, d, d, d, d, d, d, d, d, d, d, d, d, d, d, d, d, d, d, d, d, d, d, d, d, d, d, d, d, d, d, d, d, d, d, d, d, d, d, d, d, d, d, d, d, d, d, d, d, d, d, d, d, d, d, d, d, d, d, d, d])]
noncomputable def spec_l8Elements_l20 : (Bool × ((List ((Int × (List Int)) × ByteArray)) × Bool × Unit) × (List ((Int × (List Int)) × ByteArray)) × Int × (Int × (List Int) × ByteArray × Unit) × (List ((Int × (List Int)) × ByteArray)) × Int × Int × Unit) → Option ((Bool × ((List ((Int × (List Int)) × ByteArray)) × Bool × Unit) × (List ((Int × (List Int)) × ByteArray)) × Int × (Int × (List Int) × ByteArray × Unit) × (List ((Int × (List Int)) × ByteArray)) × Int × Int × Unit) ⊕ ((Bool × ((List ((Int × (List Int)) × ByteArray)) × Bool × Unit) × (List ((Int × (List Int)) × ByteArray)) × Int × Unit))) := fun (v1, (v6_0, v6_1, _), v7, v11, (v12_0, v12_1, v12_2, _), v90, v91, v92, _) =>
 bif (decide (v92 < v91)) then
  if (((0 : Int) ≤ v92) ∧ (v92 < (((List.length v90) : Nat) : Int))) then
   Option.bind (spec_l6Mul (v12_0, v12_1) ((List.getD v90 (Int.toNat v92) (((0 : Int), []), (⟨Array.empty⟩ : ByteArray))).1.1, (List.getD v90 (Int.toNat v92) (((0 : Int), []), (⟨Array.empty⟩ : ByteArray))).1.2)) fun (r0, r1) =>
    if (((ByteArray.size v12_2) + (ByteArray.size (List.getD v90 (Int.toNat v92) (((0 : Int), []), (⟨Array.empty⟩ : ByteArray))).2)) ≤ 9223372036854775807) then
     if ((0 + (List.length v6_0)) = (List.length v6_0)) then
      Option.bind (spec_l8Elements_at107 (((List.drop 0 v6_0), v6_1, ()), (r0, (List.take (List.length r1) (List.drop 0 r1)), ()), (v12_2 ++ (List.getD v90 (Int.toNat v92) (((0 : Int), []), (⟨Array.empty⟩ : ByteArray))).2), v1, v7, v11, (v12_0, v12_1, v12_2, ()), ((List.getD v90 (Int.toNat v92) (((0 : Int), []), (⟨Array.empty⟩ : ByteArray))).1.1, (List.getD v90 (Int.toNat v92) (((0 : Int), []), (⟨Array.empty⟩ : ByteArray))).1.2, (List.getD v90 (Int.toNat v92) (((0 : Int), []), (⟨Array.empty⟩ : ByteArray))).2, ()), v90, v91, v92, ())) fun (r2, (r3, r4, _), r5, r6, (r7, r8, r9, _), (r10, r11, r12, _), r13, r14, r15, _) =>
       bif r2 then
        Option.bind (spec_l6Mul (r10, r11) (r7, r8)) fun (r16, r17) =>
         if (((ByteArray.size r12) + (ByteArray.size r9)) ≤ 9223372036854775807) then
          if ((0 + (List.length r3)) = (List.length r3)) then
           Option.bind (spec_l8Elements_at120 (((List.drop 0 r3), r4, ()), (r16, (List.take (List.length r17) (List.drop 0 r17)), ()), (r12 ++ r9), r2, r5, r6, (r7, r8, r9, ()), r13, r14, r15, ())) fun (r18, (r19, r20, _), r21, r22, (r23, r24, r25, _), r26, r27, r28, _) =>
            if ((0 + (List.length r19)) = (List.length r19)) then
             some (Sum.inl (r18, ((List.drop 0 r19), r20, ()), r21, r22, (r23, r24, r25, ()), r26, r27, (IntKind.wrap .i64 (r28 + (1 : Int))), ()))
            else
             none
          else
           none
         else
          none
       else
        if ((0 + (List.length r3)) = (List.length r3)) then
         some (Sum.inl (r2, ((List.drop 0 r3), r4, ()), r5, r6, (r7, r8, r9, ()), r13, r14, (IntKind.wrap .i64 (r15 + (1 : Int))), ()))
        else
         none
     else
      none
    else
     none
  else
   none
 else
  if ((0 + (List.length v6_0)) = (List.length v6_0)) then
   some (Sum.inr (v1, ((List.drop 0 v6_0), v6_1, ()), v7, v11, ()))
  else
   none
theorem spec_l8Elements_l20_eq : loopStep 131 E90 L90_1 (loopOf f90 20) sh90_20 xs90_20 = spec_l8Elements_l20 := by kernel_rfl
theorem loop90_20 {L} (h : L 20 = some ⟨131, sh90_20, xs90_20, spec_l8Elements_l20⟩) : LoopOk prog L (loopOf f90 20) := lo spec_l8Elements_l20_eq E90_ok allNil h
noncomputable def L90_2 : Nat → Option LoopD := fun n => ifEq n 20 (some ⟨131, sh90_20, xs90_20, spec_l8Elements_l20⟩) (L90_1 n)
def sh90_11 : List Fm := d :: .cell (.val .bool) :: D 4 (.box 100600 [.own (.pair (.pair (.int .i64) (.sl (.int .i64))) .str) 100601 true, .val .bool] :: .cell (.val (.sl (.pair (.pair (.int .i64) (.sl (.int .i64))) .str))) :: d :: d :: d :: .cell (.val (.int .i64)) :: D 119 [])
def xs90_11 : List (Ex × List Fm) := [(.exit 2, [d, d, d, d, d, d, .box 100600 [.val (.sl (.pair (.pair (.int .i64) (.sl (.int .i64))) .str)), .val .bool], d, d, d, d, d, d, d, d, d, d, d, d, d, d, d, d, d, d, d, d, d, d, d, d, d, d, d, d, d, d, d, d, d, d, d, d, d, d, d, d, d, d, d, d, d, d, d, d, d, d, d, d, d, d, d, d, d, d, d, d, d, d, d, d, d, d, d, d, d, d, d, d, d, d, d, d, d, d, d, d, d, d, d, d, d, d, d, d, d, d, d, d, d, d, d, d, d, d, d, d, d, d, d, d, d, d, d, d, d, d, d, d, d, d, d, d, d, d, d, d, d, d, d, d])]
noncomputable def spec_l8Elements_l11 : (Bool × ((List ((Int × (List Int)) × ByteArray)) × Bool × Unit) × (List ((Int × (List Int)) × ByteArray)) × Int × Unit) → Option ((Bool × ((List ((Int × (List Int)) × ByteArray)) × Bool × Unit) × (List ((Int × (List Int)) × ByteArray)) × Int × Unit) ⊕ ((((List ((Int × (List Int)) × ByteArray)) × Bool × Unit) × Unit))) := fun (v1, (v6_0, v6_1, _), v7, v11, _) =>
 bif (decide (v11 < (((List.length v6_0) : Nat) : Int))) then
  bif (!v6_1) then
   if (((0 : Int) ≤ v11) ∧ (v11 < (((List.length v6_0) : Nat) : Int))) then
    bif v1 then
     Option.bind (spec_l6Idempotent ((List.getD v6_0 (0 + (Int.toNat v11)) (((0 : Int), []), (⟨Array.empty⟩ : ByteArray))).1.1, (List.getD v6_0 (0 + (Int.toNat v11)) (((0 : Int), []), (⟨Array.empty⟩ : ByteArray))).1.2)) fun r0 =>
      bif r0 then
       Option.bind (spec_l6Stable ((List.getD v6_0 (0 + (Int.toNat v11)) (((0 : Int), []), (⟨Array.empty⟩ : ByteArray))).1.1, (List.getD v6_0 (0 + (Int.toNat v11)) (((0 : Int), []), (⟨Array.empty⟩ : ByteArray))).1.2)) fun (r1, r2) =>
        if (((ByteArray.size (⟨#[(40 : UInt8)]⟩ : ByteArray)) + (ByteArray.size (List.getD v6_0 (0 + (Int.toNat v11)) (((0 : Int), []), (⟨Array.empty⟩ : ByteArray))).2)) ≤ 9223372036854775807) then
         if (((ByteArray.size ((⟨#[(40 : UInt8)]⟩ : ByteArray) ++ (List.getD v6_0 (0 + (Int.toNat v11)) (((0 : Int), []), (⟨Array.empty⟩ : ByteArray))).2)) + (ByteArray.size (⟨#[(41 : UInt8), (35 : UInt8)]⟩ : ByteArray))) ≤ 9223372036854775807) then
          if ((0 + (List.length v6_0)) = (List.length v6_0)) then
           Option.bind (spec_l8Elements_at78 (((List.drop 0 v6_0), v6_1, ()), (r1, (List.take (List.length r2) (List.drop 0 r2)), ()), (((⟨#[(40 : UInt8)]⟩ : ByteArray) ++ (List.getD v6_0 (0 + (Int.toNat v11)) (((0 : Int), []), (⟨Array.empty⟩ : ByteArray))).2) ++ (⟨#[(41 : UInt8), (35 : UInt8)]⟩ : ByteArray)), v1, v7, v11, ((List.getD v6_0 (0 + (Int.toNat v11)) (((0 : Int), []), (⟨Array.empty⟩ : ByteArray))).1.1, (List.getD v6_0 (0 + (Int.toNat v11)) (((0 : Int), []), (⟨Array.empty⟩ : ByteArray))).1.2, (List.getD v6_0 (0 + (Int.toNat v11)) (((0 : Int), []), (⟨Array.empty⟩ : ByteArray))).2, ()), ())) fun (r3, (r4, r5, _), r6, r7, (r8, r9, r10, _), _) =>
            bif r3 then
             if (((0 : Int) ≤ (IntKind.wrap .i64 (r7 + (1 : Int)))) ∧ ((IntKind.wrap .i64 (r7 + (1 : Int))) ≤ (((List.length r4) : Nat) : Int))) then
              if (((0 + 0) = (List.length ([] : List Unit))) ∧ (((0 + (List.length (List.take ((Int.toNat (IntKind.wrap .i64 (r7 + (1 : Int)))) - 0) (List.drop (0 + 0) r4)))) * 48) ≤ 140737488355328)) then
               if ((0 + (List.length r4)) = (List.length r4)) then
                Option.bind (loopF spec_l8Elements_l20 (r3, ((List.drop 0 r4), r5, ()), r6, r7, (r8, r9, r10, ()), (List.take (0 + (List.length (List.take ((Int.toNat (IntKind.wrap .i64 (r7 + (1 : Int)))) - 0) (List.drop (0 + 0) r4)))) (List.drop 0 ((List.drop 0 []) ++ (List.take ((Int.toNat (IntKind.wrap .i64 (r7 + (1 : Int)))) - 0) (List.drop (0 + 0) r4))))), (((0 + (List.length (List.take ((Int.toNat (IntKind.wrap .i64 (r7 + (1 : Int)))) - 0) (List.drop (0 + 0) r4)))) : Nat) : Int), (0 : Int), ())) fun (r11, (r12, r13, _), r14, r15, _) =>
                 if ((0 + (List.length r12)) = (List.length r12)) then
                  some (Sum.inl (r11, ((List.drop 0 r12), r13, ()), r14, (IntKind.wrap .i64 (r15 + (1 : Int))), ()))
                 else
                  none
               else
                none
              else
               none
             else
              none
            else
             if ((0 + (List.length r4)) = (List.length r4)) then
              Option.bind (loopF spec_l8Elements_l20 (r3, ((List.drop 0 r4), r5, ()), r6, r7, (r8, r9, r10, ()), r6, (((List.length r6) : Nat) : Int), (0 : Int), ())) fun (r16, (r17, r18, _), r19, r20, _) =>
               if ((0 + (List.length r17)) = (List.length r17)) then
                some (Sum.inl (r16, ((List.drop 0 r17), r18, ()), r19, (IntKind.wrap .i64 (r20 + (1 : Int))), ()))
               else
                none
             else
              none
          else
           none
         else
          none
        else
         none
      else
       bif v1 then
        if (((0 : Int) ≤ (IntKind.wrap .i64 (v11 + (1 : Int)))) ∧ ((IntKind.wrap .i64 (v11 + (1 : Int))) ≤ (((List.length v6_0) : Nat) : Int))) then
         if (((0 + 0) = (List.length ([] : List Unit))) ∧ (((0 + (List.length (List.take ((Int.toNat (IntKind.wrap .i64 (v11 + (1 : Int)))) - 0) (List.drop (0 + 0) v6_0)))) * 48) ≤ 140737488355328)) then
          if ((0 + (List.length v6_0)) = (List.length v6_0)) then
           Option.bind (loopF spec_l8Elements_l20 (v1, ((List.drop 0 v6_0), v6_1, ()), v7, v11, ((List.getD v6_0 (0 + (Int.toNat v11)) (((0 : Int), []), (⟨Array.empty⟩ : ByteArray))).1.1, (List.getD v6_0 (0 + (Int.toNat v11)) (((0 : Int), []), (⟨Array.empty⟩ : ByteArray))).1.2, (List.getD v6_0 (0 + (Int.toNat v11)) (((0 : Int), []), (⟨Array.empty⟩ : ByteArray))).2, ()), (List.take (0 + (List.length (List.take ((Int.toNat (IntKind.wrap .i64 (v11 + (1 : Int)))) - 0) (List.drop (0 + 0) v6_0)))) (List.drop 0 ((List.drop 0 []) ++ (List.take ((Int.toNat (IntKind.wrap .i64 (v11 + (1 : Int)))) - 0) (List.drop (0 + 0) v6_0))))), (((0 + (List.length (List.take ((Int.toNat (IntKind.wrap .i64 (v11 + (1 : Int)))) - 0) (List.drop (0 + 0) v6_0)))) : Nat) : Int), (0 : Int), ())) fun (r21, (r22, r23, _), r24, r25, _) =>
            if ((0 + (List.length r22)) = (List.length r22)) then
             some (Sum.inl (r21, ((List.drop 0 r22), r23, ()), r24, (IntKind.wrap .i64 (r25 + (1 : Int))), ()))
            else
             none
          else
           none
         else
          none
        else
         none
       else
        if ((0 + (List.length v6_0)) = (List.length v6_0)) then
         Option.bind (loopF spec_l8Elements_l20 (v1, ((List.drop 0 v6_0), v6_1, ()), v7, v11, ((List.getD v6_0 (0 + (Int.toNat v11)) (((0 : Int), []), (⟨Array.empty⟩ : ByteArray))).1.1, (List.getD v6_0 (0 + (Int.toNat v11)) (((0 : Int), []), (⟨Array.empty⟩ : ByteArray))).1.2, (List.getD v6_0 (0 + (Int.toNat v11)) (((0 : Int), []), (⟨Array.empty⟩ : ByteArray))).2, ()), v7, (((List.length v7) : Nat) : Int), (0 : Int), ())) fun (r26, (r27, r28, _), r29, r30, _) =>
          if ((0 + (List.length r27)) = (List.length r27)) then
           some (Sum.inl (r26, ((List.drop 0 r27), r28, ()), r29, (IntKind.wrap .i64 (r30 + (1 : Int))), ()))
          else
           none
        else
         none
    else
     bif v1 then
      if (((0 : Int) ≤ (IntKind.wrap .i64 (v11 + (1 : Int)))) ∧ ((IntKind.wrap .i64 (v11 + (1 : Int))) ≤ (((List.length v6_0) : Nat) : Int))) then
       if (((0 + 0) = (List.length ([] : List Unit))) ∧ (((0 + (List.length (List.take ((Int.toNat (IntKind.wrap .i64 (v11 + (1 : Int)))) - 0) (List.drop (0 + 0) v6_0)))) * 48) ≤ 140737488355328)) then
        if ((0 + (List.length v6_0)) = (List.length v6_0)) then
         Option.bind (loopF spec_l8Elements_l20 (v1, ((List.drop 0 v6_0), v6_1, ()), v7, v11, ((List.getD v6_0 (0 + (Int.toNat v11)) (((0 : Int), []), (⟨Array.empty⟩ : ByteArray))).1.1, (List.getD v6_0 (0 + (Int.toNat v11)) (((0 : Int), []), (⟨Array.empty⟩ : ByteArray))).1.2, (List.getD v6_0 (0 + (Int.toNat v11)) (((0 : Int), []), (⟨Array.empty⟩ : ByteArray))).2, ()), (List.take (0 + (List.length (List.take ((Int.toNat (IntKind.wrap .i64 (v11 + (1 : Int)))) - 0) (List.drop (0 + 0) v6_0)))) (List.drop 0 ((List.drop 0 []) ++ (List.take ((Int.toNat (IntKind.wrap .i64 (v11 + (1 : Int)))) - 0) (List.drop (0 + 0) v6_0))))), (((0 + (List.length (List.take ((Int.toNat (IntKind.wrap .i64 (v11 + (1 : Int)))) - 0) (List.drop (0 + 0) v6_0)))) : Nat) : Int), (0 : Int), ())) fun (r31, (r32, r33, _), r34, r35, _) =>
          if ((0 + (List.length r32)) = (List.length r32)) then
           some (Sum.inl (r31, ((List.drop 0 r32), r33, ()), r34, (IntKind.wrap .i64 (r35 + (1 : Int))), ()))
          else
           none
        else
         none
       else
        none
      else
       none
     else
      if ((0 + (List.length v6_0)) = (List.length v6_0)) then
       Option.bind (loopF spec_l8Elements_l20 (v1, ((List.drop 0 v6_0), v6_1, ()), v7, v11, ((List.getD v6_0 (0 + (Int.toNat v11)) (((0 : Int), []), (⟨Array.empty⟩ : ByteArray))).1.1, (List.getD v6_0 (0 + (Int.toNat v11)) (((0 : Int), []), (⟨Array.empty⟩ : ByteArray))).1.2, (List.getD v6_0 (0 + (Int.toNat v11)) (((0 : Int), []), (⟨Array.empty⟩ : ByteArray))).2, ()), v7, (((List.length v7) : Nat) : Int), (0 : Int), ())) fun (r36, (r37, r38, _), r39, r40, _) =>
        if ((0 + (List.length r37)) = (List.length r37)) then
         some (Sum.inl (r36, ((List.drop 0 r37), r38, ()), r39, (IntKind.wrap .i64 (r40 + (1 : Int))), ()))
        else
         none
      else
       none
   else
    none
  else
   some (Sum.inr (((List.take (List.length v6_0) (List.drop 0 v6_0)), v6_1, ()), ()))
 else
  some (Sum.inr (((List.take (List.length v6_0) (List.drop 0 v6_0)), v6_1, ()), ()))
theorem spec_l8Elements_l11_eq : loopStep 131 E90 L90_2 (loopOf f90 11) sh90_11 xs90_11 = spec_l8Elements_l11 := by kernel_rfl
theorem loop90_11 {L} (h : L 11 = some ⟨131, sh90_11, xs90_11, spec_l8Elements_l11⟩) : LoopOk prog L (loopOf f90 11) := lo spec_l8Elements_l11_eq E90_ok (allCons (loop90_20 rfl) allNil) h
noncomputable def L90_3 : Nat → Option LoopD := fun n => ifEq n 11 (some ⟨131, sh90_11, xs90_11, spec_l8Elements_l11⟩) (L90_2 n)
noncomputable def spec_l8Elements : (Int × ((List Int) × ((List Int) × (List (Int × (ByteArray × (Int × Int))))))) → Bool → Option ((List ((Int × (List Int)) × ByteArray)) × Bool) := fun (a0_0, a0_1, a0_2, a0_3) a1 =>
 if ((0 + 0) = (List.length ([] : List Unit))) then
  Option.bind (loopF spec_l8Elements_l4 (a1, (a0_0, a0_1, a0_2, a0_3, ()), ((List.drop 0 []), false, ()), (List.take 0 (List.drop 0 [])), (List.take 2 (List.drop 0 [(⟨#[(97 : UInt8)]⟩ : ByteArray), (⟨#[(98 : UInt8)]⟩ : ByteArray)])), ((2 : Nat) : Int), (0 : Int), ())) fun (r0, (r1, r2, _), r3, _) =>
   if ((0 + (List.length r1)) = (List.length r1)) then
    Option.bind (loopF spec_l8Elements_l11 (r0, ((List.drop 0 r1), r2, ()), (List.take (List.length r3) (List.drop 0 r3)), (0 : Int), ())) fun ((r4, r5, _), _) =>
     some (r4, (!r5))
   else
    none
 else
  none
noncomputable def A90 : FnA := ⟨[.v (.pair (.int .i64) (.pair (.sl (.int .i64)) (.pair (.sl (.int .i64)) (.sl (.pair (.int .i64) (.pair .str (.pair (.int .i64) (.int .i64)))))))), .v .bool], false, [.sl (.pair (.pair (.int .i64) (.sl (.int .i64))) .str), .bool], fun x => spec_l8Elements x.1 x.2.1⟩
theorem spec_l8Elements_eq : fnF E90 L90_3 [.v (.pair (.int .i64) (.pair (.sl (.int .i64)) (.pair (.sl (.int .i64)) (.sl (.pair (.int .i64) (.pair .str (.pair (.int .i64) (.int .i64)))))))), .v .bool] false [.sl (.pair (.pair (.int .i64) (.sl (.int .i64))) .str), .bool] f90.ntmps f90.results.toList (codeOf f90) = fun x => spec_l8Elements x.1 x.2.1 := by kernel_rfl
theorem A90_ok : FnOk prog 90 A90 := fo spec_l8Elements_eq func90 E90_ok (allCons (loop90_4 rfl) (allCons (loop90_11 rfl) allNil))
/-! spec.l8RawElementsOf -/
noncomputable def E60 : Env := ⟨ty0, fun g => ifEq g 89 (some A89) (ifEq g 90 (some A90) (none)), fun _ => none, fun _ => none, fun _ => none⟩
theorem E60_ok : FnsOk prog E60 := (oF A89_ok func89 (oF A90_ok func90 (noFns _ _)))
noncomputable def L60_0 : Nat → Option LoopD := fun _ => none
noncomputable def spec_l8RawElementsOf : (Int × ((List Int) × ((List Int) × (List (Int × (ByteArray × (Int × Int))))))) → Option ((List ((Int × (List Int)) × ByteArray)) × Bool) := fun (a0_0, a0_1, a0_2, a0_3) =>
 Option.bind (spec_AutomatonValid (a0_0, a0_1, a0_2, a0_3)) fun r0 =>
  bif (!r0) then
   some ((List.take 0 (List.drop 0 [])), false)
  else
   Option.bind (spec_l8Elements (a0_0, a0_1, a0_2, a0_3) true) fun (r1, r2) =>
    bif (!r2) then
     some ((List.take 0 (List.drop 0 [])), false)
    else
     some (r1, true)
noncomputable def A60 : FnA := ⟨[.v (.pair (.int .i64) (.pair (.sl (.int .i64)) (.pair (.sl (.int .i64)) (.sl (.pair (.int .i64) (.pair .str (.pair (.int .i64) (.int .i64))))))))], false, [.sl (.pair (.pair (.int .i64) (.sl (.int .i64))) .str), .bool], fun x => spec_l8RawElementsOf x.1⟩
theorem spec_l8RawElementsOf_eq : fnF E60 L60_0 [.v (.pair (.int .i64) (.pair (.sl (.int .i64)) (.pair (.sl (.int .i64)) (.sl (.pair (.int .i64) (.pair .str (.pair (.int .i64) (.int .i64))))))))] false [.sl (.pair (.pair (.int .i64) (.sl (.int .i64))) .str), .bool] f60.ntmps f60.results.toList (codeOf f60) = fun x => spec_l8RawElementsOf x.1 := by kernel_rfl
theorem A60_ok : FnOk prog 60 A60 := fo spec_l8RawElementsOf_eq func60 E60_ok allNil
/-! spec.l13OwnMatrix -/
noncomputable def E122 : Env := ⟨ty0, fun _ => none, fun _ => none, fun _ => none, fun _ => none⟩
theorem E122_ok : FnsOk prog E122 := (noFns _ _)
noncomputable def L122_0 : Nat → Option LoopD := fun _ => none
noncomputable def spec_l13OwnMatrix : (Int × (List Int)) → Option ((Int × (List Int))) := fun (a0_0, a0_1) =>
 if (((0 + 0) = (List.length ([] : List Unit))) ∧ (((0 + (List.length a0_1)) * 8) ≤ 140737488355328)) then
  some (a0_0, (List.take (0 + (List.length a0_1)) (List.drop 0 ((List.drop 0 []) ++ a0_1))))
 else
  none
noncomputable def A122 : FnA := ⟨[.v (.pair (.int .i64) (.sl (.int .i64)))], true, [.pair (.int .i64) (.sl (.int .i64))], fun x => spec_l13OwnMatrix x.1⟩
theorem spec_l13OwnMatrix_eq : fnF E122 L122_0 [.v (.pair (.int .i64) (.sl (.int .i64)))] true [.pair (.int .i64) (.sl (.int .i64))] f122.ntmps f122.results.toList (codeOf f122) = fun x => spec_l13OwnMatrix x.1 := by kernel_rfl
theorem A122_ok : FnOk prog 122 A122 := fo spec_l13OwnMatrix_eq func122 E122_ok allNil
/-! spec.l13OwnElement -/
noncomputable def E91 : Env := ⟨ty0, fun g => ifEq g 122 (some A122) (none), fun _ => none, fun _ => none, fun _ => none⟩
theorem E91_ok : FnsOk prog E91 := (oF A122_ok func122 (noFns _ _))
noncomputable def L91_0 : Nat → Option LoopD := fun _ => none
noncomputable def spec_l13OwnElement : ((Int × (List Int)) × ByteArray) → Option (((Int × (List Int)) × ByteArray)) := fun ((a0_0, a0_1), a0_2) =>
 Option.bind (spec_l13OwnMatrix (a0_0, a0_1)) fun (r0, r1) =>
  some ((r0, (List.take (List.length r1) (List.drop 0 r1))), a0_2)
noncomputable def A91 : FnA := ⟨[.v (.pair (.pair (.int .i64) (.sl (.int .i64))) .str)], true, [.pair (.pair (.int .i64) (.sl (.int .i64))) .str], fun x => spec_l13OwnElement x.1⟩
theorem spec_l13OwnElement_eq : fnF E91 L91_0 [.v (.pair (.pair (.int .i64) (.sl (.int .i64))) .str)] true [.pair (.pair (.int .i64) (.sl (.int .i64))) .str] f91.ntmps f91.results.toList (codeOf f91) = fun x => spec_l13OwnElement x.1 := by kernel_rfl
theorem A91_ok : FnOk prog 91 A91 := fo spec_l13OwnElement_eq func91 E91_ok allNil
/-! spec.l13OwnListElement -/
noncomputable def E61 : Env := ⟨ty0, fun g => ifEq g 91 (some A91) (none), fun _ => none, fun _ => none, fun _ => none⟩
theorem E61_ok : FnsOk prog E61 := (oF A91_ok func91 (noFns _ _))
noncomputable def L61_0 : Nat → Option LoopD := fun _ => none
def sh61_3 : List Fm := d :: d :: d :: .cell (.own (.pair (.pair (.int .i64) (.sl (.int .i64))) .str) 100300 false) :: d :: d :: d :: .cell (.val (.sl (.pair (.pair (.int .i64) (.sl (.int .i64))) .str))) :: .cell (.val (.int .i64)) :: .cell (.val (.int .i64)) :: D 10 []
def xs61_3 : List (Ex × List Fm) := [(.exit 0, (d :: d :: d :: .cell (.own (.pair (.pair (.int .i64) (.sl (.int .i64))) .str) 100300 false) :: D 16 []))]
noncomputable def spec_l13OwnListElement_l3 : ((List ((Int × (List Int)) × ByteArray)) × (List ((Int × (List Int)) × ByteArray)) × Int × Int × Unit) → Option (((List ((Int × (List Int)) × ByteArray)) × (List ((Int × (List Int)) × ByteArray)) × Int × Int × Unit) ⊕ (((List ((Int × (List Int)) × ByteArray)) × Unit))) := fun (v3, v7, v8, v9, _) =>
 bif (decide (v9 < v8)) then
  if (((0 : Int) ≤ v9) ∧ (v9 < (((List.length v7) : Nat) : Int))) then
   Option.bind (spec_l13OwnElement (((List.getD v7 (Int.toNat v9) (((0 : Int), []), (⟨Array.empty⟩ : ByteArray))).1.1, (List.getD v7 (Int.toNat v9) (((0 : Int), []), (⟨Array.empty⟩ : ByteArray))).1.2), (List.getD v7 (Int.toNat v9) (((0 : Int), []), (⟨Array.empty⟩ : ByteArray))).2)) fun ((r0, r1), r2) =>
    if (((0 + (List.length v3)) = (List.length v3)) ∧ ((((List.length v3) + (List.length (List.take 1 (List.drop 0 [((r0, (List.take (List.length r1) (List.drop 0 r1))), r2)])))) * 48) ≤ 140737488355328)) then
     some (Sum.inl ((List.take ((List.length v3) + (List.length (List.take 1 (List.drop 0 [((r0, (List.take (List.length r1) (List.drop 0 r1))), r2)])))) (List.drop 0 ((List.drop 0 v3) ++ (List.take 1 (List.drop 0 [((r0, (List.take (List.length r1) (List.drop 0 r1))), r2)]))))), v7, v8, (IntKind.wrap .i64 (v9 + (1 : Int))), ()))
    else
     none
  else
   none
 else
  some (Sum.inr ((List.take (List.length v3) (List.drop 0 v3)), ()))
theorem spec_l13OwnListElement_l3_eq : loopStep 20 E61 L61_0 (loopOf f61 3) sh61_3 xs61_3 = spec_l13OwnListElement_l3 := by kernel_rfl
theorem loop61_3 {L} (h : L 3 = some ⟨20, sh61_3, xs61_3, spec_l13OwnListElement_l3⟩) : LoopOk prog L (loopOf f61 3) := lo spec_l13OwnListElement_l3_eq E61_ok allNil h
noncomputable def L61_1 : Nat → Option LoopD := fun n => ifEq n 3 (some ⟨20, sh61_3, xs61_3, spec_l13OwnListElement_l3⟩) (L61_0 n)
noncomputable def spec_l13OwnListElement : (List ((Int × (List Int)) × ByteArray)) → Option ((List ((Int × (List Int)) × ByteArray))) := fun a0 =>
 Option.bind (loopF spec_l13OwnListElement_l3 ((List.take 0 (List.drop 0 [])), a0, (((List.length a0) : Nat) : Int), (0 : Int), ())) fun (r0, _) =>
  some (List.take (List.length r0) (List.drop 0 r0))
noncomputable def A61 : FnA := ⟨[.v (.sl (.pair (.pair (.int .i64) (.sl (.int .i64))) .str))], true, [.sl (.pair (.pair (.int .i64) (.sl (.int .i64))) .str)], fun x => spec_l13OwnListElement x.1⟩
theorem spec_l13OwnListElement_eq : fnF E61 L61_1 [.v (.sl (.pair (.pair (.int .i64) (.sl (.int .i64))) .str))] true [.sl (.pair (.pair (.int .i64) (.sl (.int .i64))) .str)] f61.ntmps f61.results.toList (codeOf f61) = fun x => spec_l13OwnListElement x.1 := by kernel_rfl
theorem A61_ok : FnOk prog 61 A61 := fo spec_l13OwnListElement_eq func61 E61_ok (allCons (loop61_3 rfl) allNil)
/-! spec.ElementsOf -/
noncomputable def E39 : Env := ⟨ty0, fun g => ifEq g 60 (some A60) (ifEq g 61 (some A61) (none)), fun _ => none, fun _ => none, fun _ => none⟩
theorem E39_ok : FnsOk prog E39 := (oF A60_ok func60 (oF A61_ok func61 (noFns _ _)))
noncomputable def L39_0 : Nat → Option LoopD := fun _ => none
noncomputable def spec_ElementsOf : (Int × ((List Int) × ((List Int) × (List (Int × (ByteArray × (Int × Int))))))) → Option ((List ((Int × (List Int)) × ByteArray)) × Bool) := fun (a0_0, a0_1, a0_2, a0_3) =>
 Option.bind (spec_l8RawElementsOf (a0_0, a0_1, a0_2, a0_3)) fun (r0, r1) =>
  Option.bind (spec_l13OwnListElement r0) fun r2 =>
   some ((List.take (List.length r2) (List.drop 0 r2)), r1)
noncomputable def A39 : FnA := ⟨[.v (.pair (.int .i64) (.pair (.sl (.int .i64)) (.pair (.sl (.int .i64)) (.sl (.pair (.int .i64) (.pair .str (.pair (.int .i64) (.int .i64))))))))], true, [.sl (.pair (.pair (.int .i64) (.sl (.int .i64))) .str), .bool], fun x => spec_ElementsOf x.1⟩
theorem spec_ElementsOf_eq : fnF E39 L39_0 [.v (.pair (.int .i64) (.pair (.sl (.int .i64)) (.pair (.sl (.int .i64)) (.sl (.pair (.int .i64) (.pair .str (.pair (.int .i64) (.int .i64))))))))] true [.sl (.pair (.pair (.int .i64) (.sl (.int .i64))) .str), .bool] f39.ntmps f39.results.toList (codeOf f39) = fun x => spec_ElementsOf x.1 := by kernel_rfl
theorem A39_ok : FnOk prog 39 A39 := fo spec_ElementsOf_eq func39 E39_ok allNil
/-! spec.l6Between -/
noncomputable def E40 : Env := ⟨ty0, fun _ => none, fun _ => none, fun _ => none, fun _ => none⟩
theorem E40_ok : FnsOk prog E40 := (noFns _ _)
noncomputable def L40_0 : Nat → Option LoopD := fun _ => none
def sh40_6 : List Fm := d :: d :: .box 100200 [.val (.int .i64), .val (.sl (.int .i64)), .val (.sl (.int .i64)), .val (.sl (.pair (.int .i64) (.pair .str (.pair (.int .i64) (.int .i64)))))] :: .box 100300 [.val (.int .i64), .val (.sl (.int .i64))] :: d :: .cell (.val (.int .i64)) :: d :: .cell (.val (.int .i64)) :: d :: d :: d :: .cell (.val (.sl (.int .i64))) :: .cell (.val (.int .i64)) :: .cell (.val (.int .i64)) :: D 4 (.cell (.val (.sl (.int .i64))) :: .cell (.val (.int .i64)) :: .cell (.val (.int .i64)) :: D 18 [])
def xs40_6 : List (Ex × List Fm) := [(.exit 2, [d, d, .box 100200 [.val (.int .i64), .val (.sl (.int .i64)), .val (.sl (.int .i64)), .val (.sl (.pair (.int .i64) (.pair .str (.pair (.int .i64) (.int .i64)))))], .box 100300 [.val (.int .i64), .val (.sl (.int .i64))], d, .cell (.val (.int .i64)), d, d, d, d, d, .cell (.val (.sl (.int .i64))), .cell (.val (.int .i64)), .cell (.val (.int .i64)), d, d, d, d, d, d, d, d, d, d, d, d, d, d, d, d, d, d, d, d, d, d, d, d, d])]
noncomputable def spec_l6Between_l6 : ((Int × (List Int) × (List Int) × (List (Int × (ByteArray × (Int × Int)))) × Unit) × (Int × (List Int) × Unit) × Int × Int × (List Int) × Int × Int × (List Int) × Int × Int × Unit) → Option (((Int × (List Int) × (List Int) × (List (Int × (ByteArray × (Int × Int)))) × Unit) × (Int × (List Int) × Unit) × Int × Int × (List Int) × Int × Int × (List Int) × Int × Int × Unit) ⊕ (((Int × (List Int) × (List Int) × (List (Int × (ByteArray × (Int × Int)))) × Unit) × (Int × (List Int) × Unit) × Int × (List Int) × Int × Int × Unit))) := fun ((v2_0, v2_1, v2_2, v2_3, _), (v3_0, v3_1, _), v5, v7, v11, v12, v13, v18, v19, v20, _) =>
 bif (decide (v20 < v19)) then
  if (((0 : Int) ≤ v20) ∧ (v20 < (((List.length v18) : Nat) : Int))) then
   if (((0 : Int) ≤ (IntKind.wrap .i64 ((IntKind.wrap .i64 (v7 * v2_0)) + (List.getD v18 (Int.toNat v20) (0 : Int))))) ∧ ((IntKind.wrap .i64 ((IntKind.wrap .i64 (v7 * v2_0)) + (List.getD v18 (Int.toNat v20) (0 : Int)))) < (((List.length v3_1) : Nat) : Int))) then
    some (Sum.inl ((v2_0, v2_1, v2_2, v2_3, ()), (v3_0, v3_1, ()), (if ((List.getD v3_1 (Int.toNat (IntKind.wrap .i64 ((IntKind.wrap .i64 (v7 * v2_0)) + (List.getD v18 (Int.toNat v20) (0 : Int))))) (0 : Int)) < v5) then (List.getD v3_1 (Int.toNat (IntKind.wrap .i64 ((IntKind.wrap .i64 (v7 * v2_0)) + (List.getD v18 (Int.toNat v20) (0 : Int))))) (0 : Int)) else v5), v7, v11, v12, v13, v18, v19, (IntKind.wrap .i64 (v20 + (1 : Int))), ()))
   else
    none
  else
   none
 else
  some (Sum.inr ((v2_0, v2_1, v2_2, v2_3, ()), (v3_0, v3_1, ()), v5, v11, v12, v13, ()))
theorem spec_l6Between_l6_eq : loopStep 39 E40 L40_0 (loopOf f40 6) sh40_6 xs40_6 = spec_l6Between_l6 := by kernel_rfl
theorem loop40_6 {L} (h : L 6 = some ⟨39, sh40_6, xs40_6, spec_l6Between_l6⟩) : LoopOk prog L (loopOf f40 6) := lo spec_l6Between_l6_eq E40_ok allNil h
noncomputable def L40_1 : Nat → Option LoopD := fun n => ifEq n 6 (some ⟨39, sh40_6, xs40_6, spec_l6Between_l6⟩) (L40_0 n)
def sh40_3 : List Fm := d :: d :: .box 100200 [.val (.int .i64), .val (.sl (.int .i64)), .val (.sl (.int .i64)), .val (.sl (.pair (.int .i64) (.pair .str (.pair (.int .i64) (.int .i64)))))] :: .box 100300 [.val (.int .i64), .val (.sl (.int .i64))] :: d :: .cell (.val (.int .i64)) :: D 5 (.cell (.val (.sl (.int .i64))) :: .cell (.val (.int .i64)) :: .cell (.val (.int .i64)) :: D 25 [])
def xs40_3 : List (Ex × List Fm) := [(.exit 0, (D 5 (.cell (.val (.int .i64)) :: D 33 [])))]
noncomputable def spec_l6Between_l3 : ((Int × (List Int) × (List Int) × (List (Int × (ByteArray × (Int × Int)))) × Unit) × (Int × (List Int) × Unit) × Int × (List Int) × Int × Int × Unit) → Option (((Int × (List Int) × (List Int) × (List (Int × (ByteArray × (Int × Int)))) × Unit) × (Int × (List Int) × Unit) × Int × (List Int) × Int × Int × Unit) ⊕ ((Int × Unit))) := fun ((v2_0, v2_1, v2_2, v2_3, _), (v3_0, v3_1, _), v5, v11, v12, v13, _) =>
 bif (decide (v13 < v12)) then
  if (((0 : Int) ≤ v13) ∧ (v13 < (((List.length v11) : Nat) : Int))) then
   Option.bind (loopF spec_l6Between_l6 ((v2_0, v2_1, v2_2, v2_3, ()), (v3_0, v3_1, ()), v5, (List.getD v11 (Int.toNat v13) (0 : Int)), v11, v12, v13, v2_2, (((List.length v2_2) : Nat) : Int), (0 : Int), ())) fun ((r0, r1, r2, r3, _), (r4, r5, _), r6, r7, r8, r9, _) =>
    some (Sum.inl ((r0, r1, r2, r3, ()), (r4, r5, ()), r6, r7, r8, (IntKind.wrap .i64 (r9 + (1 : Int))), ()))
  else
   none
 else
  some (Sum.inr (v5, ()))
theorem spec_l6Between_l3_eq : loopStep 39 E40 L40_1 (loopOf f40 3) sh40_3 xs40_3 = spec_l6Between_l3 := by kernel_rfl
theorem loop40_3 {L} (h : L 3 = some ⟨39, sh40_3, xs40_3, spec_l6Between_l3⟩) : LoopOk prog L (loopOf f40 3) := lo spec_l6Between_l3_eq E40_ok (allCons (loop40_6 rfl) allNil) h
noncomputable def L40_2 : Nat → Option LoopD := fun n => ifEq n 3 (some ⟨39, sh40_3, xs40_3, spec_l6Between_l3⟩) (L40_1 n)
noncomputable def spec_l6Between : (Int × ((List Int) × ((List Int) × (List (Int × (ByteArray × (Int × Int))))))) → (Int × (List Int)) → Option (Int) := fun (a0_0, a0_1, a0_2, a0_3) (a1_0, a1_1) =>
 Option.bind (loopF spec_l6Between_l3 ((a0_0, a0_1, a0_2, a0_3, ()), (a1_0, a1_1, ()), (3 : Int), a0_1, (((List.length a0_1) : Nat) : Int), (0 : Int), ())) fun (r0, _) =>
  some r0
noncomputable def A40 : FnA := ⟨[.v (.pair (.int .i64) (.pair (.sl (.int .i64)) (.pair (.sl (.int .i64)) (.sl (.pair (.int .i64) (.pair .str (.pair (.int .i64) (.int .i64)))))))), .v (.pair (.int .i64) (.sl (.int .i64)))], true, [.int .i64], fun x => spec_l6Between x.1 x.2.1⟩
theorem spec_l6Between_eq : fnF E40 L40_2 [.v (.pair (.int .i64) (.pair (.sl (.int .i64)) (.pair (.sl (.int .i64)) (.sl (.pair (.int .i64) (.pair .str (.pair (.int .i64) (.int .i64)))))))), .v (.pair (.int .i64) (.sl (.int .i64)))] true [.int .i64] f40.ntmps f40.results.toList (codeOf f40) = fun x => spec_l6Between x.1 x.2.1 := by kernel_rfl
theorem A40_ok : FnOk prog 40 A40 := fo spec_l6Between_eq func40 E40_ok (allCons (loop40_3 rfl) allNil)
/-! spec.GrowingOf -/
noncomputable def E16 : Env := ⟨ty0, fun g => ifEq g 39 (some A39) (ifEq g 40 (some A40) (none)), fun _ => none, fun _ => none, fun _ => none⟩
theorem E16_ok : FnsOk prog E16 := (oF A39_ok func39 (oF A40_ok func40 (noFns _ _)))
noncomputable def L16_0 : Nat → Option LoopD := fun _ => none
def sh16_3 : List Fm := d :: .box 100100 [.val (.int .i64), .val (.sl (.int .i64)), .val (.sl (.int .i64)), .val (.sl (.pair (.int .i64) (.pair .str (.pair (.int .i64) (.int .i64)))))] :: D 11 (.cell (.own (.pair (.pair (.int .i64) (.sl (.int .i64))) .str) 101300 false) :: .cell (.val (.int .i64)) :: .cell (.val (.int .i64)) :: D 11 [])
def xs16_3 : List (Ex × List Fm) := [(.ret, (d :: d :: .cell (.val .str) :: .cell (.val .bool) :: D 23 [])), (.exit 0, (D 27 []))]
noncomputable def spec_GrowingOf_l3 : ((Int × (List Int) × (List Int) × (List (Int × (ByteArray × (Int × Int)))) × Unit) × (List ((Int × (List Int)) × ByteArray)) × Int × Int × Unit) → Option (((Int × (List Int) × (List Int) × (List (Int × (ByteArray × (Int × Int)))) × Unit) × (List ((Int × (List Int)) × ByteArray)) × Int × Int × Unit) ⊕ ((ByteArray × Bool × Unit) ⊕ (Unit))) := fun ((v1_0, v1_1, v1_2, v1_3, _), v13, v14, v15, _) =>
 bif (decide (v15 < v14)) then
  if (((0 : Int) ≤ v15) ∧ (v15 < (((List.length v13) : Nat) : Int))) then
   Option.bind (spec_l6Between (v1_0, v1_1, v1_2, v1_3) ((List.getD v13 (0 + (Int.toNat v15)) (((0 : Int), []), (⟨Array.empty⟩ : ByteArray))).1.1, (List.getD v13 (0 + (Int.toNat v15)) (((0 : Int), []), (⟨Array.empty⟩ : ByteArray))).1.2)) fun r0 =>
    bif (r0 == (2 : Int)) then
     some (Sum.inr (Sum.inl ((List.getD v13 (0 + (Int.toNat v15)) (((0 : Int), []), (⟨Array.empty⟩ : ByteArray))).2, true, ())))
    else
     some (Sum.inl ((v1_0, v1_1, v1_2, v1_3, ()), (List.take (List.length v13) (List.drop 0 v13)), v14, (IntKind.wrap .i64 (v15 + (1 : Int))), ()))
  else
   none
 else
  some (Sum.inr (Sum.inr ()))
theorem spec_GrowingOf_l3_eq : loopStep 27 E16 L16_0 (loopOf f16 3) sh16_3 xs16_3 = spec_GrowingOf_l3 := by kernel_rfl
theorem loop16_3 {L} (h : L 3 = some ⟨27, sh16_3, xs16_3, spec_GrowingOf_l3⟩) : LoopOk prog L (loopOf f16 3) := lo spec_GrowingOf_l3_eq E16_ok allNil h
noncomputable def L16_1 : Nat → Option LoopD := fun n => ifEq n 3 (some ⟨27, sh16_3, xs16_3, spec_GrowingOf_l3⟩) (L16_0 n)
noncomputable def spec_GrowingOf : (Int × ((List Int) × ((List Int) × (List (Int × (ByteArray × (Int × Int))))))) → Option (ByteArray × Bool) := fun (a0_0, a0_1, a0_2, a0_3) =>
 Option.bind (spec_ElementsOf (a0_0, a0_1, a0_2, a0_3)) fun (r0, r1) =>
  Option.bind (loopF spec_GrowingOf_l3 ((a0_0, a0_1, a0_2, a0_3, ()), (List.take (List.length r0) (List.drop 0 r0)), (((List.length r0) : Nat) : Int), (0 : Int), ())) fun r2 =>
   (match r2 with
   | .inl (d3, d4, _) =>
     some (d3, d4)
   | .inr _ =>
     some ((⟨#[]⟩ : ByteArray), false))
noncomputable def A16 : FnA := ⟨[.v (.pair (.int .i64) (.pair (.sl (.int .i64)) (.pair (.sl (.int .i64)) (.sl (.pair (.int .i64) (.pair .str (.pair (.int .i64) (.int .i64))))))))], true, [.str, .bool], fun x => spec_GrowingOf x.1⟩
theorem spec_GrowingOf_eq : fnF E16 L16_1 [.v (.pair (.int .i64) (.pair (.sl (.int .i64)) (.pair (.sl (.int .i64)) (.sl (.pair (.int .i64) (.pair .str (.pair (.int .i64) (.int .i64))))))))] true [.str, .bool] f16.ntmps f16.results.toList (codeOf f16) = fun x => spec_GrowingOf x.1 := by kernel_rfl
theorem A16_ok : FnOk prog 16 A16 := fo spec_GrowingOf_eq func16 E16_ok (allCons (loop16_3 rfl) allNil)
/-! impl.IsBounded -/
noncomputable def E17 : Env := ⟨ty0, fun g => ifEq g 41 (some A41) (ifEq g 12 (some A12) (none)), fun _ => none, fun _ => none, fun _ => none⟩
theorem E17_ok : FnsOk prog E17 := (oF A41_ok func41 (oF A12_ok func12 (noFns _ _)))
noncomputable def L17_0 : Nat → Option LoopD := fun _ => none
noncomputable def impl_IsBounded : (Int × ((List Int) × ((List Int) × (List (Int × (ByteArray × (Int × Int))))))) → Option (Bool × Bool) := fun (a0_0, a0_1, a0_2, a0_3) =>
 Option.bind (impl_ElementsOf (a0_0, a0_1, a0_2, a0_3)) fun (r0, r1) =>
  Option.bind (impl_GrowingOf (a0_0, a0_1, a0_2, a0_3)) fun (r2, r3) =>
   bif r1 then
    some ((!r3), r1)
   else
    some (false, r1)
noncomputable def A17 : FnA := ⟨[.v (.pair (.int .i64) (.pair (.sl (.int .i64)) (.pair (.sl (.int .i64)) (.sl (.pair (.int .i64) (.pair .str (.pair (.int .i64) (.int .i64))))))))], true, [.bool, .bool], fun x => impl_IsBounded x.1⟩
theorem impl_IsBounded_eq : fnF E17 L17_0 [.v (.pair (.int .i64) (.pair (.sl (.int .i64)) (.pair (.sl (.int .i64)) (.sl (.pair (.int .i64) (.pair .str (.pair (.int .i64) (.int .i64))))))))] true [.bool, .bool] f17.ntmps f17.results.toList (codeOf f17) = fun x => impl_IsBounded x.1 := by kernel_rfl
theorem A17_ok : FnOk prog 17 A17 := fo impl_IsBounded_eq func17 E17_ok allNil
/-! spec.IsBounded -/
noncomputable def E18 : Env := ⟨ty0, fun g => ifEq g 39 (some A39) (ifEq g 40 (some A40) (none)), fun _ => none, fun _ => none, fun _ => none⟩
theorem E18_ok : FnsOk prog E18 := (oF A39_ok func39 (oF A40_ok func40 (noFns _ _)))
noncomputable def L18_0 : Nat → Option LoopD := fun _ => none
def sh18_5 : List Fm := d :: .box 100100 [.val (.int .i64), .val (.sl (.int .i64)), .val (.sl (.int .i64)), .val (.sl (.pair (.int .i64) (.pair .str (.pair (.int .i64) (.int .i64)))))] :: D 13 (.cell (.own (.pair (.pair (.int .i64) (.sl (.int .i64))) .str) 101500 false) :: .cell (.val (.int .i64)) :: .cell (.val (.int .i64)) :: D 9 [])
def xs18_5 : List (Ex × List Fm) := [(.ret, (d :: d :: .cell (.val .bool) :: .cell (.val .bool) :: D 23 [])), (.exit 0, (D 27 []))]
noncomputable def spec_IsBounded_l5 : ((Int × (List Int) × (List Int) × (List (Int × (ByteArray × (Int × Int)))) × Unit) × (List ((Int × (List Int)) × ByteArray)) × Int × Int × Unit) → Option (((Int × (List Int) × (List Int) × (List (Int × (ByteArray × (Int × Int)))) × Unit) × (List ((Int × (List Int)) × ByteArray)) × Int × Int × Unit) ⊕ ((Bool × Bool × Unit) ⊕ (Unit))) := fun ((v1_0, v1_1, v1_2, v1_3, _), v15, v16, v17, _) =>
 bif (decide (v17 < v16)) then
  if (((0 : Int) ≤ v17) ∧ (v17 < (((List.length v15) : Nat) : Int))) then
   Option.bind (spec_l6Between (v1_0, v1_1, v1_2, v1_3) ((List.getD v15 (0 + (Int.toNat v17)) (((0 : Int), []), (⟨Array.empty⟩ : ByteArray))).1.1, (List.getD v15 (0 + (Int.toNat v17)) (((0 : Int), []), (⟨Array.empty⟩ : ByteArray))).1.2)) fun r0 =>
    bif (r0 == (2 : Int)) then
     some (Sum.inr (Sum.inl (false, true, ())))
    else
     some (Sum.inl ((v1_0, v1_1, v1_2, v1_3, ()), (List.take (List.length v15) (List.drop 0 v15)), v16, (IntKind.wrap .i64 (v17 + (1 : Int))), ()))
  else
   none
 else
  some (Sum.inr (Sum.inr ()))
theorem spec_IsBounded_l5_eq : loopStep 27 E18 L18_0 (loopOf f18 5) sh18_5 xs18_5 = spec_IsBounded_l5 := by kernel_rfl
theorem loop18_5 {L} (h : L 5 = some ⟨27, sh18_5, xs18_5, spec_IsBounded_l5⟩) : LoopOk prog L (loopOf f18 5) := lo spec_IsBounded_l5_eq E18_ok allNil h
noncomputable def L18_1 : Nat → Option LoopD := fun n => ifEq n 5 (some ⟨27, sh18_5, xs18_5, spec_IsBounded_l5⟩) (L18_0 n)
noncomputable def spec_IsBounded : (Int × ((List Int) × ((List Int) × (List (Int × (ByteArray × (Int × Int))))))) → Option (Bool × Bool) := fun (a0_0, a0_1, a0_2, a0_3) =>
 Option.bind (spec_ElementsOf (a0_0, a0_1, a0_2, a0_3)) fun (r0, r1) =>
  bif (!r1) then
   some (false, false)
  else
   Option.bind (loopF spec_IsBounded_l5 ((a0_0, a0_1, a0_2, a0_3, ()), (List.take (List.length r0) (List.drop 0 r0)), (((List.length r0) : Nat) : Int), (0 : Int), ())) fun r2 =>
    (match r2 with
    | .inl (d3, d4, _) =>
      some (d3, d4)
    | .inr _ =>
      some (true, true))
noncomputable def A18 : FnA := ⟨[.v (.pair (.int .i64) (.pair (.sl (.int .i64)) (.pair (.sl (.int .i64)) (.sl (.pair (.int .i64) (.pair .str (.pair (.int .i64) (.int .i64))))))))], true, [.bool, .bool], fun x => spec_IsBounded x.1⟩
theorem spec_IsBounded_eq : fnF E18 L18_1 [.v (.pair (.int .i64) (.pair (.sl (.int .i64)) (.pair (.sl (.int .i64)) (.sl (.pair (.int .i64) (.pair .str (.pair (.int .i64) (.int .i64))))))))] true [.bool, .bool] f18.ntmps f18.results.toList (codeOf f18) = fun x => spec_IsBounded x.1 := by kernel_rfl
theorem A18_ok : FnOk prog 18 A18 := fo spec_IsBounded_eq func18 E18_ok (allCons (loop18_5 rfl) allNil)
/-! impl.expand -/
noncomputable def R38 (impl_expand_rec : (List (ByteArray × PT)) → Int → Option (ByteArray × Bool)) : FnA := ⟨[.v (.sl (.pair .str .pt)), .v (.int .i64)], true, [.str, .bool], fun x => impl_expand_rec x.1 x.2.1⟩
noncomputable def E38 (impl_expand_rec : (List (ByteArray × PT)) → Int → Option (ByteArray × Bool)) : Env := ⟨ty0, fun g => ifEq g 38 (some (R38 impl_expand_rec)) (ifEq g 59 (some A59) (none)), fun _ => none, fun _ => none, fun _ => none⟩
theorem E38_ok (impl_expand_rec : (List (ByteArray × PT)) → Int → Option (ByteArray × Bool)) (hrec : FnOk prog 38 (R38 impl_expand_rec)) : FnsOk prog (E38 impl_expand_rec) := (oF hrec func38 (oF A59_ok func59 (noFns _ _)))
noncomputable def L38_0 (impl_expand_rec : (List (ByteArray × PT)) → Int → Option (ByteArray × Bool)) : Nat → Option LoopD := fun _ => none
def sh38_3 : List Fm := d :: .cell (.val (.int .i64)) :: D 4 (.cell (.val .str) :: D 5 (.cell (.val (.sl (.pair .str .pt))) :: .cell (.val (.int .i64)) :: .cell (.val (.int .i64)) :: D 35 []))
def xs38_3 : List (Ex × List Fm) := [(.ret, (D 4 (.cell (.val .str) :: .cell (.val .bool) :: D 44 []))), (.exit 0, (D 6 (.cell (.val .str) :: D 43 [])))]
noncomputable def impl_expand_l3 (impl_expand_rec : (List (ByteArray × PT)) → Int → Option (ByteArray × Bool)) : (Int × ByteArray × (List (ByteArray × PT)) × Int × Int × Unit) → Option ((Int × ByteArray × (List (ByteArray × PT)) × Int × Int × Unit) ⊕ ((ByteArray × Bool × Unit) ⊕ (ByteArray × Unit))) := fun (v1, v6, v12, v13, v14, _) =>
 bif (decide (v14 < v13)) then
  if (((0 : Int) ≤ v14) ∧ (v14 < (((List.length v12) : Nat) : Int))) then
   bif ((ByteArray.toList (List.getD v12 (Int.toNat v14) ((⟨Array.empty⟩ : ByteArray), (PT.mk []))).1) == (ByteArray.toList (⟨#[]⟩ : ByteArray))) then
    Option.bind (impl_expand_rec (PT.l (List.getD v12 (Int.toNat v14) ((⟨Array.empty⟩ : ByteArray), (PT.mk []))).2) v1) fun (r0, r1) =>
     bif (!r1) then
      some (Sum.inr (Sum.inl ((⟨#[]⟩ : ByteArray), false, ())))
     else
      if ((((ByteArray.size r0) : Nat) : Int) = (0 : Int)) then
       none
      else
       bif (decide (v1 > (IntKind.wrap .i64 (Int.tdiv (IntKind.wrap .i64 ((1000 : Int) - (((ByteArray.size v6) : Nat) : Int))) (((ByteArray.size r0) : Nat) : Int))))) then
        some (Sum.inr (Sum.inl ((⟨#[]⟩ : ByteArray), false, ())))
       else
        Option.bind (strings_Repeat r0 v1) fun r2 =>
         if (((ByteArray.size v6) + (ByteArray.size r2)) ≤ 9223372036854775807) then
          some (Sum.inl (v1, (v6 ++ r2), v12, v13, (IntKind.wrap .i64 (v14 + (1 : Int))), ()))
         else
          none
   else
    if ((((ByteArray.size (List.getD v12 (Int.toNat v14) ((⟨Array.empty⟩ : ByteArray), (PT.mk []))).1) : Nat) : Int) = (0 : Int)) then
     none
    else
     bif (decide ((1 : Int) > (IntKind.wrap .i64 (Int.tdiv (IntKind.wrap .i64 ((1000 : Int) - (((ByteArray.size v6) : Nat) : Int))) (((ByteArray.size (List.getD v12 (Int.toNat v14) ((⟨Array.empty⟩ : ByteArray), (PT.mk []))).1) : Nat) : Int))))) then
      some (Sum.inr (Sum.inl ((⟨#[]⟩ : ByteArray), false, ())))
     else
      Option.bind (strings_Repeat (List.getD v12 (Int.toNat v14) ((⟨Array.empty⟩ : ByteArray), (PT.mk []))).1 (1 : Int)) fun r3 =>
       if (((ByteArray.size v6) + (ByteArray.size r3)) ≤ 9223372036854775807) then
        some (Sum.inl (v1, (v6 ++ r3), v12, v13, (IntKind.wrap .i64 (v14 + (1 : Int))), ()))
       else
        none
  else
   none
 else
  some (Sum.inr (Sum.inr (v6, ())))
theorem impl_expand_l3_eq (impl_expand_rec : (List (ByteArray × PT)) → Int → Option (ByteArray × Bool)) : loopStep 50 (E38 impl_expand_rec) (L38_0 impl_expand_rec) (loopOf f38 3) sh38_3 xs38_3 = (impl_expand_l3 impl_expand_rec) := by kernel_rfl
theorem loop38_3 (impl_expand_rec : (List (ByteArray × PT)) → Int → Option (ByteArray × Bool)) (hrec : FnOk prog 38 (R38 impl_expand_rec)) {L : Nat → Option LoopD} (h : L 3 = some ⟨50, sh38_3, xs38_3, (impl_expand_l3 impl_expand_rec)⟩) : LoopOk prog L (loopOf f38 3) :=
 loopOk (tysOk_of tyl_ok) (E38_ok impl_expand_rec hrec) (codeOk_in (L := (L38_0 impl_expand_rec)) (tysOk_of tyl_ok) (E38_ok impl_expand_rec hrec) mixed (c := loopOf f38 3) (bs := []) (by kernel_rfl) allNil (by kernel_rfl)) (by kernel_rfl) (by kernel_rfl) (impl_expand_l3_eq impl_expand_rec) (by rw [show firstId (loopOf f38 3) = 3 from by kernel_rfl]; exact h)
noncomputable def L38_1 (impl_expand_rec : (List (ByteArray × PT)) → Int → Option (ByteArray × Bool)) : Nat → Option LoopD := fun n => ifEq n 3 (some ⟨50, sh38_3, xs38_3, (impl_expand_l3 impl_expand_rec)⟩) ((L38_0 impl_expand_rec) n)
noncomputable def impl_expand_step (impl_expand_rec : (List (ByteArray × PT)) → Int → Option (ByteArray × Bool)) : (List (ByteArray × PT)) → Int → Option (ByteArray × Bool) := fun a0 a1 =>
 Option.bind (loopF (impl_expand_l3 impl_expand_rec) (a1, (⟨#[]⟩ : ByteArray), a0, (((List.length a0) : Nat) : Int), (0 : Int), ())) fun r0 =>
  (match r0 with
  | .inl (d1, d2, _) =>
    some (d1, d2)
  | .inr (d3, _) =>
    some (d3, true))
theorem impl_expand_step_eq (impl_expand_rec : (List (ByteArray × PT)) → Int → Option (ByteArray × Bool)) : fnF (E38 impl_expand_rec) (L38_1 impl_expand_rec) [.v (.sl (.pair .str .pt)), .v (.int .i64)] true [.str, .bool] f38.ntmps f38.results.toList (codeOf f38) = fun x => (impl_expand_step impl_expand_rec) x.1 x.2.1 := by kernel_rfl
theorem impl_expand_step_ok (impl_expand_rec : (List (ByteArray × PT)) → Int → Option (ByteArray × Bool)) (hrec : FnOk prog 38 (R38 impl_expand_rec)) : FnOk prog 38 ⟨[.v (.sl (.pair .str .pt)), .v (.int .i64)], true, [.str, .bool], fun x => (impl_expand_step impl_expand_rec) x.1 x.2.1⟩ := by
 have h := fnOk_of_run (P := prog) (E := (E38 impl_expand_rec)) (tysOk_of tyl_ok) (E38_ok impl_expand_rec hrec) (L := (L38_1 impl_expand_rec)) (ps := [.v (.sl (.pair .str .pt)), .v (.int .i64)]) (own := true) (outs := [.str, .bool]) func38 (c := codeOf f38) (by kernel_rfl) (codeOk_in (L := (L38_1 impl_expand_rec)) (tysOk_of tyl_ok) (E38_ok impl_expand_rec hrec) mixed (c := codeOf f38) (bs := [loopOf f38 3]) (by kernel_rfl) (allCons (loop38_3 impl_expand_rec hrec rfl) allNil) (by kernel_rfl))
 rw [(impl_expand_step_eq impl_expand_rec)] at h
 exact h
/-- so many calls within each other -/
noncomputable def impl_expand_fuel : Nat → (List (ByteArray × PT)) → Int → Option (ByteArray × Bool)
 | 0 => fun _ _ => none
 | n + 1 => impl_expand_step (impl_expand_fuel n)
theorem impl_expand_fuel_ok : ∀ n, FnOk prog 38 (R38 (impl_expand_fuel n))
 | 0 => fun xs r h => by cases h
 | n + 1 => impl_expand_step_ok (impl_expand_fuel n) (impl_expand_fuel_ok n)
noncomputable def impl_expand : (List (ByteArray × PT)) → Int → Option (ByteArray × Bool) := impl_expand_fuel 200
noncomputable def A38 : FnA := R38 impl_expand
theorem A38_ok : FnOk prog 38 A38 := impl_expand_fuel_ok 200
/-! impl.ExpandExpression -/
noncomputable def E14 : Env := ⟨ty0, fun g => ifEq g 37 (some A37) (ifEq g 38 (some A38) (none)), fun _ => none, fun _ => none, fun _ => none⟩
theorem E14_ok : FnsOk prog E14 := (oF A37_ok func37 (oF A38_ok func38 (noFns _ _)))
noncomputable def L14_0 : Nat → Option LoopD := fun _ => none
noncomputable def impl_ExpandExpression : ByteArray → Int → Option (ByteArray × Bool) := fun a0 a1 =>
 Option.bind (impl_parts a0) fun (r0, r1) =>
  bif (!r1) then
   some ((⟨#[]⟩ : ByteArray), false)
  else
   bif (decide (a1 < (1 : Int))) then
    some ((⟨#[]⟩ : ByteArray), false)
   else
    Option.bind (impl_expand (List.take (List.length r0) (List.drop 0 r0)) a1) fun (r2, r3) =>
     some (r2, r3)
noncomputable def A14 : FnA := ⟨[.v .str, .v (.int .i64)], true, [.str, .bool], fun x => impl_ExpandExpression x.1 x.2.1⟩
theorem impl_ExpandExpression_eq : fnF E14 L14_0 [.v .str, .v (.int .i64)] true [.str, .bool] f14.ntmps f14.results.toList (codeOf f14) = fun x => impl_ExpandExpression x.1 x.2.1 := by kernel_rfl
theorem A14_ok : FnOk prog 14 A14 := fo impl_ExpandExpression_eq func14 E14_ok allNil
/-! impl.WordValid -/
noncomputable def E35 : Env := ⟨ty0, fun _ => none, fun _ => none, fun _ => none, fun _ => none⟩
theorem E35_ok : FnsOk prog E35 := (noFns _ _)
noncomputable def L35_0 : Nat → Option LoopD := fun _ => none
def sh35_2 : List Fm := .cell (.val .str) :: D 4 (.cell (.val (.int .i64)) :: .cell (.val (.int .i64)) :: D 16 [])
def xs35_2 : List (Ex × List Fm) := [(.ret, (d :: d :: .cell (.val .bool) :: D 20 [])), (.exit 0, (.cell (.val .str) :: D 22 []))]
noncomputable def impl_WordValid_l2 : (ByteArray × Int × Int × Unit) → Option ((ByteArray × Int × Int × Unit) ⊕ ((Bool × Unit) ⊕ (ByteArray × Unit))) := fun (v0, v5, v6, _) =>
 bif (decide (v6 < v5)) then
  if (((0 : Int) ≤ v6) ∧ (v6 < (((ByteArray.size v0) : Nat) : Int))) then
   bif ((((UInt8.toNat (Array.getD (ByteArray.data v0) (Int.toNat v6) (0 : UInt8))) : Nat) : Int) != (97 : Int)) then
    if (((0 : Int) ≤ v6) ∧ (v6 < (((ByteArray.size v0) : Nat) : Int))) then
     bif ((((UInt8.toNat (Array.getD (ByteArray.data v0) (Int.toNat v6) (0 : UInt8))) : Nat) : Int) != (98 : Int)) then
      some (Sum.inr (Sum.inl (false, ())))
     else
      some (Sum.inl (v0, v5, (IntKind.wrap .i64 (v6 + (1 : Int))), ()))
    else
     none
   else
    some (Sum.inl (v0, v5, (IntKind.wrap .i64 (v6 + (1 : Int))), ()))
  else
   none
 else
  some (Sum.inr (Sum.inr (v0, ())))
theorem impl_WordValid_l2_eq : loopStep 23 E35 L35_0 (loopOf f35 2) sh35_2 xs35_2 = impl_WordValid_l2 := by kernel_rfl
theorem loop35_2 {L} (h : L 2 = some ⟨23, sh35_2, xs35_2, impl_WordValid_l2⟩) : LoopOk prog L (loopOf f35 2) := lo impl_WordValid_l2_eq E35_ok allNil h
noncomputable def L35_1 : Nat → Option LoopD := fun n => ifEq n 2 (some ⟨23, sh35_2, xs35_2, impl_WordValid_l2⟩) (L35_0 n)
noncomputable def impl_WordValid : ByteArray → Option (Bool) := fun a0 =>
 Option.bind (loopF impl_WordValid_l2 (a0, (((ByteArray.size a0) : Nat) : Int), (0 : Int), ())) fun r0 =>
  (match r0 with
  | .inl (d1, _) =>
    some d1
  | .inr (d2, _) =>
    some (decide ((((ByteArray.size d2) : Nat) : Int) ≤ (1000 : Int))))
noncomputable def A35 : FnA := ⟨[.v .str], true, [.bool], fun x => impl_WordValid x.1⟩
theorem impl_WordValid_eq : fnF E35 L35_1 [.v .str] true [.bool] f35.ntmps f35.results.toList (codeOf f35) = fun x => impl_WordValid x.1 := by kernel_rfl
theorem A35_ok : FnOk prog 35 A35 := fo impl_WordValid_eq func35 E35_ok (allCons (loop35_2 rfl) allNil)
/-! math/bits.Mul64 -/
noncomputable def E110 : Env := ⟨ty0, fun _ => none, fun _ => none, fun _ => none, fun _ => none⟩
theorem E110_ok : FnsOk prog E110 := (noFns _ _)
noncomputable def L110_0 : Nat → Option LoopD := fun _ => none
noncomputable def bits_Mul64 : Int → Int → Option (Int × Int) := fun a0 a1 =>
 if ((32 : Int) < (0 : Int)) then
  none
 else
  if ((32 : Int) < (0 : Int)) then
   none
  else
   if ((32 : Int) < (0 : Int)) then
    none
   else
    if ((32 : Int) < (0 : Int)) then
     none
    else
     if ((32 : Int) < (0 : Int)) then
      none
     else
      some ((IntKind.wrap .u64 ((IntKind.wrap .u64 ((IntKind.wrap .u64 ((Int.fdiv a0 ((2 : Int) ^ (Min.min (Int.toNat (32 : Int)) (IntKind.bits .u64)))) * (Int.fdiv a1 ((2 : Int) ^ (Min.min (Int.toNat (32 : Int)) (IntKind.bits .u64)))))) + (Int.fdiv (IntKind.wrap .u64 ((IntKind.wrap .u64 ((Int.fdiv a0 ((2 : Int) ^ (Min.min (Int.toNat (32 : Int)) (IntKind.bits .u64)))) * ((((BitVec.toNat ((BitVec.ofInt (IntKind.bits .u64) a1) &&& (BitVec.ofInt (IntKind.bits .u64) (4294967295 : Int)))) % (Int.natAbs ((2 : Int) ^ (IntKind.bits .u64)))) : Nat) : Int))) + (Int.fdiv (IntKind.wrap .u64 (((((BitVec.toNat ((BitVec.ofInt (IntKind.bits .u64) a0) &&& (BitVec.ofInt (IntKind.bits .u64) (4294967295 : Int)))) % (Int.natAbs ((2 : Int) ^ (IntKind.bits .u64)))) : Nat) : Int) * ((((BitVec.toNat ((BitVec.ofInt (IntKind.bits .u64) a1) &&& (BitVec.ofInt (IntKind.bits .u64) (4294967295 : Int)))) % (Int.natAbs ((2 : Int) ^ (IntKind.bits .u64)))) : Nat) : Int))) ((2 : Int) ^ (Min.min (Int.toNat (32 : Int)) (IntKind.bits .u64)))))) ((2 : Int) ^ (Min.min (Int.toNat (32 : Int)) (IntKind.bits .u64)))))) + (Int.fdiv (IntKind.wrap .u64 (((((BitVec.toNat ((BitVec.ofInt (IntKind.bits .u64) (IntKind.wrap .u64 ((IntKind.wrap .u64 ((Int.fdiv a0 ((2 : Int) ^ (Min.min (Int.toNat (32 : Int)) (IntKind.bits .u64)))) * ((((BitVec.toNat ((BitVec.ofInt (IntKind.bits .u64) a1) &&& (BitVec.ofInt (IntKind.bits .u64) (4294967295 : Int)))) % (Int.natAbs ((2 : Int) ^ (IntKind.bits .u64)))) : Nat) : Int))) + (Int.fdiv (IntKind.wrap .u64 (((((BitVec.toNat ((BitVec.ofInt (IntKind.bits .u64) a0) &&& (BitVec.ofInt (IntKind.bits .u64) (4294967295 : Int)))) % (Int.natAbs ((2 : Int) ^ (IntKind.bits .u64)))) : Nat) : Int) * ((((BitVec.toNat ((BitVec.ofInt (IntKind.bits .u64) a1) &&& (BitVec.ofInt (IntKind.bits .u64) (4294967295 : Int)))) % (Int.natAbs ((2 : Int) ^ (IntKind.bits .u64)))) : Nat) : Int))) ((2 : Int) ^ (Min.min (Int.toNat (32 : Int)) (IntKind.bits .u64))))))) &&& (BitVec.ofInt (IntKind.bits .u64) (4294967295 : Int)))) % (Int.natAbs ((2 : Int) ^ (IntKind.bits .u64)))) : Nat) : Int) + (IntKind.wrap .u64 (((((BitVec.toNat ((BitVec.ofInt (IntKind.bits .u64) a0) &&& (BitVec.ofInt (IntKind.bits .u64) (4294967295 : Int)))) % (Int.natAbs ((2 : Int) ^ (IntKind.bits .u64)))) : Nat) : Int) * (Int.fdiv a1 ((2 : Int) ^ (Min.min (Int.toNat (32 : Int)) (IntKind.bits .u64)))))))) ((2 : Int) ^ (Min.min (Int.toNat (32 : Int)) (IntKind.bits .u64)))))), (IntKind.wrap .u64 (a0 * a1)))
noncomputable def A110 : FnA := ⟨[.v (.int .u64), .v (.int .u64)], true, [.int .u64, .int .u64], fun x => bits_Mul64 x.1 x.2.1⟩
theorem bits_Mul64_eq : fnF E110 L110_0 [.v (.int .u64), .v (.int .u64)] true [.int .u64, .int .u64] f110.ntmps f110.results.toList (codeOf f110) = fun x => bits_Mul64 x.1 x.2.1 := by kernel_rfl
theorem A110_ok : FnOk prog 110 A110 := fo bits_Mul64_eq func110 E110_ok allNil
/-! math/bits.Mul -/
noncomputable def E83 : Env := ⟨ty0, fun g => ifEq g 110 (some A110) (none), fun _ => none, fun _ => none, fun _ => none⟩
theorem E83_ok : FnsOk prog E83 := (oF A110_ok func110 (noFns _ _))
noncomputable def L83_0 : Nat → Option LoopD := fun _ => none
noncomputable def bits_Mul : Int → Int → Option (Int × Int) := fun a0 a1 =>
 Option.bind (bits_Mul64 a0 a1) fun (r0, r1) =>
  some (r0, r1)
noncomputable def A83 : FnA := ⟨[.v (.int .u64), .v (.int .u64)], true, [.int .u64, .int .u64], fun x => bits_Mul x.1 x.2.1⟩
theorem bits_Mul_eq : fnF E83 L83_0 [.v (.int .u64), .v (.int .u64)] true [.int .u64, .int .u64] f83.ntmps f83.results.toList (codeOf f83) = fun x => bits_Mul x.1 x.2.1 := by kernel_rfl
theorem A83_ok : FnOk prog 83 A83 := fo bits_Mul_eq func83 E83_ok allNil
/-! slices.Repeat[[]int,int] -/
noncomputable def E57 : Env := ⟨ty0, fun g => ifEq g 83 (some A83) (none), fun _ => none, fun _ => none, fun _ => none⟩
theorem E57_ok : FnsOk prog E57 := (oF A83_ok func83 (noFns _ _))
noncomputable def L57_0 : Nat → Option LoopD := fun _ => none
def sh57_8 : List Fm := D 7 (.cell (.own (.int .i64) 100700 false) :: .cell (.val (.int .i64)) :: D 39 [])
def xs57_8 : List (Ex × List Fm) := [(.exit 0, (D 7 (.cell (.own (.int .i64) 100700 false) :: D 40 [])))]
noncomputable def slices_Repeat_l8 : ((List Int) × Int × Unit) → Option (((List Int) × Int × Unit) ⊕ (((List Int) × Unit))) := fun (v7, v8, _) =>
 bif (decide (v8 < (((List.length v7) : Nat) : Int))) then
  if (((0 : Int) ≤ v8) ∧ (v8 ≤ (((List.length v7) : Nat) : Int))) then
   if (((0 : Int) ≤ v8) ∧ (v8 ≤ (((List.length v7) : Nat) : Int))) then
    some (Sum.inl ((List.take (List.length v7) (List.drop 0 ((List.take (0 + (Int.toNat v8)) v7) ++ ((List.take ((List.length v7) - (Int.toNat v8)) (List.take ((Int.toNat v8) - 0) (List.drop (0 + 0) v7))) ++ (List.drop ((0 + (Int.toNat v8)) + (List.length (List.take ((List.length v7) - (Int.toNat v8)) (List.take ((Int.toNat v8) - 0) (List.drop (0 + 0) v7))))) v7))))), (IntKind.wrap .i64 (v8 + (((List.length (List.take ((List.length v7) - (Int.toNat v8)) (List.take ((Int.toNat v8) - 0) (List.drop (0 + 0) v7)))) : Nat) : Int))), ()))
   else
    none
  else
   none
 else
  some (Sum.inr ((List.take (List.length v7) (List.drop 0 v7)), ()))
theorem slices_Repeat_l8_eq : loopStep 48 E57 L57_0 (loopOf f57 8) sh57_8 xs57_8 = slices_Repeat_l8 := by kernel_rfl
theorem loop57_8 {L} (h : L 8 = some ⟨48, sh57_8, xs57_8, slices_Repeat_l8⟩) : LoopOk prog L (loopOf f57 8) := lo slices_Repeat_l8_eq E57_ok allNil h
noncomputable def L57_1 : Nat → Option LoopD := fun n => ifEq n 8 (some ⟨48, sh57_8, xs57_8, slices_Repeat_l8⟩) (L57_0 n)
noncomputable def slices_Repeat : (List Int) → Int → Option ((List Int)) := fun a0 a1 =>
 bif (decide (a1 < (0 : Int))) then
  none
 else
  Option.bind (bits_Mul (IntKind.wrap .u64 (((List.length a0) : Nat) : Int)) (IntKind.wrap .u64 a1)) fun (r0, r1) =>
   bif (decide (r0 > (0 : Int))) then
    none
   else
    bif (decide (r1 > (9223372036854775807 : Int))) then
     none
    else
     if (((0 : Int) ≤ (IntKind.wrap .i64 r1)) ∧ (((IntKind.wrap .i64 r1) = (IntKind.wrap .i64 r1)) ∧ (((IntKind.wrap .i64 r1) * ((8 : Nat) : Int)) ≤ (140737488355328 : Int)))) then
      Option.bind (loopF slices_Repeat_l8 ((List.take (Int.toNat (IntKind.wrap .i64 r1)) (List.drop 0 ((List.take 0 (List.replicate (Int.toNat (IntKind.wrap .i64 r1)) (0 : Int))) ++ ((List.take (Int.toNat (IntKind.wrap .i64 r1)) a0) ++ (List.drop (0 + (List.length (List.take (Int.toNat (IntKind.wrap .i64 r1)) a0))) (List.replicate (Int.toNat (IntKind.wrap .i64 r1)) (0 : Int))))))), (((List.length (List.take (Int.toNat (IntKind.wrap .i64 r1)) a0)) : Nat) : Int), ())) fun (r2, _) =>
       some (List.take (List.length r2) (List.drop 0 r2))
     else
      none
noncomputable def A57 : FnA := ⟨[.v (.sl (.int .i64)), .v (.int .i64)], true, [.sl (.int .i64)], fun x => slices_Repeat x.1 x.2.1⟩
theorem slices_Repeat_eq : fnF E57 L57_1 [.v (.sl (.int .i64)), .v (.int .i64)] true [.sl (.int .i64)] f57.ntmps f57.results.toList (codeOf f57) = fun x => slices_Repeat x.1 x.2.1 := by kernel_rfl
theorem A57_ok : FnOk prog 57 A57 := fo slices_Repeat_eq func57 E57_ok (allCons (loop57_8 rfl) allNil)
end Go.Proofs.YtfdhmmnffahhgaaGreat
