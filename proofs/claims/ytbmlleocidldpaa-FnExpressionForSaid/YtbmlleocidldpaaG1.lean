/- What Go functions that the laws reach compute, and that they do: written by a program of this session. -/
import Derived.Test.YtbmlleocidldpaaG0
import Derived.KernelRfl
set_option linter.unusedVariables false
namespace Go.Proofs.Ytbmlleocidldpaa
open Go Go.Proofs.Ytbmlleocidldpaa.Am Go.Proofs.Try
set_option maxRecDepth 100000
/-! spec.l8Elements -/
noncomputable def E129_at39 : Env := ⟨ty0, fun g => ifEq g 156 (some A156) (ifEq g 158 (some A158) (ifEq g 103 (some A103) (ifEq g 160 (some A160) (ifEq g 161 (some A161) (ifEq g 162 (some A162) (none)))))), fun _ => none, fun _ => none, fun _ => none⟩
theorem E129_at39_ok : FnsOk prog E129_at39 := (oneFn A156_ok func156 (by kernel_rfl) (by kernel_rfl) (oneFn A158_ok func158 (by kernel_rfl) (by kernel_rfl) (oneFn A103_ok func103 (by kernel_rfl) (by kernel_rfl) (oneFn A160_ok func160 (by kernel_rfl) (by kernel_rfl) (oneFn A161_ok func161 (by kernel_rfl) (by kernel_rfl) (oneFn A162_ok func162 (by kernel_rfl) (by kernel_rfl) (noFns _ _)))))))
noncomputable def L129_at39_0 : Nat → Option LoopD := fun _ => none
def sh129_at39_2 : List Fm := [.box 100000 [.own (.pair (.pair (.int .i64) (.sl (.int .i64))) .str) 100001 true, .val .bool], d, .cell (.val .str), d, .box 100400 [.val (.int .i64), .val (.sl (.int .i64))], d, d, d, d, d, d, .cell (.val (.sl (.pair (.pair (.int .i64) (.sl (.int .i64))) .str))), .cell (.val (.int .i64)), .cell (.val (.int .i64)), d, d, d, d, d, d, d, d, d, d, d, d, d, d, d, d, d, d, d, d, d, d, d, d, d, d, d, d, d, d, d, d, d, d, d, d, d, d, d, d, d, d, d, d, d, d, d, d, .cell (.val .bool), .box 106300 [.val (.int .i64), .val (.sl (.int .i64)), .val (.sl (.int .i64)), .val (.sl (.pair (.int .i64) (.pair .str (.pair (.int .i64) (.int .i64)))))], d, d, d, .ali 100000 0, .cell (.own (.pair (.pair (.int .i64) (.sl (.int .i64))) .str) 106800 false), d, d, d, d, d, d, d, d, d, d, d, d, .cell (.own .str 108100 false), .cell (.val (.int .i64)), .cell (.val (.int .i64)), d, d, d, d, d, d, d, d, d, d, d, d, d, d, d, d, d, d, d, d, d, d, d, d, d, d, d, d, d, d, d, d, d, d, d, d, d, d, d, d, d, d, d, d, d, d, d, d, d, d, d, d, d, d, d, d, d, d, d, d, d, d, d, d, d, d, d, d, d, d, d, d, d, d, d, d, d, d, d, d, d, d, d, d, d, d, d, d, d, d, d, d, d, d, d, d, d, d, d, d, d, d, d, d, d, d, d, d]
def xs129_at39_2 : List (Ex × List Fm) := [(.ret, [d, d, d, d, d, d, d, d, d, d, d, d, d, d, d, d, d, d, d, d, d, d, d, d, d, d, d, d, d, d, d, d, d, d, d, d, d, d, d, d, d, d, d, d, d, d, d, d, d, d, d, d, d, d, d, d, d, d, d, d, d, d, .cell (.val .bool), .box 106300 [.val (.int .i64), .val (.sl (.int .i64)), .val (.sl (.int .i64)), .val (.sl (.pair (.int .i64) (.pair .str (.pair (.int .i64) (.int .i64)))))], d, d, d, .box 106700 [.own (.pair (.pair (.int .i64) (.sl (.int .i64))) .str) 106701 true, .val .bool], .cell (.own (.pair (.pair (.int .i64) (.sl (.int .i64))) .str) 106800 false), d, d, d, d, d, d, d, d, d, d, d, d, .cell (.own .str 108100 false), .cell (.val (.int .i64)), .cell (.val (.int .i64)), d, d, d, d, d, d, d, d, d, d, d, d, d, d, d, d, d, d, d, d, d, d, d, d, d, d, d, d, d, d, d, d, d, d, d, d, d, d, d, d, d, d, d, d, d, d, d, d, d, d, d, d, d, d, d, d, d, d, d, d, d, d, d, d, d, d, d, d, d, d, d, d, d, d, d, d, d, d, d, d, d, d, d, d, d, d, d, d, d, d, d, d, d, d, d, d, d, d, d, d, d, d, d, d, d, d, d, d]), (.exit 0, [.box 100000 [.own (.pair (.pair (.int .i64) (.sl (.int .i64))) .str) 100001 true, .val .bool], d, .cell (.val .str), d, .box 100400 [.val (.int .i64), .val (.sl (.int .i64))], d, d, d, d, d, d, d, d, d, d, d, d, d, d, d, d, d, d, d, d, d, d, d, d, d, d, d, d, d, d, d, d, d, d, d, d, d, d, d, d, d, d, d, d, d, d, d, d, d, d, d, d, d, d, d, d, d, .cell (.val .bool), .box 106300 [.val (.int .i64), .val (.sl (.int .i64)), .val (.sl (.int .i64)), .val (.sl (.pair (.int .i64) (.pair .str (.pair (.int .i64) (.int .i64)))))], d, d, d, .ali 100000 0, .cell (.own (.pair (.pair (.int .i64) (.sl (.int .i64))) .str) 106800 false), d, d, d, d, d, d, d, d, d, d, d, d, .cell (.own .str 108100 false), .cell (.val (.int .i64)), .cell (.val (.int .i64)), d, d, d, d, d, d, d, d, d, d, d, d, d, d, d, d, d, d, d, d, d, d, d, d, d, d, d, d, d, d, d, d, d, d, d, d, d, d, d, d, d, d, d, d, d, d, d, d, d, d, d, d, d, d, d, d, d, d, d, d, d, d, d, d, d, d, d, d, d, d, d, d, d, d, d, d, d, d, d, d, d, d, d, d, d, d, d, d, d, d, d, d, d, d, d, d, d, d, d, d, d, d, d, d, d, d, d, d])]
noncomputable def spec_l8Elements_at39_l2 : (((List ((Int × (List Int)) × ByteArray)) × Bool × Unit) × ByteArray × (Int × (List Int) × Unit) × (List ((Int × (List Int)) × ByteArray)) × Int × Int × Bool × (Int × (List Int) × (List Int) × (List (Int × (ByteArray × (Int × Int)))) × Unit) × (List ((Int × (List Int)) × ByteArray)) × (List ByteArray) × Int × Int × Unit) → Option ((((List ((Int × (List Int)) × ByteArray)) × Bool × Unit) × ByteArray × (Int × (List Int) × Unit) × (List ((Int × (List Int)) × ByteArray)) × Int × Int × Bool × (Int × (List Int) × (List Int) × (List (Int × (ByteArray × (Int × Int)))) × Unit) × (List ((Int × (List Int)) × ByteArray)) × (List ByteArray) × Int × Int × Unit) ⊕ ((Bool × (Int × (List Int) × (List Int) × (List (Int × (ByteArray × (Int × Int)))) × Unit) × ((List ((Int × (List Int)) × ByteArray)) × Bool × Unit) × (List ((Int × (List Int)) × ByteArray)) × (List ByteArray) × Int × Int × Unit) ⊕ (((List ((Int × (List Int)) × ByteArray)) × Bool × Unit) × ByteArray × (Int × (List Int) × Unit) × Bool × (Int × (List Int) × (List Int) × (List (Int × (ByteArray × (Int × Int)))) × Unit) × (List ((Int × (List Int)) × ByteArray)) × (List ByteArray) × Int × Int × Unit))) := fun ((v0_0, v0_1, _), v2, (v4_0, v4_1, _), v11, v12, v13, v62, (v63_0, v63_1, v63_2, v63_3, _), v68, v81, v82, v83, _) =>
  bif (decide (v13 < v12)) then
    if (((0 : Int) ≤ v13) ∧ (v13 < (((List.length v11) : Nat) : Int))) then
      Option.bind (spec_l2Same (List.getD v11 (Int.toNat v13) (((0 : Int), []), (⟨Array.empty⟩ : ByteArray))).1.2 v4_1) fun r0 =>
        bif r0 then
          if ((0 + (List.length v0_0)) = (List.length v0_0)) then
            some (Sum.inr (Sum.inl (v62, (v63_0, v63_1, v63_2, v63_3, ()), ((List.drop 0 v0_0), v0_1, ()), (List.take (List.length v68) (List.drop 0 v68)), (List.take (List.length v81) (List.drop 0 v81)), v82, v83, ())))
          else
            none
        else
          if ((0 + (List.length v0_0)) = (List.length v0_0)) then
            some (Sum.inl (((List.drop 0 v0_0), v0_1, ()), v2, (v4_0, v4_1, ()), v11, v12, (IntKind.wrap .i64 (v13 + (1 : Int))), v62, (v63_0, v63_1, v63_2, v63_3, ()), (List.take (List.length v68) (List.drop 0 v68)), (List.take (List.length v81) (List.drop 0 v81)), v82, v83, ()))
          else
            none
    else
      none
  else
    if ((0 + (List.length v0_0)) = (List.length v0_0)) then
      some (Sum.inr (Sum.inr (((List.drop 0 v0_0), v0_1, ()), v2, (v4_0, v4_1, ()), v62, (v63_0, v63_1, v63_2, v63_3, ()), (List.take (List.length v68) (List.drop 0 v68)), (List.take (List.length v81) (List.drop 0 v81)), v82, v83, ())))
    else
      none
theorem spec_l8Elements_at39_l2_eq : loopStep 61 E129_at39 L129_at39_0 (loopOf f159 2) sh129_at39_2 xs129_at39_2 = spec_l8Elements_at39_l2 := by kernel_rfl
theorem loop129_at39_2 {L : Nat → Option LoopD} (h : L 2 = some ⟨61, sh129_at39_2, xs129_at39_2, spec_l8Elements_at39_l2⟩) : LoopOk prog L (loopOf f159 2) :=
  loopOk (tysOk_of tyl_ok) E129_at39_ok (codeOk_in (L := L129_at39_0) (tysOk_of tyl_ok) E129_at39_ok mixed (c := loopOf f159 2) (bs := []) (by kernel_rfl) allNil (by kernel_rfl)) (by kernel_rfl) (by kernel_rfl) spec_l8Elements_at39_l2_eq (by rw [show firstId (loopOf f159 2) = 2 from by kernel_rfl]; exact h)
noncomputable def L129_at39_1 : Nat → Option LoopD := fun n => ifEq n 2 (some ⟨61, sh129_at39_2, xs129_at39_2, spec_l8Elements_at39_l2⟩) (L129_at39_0 n)
def shi129_at39 : List Fm := [.box 100000 [.own (.pair (.pair (.int .i64) (.sl (.int .i64))) .str) 100001 true, .val .bool], .cell (.val (.pair (.int .i64) (.sl (.int .i64)))), .cell (.val .str), d, d, d, d, d, d, d, d, d, d, d, d, d, d, d, d, d, d, d, d, d, d, d, d, d, d, d, d, d, d, d, d, d, d, d, d, d, d, d, d, d, d, d, d, d, d, d, d, d, d, d, d, d, d, d, d, d, d, d, .cell (.val .bool), .box 106300 [.val (.int .i64), .val (.sl (.int .i64)), .val (.sl (.int .i64)), .val (.sl (.pair (.int .i64) (.pair .str (.pair (.int .i64) (.int .i64)))))], d, d, d, .ali 100000 0, .cell (.own (.pair (.pair (.int .i64) (.sl (.int .i64))) .str) 106800 false), d, d, d, d, d, d, d, d, d, d, d, d, .cell (.own .str 108100 false), .cell (.val (.int .i64)), .cell (.val (.int .i64)), d, d, d, d, d, d, d, d, d, d, d, d, d, d, d, d, d, d, d, d, d, d, d, d, d, d, d, d, d, d, d, d, d, d, d, d, d, d, d, d, d, d, d, d, d, d, d, d, d, d, d, d, d, d, d, d, d, d, d, d, d, d, d, d, d, d, d, d, d, d, d, d, d, d, d, d, d, d, d, d, d, d, d, d, d, d, d, d, d, d, d, d, d, d, d, d, d, d, d, d, d, d, d, d, d, d, d, d]
def sho129_at39 : List Fm := [d, .cell (.val .bool), .box 100200 [.val (.int .i64), .val (.sl (.int .i64)), .val (.sl (.int .i64)), .val (.sl (.pair (.int .i64) (.pair .str (.pair (.int .i64) (.int .i64)))))], d, d, d, .box 100600 [.own (.pair (.pair (.int .i64) (.sl (.int .i64))) .str) 100601 true, .val .bool], .cell (.own (.pair (.pair (.int .i64) (.sl (.int .i64))) .str) 100700 false), d, d, d, d, d, d, d, d, d, d, d, d, .cell (.own .str 102000 false), .cell (.val (.int .i64)), .cell (.val (.int .i64)), d, d, d, d, d, d, d, d, d, d, d, d, d, d, d, d, d, d, d, d, d, d, d, d, d, d, d, d, d, d, d, d, d, d, d, d, d, d, d, d, d, d, d, d, d, d, d, d, d, d, d, d, d, d, d, d, d, d, d, d, d, d, d, d, d, d, d, d, d, d, d, d, d, d, d, d, d, d, d, d, d, d, d, d, d, d, d, d, d, d, d, d, d, d, d, d, d, d, d, d, d, d, d, d, d, d, d, d]
noncomputable def spec_l8Elements_at39 : (((List ((Int × (List Int)) × ByteArray)) × Bool × Unit) × (Int × (List Int)) × ByteArray × Bool × (Int × (List Int) × (List Int) × (List (Int × (ByteArray × (Int × Int)))) × Unit) × (List ((Int × (List Int)) × ByteArray)) × (List ByteArray) × Int × Int × Unit) → Option (Bool × (Int × (List Int) × (List Int) × (List (Int × (ByteArray × (Int × Int)))) × Unit) × ((List ((Int × (List Int)) × ByteArray)) × Bool × Unit) × (List ((Int × (List Int)) × ByteArray)) × (List ByteArray) × Int × Int × Unit) := fun ((v0_0, v0_1, _), (v1_0, v1_1), v2, v62, (v63_0, v63_1, v63_2, v63_3, _), v68, v81, v82, v83, _) =>
  if ((0 + (List.length v0_0)) = (List.length v0_0)) then
    Option.bind (loopF spec_l8Elements_at39_l2 (((List.drop 0 v0_0), v0_1, ()), v2, (v1_0, v1_1, ()), (List.take (List.length v0_0) (List.drop 0 v0_0)), (((List.length v0_0) : Nat) : Int), (0 : Int), v62, (v63_0, v63_1, v63_2, v63_3, ()), (List.take (List.length v68) (List.drop 0 v68)), (List.take (List.length v81) (List.drop 0 v81)), v82, v83, ())) fun r0 =>
      (match r0 with
      | .inl (d1, (d2, d3, d4, d5, _), (d6, d7, _), d8, d9, d10, d11, _) =>
          if ((0 + (List.length d6)) = (List.length d6)) then
            some (d1, (d2, d3, d4, d5, ()), ((List.drop 0 d6), d7, ()), (List.take (List.length d8) (List.drop 0 d8)), (List.take (List.length d9) (List.drop 0 d9)), d10, d11, ())
          else
            none
      | .inr ((d12, d13, _), d14, (d15, d16, _), d17, (d18, d19, d20, d21, _), d22, d23, d24, d25, _) =>
          bif d13 then
            if ((0 + (List.length d12)) = (List.length d12)) then
              some (d17, (d18, d19, d20, d21, ()), ((List.drop 0 d12), true, ()), (List.take (List.length d22) (List.drop 0 d22)), (List.take (List.length d23) (List.drop 0 d23)), d24, d25, ())
            else
              none
          else
            bif (decide ((((List.length d12) : Nat) : Int) ≥ (120 : Int))) then
              if ((0 + (List.length d12)) = (List.length d12)) then
                some (d17, (d18, d19, d20, d21, ()), ((List.drop 0 d12), true, ()), (List.take (List.length d22) (List.drop 0 d22)), (List.take (List.length d23) (List.drop 0 d23)), d24, d25, ())
              else
                none
            else
              bif (!(decide ((((ByteArray.size d14) : Nat) : Int) > (120 : Int)))) then
                if (((0 + (List.length d12)) = (List.length d12)) ∧ ((((List.length d12) + (List.length (List.take 1 (List.drop 0 [((d15, d16), d14)])))) * 48) ≤ 140737488355328)) then
                  if ((0 + ((List.length d12) + (List.length (List.take 1 (List.drop 0 [((d15, d16), d14)]))))) = (List.length ((List.drop 0 d12) ++ (List.take 1 (List.drop 0 [((d15, d16), d14)]))))) then
                    some (d17, (d18, d19, d20, d21, ()), ((List.drop 0 ((List.drop 0 d12) ++ (List.take 1 (List.drop 0 [((d15, d16), d14)])))), (decide ((((ByteArray.size d14) : Nat) : Int) > (120 : Int))), ()), (List.take (List.length d22) (List.drop 0 d22)), (List.take (List.length d23) (List.drop 0 d23)), d24, d25, ())
                  else
                    none
                else
                  none
              else
                if ((0 + (List.length d12)) = (List.length d12)) then
                  some (d17, (d18, d19, d20, d21, ()), ((List.drop 0 d12), (decide ((((ByteArray.size d14) : Nat) : Int) > (120 : Int))), ()), (List.take (List.length d22) (List.drop 0 d22)), (List.take (List.length d23) (List.drop 0 d23)), d24, d25, ())
                else
                  none)
  else
    none
theorem spec_l8Elements_at39_eq : inlStep f159.ntmps 131 39 E129_at39 L129_at39_1 f159.results.toList (codeOf f159) shi129_at39 sho129_at39 = spec_l8Elements_at39 := by kernel_rfl
noncomputable def I129_at39 : CallD := ⟨f159.ntmps, shi129_at39, 131, sho129_at39, spec_l8Elements_at39⟩
theorem I129_at39_ok : InlOk prog 39 159 I129_at39 := inlOk_of (tysOk_of tyl_ok) E129_at39_ok (L := L129_at39_1) func159 (by kernel_rfl) (c := codeOf f159) (by kernel_rfl) (codeOk_in (L := L129_at39_1) (tysOk_of tyl_ok) E129_at39_ok mixed (c := codeOf f159) (bs := [loopOf f159 2]) (by kernel_rfl) (allCons (loop129_at39_2 rfl) allNil) (by kernel_rfl)) (by kernel_rfl) (by kernel_rfl) spec_l8Elements_at39_eq
noncomputable def E129_at78 : Env := ⟨ty0, fun g => ifEq g 156 (some A156) (ifEq g 158 (some A158) (ifEq g 103 (some A103) (ifEq g 160 (some A160) (ifEq g 161 (some A161) (ifEq g 162 (some A162) (none)))))), fun _ => none, fun _ => none, fun _ => none⟩
theorem E129_at78_ok : FnsOk prog E129_at78 := (oneFn A156_ok func156 (by kernel_rfl) (by kernel_rfl) (oneFn A158_ok func158 (by kernel_rfl) (by kernel_rfl) (oneFn A103_ok func103 (by kernel_rfl) (by kernel_rfl) (oneFn A160_ok func160 (by kernel_rfl) (by kernel_rfl) (oneFn A161_ok func161 (by kernel_rfl) (by kernel_rfl) (oneFn A162_ok func162 (by kernel_rfl) (by kernel_rfl) (noFns _ _)))))))
noncomputable def L129_at78_0 : Nat → Option LoopD := fun _ => none
def sh129_at78_2 : List Fm := [.box 100000 [.own (.pair (.pair (.int .i64) (.sl (.int .i64))) .str) 100001 true, .val .bool], d, .cell (.val .str), d, .box 100400 [.val (.int .i64), .own (.int .i64) 100402 false], d, d, d, d, d, d, .cell (.val (.sl (.pair (.pair (.int .i64) (.sl (.int .i64))) .str))), .cell (.val (.int .i64)), .cell (.val (.int .i64)), d, d, d, d, d, d, d, d, d, d, d, d, d, d, d, d, d, d, d, d, d, d, d, d, d, d, d, d, d, d, d, d, d, d, d, d, d, d, d, d, d, d, d, d, d, d, d, d, .cell (.val .bool), d, d, d, d, .ali 100000 0, .cell (.val (.sl (.pair (.pair (.int .i64) (.sl (.int .i64))) .str))), d, d, d, .cell (.val (.int .i64)), .box 107300 [.val (.int .i64), .val (.sl (.int .i64)), .val .str], d, d, d, d, d, d, d, d, d, d, d, d, d, d, d, d, d, d, d, d, d, d, d, d, d, d, d, d, d, d, d, d, d, d, d, d, d, d, d, d, d, d, d, d, d, d, d, d, d, d, d, d, d, d, d, d, d, d, d, d, d, d, d, d, d, d, d, d, d, d, d, d, d, d, d, d, d, d, d, d, d, d, d, d, d, d, d, d, d, d, d, d, d, d, d, d, d, d, d, d, d, d, d, d, d, d, d, d, d, d, d, d, d, d, d, d, d, d]
def xs129_at78_2 : List (Ex × List Fm) := [(.ret, [d, d, d, d, d, d, d, d, d, d, d, d, d, d, d, d, d, d, d, d, d, d, d, d, d, d, d, d, d, d, d, d, d, d, d, d, d, d, d, d, d, d, d, d, d, d, d, d, d, d, d, d, d, d, d, d, d, d, d, d, d, d, .cell (.val .bool), d, d, d, d, .box 106700 [.own (.pair (.pair (.int .i64) (.sl (.int .i64))) .str) 106701 true, .val .bool], .cell (.val (.sl (.pair (.pair (.int .i64) (.sl (.int .i64))) .str))), d, d, d, .cell (.val (.int .i64)), .box 107300 [.val (.int .i64), .val (.sl (.int .i64)), .val .str], d, d, d, d, d, d, d, d, d, d, d, d, d, d, d, d, d, d, d, d, d, d, d, d, d, d, d, d, d, d, d, d, d, d, d, d, d, d, d, d, d, d, d, d, d, d, d, d, d, d, d, d, d, d, d, d, d, d, d, d, d, d, d, d, d, d, d, d, d, d, d, d, d, d, d, d, d, d, d, d, d, d, d, d, d, d, d, d, d, d, d, d, d, d, d, d, d, d, d, d, d, d, d, d, d, d, d, d, d, d, d, d, d, d, d, d, d, d]), (.exit 0, [.box 100000 [.own (.pair (.pair (.int .i64) (.sl (.int .i64))) .str) 100001 true, .val .bool], d, .cell (.val .str), d, .box 100400 [.val (.int .i64), .own (.int .i64) 100402 false], d, d, d, d, d, d, d, d, d, d, d, d, d, d, d, d, d, d, d, d, d, d, d, d, d, d, d, d, d, d, d, d, d, d, d, d, d, d, d, d, d, d, d, d, d, d, d, d, d, d, d, d, d, d, d, d, d, .cell (.val .bool), d, d, d, d, .ali 100000 0, .cell (.val (.sl (.pair (.pair (.int .i64) (.sl (.int .i64))) .str))), d, d, d, .cell (.val (.int .i64)), .box 107300 [.val (.int .i64), .val (.sl (.int .i64)), .val .str], d, d, d, d, d, d, d, d, d, d, d, d, d, d, d, d, d, d, d, d, d, d, d, d, d, d, d, d, d, d, d, d, d, d, d, d, d, d, d, d, d, d, d, d, d, d, d, d, d, d, d, d, d, d, d, d, d, d, d, d, d, d, d, d, d, d, d, d, d, d, d, d, d, d, d, d, d, d, d, d, d, d, d, d, d, d, d, d, d, d, d, d, d, d, d, d, d, d, d, d, d, d, d, d, d, d, d, d, d, d, d, d, d, d, d, d, d, d])]
noncomputable def spec_l8Elements_at78_l2 : (((List ((Int × (List Int)) × ByteArray)) × Bool × Unit) × ByteArray × (Int × (List Int) × Unit) × (List ((Int × (List Int)) × ByteArray)) × Int × Int × Bool × (List ((Int × (List Int)) × ByteArray)) × Int × (Int × (List Int) × ByteArray × Unit) × Unit) → Option ((((List ((Int × (List Int)) × ByteArray)) × Bool × Unit) × ByteArray × (Int × (List Int) × Unit) × (List ((Int × (List Int)) × ByteArray)) × Int × Int × Bool × (List ((Int × (List Int)) × ByteArray)) × Int × (Int × (List Int) × ByteArray × Unit) × Unit) ⊕ ((Bool × ((List ((Int × (List Int)) × ByteArray)) × Bool × Unit) × (List ((Int × (List Int)) × ByteArray)) × Int × (Int × (List Int) × ByteArray × Unit) × Unit) ⊕ (((List ((Int × (List Int)) × ByteArray)) × Bool × Unit) × ByteArray × (Int × (List Int) × Unit) × Bool × (List ((Int × (List Int)) × ByteArray)) × Int × (Int × (List Int) × ByteArray × Unit) × Unit))) := fun ((v0_0, v0_1, _), v2, (v4_0, v4_1, _), v11, v12, v13, v62, v68, v72, (v73_0, v73_1, v73_2, _), _) =>
  bif (decide (v13 < v12)) then
    if (((0 : Int) ≤ v13) ∧ (v13 < (((List.length v11) : Nat) : Int))) then
      Option.bind (spec_l2Same (List.getD v11 (Int.toNat v13) (((0 : Int), []), (⟨Array.empty⟩ : ByteArray))).1.2 (List.take (List.length v4_1) (List.drop 0 v4_1))) fun r0 =>
        bif r0 then
          if ((0 + (List.length v0_0)) = (List.length v0_0)) then
            some (Sum.inr (Sum.inl (v62, ((List.drop 0 v0_0), v0_1, ()), v68, v72, (v73_0, v73_1, v73_2, ()), ())))
          else
            none
        else
          if ((0 + (List.length v0_0)) = (List.length v0_0)) then
            some (Sum.inl (((List.drop 0 v0_0), v0_1, ()), v2, (v4_0, (List.take (List.length v4_1) (List.drop 0 v4_1)), ()), v11, v12, (IntKind.wrap .i64 (v13 + (1 : Int))), v62, v68, v72, (v73_0, v73_1, v73_2, ()), ()))
          else
            none
    else
      none
  else
    if ((0 + (List.length v0_0)) = (List.length v0_0)) then
      some (Sum.inr (Sum.inr (((List.drop 0 v0_0), v0_1, ()), v2, (v4_0, (List.take (List.length v4_1) (List.drop 0 v4_1)), ()), v62, v68, v72, (v73_0, v73_1, v73_2, ()), ())))
    else
      none
theorem spec_l8Elements_at78_l2_eq : loopStep 61 E129_at78 L129_at78_0 (loopOf f159 2) sh129_at78_2 xs129_at78_2 = spec_l8Elements_at78_l2 := by kernel_rfl
theorem loop129_at78_2 {L : Nat → Option LoopD} (h : L 2 = some ⟨61, sh129_at78_2, xs129_at78_2, spec_l8Elements_at78_l2⟩) : LoopOk prog L (loopOf f159 2) :=
  loopOk (tysOk_of tyl_ok) E129_at78_ok (codeOk_in (L := L129_at78_0) (tysOk_of tyl_ok) E129_at78_ok mixed (c := loopOf f159 2) (bs := []) (by kernel_rfl) allNil (by kernel_rfl)) (by kernel_rfl) (by kernel_rfl) spec_l8Elements_at78_l2_eq (by rw [show firstId (loopOf f159 2) = 2 from by kernel_rfl]; exact h)
noncomputable def L129_at78_1 : Nat → Option LoopD := fun n => ifEq n 2 (some ⟨61, sh129_at78_2, xs129_at78_2, spec_l8Elements_at78_l2⟩) (L129_at78_0 n)
def shi129_at78 : List Fm := [.box 100000 [.own (.pair (.pair (.int .i64) (.sl (.int .i64))) .str) 100001 true, .val .bool], .agg [.val (.int .i64), .own (.int .i64) 100102 false], .cell (.val .str), d, d, d, d, d, d, d, d, d, d, d, d, d, d, d, d, d, d, d, d, d, d, d, d, d, d, d, d, d, d, d, d, d, d, d, d, d, d, d, d, d, d, d, d, d, d, d, d, d, d, d, d, d, d, d, d, d, d, d, .cell (.val .bool), d, d, d, d, .ali 100000 0, .cell (.val (.sl (.pair (.pair (.int .i64) (.sl (.int .i64))) .str))), d, d, d, .cell (.val (.int .i64)), .box 107300 [.val (.int .i64), .val (.sl (.int .i64)), .val .str], d, d, d, d, d, d, d, d, d, d, d, d, d, d, d, d, d, d, d, d, d, d, d, d, d, d, d, d, d, d, d, d, d, d, d, d, d, d, d, d, d, d, d, d, d, d, d, d, d, d, d, d, d, d, d, d, d, d, d, d, d, d, d, d, d, d, d, d, d, d, d, d, d, d, d, d, d, d, d, d, d, d, d, d, d, d, d, d, d, d, d, d, d, d, d, d, d, d, d, d, d, d, d, d, d, d, d, d, d, d, d, d, d, d, d, d, d, d]
def sho129_at78 : List Fm := [d, .cell (.val .bool), d, d, d, d, .box 100600 [.own (.pair (.pair (.int .i64) (.sl (.int .i64))) .str) 100601 true, .val .bool], .cell (.val (.sl (.pair (.pair (.int .i64) (.sl (.int .i64))) .str))), d, d, d, .cell (.val (.int .i64)), .box 101200 [.val (.int .i64), .val (.sl (.int .i64)), .val .str], d, d, d, d, d, d, d, d, d, d, d, d, d, d, d, d, d, d, d, d, d, d, d, d, d, d, d, d, d, d, d, d, d, d, d, d, d, d, d, d, d, d, d, d, d, d, d, d, d, d, d, d, d, d, d, d, d, d, d, d, d, d, d, d, d, d, d, d, d, d, d, d, d, d, d, d, d, d, d, d, d, d, d, d, d, d, d, d, d, d, d, d, d, d, d, d, d, d, d, d, d, d, d, d, d, d, d, d, d, d, d, d, d, d, d, d, d, d]
noncomputable def spec_l8Elements_at78 : (((List ((Int × (List Int)) × ByteArray)) × Bool × Unit) × (Int × (List Int) × Unit) × ByteArray × Bool × (List ((Int × (List Int)) × ByteArray)) × Int × (Int × (List Int) × ByteArray × Unit) × Unit) → Option (Bool × ((List ((Int × (List Int)) × ByteArray)) × Bool × Unit) × (List ((Int × (List Int)) × ByteArray)) × Int × (Int × (List Int) × ByteArray × Unit) × Unit) := fun ((v0_0, v0_1, _), (v1_0, v1_1, _), v2, v62, v68, v72, (v73_0, v73_1, v73_2, _), _) =>
  if ((0 + (List.length v0_0)) = (List.length v0_0)) then
    Option.bind (loopF spec_l8Elements_at78_l2 (((List.drop 0 v0_0), v0_1, ()), v2, (v1_0, (List.take (List.length v1_1) (List.drop 0 v1_1)), ()), (List.take (List.length v0_0) (List.drop 0 v0_0)), (((List.length v0_0) : Nat) : Int), (0 : Int), v62, v68, v72, (v73_0, v73_1, v73_2, ()), ())) fun r0 =>
      (match r0 with
      | .inl (d1, (d2, d3, _), d4, d5, (d6, d7, d8, _), _) =>
          if ((0 + (List.length d2)) = (List.length d2)) then
            some (d1, ((List.drop 0 d2), d3, ()), d4, d5, (d6, d7, d8, ()), ())
          else
            none
      | .inr ((d9, d10, _), d11, (d12, d13, _), d14, d15, d16, (d17, d18, d19, _), _) =>
          bif d10 then
            if ((0 + (List.length d9)) = (List.length d9)) then
              some (d14, ((List.drop 0 d9), true, ()), d15, d16, (d17, d18, d19, ()), ())
            else
              none
          else
            bif (decide ((((List.length d9) : Nat) : Int) ≥ (120 : Int))) then
              if ((0 + (List.length d9)) = (List.length d9)) then
                some (d14, ((List.drop 0 d9), true, ()), d15, d16, (d17, d18, d19, ()), ())
              else
                none
            else
              bif (!(decide ((((ByteArray.size d11) : Nat) : Int) > (120 : Int)))) then
                if (((0 + (List.length d9)) = (List.length d9)) ∧ ((((List.length d9) + (List.length (List.take 1 (List.drop 0 [((d12, (List.take (List.length d13) (List.drop 0 d13))), d11)])))) * 48) ≤ 140737488355328)) then
                  if ((0 + ((List.length d9) + (List.length (List.take 1 (List.drop 0 [((d12, (List.take (List.length d13) (List.drop 0 d13))), d11)]))))) = (List.length ((List.drop 0 d9) ++ (List.take 1 (List.drop 0 [((d12, (List.take (List.length d13) (List.drop 0 d13))), d11)]))))) then
                    some (d14, ((List.drop 0 ((List.drop 0 d9) ++ (List.take 1 (List.drop 0 [((d12, (List.take (List.length d13) (List.drop 0 d13))), d11)])))), (decide ((((ByteArray.size d11) : Nat) : Int) > (120 : Int))), ()), d15, d16, (d17, d18, d19, ()), ())
                  else
                    none
                else
                  none
              else
                if ((0 + (List.length d9)) = (List.length d9)) then
                  some (d14, ((List.drop 0 d9), (decide ((((ByteArray.size d11) : Nat) : Int) > (120 : Int))), ()), d15, d16, (d17, d18, d19, ()), ())
                else
                  none)
  else
    none
theorem spec_l8Elements_at78_eq : inlStep f159.ntmps 131 78 E129_at78 L129_at78_1 f159.results.toList (codeOf f159) shi129_at78 sho129_at78 = spec_l8Elements_at78 := by kernel_rfl
noncomputable def I129_at78 : CallD := ⟨f159.ntmps, shi129_at78, 131, sho129_at78, spec_l8Elements_at78⟩
theorem I129_at78_ok : InlOk prog 78 159 I129_at78 := inlOk_of (tysOk_of tyl_ok) E129_at78_ok (L := L129_at78_1) func159 (by kernel_rfl) (c := codeOf f159) (by kernel_rfl) (codeOk_in (L := L129_at78_1) (tysOk_of tyl_ok) E129_at78_ok mixed (c := codeOf f159) (bs := [loopOf f159 2]) (by kernel_rfl) (allCons (loop129_at78_2 rfl) allNil) (by kernel_rfl)) (by kernel_rfl) (by kernel_rfl) spec_l8Elements_at78_eq
noncomputable def E129_at107 : Env := ⟨ty0, fun g => ifEq g 156 (some A156) (ifEq g 158 (some A158) (ifEq g 103 (some A103) (ifEq g 160 (some A160) (ifEq g 161 (some A161) (ifEq g 162 (some A162) (none)))))), fun _ => none, fun _ => none, fun _ => none⟩
theorem E129_at107_ok : FnsOk prog E129_at107 := (oneFn A156_ok func156 (by kernel_rfl) (by kernel_rfl) (oneFn A158_ok func158 (by kernel_rfl) (by kernel_rfl) (oneFn A103_ok func103 (by kernel_rfl) (by kernel_rfl) (oneFn A160_ok func160 (by kernel_rfl) (by kernel_rfl) (oneFn A161_ok func161 (by kernel_rfl) (by kernel_rfl) (oneFn A162_ok func162 (by kernel_rfl) (by kernel_rfl) (noFns _ _)))))))
noncomputable def L129_at107_0 : Nat → Option LoopD := fun _ => none
def sh129_at107_2 : List Fm := [.box 100000 [.own (.pair (.pair (.int .i64) (.sl (.int .i64))) .str) 100001 true, .val .bool], d, .cell (.val .str), d, .box 100400 [.val (.int .i64), .own (.int .i64) 100402 false], d, d, d, d, d, d, .cell (.val (.sl (.pair (.pair (.int .i64) (.sl (.int .i64))) .str))), .cell (.val (.int .i64)), .cell (.val (.int .i64)), d, d, d, d, d, d, d, d, d, d, d, d, d, d, d, d, d, d, d, d, d, d, d, d, d, d, d, d, d, d, d, d, d, d, d, d, d, d, d, d, d, d, d, d, d, d, d, d, .cell (.val .bool), d, d, d, d, .ali 100000 0, .cell (.val (.sl (.pair (.pair (.int .i64) (.sl (.int .i64))) .str))), d, d, d, .cell (.val (.int .i64)), .box 107300 [.val (.int .i64), .val (.sl (.int .i64)), .val .str], d, d, .box 107600 [.val (.int .i64), .val (.sl (.int .i64)), .val .str], d, d, d, d, d, d, d, d, d, d, d, d, d, d, d, d, d, d, d, d, d, d, d, d, d, d, d, d, d, d, d, d, d, d, d, d, d, d, d, d, d, d, d, d, d, d, d, d, d, d, d, d, d, d, d, d, d, d, d, d, d, d, d, d, d, d, d, d, d, d, d, d, d, d, .cell (.val (.sl (.pair (.pair (.int .i64) (.sl (.int .i64))) .str))), .cell (.val (.int .i64)), .cell (.val (.int .i64)), d, d, d, d, d, d, d, d, d, d, d, d, d, d, d, d, d, d, d, d, d, d, d, d, d, d, d, d, d, d, d, d, d, d, d, d, d, d]
def xs129_at107_2 : List (Ex × List Fm) := [(.ret, [d, d, d, d, d, d, d, d, d, d, d, d, d, d, d, d, d, d, d, d, d, d, d, d, d, d, d, d, d, d, d, d, d, d, d, d, d, d, d, d, d, d, d, d, d, d, d, d, d, d, d, d, d, d, d, d, d, d, d, d, d, d, .cell (.val .bool), d, d, d, d, .box 106700 [.own (.pair (.pair (.int .i64) (.sl (.int .i64))) .str) 106701 true, .val .bool], .cell (.val (.sl (.pair (.pair (.int .i64) (.sl (.int .i64))) .str))), d, d, d, .cell (.val (.int .i64)), .box 107300 [.val (.int .i64), .val (.sl (.int .i64)), .val .str], d, d, .box 107600 [.val (.int .i64), .val (.sl (.int .i64)), .val .str], d, d, d, d, d, d, d, d, d, d, d, d, d, d, d, d, d, d, d, d, d, d, d, d, d, d, d, d, d, d, d, d, d, d, d, d, d, d, d, d, d, d, d, d, d, d, d, d, d, d, d, d, d, d, d, d, d, d, d, d, d, d, d, d, d, d, d, d, d, d, d, d, d, d, .cell (.val (.sl (.pair (.pair (.int .i64) (.sl (.int .i64))) .str))), .cell (.val (.int .i64)), .cell (.val (.int .i64)), d, d, d, d, d, d, d, d, d, d, d, d, d, d, d, d, d, d, d, d, d, d, d, d, d, d, d, d, d, d, d, d, d, d, d, d, d, d]), (.exit 0, [.box 100000 [.own (.pair (.pair (.int .i64) (.sl (.int .i64))) .str) 100001 true, .val .bool], d, .cell (.val .str), d, .box 100400 [.val (.int .i64), .own (.int .i64) 100402 false], d, d, d, d, d, d, d, d, d, d, d, d, d, d, d, d, d, d, d, d, d, d, d, d, d, d, d, d, d, d, d, d, d, d, d, d, d, d, d, d, d, d, d, d, d, d, d, d, d, d, d, d, d, d, d, d, d, .cell (.val .bool), d, d, d, d, .ali 100000 0, .cell (.val (.sl (.pair (.pair (.int .i64) (.sl (.int .i64))) .str))), d, d, d, .cell (.val (.int .i64)), .box 107300 [.val (.int .i64), .val (.sl (.int .i64)), .val .str], d, d, .box 107600 [.val (.int .i64), .val (.sl (.int .i64)), .val .str], d, d, d, d, d, d, d, d, d, d, d, d, d, d, d, d, d, d, d, d, d, d, d, d, d, d, d, d, d, d, d, d, d, d, d, d, d, d, d, d, d, d, d, d, d, d, d, d, d, d, d, d, d, d, d, d, d, d, d, d, d, d, d, d, d, d, d, d, d, d, d, d, d, d, .cell (.val (.sl (.pair (.pair (.int .i64) (.sl (.int .i64))) .str))), .cell (.val (.int .i64)), .cell (.val (.int .i64)), d, d, d, d, d, d, d, d, d, d, d, d, d, d, d, d, d, d, d, d, d, d, d, d, d, d, d, d, d, d, d, d, d, d, d, d, d, d])]
noncomputable def spec_l8Elements_at107_l2 : (((List ((Int × (List Int)) × ByteArray)) × Bool × Unit) × ByteArray × (Int × (List Int) × Unit) × (List ((Int × (List Int)) × ByteArray)) × Int × Int × Bool × (List ((Int × (List Int)) × ByteArray)) × Int × (Int × (List Int) × ByteArray × Unit) × (Int × (List Int) × ByteArray × Unit) × (List ((Int × (List Int)) × ByteArray)) × Int × Int × Unit) → Option ((((List ((Int × (List Int)) × ByteArray)) × Bool × Unit) × ByteArray × (Int × (List Int) × Unit) × (List ((Int × (List Int)) × ByteArray)) × Int × Int × Bool × (List ((Int × (List Int)) × ByteArray)) × Int × (Int × (List Int) × ByteArray × Unit) × (Int × (List Int) × ByteArray × Unit) × (List ((Int × (List Int)) × ByteArray)) × Int × Int × Unit) ⊕ ((Bool × ((List ((Int × (List Int)) × ByteArray)) × Bool × Unit) × (List ((Int × (List Int)) × ByteArray)) × Int × (Int × (List Int) × ByteArray × Unit) × (Int × (List Int) × ByteArray × Unit) × (List ((Int × (List Int)) × ByteArray)) × Int × Int × Unit) ⊕ (((List ((Int × (List Int)) × ByteArray)) × Bool × Unit) × ByteArray × (Int × (List Int) × Unit) × Bool × (List ((Int × (List Int)) × ByteArray)) × Int × (Int × (List Int) × ByteArray × Unit) × (Int × (List Int) × ByteArray × Unit) × (List ((Int × (List Int)) × ByteArray)) × Int × Int × Unit))) := fun ((v0_0, v0_1, _), v2, (v4_0, v4_1, _), v11, v12, v13, v62, v68, v72, (v73_0, v73_1, v73_2, _), (v76_0, v76_1, v76_2, _), v151, v152, v153, _) =>
  bif (decide (v13 < v12)) then
    if (((0 : Int) ≤ v13) ∧ (v13 < (((List.length v11) : Nat) : Int))) then
      Option.bind (spec_l2Same (List.getD v11 (Int.toNat v13) (((0 : Int), []), (⟨Array.empty⟩ : ByteArray))).1.2 (List.take (List.length v4_1) (List.drop 0 v4_1))) fun r0 =>
        bif r0 then
          if ((0 + (List.length v0_0)) = (List.length v0_0)) then
            some (Sum.inr (Sum.inl (v62, ((List.drop 0 v0_0), v0_1, ()), v68, v72, (v73_0, v73_1, v73_2, ()), (v76_0, v76_1, v76_2, ()), v151, v152, v153, ())))
          else
            none
        else
          if ((0 + (List.length v0_0)) = (List.length v0_0)) then
            some (Sum.inl (((List.drop 0 v0_0), v0_1, ()), v2, (v4_0, (List.take (List.length v4_1) (List.drop 0 v4_1)), ()), v11, v12, (IntKind.wrap .i64 (v13 + (1 : Int))), v62, v68, v72, (v73_0, v73_1, v73_2, ()), (v76_0, v76_1, v76_2, ()), v151, v152, v153, ()))
          else
            none
    else
      none
  else
    if ((0 + (List.length v0_0)) = (List.length v0_0)) then
      some (Sum.inr (Sum.inr (((List.drop 0 v0_0), v0_1, ()), v2, (v4_0, (List.take (List.length v4_1) (List.drop 0 v4_1)), ()), v62, v68, v72, (v73_0, v73_1, v73_2, ()), (v76_0, v76_1, v76_2, ()), v151, v152, v153, ())))
    else
      none
theorem spec_l8Elements_at107_l2_eq : loopStep 61 E129_at107 L129_at107_0 (loopOf f159 2) sh129_at107_2 xs129_at107_2 = spec_l8Elements_at107_l2 := by kernel_rfl
theorem loop129_at107_2 {L : Nat → Option LoopD} (h : L 2 = some ⟨61, sh129_at107_2, xs129_at107_2, spec_l8Elements_at107_l2⟩) : LoopOk prog L (loopOf f159 2) :=
  loopOk (tysOk_of tyl_ok) E129_at107_ok (codeOk_in (L := L129_at107_0) (tysOk_of tyl_ok) E129_at107_ok mixed (c := loopOf f159 2) (bs := []) (by kernel_rfl) allNil (by kernel_rfl)) (by kernel_rfl) (by kernel_rfl) spec_l8Elements_at107_l2_eq (by rw [show firstId (loopOf f159 2) = 2 from by kernel_rfl]; exact h)
noncomputable def L129_at107_1 : Nat → Option LoopD := fun n => ifEq n 2 (some ⟨61, sh129_at107_2, xs129_at107_2, spec_l8Elements_at107_l2⟩) (L129_at107_0 n)
def shi129_at107 : List Fm := [.box 100000 [.own (.pair (.pair (.int .i64) (.sl (.int .i64))) .str) 100001 true, .val .bool], .agg [.val (.int .i64), .own (.int .i64) 100102 false], .cell (.val .str), d, d, d, d, d, d, d, d, d, d, d, d, d, d, d, d, d, d, d, d, d, d, d, d, d, d, d, d, d, d, d, d, d, d, d, d, d, d, d, d, d, d, d, d, d, d, d, d, d, d, d, d, d, d, d, d, d, d, d, .cell (.val .bool), d, d, d, d, .ali 100000 0, .cell (.val (.sl (.pair (.pair (.int .i64) (.sl (.int .i64))) .str))), d, d, d, .cell (.val (.int .i64)), .box 107300 [.val (.int .i64), .val (.sl (.int .i64)), .val .str], d, d, .box 107600 [.val (.int .i64), .val (.sl (.int .i64)), .val .str], d, d, d, d, d, d, d, d, d, d, d, d, d, d, d, d, d, d, d, d, d, d, d, d, d, d, d, d, d, d, d, d, d, d, d, d, d, d, d, d, d, d, d, d, d, d, d, d, d, d, d, d, d, d, d, d, d, d, d, d, d, d, d, d, d, d, d, d, d, d, d, d, d, d, .cell (.val (.sl (.pair (.pair (.int .i64) (.sl (.int .i64))) .str))), .cell (.val (.int .i64)), .cell (.val (.int .i64)), d, d, d, d, d, d, d, d, d, d, d, d, d, d, d, d, d, d, d, d, d, d, d, d, d, d, d, d, d, d, d, d, d, d, d, d, d, d]
def sho129_at107 : List Fm := [d, .cell (.val .bool), d, d, d, d, .box 100600 [.own (.pair (.pair (.int .i64) (.sl (.int .i64))) .str) 100601 true, .val .bool], .cell (.val (.sl (.pair (.pair (.int .i64) (.sl (.int .i64))) .str))), d, d, d, .cell (.val (.int .i64)), .box 101200 [.val (.int .i64), .val (.sl (.int .i64)), .val .str], d, d, .box 101500 [.val (.int .i64), .val (.sl (.int .i64)), .val .str], d, d, d, d, d, d, d, d, d, d, d, d, d, d, d, d, d, d, d, d, d, d, d, d, d, d, d, d, d, d, d, d, d, d, d, d, d, d, d, d, d, d, d, d, d, d, d, d, d, d, d, d, d, d, d, d, d, d, d, d, d, d, d, d, d, d, d, d, d, d, d, d, d, d, .cell (.val (.sl (.pair (.pair (.int .i64) (.sl (.int .i64))) .str))), .cell (.val (.int .i64)), .cell (.val (.int .i64)), d, d, d, d, d, d, d, d, d, d, d, d, d, d, d, d, d, d, d, d, d, d, d, d, d, d, d, d, d, d, d, d, d, d, d, d, d, d]
noncomputable def spec_l8Elements_at107 : (((List ((Int × (List Int)) × ByteArray)) × Bool × Unit) × (Int × (List Int) × Unit) × ByteArray × Bool × (List ((Int × (List Int)) × ByteArray)) × Int × (Int × (List Int) × ByteArray × Unit) × (Int × (List Int) × ByteArray × Unit) × (List ((Int × (List Int)) × ByteArray)) × Int × Int × Unit) → Option (Bool × ((List ((Int × (List Int)) × ByteArray)) × Bool × Unit) × (List ((Int × (List Int)) × ByteArray)) × Int × (Int × (List Int) × ByteArray × Unit) × (Int × (List Int) × ByteArray × Unit) × (List ((Int × (List Int)) × ByteArray)) × Int × Int × Unit) := fun ((v0_0, v0_1, _), (v1_0, v1_1, _), v2, v62, v68, v72, (v73_0, v73_1, v73_2, _), (v76_0, v76_1, v76_2, _), v151, v152, v153, _) =>
  if ((0 + (List.length v0_0)) = (List.length v0_0)) then
    Option.bind (loopF spec_l8Elements_at107_l2 (((List.drop 0 v0_0), v0_1, ()), v2, (v1_0, (List.take (List.length v1_1) (List.drop 0 v1_1)), ()), (List.take (List.length v0_0) (List.drop 0 v0_0)), (((List.length v0_0) : Nat) : Int), (0 : Int), v62, v68, v72, (v73_0, v73_1, v73_2, ()), (v76_0, v76_1, v76_2, ()), v151, v152, v153, ())) fun r0 =>
      (match r0 with
      | .inl (d1, (d2, d3, _), d4, d5, (d6, d7, d8, _), (d9, d10, d11, _), d12, d13, d14, _) =>
          if ((0 + (List.length d2)) = (List.length d2)) then
            some (d1, ((List.drop 0 d2), d3, ()), d4, d5, (d6, d7, d8, ()), (d9, d10, d11, ()), d12, d13, d14, ())
          else
            none
      | .inr ((d15, d16, _), d17, (d18, d19, _), d20, d21, d22, (d23, d24, d25, _), (d26, d27, d28, _), d29, d30, d31, _) =>
          bif d16 then
            if ((0 + (List.length d15)) = (List.length d15)) then
              some (d20, ((List.drop 0 d15), true, ()), d21, d22, (d23, d24, d25, ()), (d26, d27, d28, ()), d29, d30, d31, ())
            else
              none
          else
            bif (decide ((((List.length d15) : Nat) : Int) ≥ (120 : Int))) then
              if ((0 + (List.length d15)) = (List.length d15)) then
                some (d20, ((List.drop 0 d15), true, ()), d21, d22, (d23, d24, d25, ()), (d26, d27, d28, ()), d29, d30, d31, ())
              else
                none
            else
              bif (!(decide ((((ByteArray.size d17) : Nat) : Int) > (120 : Int)))) then
                if (((0 + (List.length d15)) = (List.length d15)) ∧ ((((List.length d15) + (List.length (List.take 1 (List.drop 0 [((d18, (List.take (List.length d19) (List.drop 0 d19))), d17)])))) * 48) ≤ 140737488355328)) then
                  if ((0 + ((List.length d15) + (List.length (List.take 1 (List.drop 0 [((d18, (List.take (List.length d19) (List.drop 0 d19))), d17)]))))) = (List.length ((List.drop 0 d15) ++ (List.take 1 (List.drop 0 [((d18, (List.take (List.length d19) (List.drop 0 d19))), d17)]))))) then
                    some (d20, ((List.drop 0 ((List.drop 0 d15) ++ (List.take 1 (List.drop 0 [((d18, (List.take (List.length d19) (List.drop 0 d19))), d17)])))), (decide ((((ByteArray.size d17) : Nat) : Int) > (120 : Int))), ()), d21, d22, (d23, d24, d25, ()), (d26, d27, d28, ()), d29, d30, d31, ())
                  else
                    none
                else
                  none
              else
                if ((0 + (List.length d15)) = (List.length d15)) then
                  some (d20, ((List.drop 0 d15), (decide ((((ByteArray.size d17) : Nat) : Int) > (120 : Int))), ()), d21, d22, (d23, d24, d25, ()), (d26, d27, d28, ()), d29, d30, d31, ())
                else
                  none)
  else
    none
theorem spec_l8Elements_at107_eq : inlStep f159.ntmps 131 107 E129_at107 L129_at107_1 f159.results.toList (codeOf f159) shi129_at107 sho129_at107 = spec_l8Elements_at107 := by kernel_rfl
noncomputable def I129_at107 : CallD := ⟨f159.ntmps, shi129_at107, 131, sho129_at107, spec_l8Elements_at107⟩
theorem I129_at107_ok : InlOk prog 107 159 I129_at107 := inlOk_of (tysOk_of tyl_ok) E129_at107_ok (L := L129_at107_1) func159 (by kernel_rfl) (c := codeOf f159) (by kernel_rfl) (codeOk_in (L := L129_at107_1) (tysOk_of tyl_ok) E129_at107_ok mixed (c := codeOf f159) (bs := [loopOf f159 2]) (by kernel_rfl) (allCons (loop129_at107_2 rfl) allNil) (by kernel_rfl)) (by kernel_rfl) (by kernel_rfl) spec_l8Elements_at107_eq
noncomputable def E129_at120 : Env := ⟨ty0, fun g => ifEq g 156 (some A156) (ifEq g 158 (some A158) (ifEq g 103 (some A103) (ifEq g 160 (some A160) (ifEq g 161 (some A161) (ifEq g 162 (some A162) (none)))))), fun _ => none, fun _ => none, fun _ => none⟩
theorem E129_at120_ok : FnsOk prog E129_at120 := (oneFn A156_ok func156 (by kernel_rfl) (by kernel_rfl) (oneFn A158_ok func158 (by kernel_rfl) (by kernel_rfl) (oneFn A103_ok func103 (by kernel_rfl) (by kernel_rfl) (oneFn A160_ok func160 (by kernel_rfl) (by kernel_rfl) (oneFn A161_ok func161 (by kernel_rfl) (by kernel_rfl) (oneFn A162_ok func162 (by kernel_rfl) (by kernel_rfl) (noFns _ _)))))))
noncomputable def L129_at120_0 : Nat → Option LoopD := fun _ => none
def sh129_at120_2 : List Fm := [.box 100000 [.own (.pair (.pair (.int .i64) (.sl (.int .i64))) .str) 100001 true, .val .bool], d, .cell (.val .str), d, .box 100400 [.val (.int .i64), .own (.int .i64) 100402 false], d, d, d, d, d, d, .cell (.val (.sl (.pair (.pair (.int .i64) (.sl (.int .i64))) .str))), .cell (.val (.int .i64)), .cell (.val (.int .i64)), d, d, d, d, d, d, d, d, d, d, d, d, d, d, d, d, d, d, d, d, d, d, d, d, d, d, d, d, d, d, d, d, d, d, d, d, d, d, d, d, d, d, d, d, d, d, d, d, .cell (.val .bool), d, d, d, d, .ali 100000 0, .cell (.val (.sl (.pair (.pair (.int .i64) (.sl (.int .i64))) .str))), d, d, d, .cell (.val (.int .i64)), .box 107300 [.val (.int .i64), .val (.sl (.int .i64)), .val .str], d, d, d, d, d, d, d, d, d, d, d, d, d, d, d, d, d, d, d, d, d, d, d, d, d, d, d, d, d, d, d, d, d, d, d, d, d, d, d, d, d, d, d, d, d, d, d, d, d, d, d, d, d, d, d, d, d, d, d, d, d, d, d, d, d, d, d, d, d, d, d, d, d, d, d, d, d, .cell (.val (.sl (.pair (.pair (.int .i64) (.sl (.int .i64))) .str))), .cell (.val (.int .i64)), .cell (.val (.int .i64)), d, d, d, d, d, d, d, d, d, d, d, d, d, d, d, d, d, d, d, d, d, d, d, d, d, d, d, d, d, d, d, d, d, d, d, d, d, d]
def xs129_at120_2 : List (Ex × List Fm) := [(.ret, [d, d, d, d, d, d, d, d, d, d, d, d, d, d, d, d, d, d, d, d, d, d, d, d, d, d, d, d, d, d, d, d, d, d, d, d, d, d, d, d, d, d, d, d, d, d, d, d, d, d, d, d, d, d, d, d, d, d, d, d, d, d, .cell (.val .bool), d, d, d, d, .box 106700 [.own (.pair (.pair (.int .i64) (.sl (.int .i64))) .str) 106701 true, .val .bool], .cell (.val (.sl (.pair (.pair (.int .i64) (.sl (.int .i64))) .str))), d, d, d, .cell (.val (.int .i64)), .box 107300 [.val (.int .i64), .val (.sl (.int .i64)), .val .str], d, d, d, d, d, d, d, d, d, d, d, d, d, d, d, d, d, d, d, d, d, d, d, d, d, d, d, d, d, d, d, d, d, d, d, d, d, d, d, d, d, d, d, d, d, d, d, d, d, d, d, d, d, d, d, d, d, d, d, d, d, d, d, d, d, d, d, d, d, d, d, d, d, d, d, d, d, .cell (.val (.sl (.pair (.pair (.int .i64) (.sl (.int .i64))) .str))), .cell (.val (.int .i64)), .cell (.val (.int .i64)), d, d, d, d, d, d, d, d, d, d, d, d, d, d, d, d, d, d, d, d, d, d, d, d, d, d, d, d, d, d, d, d, d, d, d, d, d, d]), (.exit 0, [.box 100000 [.own (.pair (.pair (.int .i64) (.sl (.int .i64))) .str) 100001 true, .val .bool], d, .cell (.val .str), d, .box 100400 [.val (.int .i64), .own (.int .i64) 100402 false], d, d, d, d, d, d, d, d, d, d, d, d, d, d, d, d, d, d, d, d, d, d, d, d, d, d, d, d, d, d, d, d, d, d, d, d, d, d, d, d, d, d, d, d, d, d, d, d, d, d, d, d, d, d, d, d, d, .cell (.val .bool), d, d, d, d, .ali 100000 0, .cell (.val (.sl (.pair (.pair (.int .i64) (.sl (.int .i64))) .str))), d, d, d, .cell (.val (.int .i64)), .box 107300 [.val (.int .i64), .val (.sl (.int .i64)), .val .str], d, d, d, d, d, d, d, d, d, d, d, d, d, d, d, d, d, d, d, d, d, d, d, d, d, d, d, d, d, d, d, d, d, d, d, d, d, d, d, d, d, d, d, d, d, d, d, d, d, d, d, d, d, d, d, d, d, d, d, d, d, d, d, d, d, d, d, d, d, d, d, d, d, d, d, d, d, .cell (.val (.sl (.pair (.pair (.int .i64) (.sl (.int .i64))) .str))), .cell (.val (.int .i64)), .cell (.val (.int .i64)), d, d, d, d, d, d, d, d, d, d, d, d, d, d, d, d, d, d, d, d, d, d, d, d, d, d, d, d, d, d, d, d, d, d, d, d, d, d])]
noncomputable def spec_l8Elements_at120_l2 : (((List ((Int × (List Int)) × ByteArray)) × Bool × Unit) × ByteArray × (Int × (List Int) × Unit) × (List ((Int × (List Int)) × ByteArray)) × Int × Int × Bool × (List ((Int × (List Int)) × ByteArray)) × Int × (Int × (List Int) × ByteArray × Unit) × (List ((Int × (List Int)) × ByteArray)) × Int × Int × Unit) → Option ((((List ((Int × (List Int)) × ByteArray)) × Bool × Unit) × ByteArray × (Int × (List Int) × Unit) × (List ((Int × (List Int)) × ByteArray)) × Int × Int × Bool × (List ((Int × (List Int)) × ByteArray)) × Int × (Int × (List Int) × ByteArray × Unit) × (List ((Int × (List Int)) × ByteArray)) × Int × Int × Unit) ⊕ ((Bool × ((List ((Int × (List Int)) × ByteArray)) × Bool × Unit) × (List ((Int × (List Int)) × ByteArray)) × Int × (Int × (List Int) × ByteArray × Unit) × (List ((Int × (List Int)) × ByteArray)) × Int × Int × Unit) ⊕ (((List ((Int × (List Int)) × ByteArray)) × Bool × Unit) × ByteArray × (Int × (List Int) × Unit) × Bool × (List ((Int × (List Int)) × ByteArray)) × Int × (Int × (List Int) × ByteArray × Unit) × (List ((Int × (List Int)) × ByteArray)) × Int × Int × Unit))) := fun ((v0_0, v0_1, _), v2, (v4_0, v4_1, _), v11, v12, v13, v62, v68, v72, (v73_0, v73_1, v73_2, _), v151, v152, v153, _) =>
  bif (decide (v13 < v12)) then
    if (((0 : Int) ≤ v13) ∧ (v13 < (((List.length v11) : Nat) : Int))) then
      Option.bind (spec_l2Same (List.getD v11 (Int.toNat v13) (((0 : Int), []), (⟨Array.empty⟩ : ByteArray))).1.2 (List.take (List.length v4_1) (List.drop 0 v4_1))) fun r0 =>
        bif r0 then
          if ((0 + (List.length v0_0)) = (List.length v0_0)) then
            some (Sum.inr (Sum.inl (v62, ((List.drop 0 v0_0), v0_1, ()), v68, v72, (v73_0, v73_1, v73_2, ()), v151, v152, v153, ())))
          else
            none
        else
          if ((0 + (List.length v0_0)) = (List.length v0_0)) then
            some (Sum.inl (((List.drop 0 v0_0), v0_1, ()), v2, (v4_0, (List.take (List.length v4_1) (List.drop 0 v4_1)), ()), v11, v12, (IntKind.wrap .i64 (v13 + (1 : Int))), v62, v68, v72, (v73_0, v73_1, v73_2, ()), v151, v152, v153, ()))
          else
            none
    else
      none
  else
    if ((0 + (List.length v0_0)) = (List.length v0_0)) then
      some (Sum.inr (Sum.inr (((List.drop 0 v0_0), v0_1, ()), v2, (v4_0, (List.take (List.length v4_1) (List.drop 0 v4_1)), ()), v62, v68, v72, (v73_0, v73_1, v73_2, ()), v151, v152, v153, ())))
    else
      none
theorem spec_l8Elements_at120_l2_eq : loopStep 61 E129_at120 L129_at120_0 (loopOf f159 2) sh129_at120_2 xs129_at120_2 = spec_l8Elements_at120_l2 := by kernel_rfl
theorem loop129_at120_2 {L : Nat → Option LoopD} (h : L 2 = some ⟨61, sh129_at120_2, xs129_at120_2, spec_l8Elements_at120_l2⟩) : LoopOk prog L (loopOf f159 2) :=
  loopOk (tysOk_of tyl_ok) E129_at120_ok (codeOk_in (L := L129_at120_0) (tysOk_of tyl_ok) E129_at120_ok mixed (c := loopOf f159 2) (bs := []) (by kernel_rfl) allNil (by kernel_rfl)) (by kernel_rfl) (by kernel_rfl) spec_l8Elements_at120_l2_eq (by rw [show firstId (loopOf f159 2) = 2 from by kernel_rfl]; exact h)
noncomputable def L129_at120_1 : Nat → Option LoopD := fun n => ifEq n 2 (some ⟨61, sh129_at120_2, xs129_at120_2, spec_l8Elements_at120_l2⟩) (L129_at120_0 n)
def shi129_at120 : List Fm := [.box 100000 [.own (.pair (.pair (.int .i64) (.sl (.int .i64))) .str) 100001 true, .val .bool], .agg [.val (.int .i64), .own (.int .i64) 100102 false], .cell (.val .str), d, d, d, d, d, d, d, d, d, d, d, d, d, d, d, d, d, d, d, d, d, d, d, d, d, d, d, d, d, d, d, d, d, d, d, d, d, d, d, d, d, d, d, d, d, d, d, d, d, d, d, d, d, d, d, d, d, d, d, .cell (.val .bool), d, d, d, d, .ali 100000 0, .cell (.val (.sl (.pair (.pair (.int .i64) (.sl (.int .i64))) .str))), d, d, d, .cell (.val (.int .i64)), .box 107300 [.val (.int .i64), .val (.sl (.int .i64)), .val .str], d, d, d, d, d, d, d, d, d, d, d, d, d, d, d, d, d, d, d, d, d, d, d, d, d, d, d, d, d, d, d, d, d, d, d, d, d, d, d, d, d, d, d, d, d, d, d, d, d, d, d, d, d, d, d, d, d, d, d, d, d, d, d, d, d, d, d, d, d, d, d, d, d, d, d, d, d, .cell (.val (.sl (.pair (.pair (.int .i64) (.sl (.int .i64))) .str))), .cell (.val (.int .i64)), .cell (.val (.int .i64)), d, d, d, d, d, d, d, d, d, d, d, d, d, d, d, d, d, d, d, d, d, d, d, d, d, d, d, d, d, d, d, d, d, d, d, d, d, d]
def sho129_at120 : List Fm := [d, .cell (.val .bool), d, d, d, d, .box 100600 [.own (.pair (.pair (.int .i64) (.sl (.int .i64))) .str) 100601 true, .val .bool], .cell (.val (.sl (.pair (.pair (.int .i64) (.sl (.int .i64))) .str))), d, d, d, .cell (.val (.int .i64)), .box 101200 [.val (.int .i64), .val (.sl (.int .i64)), .val .str], d, d, d, d, d, d, d, d, d, d, d, d, d, d, d, d, d, d, d, d, d, d, d, d, d, d, d, d, d, d, d, d, d, d, d, d, d, d, d, d, d, d, d, d, d, d, d, d, d, d, d, d, d, d, d, d, d, d, d, d, d, d, d, d, d, d, d, d, d, d, d, d, d, d, d, d, d, .cell (.val (.sl (.pair (.pair (.int .i64) (.sl (.int .i64))) .str))), .cell (.val (.int .i64)), .cell (.val (.int .i64)), d, d, d, d, d, d, d, d, d, d, d, d, d, d, d, d, d, d, d, d, d, d, d, d, d, d, d, d, d, d, d, d, d, d, d, d, d, d]
noncomputable def spec_l8Elements_at120 : (((List ((Int × (List Int)) × ByteArray)) × Bool × Unit) × (Int × (List Int) × Unit) × ByteArray × Bool × (List ((Int × (List Int)) × ByteArray)) × Int × (Int × (List Int) × ByteArray × Unit) × (List ((Int × (List Int)) × ByteArray)) × Int × Int × Unit) → Option (Bool × ((List ((Int × (List Int)) × ByteArray)) × Bool × Unit) × (List ((Int × (List Int)) × ByteArray)) × Int × (Int × (List Int) × ByteArray × Unit) × (List ((Int × (List Int)) × ByteArray)) × Int × Int × Unit) := fun ((v0_0, v0_1, _), (v1_0, v1_1, _), v2, v62, v68, v72, (v73_0, v73_1, v73_2, _), v151, v152, v153, _) =>
  if ((0 + (List.length v0_0)) = (List.length v0_0)) then
    Option.bind (loopF spec_l8Elements_at120_l2 (((List.drop 0 v0_0), v0_1, ()), v2, (v1_0, (List.take (List.length v1_1) (List.drop 0 v1_1)), ()), (List.take (List.length v0_0) (List.drop 0 v0_0)), (((List.length v0_0) : Nat) : Int), (0 : Int), v62, v68, v72, (v73_0, v73_1, v73_2, ()), v151, v152, v153, ())) fun r0 =>
      (match r0 with
      | .inl (d1, (d2, d3, _), d4, d5, (d6, d7, d8, _), d9, d10, d11, _) =>
          if ((0 + (List.length d2)) = (List.length d2)) then
            some (d1, ((List.drop 0 d2), d3, ()), d4, d5, (d6, d7, d8, ()), d9, d10, d11, ())
          else
            none
      | .inr ((d12, d13, _), d14, (d15, d16, _), d17, d18, d19, (d20, d21, d22, _), d23, d24, d25, _) =>
          bif d13 then
            if ((0 + (List.length d12)) = (List.length d12)) then
              some (d17, ((List.drop 0 d12), true, ()), d18, d19, (d20, d21, d22, ()), d23, d24, d25, ())
            else
              none
          else
            bif (decide ((((List.length d12) : Nat) : Int) ≥ (120 : Int))) then
              if ((0 + (List.length d12)) = (List.length d12)) then
                some (d17, ((List.drop 0 d12), true, ()), d18, d19, (d20, d21, d22, ()), d23, d24, d25, ())
              else
                none
            else
              bif (!(decide ((((ByteArray.size d14) : Nat) : Int) > (120 : Int)))) then
                if (((0 + (List.length d12)) = (List.length d12)) ∧ ((((List.length d12) + (List.length (List.take 1 (List.drop 0 [((d15, (List.take (List.length d16) (List.drop 0 d16))), d14)])))) * 48) ≤ 140737488355328)) then
                  if ((0 + ((List.length d12) + (List.length (List.take 1 (List.drop 0 [((d15, (List.take (List.length d16) (List.drop 0 d16))), d14)]))))) = (List.length ((List.drop 0 d12) ++ (List.take 1 (List.drop 0 [((d15, (List.take (List.length d16) (List.drop 0 d16))), d14)]))))) then
                    some (d17, ((List.drop 0 ((List.drop 0 d12) ++ (List.take 1 (List.drop 0 [((d15, (List.take (List.length d16) (List.drop 0 d16))), d14)])))), (decide ((((ByteArray.size d14) : Nat) : Int) > (120 : Int))), ()), d18, d19, (d20, d21, d22, ()), d23, d24, d25, ())
                  else
                    none
                else
                  none
              else
                if ((0 + (List.length d12)) = (List.length d12)) then
                  some (d17, ((List.drop 0 d12), (decide ((((ByteArray.size d14) : Nat) : Int) > (120 : Int))), ()), d18, d19, (d20, d21, d22, ()), d23, d24, d25, ())
                else
                  none)
  else
    none
theorem spec_l8Elements_at120_eq : inlStep f159.ntmps 131 120 E129_at120 L129_at120_1 f159.results.toList (codeOf f159) shi129_at120 sho129_at120 = spec_l8Elements_at120 := by kernel_rfl
noncomputable def I129_at120 : CallD := ⟨f159.ntmps, shi129_at120, 131, sho129_at120, spec_l8Elements_at120⟩
theorem I129_at120_ok : InlOk prog 120 159 I129_at120 := inlOk_of (tysOk_of tyl_ok) E129_at120_ok (L := L129_at120_1) func159 (by kernel_rfl) (c := codeOf f159) (by kernel_rfl) (codeOk_in (L := L129_at120_1) (tysOk_of tyl_ok) E129_at120_ok mixed (c := codeOf f159) (bs := [loopOf f159 2]) (by kernel_rfl) (allCons (loop129_at120_2 rfl) allNil) (by kernel_rfl)) (by kernel_rfl) (by kernel_rfl) spec_l8Elements_at120_eq
noncomputable def E129 : Env := ⟨ty0, fun g => ifEq g 156 (some A156) (ifEq g 158 (some A158) (ifEq g 103 (some A103) (ifEq g 160 (some A160) (ifEq g 161 (some A161) (ifEq g 162 (some A162) (none)))))), fun _ => none, fun _ => none, fun d => ifI (Nat.beq d 39) (some (159, I129_at39)) (ifI (Nat.beq d 78) (some (159, I129_at78)) (ifI (Nat.beq d 107) (some (159, I129_at107)) (ifI (Nat.beq d 120) (some (159, I129_at120)) (none))))⟩
theorem E129_ok : FnsOk prog E129 := (oneIl (d0 := 39) (g0 := 159) I129_at39_ok (oneIl (d0 := 78) (g0 := 159) I129_at78_ok (oneIl (d0 := 107) (g0 := 159) I129_at107_ok (oneIl (d0 := 120) (g0 := 159) I129_at120_ok (oneFn A156_ok func156 (by kernel_rfl) (by kernel_rfl) (oneFn A158_ok func158 (by kernel_rfl) (by kernel_rfl) (oneFn A103_ok func103 (by kernel_rfl) (by kernel_rfl) (oneFn A160_ok func160 (by kernel_rfl) (by kernel_rfl) (oneFn A161_ok func161 (by kernel_rfl) (by kernel_rfl) (oneFn A162_ok func162 (by kernel_rfl) (by kernel_rfl) (noFns _ _)))))))))))
noncomputable def L129_0 : Nat → Option LoopD := fun _ => none
def sh129_4 : List Fm := [d, .cell (.val .bool), .box 100200 [.val (.int .i64), .val (.sl (.int .i64)), .val (.sl (.int .i64)), .val (.sl (.pair (.int .i64) (.pair .str (.pair (.int .i64) (.int .i64)))))], d, d, d, .box 100600 [.own (.pair (.pair (.int .i64) (.sl (.int .i64))) .str) 100601 true, .val .bool], .cell (.own (.pair (.pair (.int .i64) (.sl (.int .i64))) .str) 100700 false), d, d, d, d, d, d, d, d, d, d, d, d, .cell (.own .str 102000 false), .cell (.val (.int .i64)), .cell (.val (.int .i64)), d, d, d, d, d, d, d, d, d, d, d, d, d, d, d, d, d, d, d, d, d, d, d, d, d, d, d, d, d, d, d, d, d, d, d, d, d, d, d, d, d, d, d, d, d, d, d, d, d, d, d, d, d, d, d, d, d, d, d, d, d, d, d, d, d, d, d, d, d, d, d, d, d, d, d, d, d, d, d, d, d, d, d, d, d, d, d, d, d, d, d, d, d, d, d, d, d, d, d, d, d, d, d, d, d, d, d, d]
def xs129_4 : List (Ex × List Fm) := [(.exit 0, [d, .cell (.val .bool), d, d, d, d, .box 100600 [.own (.pair (.pair (.int .i64) (.sl (.int .i64))) .str) 100601 true, .val .bool], .cell (.own (.pair (.pair (.int .i64) (.sl (.int .i64))) .str) 100700 false), d, d, d, d, d, d, d, d, d, d, d, d, d, d, d, d, d, d, d, d, d, d, d, d, d, d, d, d, d, d, d, d, d, d, d, d, d, d, d, d, d, d, d, d, d, d, d, d, d, d, d, d, d, d, d, d, d, d, d, d, d, d, d, d, d, d, d, d, d, d, d, d, d, d, d, d, d, d, d, d, d, d, d, d, d, d, d, d, d, d, d, d, d, d, d, d, d, d, d, d, d, d, d, d, d, d, d, d, d, d, d, d, d, d, d, d, d, d, d, d, d, d, d])]
noncomputable def spec_l8Elements_l4 : (Bool × (Int × (List Int) × (List Int) × (List (Int × (ByteArray × (Int × Int)))) × Unit) × ((List ((Int × (List Int)) × ByteArray)) × Bool × Unit) × (List ((Int × (List Int)) × ByteArray)) × (List ByteArray) × Int × Int × Unit) → Option ((Bool × (Int × (List Int) × (List Int) × (List (Int × (ByteArray × (Int × Int)))) × Unit) × ((List ((Int × (List Int)) × ByteArray)) × Bool × Unit) × (List ((Int × (List Int)) × ByteArray)) × (List ByteArray) × Int × Int × Unit) ⊕ ((Bool × ((List ((Int × (List Int)) × ByteArray)) × Bool × Unit) × (List ((Int × (List Int)) × ByteArray)) × Unit))) := fun (v1, (v2_0, v2_1, v2_2, v2_3, _), (v6_0, v6_1, _), v7, v20, v21, v22, _) =>
  bif (decide (v22 < v21)) then
    if (((0 : Int) ≤ v22) ∧ (v22 < (((List.length v20) : Nat) : Int))) then
      Option.bind (spec_l3Matrix (v2_0, v2_1, v2_2, v2_3) (List.getD v20 (0 + (Int.toNat v22)) (⟨Array.empty⟩ : ByteArray))) fun (r0, r1) =>
        Option.bind (spec_l6Grades (r0, (List.take (List.length r1) (List.drop 0 r1)))) fun (r2, r3) =>
          if (((0 + (List.length v7)) = (List.length v7)) ∧ ((((List.length v7) + (List.length (List.take 1 (List.drop 0 [((r2, (List.take (List.length r3) (List.drop 0 r3))), (List.getD v20 (0 + (Int.toNat v22)) (⟨Array.empty⟩ : ByteArray)))])))) * 48) ≤ 140737488355328)) then
            if ((0 + (List.length v6_0)) = (List.length v6_0)) then
              Option.bind (spec_l8Elements_at39 (((List.drop 0 v6_0), v6_1, ()), (r2, (List.take (List.length r3) (List.drop 0 r3))), (List.getD v20 (0 + (Int.toNat v22)) (⟨Array.empty⟩ : ByteArray)), v1, (v2_0, v2_1, v2_2, v2_3, ()), (List.take ((List.length v7) + (List.length (List.take 1 (List.drop 0 [((r2, (List.take (List.length r3) (List.drop 0 r3))), (List.getD v20 (0 + (Int.toNat v22)) (⟨Array.empty⟩ : ByteArray)))])))) (List.drop 0 ((List.drop 0 v7) ++ (List.take 1 (List.drop 0 [((r2, (List.take (List.length r3) (List.drop 0 r3))), (List.getD v20 (0 + (Int.toNat v22)) (⟨Array.empty⟩ : ByteArray)))]))))), (List.take (List.length v20) (List.drop 0 v20)), v21, v22, ())) fun (r4, (r5, r6, r7, r8, _), (r9, r10, _), r11, r12, r13, r14, _) =>
                if ((0 + (List.length r9)) = (List.length r9)) then
                  some (Sum.inl (r4, (r5, r6, r7, r8, ()), ((List.drop 0 r9), r10, ()), (List.take (List.length r11) (List.drop 0 r11)), (List.take (List.length r12) (List.drop 0 r12)), r13, (IntKind.wrap .i64 (r14 + (1 : Int))), ()))
                else
                  none
            else
              none
          else
            none
    else
      none
  else
    if ((0 + (List.length v6_0)) = (List.length v6_0)) then
      some (Sum.inr (v1, ((List.drop 0 v6_0), v6_1, ()), (List.take (List.length v7) (List.drop 0 v7)), ()))
    else
      none
theorem spec_l8Elements_l4_eq : loopStep 131 E129 L129_0 (loopOf f129 4) sh129_4 xs129_4 = spec_l8Elements_l4 := by kernel_rfl
theorem loop129_4 {L : Nat → Option LoopD} (h : L 4 = some ⟨131, sh129_4, xs129_4, spec_l8Elements_l4⟩) : LoopOk prog L (loopOf f129 4) :=
  loopOk (tysOk_of tyl_ok) E129_ok (codeOk_in (L := L129_0) (tysOk_of tyl_ok) E129_ok mixed (c := loopOf f129 4) (bs := []) (by kernel_rfl) allNil (by kernel_rfl)) (by kernel_rfl) (by kernel_rfl) spec_l8Elements_l4_eq (by rw [show firstId (loopOf f129 4) = 4 from by kernel_rfl]; exact h)
noncomputable def L129_1 : Nat → Option LoopD := fun n => ifEq n 4 (some ⟨131, sh129_4, xs129_4, spec_l8Elements_l4⟩) (L129_0 n)
def sh129_20 : List Fm := [d, .cell (.val .bool), d, d, d, d, .box 100600 [.own (.pair (.pair (.int .i64) (.sl (.int .i64))) .str) 100601 true, .val .bool], .cell (.val (.sl (.pair (.pair (.int .i64) (.sl (.int .i64))) .str))), d, d, d, .cell (.val (.int .i64)), .box 101200 [.val (.int .i64), .val (.sl (.int .i64)), .val .str], d, d, d, d, d, d, d, d, d, d, d, d, d, d, d, d, d, d, d, d, d, d, d, d, d, d, d, d, d, d, d, d, d, d, d, d, d, d, d, d, d, d, d, d, d, d, d, d, d, d, d, d, d, d, d, d, d, d, d, d, d, d, d, d, d, d, d, d, d, d, d, d, d, d, d, d, d, .cell (.val (.sl (.pair (.pair (.int .i64) (.sl (.int .i64))) .str))), .cell (.val (.int .i64)), .cell (.val (.int .i64)), d, d, d, d, d, d, d, d, d, d, d, d, d, d, d, d, d, d, d, d, d, d, d, d, d, d, d, d, d, d, d, d, d, d, d, d, d, d]
def xs129_20 : List (Ex × List Fm) := [(.exit 4, [d, .cell (.val .bool), d, d, d, d, .box 100600 [.own (.pair (.pair (.int .i64) (.sl (.int .i64))) .str) 100601 true, .val .bool], .cell (.val (.sl (.pair (.pair (.int .i64) (.sl (.int .i64))) .str))), d, d, d, .cell (.val (.int .i64)), d, d, d, d, d, d, d, d, d, d, d, d, d, d, d, d, d, d, d, d, d, d, d, d, d, d, d, d, d, d, d, d, d, d, d, d, d, d, d, d, d, d, d, d, d, d, d, d, d, d, d, d, d, d, d, d, d, d, d, d, d, d, d, d, d, d, d, d, d, d, d, d, d, d, d, d, d, d, d, d, d, d, d, d, d, d, d, d, d, d, d, d, d, d, d, d, d, d, d, d, d, d, d, d, d, d, d, d, d, d, d, d, d, d, d, d, d, d, d])]
noncomputable def spec_l8Elements_l20 : (Bool × ((List ((Int × (List Int)) × ByteArray)) × Bool × Unit) × (List ((Int × (List Int)) × ByteArray)) × Int × (Int × (List Int) × ByteArray × Unit) × (List ((Int × (List Int)) × ByteArray)) × Int × Int × Unit) → Option ((Bool × ((List ((Int × (List Int)) × ByteArray)) × Bool × Unit) × (List ((Int × (List Int)) × ByteArray)) × Int × (Int × (List Int) × ByteArray × Unit) × (List ((Int × (List Int)) × ByteArray)) × Int × Int × Unit) ⊕ ((Bool × ((List ((Int × (List Int)) × ByteArray)) × Bool × Unit) × (List ((Int × (List Int)) × ByteArray)) × Int × Unit))) := fun (v1, (v6_0, v6_1, _), v7, v11, (v12_0, v12_1, v12_2, _), v90, v91, v92, _) =>
  bif (decide (v92 < v91)) then
    if (((0 : Int) ≤ v92) ∧ (v92 < (((List.length v90) : Nat) : Int))) then
      Option.bind (spec_l6Mul (v12_0, v12_1) ((List.getD v90 (Int.toNat v92) (((0 : Int), []), (⟨Array.empty⟩ : ByteArray))).1.1, (List.getD v90 (Int.toNat v92) (((0 : Int), []), (⟨Array.empty⟩ : ByteArray))).1.2)) fun (r0, r1) =>
        if (((ByteArray.size v12_2) + (ByteArray.size (List.getD v90 (Int.toNat v92) (((0 : Int), []), (⟨Array.empty⟩ : ByteArray))).2)) ≤ 9223372036854775807) then
          if ((0 + (List.length v6_0)) = (List.length v6_0)) then
            Option.bind (spec_l8Elements_at107 (((List.drop 0 v6_0), v6_1, ()), (r0, (List.take (List.length r1) (List.drop 0 r1)), ()), (v12_2 ++ (List.getD v90 (Int.toNat v92) (((0 : Int), []), (⟨Array.empty⟩ : ByteArray))).2), v1, v7, v11, (v12_0, v12_1, v12_2, ()), ((List.getD v90 (Int.toNat v92) (((0 : Int), []), (⟨Array.empty⟩ : ByteArray))).1.1, (List.getD v90 (Int.toNat v92) (((0 : Int), []), (⟨Array.empty⟩ : ByteArray))).1.2, (List.getD v90 (Int.toNat v92) (((0 : Int), []), (⟨Array.empty⟩ : ByteArray))).2, ()), v90, v91, v92, ())) fun (r2, (r3, r4, _), r5, r6, (r7, r8, r9, _), (r10, r11, r12, _), r13, r14, r15, _) =>
              bif r2 then
                Option.bind (spec_l6Mul (r10, r11) (r7, r8)) fun (r16, r17) =>
                  if (((ByteArray.size r12) + (ByteArray.size r9)) ≤ 9223372036854775807) then
                    if ((0 + (List.length r3)) = (List.length r3)) then
                      Option.bind (spec_l8Elements_at120 (((List.drop 0 r3), r4, ()), (r16, (List.take (List.length r17) (List.drop 0 r17)), ()), (r12 ++ r9), r2, r5, r6, (r7, r8, r9, ()), r13, r14, r15, ())) fun (r18, (r19, r20, _), r21, r22, (r23, r24, r25, _), r26, r27, r28, _) =>
                        if ((0 + (List.length r19)) = (List.length r19)) then
                          some (Sum.inl (r18, ((List.drop 0 r19), r20, ()), r21, r22, (r23, r24, r25, ()), r26, r27, (IntKind.wrap .i64 (r28 + (1 : Int))), ()))
                        else
                          none
                    else
                      none
                  else
                    none
              else
                if ((0 + (List.length r3)) = (List.length r3)) then
                  some (Sum.inl (r2, ((List.drop 0 r3), r4, ()), r5, r6, (r7, r8, r9, ()), r13, r14, (IntKind.wrap .i64 (r15 + (1 : Int))), ()))
                else
                  none
          else
            none
        else
          none
    else
      none
  else
    if ((0 + (List.length v6_0)) = (List.length v6_0)) then
      some (Sum.inr (v1, ((List.drop 0 v6_0), v6_1, ()), v7, v11, ()))
    else
      none
theorem spec_l8Elements_l20_eq : loopStep 131 E129 L129_1 (loopOf f129 20) sh129_20 xs129_20 = spec_l8Elements_l20 := by kernel_rfl
theorem loop129_20 {L : Nat → Option LoopD} (h : L 20 = some ⟨131, sh129_20, xs129_20, spec_l8Elements_l20⟩) : LoopOk prog L (loopOf f129 20) :=
  loopOk (tysOk_of tyl_ok) E129_ok (codeOk_in (L := L129_1) (tysOk_of tyl_ok) E129_ok mixed (c := loopOf f129 20) (bs := []) (by kernel_rfl) allNil (by kernel_rfl)) (by kernel_rfl) (by kernel_rfl) spec_l8Elements_l20_eq (by rw [show firstId (loopOf f129 20) = 20 from by kernel_rfl]; exact h)
noncomputable def L129_2 : Nat → Option LoopD := fun n => ifEq n 20 (some ⟨131, sh129_20, xs129_20, spec_l8Elements_l20⟩) (L129_1 n)
def sh129_11 : List Fm := [d, .cell (.val .bool), d, d, d, d, .box 100600 [.own (.pair (.pair (.int .i64) (.sl (.int .i64))) .str) 100601 true, .val .bool], .cell (.val (.sl (.pair (.pair (.int .i64) (.sl (.int .i64))) .str))), d, d, d, .cell (.val (.int .i64)), d, d, d, d, d, d, d, d, d, d, d, d, d, d, d, d, d, d, d, d, d, d, d, d, d, d, d, d, d, d, d, d, d, d, d, d, d, d, d, d, d, d, d, d, d, d, d, d, d, d, d, d, d, d, d, d, d, d, d, d, d, d, d, d, d, d, d, d, d, d, d, d, d, d, d, d, d, d, d, d, d, d, d, d, d, d, d, d, d, d, d, d, d, d, d, d, d, d, d, d, d, d, d, d, d, d, d, d, d, d, d, d, d, d, d, d, d, d, d]
def xs129_11 : List (Ex × List Fm) := [(.exit 2, [d, d, d, d, d, d, .box 100600 [.val (.sl (.pair (.pair (.int .i64) (.sl (.int .i64))) .str)), .val .bool], d, d, d, d, d, d, d, d, d, d, d, d, d, d, d, d, d, d, d, d, d, d, d, d, d, d, d, d, d, d, d, d, d, d, d, d, d, d, d, d, d, d, d, d, d, d, d, d, d, d, d, d, d, d, d, d, d, d, d, d, d, d, d, d, d, d, d, d, d, d, d, d, d, d, d, d, d, d, d, d, d, d, d, d, d, d, d, d, d, d, d, d, d, d, d, d, d, d, d, d, d, d, d, d, d, d, d, d, d, d, d, d, d, d, d, d, d, d, d, d, d, d, d, d])]
noncomputable def spec_l8Elements_l11 : (Bool × ((List ((Int × (List Int)) × ByteArray)) × Bool × Unit) × (List ((Int × (List Int)) × ByteArray)) × Int × Unit) → Option ((Bool × ((List ((Int × (List Int)) × ByteArray)) × Bool × Unit) × (List ((Int × (List Int)) × ByteArray)) × Int × Unit) ⊕ ((((List ((Int × (List Int)) × ByteArray)) × Bool × Unit) × Unit))) := fun (v1, (v6_0, v6_1, _), v7, v11, _) =>
  bif (decide (v11 < (((List.length v6_0) : Nat) : Int))) then
    bif (!v6_1) then
      if (((0 : Int) ≤ v11) ∧ (v11 < (((List.length v6_0) : Nat) : Int))) then
        bif v1 then
          Option.bind (spec_l6Idempotent ((List.getD v6_0 (0 + (Int.toNat v11)) (((0 : Int), []), (⟨Array.empty⟩ : ByteArray))).1.1, (List.getD v6_0 (0 + (Int.toNat v11)) (((0 : Int), []), (⟨Array.empty⟩ : ByteArray))).1.2)) fun r0 =>
            bif r0 then
              Option.bind (spec_l6Stable ((List.getD v6_0 (0 + (Int.toNat v11)) (((0 : Int), []), (⟨Array.empty⟩ : ByteArray))).1.1, (List.getD v6_0 (0 + (Int.toNat v11)) (((0 : Int), []), (⟨Array.empty⟩ : ByteArray))).1.2)) fun (r1, r2) =>
                if (((ByteArray.size (⟨#[(40 : UInt8)]⟩ : ByteArray)) + (ByteArray.size (List.getD v6_0 (0 + (Int.toNat v11)) (((0 : Int), []), (⟨Array.empty⟩ : ByteArray))).2)) ≤ 9223372036854775807) then
                  if (((ByteArray.size ((⟨#[(40 : UInt8)]⟩ : ByteArray) ++ (List.getD v6_0 (0 + (Int.toNat v11)) (((0 : Int), []), (⟨Array.empty⟩ : ByteArray))).2)) + (ByteArray.size (⟨#[(41 : UInt8), (35 : UInt8)]⟩ : ByteArray))) ≤ 9223372036854775807) then
                    if ((0 + (List.length v6_0)) = (List.length v6_0)) then
                      Option.bind (spec_l8Elements_at78 (((List.drop 0 v6_0), v6_1, ()), (r1, (List.take (List.length r2) (List.drop 0 r2)), ()), (((⟨#[(40 : UInt8)]⟩ : ByteArray) ++ (List.getD v6_0 (0 + (Int.toNat v11)) (((0 : Int), []), (⟨Array.empty⟩ : ByteArray))).2) ++ (⟨#[(41 : UInt8), (35 : UInt8)]⟩ : ByteArray)), v1, v7, v11, ((List.getD v6_0 (0 + (Int.toNat v11)) (((0 : Int), []), (⟨Array.empty⟩ : ByteArray))).1.1, (List.getD v6_0 (0 + (Int.toNat v11)) (((0 : Int), []), (⟨Array.empty⟩ : ByteArray))).1.2, (List.getD v6_0 (0 + (Int.toNat v11)) (((0 : Int), []), (⟨Array.empty⟩ : ByteArray))).2, ()), ())) fun (r3, (r4, r5, _), r6, r7, (r8, r9, r10, _), _) =>
                        bif r3 then
                          if (((0 : Int) ≤ (IntKind.wrap .i64 (r7 + (1 : Int)))) ∧ ((IntKind.wrap .i64 (r7 + (1 : Int))) ≤ (((List.length r4) : Nat) : Int))) then
                            if (((0 + 0) = (List.length ([] : List Unit))) ∧ (((0 + (List.length (List.take ((Int.toNat (IntKind.wrap .i64 (r7 + (1 : Int)))) - 0) (List.drop (0 + 0) r4)))) * 48) ≤ 140737488355328)) then
                              if ((0 + (List.length r4)) = (List.length r4)) then
                                Option.bind (loopF spec_l8Elements_l20 (r3, ((List.drop 0 r4), r5, ()), r6, r7, (r8, r9, r10, ()), (List.take (0 + (List.length (List.take ((Int.toNat (IntKind.wrap .i64 (r7 + (1 : Int)))) - 0) (List.drop (0 + 0) r4)))) (List.drop 0 ((List.drop 0 []) ++ (List.take ((Int.toNat (IntKind.wrap .i64 (r7 + (1 : Int)))) - 0) (List.drop (0 + 0) r4))))), (((0 + (List.length (List.take ((Int.toNat (IntKind.wrap .i64 (r7 + (1 : Int)))) - 0) (List.drop (0 + 0) r4)))) : Nat) : Int), (0 : Int), ())) fun (r11, (r12, r13, _), r14, r15, _) =>
                                  if ((0 + (List.length r12)) = (List.length r12)) then
                                    some (Sum.inl (r11, ((List.drop 0 r12), r13, ()), r14, (IntKind.wrap .i64 (r15 + (1 : Int))), ()))
                                  else
                                    none
                              else
                                none
                            else
                              none
                          else
                            none
                        else
                          if ((0 + (List.length r4)) = (List.length r4)) then
                            Option.bind (loopF spec_l8Elements_l20 (r3, ((List.drop 0 r4), r5, ()), r6, r7, (r8, r9, r10, ()), r6, (((List.length r6) : Nat) : Int), (0 : Int), ())) fun (r16, (r17, r18, _), r19, r20, _) =>
                              if ((0 + (List.length r17)) = (List.length r17)) then
                                some (Sum.inl (r16, ((List.drop 0 r17), r18, ()), r19, (IntKind.wrap .i64 (r20 + (1 : Int))), ()))
                              else
                                none
                          else
                            none
                    else
                      none
                  else
                    none
                else
                  none
            else
              bif v1 then
                if (((0 : Int) ≤ (IntKind.wrap .i64 (v11 + (1 : Int)))) ∧ ((IntKind.wrap .i64 (v11 + (1 : Int))) ≤ (((List.length v6_0) : Nat) : Int))) then
                  if (((0 + 0) = (List.length ([] : List Unit))) ∧ (((0 + (List.length (List.take ((Int.toNat (IntKind.wrap .i64 (v11 + (1 : Int)))) - 0) (List.drop (0 + 0) v6_0)))) * 48) ≤ 140737488355328)) then
                    if ((0 + (List.length v6_0)) = (List.length v6_0)) then
                      Option.bind (loopF spec_l8Elements_l20 (v1, ((List.drop 0 v6_0), v6_1, ()), v7, v11, ((List.getD v6_0 (0 + (Int.toNat v11)) (((0 : Int), []), (⟨Array.empty⟩ : ByteArray))).1.1, (List.getD v6_0 (0 + (Int.toNat v11)) (((0 : Int), []), (⟨Array.empty⟩ : ByteArray))).1.2, (List.getD v6_0 (0 + (Int.toNat v11)) (((0 : Int), []), (⟨Array.empty⟩ : ByteArray))).2, ()), (List.take (0 + (List.length (List.take ((Int.toNat (IntKind.wrap .i64 (v11 + (1 : Int)))) - 0) (List.drop (0 + 0) v6_0)))) (List.drop 0 ((List.drop 0 []) ++ (List.take ((Int.toNat (IntKind.wrap .i64 (v11 + (1 : Int)))) - 0) (List.drop (0 + 0) v6_0))))), (((0 + (List.length (List.take ((Int.toNat (IntKind.wrap .i64 (v11 + (1 : Int)))) - 0) (List.drop (0 + 0) v6_0)))) : Nat) : Int), (0 : Int), ())) fun (r21, (r22, r23, _), r24, r25, _) =>
                        if ((0 + (List.length r22)) = (List.length r22)) then
                          some (Sum.inl (r21, ((List.drop 0 r22), r23, ()), r24, (IntKind.wrap .i64 (r25 + (1 : Int))), ()))
                        else
                          none
                    else
                      none
                  else
                    none
                else
                  none
              else
                if ((0 + (List.length v6_0)) = (List.length v6_0)) then
                  Option.bind (loopF spec_l8Elements_l20 (v1, ((List.drop 0 v6_0), v6_1, ()), v7, v11, ((List.getD v6_0 (0 + (Int.toNat v11)) (((0 : Int), []), (⟨Array.empty⟩ : ByteArray))).1.1, (List.getD v6_0 (0 + (Int.toNat v11)) (((0 : Int), []), (⟨Array.empty⟩ : ByteArray))).1.2, (List.getD v6_0 (0 + (Int.toNat v11)) (((0 : Int), []), (⟨Array.empty⟩ : ByteArray))).2, ()), v7, (((List.length v7) : Nat) : Int), (0 : Int), ())) fun (r26, (r27, r28, _), r29, r30, _) =>
                    if ((0 + (List.length r27)) = (List.length r27)) then
                      some (Sum.inl (r26, ((List.drop 0 r27), r28, ()), r29, (IntKind.wrap .i64 (r30 + (1 : Int))), ()))
                    else
                      none
                else
                  none
        else
          bif v1 then
            if (((0 : Int) ≤ (IntKind.wrap .i64 (v11 + (1 : Int)))) ∧ ((IntKind.wrap .i64 (v11 + (1 : Int))) ≤ (((List.length v6_0) : Nat) : Int))) then
              if (((0 + 0) = (List.length ([] : List Unit))) ∧ (((0 + (List.length (List.take ((Int.toNat (IntKind.wrap .i64 (v11 + (1 : Int)))) - 0) (List.drop (0 + 0) v6_0)))) * 48) ≤ 140737488355328)) then
                if ((0 + (List.length v6_0)) = (List.length v6_0)) then
                  Option.bind (loopF spec_l8Elements_l20 (v1, ((List.drop 0 v6_0), v6_1, ()), v7, v11, ((List.getD v6_0 (0 + (Int.toNat v11)) (((0 : Int), []), (⟨Array.empty⟩ : ByteArray))).1.1, (List.getD v6_0 (0 + (Int.toNat v11)) (((0 : Int), []), (⟨Array.empty⟩ : ByteArray))).1.2, (List.getD v6_0 (0 + (Int.toNat v11)) (((0 : Int), []), (⟨Array.empty⟩ : ByteArray))).2, ()), (List.take (0 + (List.length (List.take ((Int.toNat (IntKind.wrap .i64 (v11 + (1 : Int)))) - 0) (List.drop (0 + 0) v6_0)))) (List.drop 0 ((List.drop 0 []) ++ (List.take ((Int.toNat (IntKind.wrap .i64 (v11 + (1 : Int)))) - 0) (List.drop (0 + 0) v6_0))))), (((0 + (List.length (List.take ((Int.toNat (IntKind.wrap .i64 (v11 + (1 : Int)))) - 0) (List.drop (0 + 0) v6_0)))) : Nat) : Int), (0 : Int), ())) fun (r31, (r32, r33, _), r34, r35, _) =>
                    if ((0 + (List.length r32)) = (List.length r32)) then
                      some (Sum.inl (r31, ((List.drop 0 r32), r33, ()), r34, (IntKind.wrap .i64 (r35 + (1 : Int))), ()))
                    else
                      none
                else
                  none
              else
                none
            else
              none
          else
            if ((0 + (List.length v6_0)) = (List.length v6_0)) then
              Option.bind (loopF spec_l8Elements_l20 (v1, ((List.drop 0 v6_0), v6_1, ()), v7, v11, ((List.getD v6_0 (0 + (Int.toNat v11)) (((0 : Int), []), (⟨Array.empty⟩ : ByteArray))).1.1, (List.getD v6_0 (0 + (Int.toNat v11)) (((0 : Int), []), (⟨Array.empty⟩ : ByteArray))).1.2, (List.getD v6_0 (0 + (Int.toNat v11)) (((0 : Int), []), (⟨Array.empty⟩ : ByteArray))).2, ()), v7, (((List.length v7) : Nat) : Int), (0 : Int), ())) fun (r36, (r37, r38, _), r39, r40, _) =>
                if ((0 + (List.length r37)) = (List.length r37)) then
                  some (Sum.inl (r36, ((List.drop 0 r37), r38, ()), r39, (IntKind.wrap .i64 (r40 + (1 : Int))), ()))
                else
                  none
            else
              none
      else
        none
    else
      some (Sum.inr (((List.take (List.length v6_0) (List.drop 0 v6_0)), v6_1, ()), ()))
  else
    some (Sum.inr (((List.take (List.length v6_0) (List.drop 0 v6_0)), v6_1, ()), ()))
theorem spec_l8Elements_l11_eq : loopStep 131 E129 L129_2 (loopOf f129 11) sh129_11 xs129_11 = spec_l8Elements_l11 := by kernel_rfl
theorem loop129_11 {L : Nat → Option LoopD} (h : L 11 = some ⟨131, sh129_11, xs129_11, spec_l8Elements_l11⟩) : LoopOk prog L (loopOf f129 11) :=
  loopOk (tysOk_of tyl_ok) E129_ok (codeOk_in (L := L129_2) (tysOk_of tyl_ok) E129_ok mixed (c := loopOf f129 11) (bs := [loopOf f129 20]) (by kernel_rfl) (allCons (loop129_20 rfl) allNil) (by kernel_rfl)) (by kernel_rfl) (by kernel_rfl) spec_l8Elements_l11_eq (by rw [show firstId (loopOf f129 11) = 11 from by kernel_rfl]; exact h)
noncomputable def L129_3 : Nat → Option LoopD := fun n => ifEq n 11 (some ⟨131, sh129_11, xs129_11, spec_l8Elements_l11⟩) (L129_2 n)
noncomputable def spec_l8Elements : (Int × ((List Int) × ((List Int) × (List (Int × (ByteArray × (Int × Int))))))) → Bool → Option ((List ((Int × (List Int)) × ByteArray)) × Bool) := fun (a0_0, a0_1, a0_2, a0_3) a1 =>
  if ((0 + 0) = (List.length ([] : List Unit))) then
    Option.bind (loopF spec_l8Elements_l4 (a1, (a0_0, a0_1, a0_2, a0_3, ()), ((List.drop 0 []), false, ()), (List.take 0 (List.drop 0 [])), (List.take 2 (List.drop 0 [(⟨#[(97 : UInt8)]⟩ : ByteArray), (⟨#[(98 : UInt8)]⟩ : ByteArray)])), ((2 : Nat) : Int), (0 : Int), ())) fun (r0, (r1, r2, _), r3, _) =>
      if ((0 + (List.length r1)) = (List.length r1)) then
        Option.bind (loopF spec_l8Elements_l11 (r0, ((List.drop 0 r1), r2, ()), (List.take (List.length r3) (List.drop 0 r3)), (0 : Int), ())) fun ((r4, r5, _), _) =>
          some (r4, (!r5))
      else
        none
  else
    none
noncomputable def A129 : FnA := ⟨[.v (.pair (.int .i64) (.pair (.sl (.int .i64)) (.pair (.sl (.int .i64)) (.sl (.pair (.int .i64) (.pair .str (.pair (.int .i64) (.int .i64)))))))), .v .bool], false, [.sl (.pair (.pair (.int .i64) (.sl (.int .i64))) .str), .bool], fun x => spec_l8Elements x.1 x.2.1⟩
theorem spec_l8Elements_eq : fnF E129 L129_3 [.v (.pair (.int .i64) (.pair (.sl (.int .i64)) (.pair (.sl (.int .i64)) (.sl (.pair (.int .i64) (.pair .str (.pair (.int .i64) (.int .i64)))))))), .v .bool] false [.sl (.pair (.pair (.int .i64) (.sl (.int .i64))) .str), .bool] f129.ntmps f129.results.toList (codeOf f129) = fun x => spec_l8Elements x.1 x.2.1 := by kernel_rfl
theorem A129_ok : FnOk prog 129 A129 := by
  have h := fnOk_of_run (P := prog) (E := E129) (tysOk_of tyl_ok) E129_ok (L := L129_3) (ps := [.v (.pair (.int .i64) (.pair (.sl (.int .i64)) (.pair (.sl (.int .i64)) (.sl (.pair (.int .i64) (.pair .str (.pair (.int .i64) (.int .i64)))))))), .v .bool]) (own := false) (outs := [.sl (.pair (.pair (.int .i64) (.sl (.int .i64))) .str), .bool]) func129 (c := codeOf f129) (by kernel_rfl) (codeOk_in (L := L129_3) (tysOk_of tyl_ok) E129_ok mixed (c := codeOf f129) (bs := [loopOf f129 4, loopOf f129 11]) (by kernel_rfl) (allCons (loop129_4 rfl) (allCons (loop129_11 rfl) allNil)) (by kernel_rfl))
  rw [spec_l8Elements_eq] at h
  exact h
/-! spec.l8RawElementsOf -/
noncomputable def E90 : Env := ⟨ty0, fun g => ifEq g 110 (some A110) (ifEq g 129 (some A129) (none)), fun _ => none, fun _ => none, fun _ => none⟩
theorem E90_ok : FnsOk prog E90 := (oneFn A110_ok func110 (by kernel_rfl) (by kernel_rfl) (oneFn A129_ok func129 (by kernel_rfl) (by kernel_rfl) (noFns _ _)))
noncomputable def L90_0 : Nat → Option LoopD := fun _ => none
noncomputable def spec_l8RawElementsOf : (Int × ((List Int) × ((List Int) × (List (Int × (ByteArray × (Int × Int))))))) → Option ((List ((Int × (List Int)) × ByteArray)) × Bool) := fun (a0_0, a0_1, a0_2, a0_3) =>
  Option.bind (spec_AutomatonValid (a0_0, a0_1, a0_2, a0_3)) fun r0 =>
    bif (!r0) then
      some ((List.take 0 (List.drop 0 [])), false)
    else
      Option.bind (spec_l8Elements (a0_0, a0_1, a0_2, a0_3) true) fun (r1, r2) =>
        bif (!r2) then
          some ((List.take 0 (List.drop 0 [])), false)
        else
          some (r1, true)
noncomputable def A90 : FnA := ⟨[.v (.pair (.int .i64) (.pair (.sl (.int .i64)) (.pair (.sl (.int .i64)) (.sl (.pair (.int .i64) (.pair .str (.pair (.int .i64) (.int .i64))))))))], false, [.sl (.pair (.pair (.int .i64) (.sl (.int .i64))) .str), .bool], fun x => spec_l8RawElementsOf x.1⟩
theorem spec_l8RawElementsOf_eq : fnF E90 L90_0 [.v (.pair (.int .i64) (.pair (.sl (.int .i64)) (.pair (.sl (.int .i64)) (.sl (.pair (.int .i64) (.pair .str (.pair (.int .i64) (.int .i64))))))))] false [.sl (.pair (.pair (.int .i64) (.sl (.int .i64))) .str), .bool] f90.ntmps f90.results.toList (codeOf f90) = fun x => spec_l8RawElementsOf x.1 := by kernel_rfl
theorem A90_ok : FnOk prog 90 A90 := by
  have h := fnOk_of_run (P := prog) (E := E90) (tysOk_of tyl_ok) E90_ok (L := L90_0) (ps := [.v (.pair (.int .i64) (.pair (.sl (.int .i64)) (.pair (.sl (.int .i64)) (.sl (.pair (.int .i64) (.pair .str (.pair (.int .i64) (.int .i64))))))))]) (own := false) (outs := [.sl (.pair (.pair (.int .i64) (.sl (.int .i64))) .str), .bool]) func90 (c := codeOf f90) (by kernel_rfl) (codeOk_in (L := L90_0) (tysOk_of tyl_ok) E90_ok mixed (c := codeOf f90) (bs := []) (by kernel_rfl) allNil (by kernel_rfl))
  rw [spec_l8RawElementsOf_eq] at h
  exact h
/-! spec.l13OwnMatrix -/
noncomputable def E163 : Env := ⟨ty0, fun _ => none, fun _ => none, fun _ => none, fun _ => none⟩
theorem E163_ok : FnsOk prog E163 := (noFns _ _)
noncomputable def L163_0 : Nat → Option LoopD := fun _ => none
noncomputable def spec_l13OwnMatrix : (Int × (List Int)) → Option ((Int × (List Int))) := fun (a0_0, a0_1) =>
  if (((0 + 0) = (List.length ([] : List Unit))) ∧ (((0 + (List.length a0_1)) * 8) ≤ 140737488355328)) then
    some (a0_0, (List.take (0 + (List.length a0_1)) (List.drop 0 ((List.drop 0 []) ++ a0_1))))
  else
    none
noncomputable def A163 : FnA := ⟨[.v (.pair (.int .i64) (.sl (.int .i64)))], true, [.pair (.int .i64) (.sl (.int .i64))], fun x => spec_l13OwnMatrix x.1⟩
theorem spec_l13OwnMatrix_eq : fnF E163 L163_0 [.v (.pair (.int .i64) (.sl (.int .i64)))] true [.pair (.int .i64) (.sl (.int .i64))] f163.ntmps f163.results.toList (codeOf f163) = fun x => spec_l13OwnMatrix x.1 := by kernel_rfl
theorem A163_ok : FnOk prog 163 A163 := by
  have h := fnOk_of_run (P := prog) (E := E163) (tysOk_of tyl_ok) E163_ok (L := L163_0) (ps := [.v (.pair (.int .i64) (.sl (.int .i64)))]) (own := true) (outs := [.pair (.int .i64) (.sl (.int .i64))]) func163 (c := codeOf f163) (by kernel_rfl) (codeOk_in (L := L163_0) (tysOk_of tyl_ok) E163_ok mixed (c := codeOf f163) (bs := []) (by kernel_rfl) allNil (by kernel_rfl))
  rw [spec_l13OwnMatrix_eq] at h
  exact h
/-! spec.l13OwnElement -/
noncomputable def E130 : Env := ⟨ty0, fun g => ifEq g 163 (some A163) (none), fun _ => none, fun _ => none, fun _ => none⟩
theorem E130_ok : FnsOk prog E130 := (oneFn A163_ok func163 (by kernel_rfl) (by kernel_rfl) (noFns _ _))
noncomputable def L130_0 : Nat → Option LoopD := fun _ => none
noncomputable def spec_l13OwnElement : ((Int × (List Int)) × ByteArray) → Option (((Int × (List Int)) × ByteArray)) := fun ((a0_0, a0_1), a0_2) =>
  Option.bind (spec_l13OwnMatrix (a0_0, a0_1)) fun (r0, r1) =>
    some ((r0, (List.take (List.length r1) (List.drop 0 r1))), a0_2)
noncomputable def A130 : FnA := ⟨[.v (.pair (.pair (.int .i64) (.sl (.int .i64))) .str)], true, [.pair (.pair (.int .i64) (.sl (.int .i64))) .str], fun x => spec_l13OwnElement x.1⟩
theorem spec_l13OwnElement_eq : fnF E130 L130_0 [.v (.pair (.pair (.int .i64) (.sl (.int .i64))) .str)] true [.pair (.pair (.int .i64) (.sl (.int .i64))) .str] f130.ntmps f130.results.toList (codeOf f130) = fun x => spec_l13OwnElement x.1 := by kernel_rfl
theorem A130_ok : FnOk prog 130 A130 := by
  have h := fnOk_of_run (P := prog) (E := E130) (tysOk_of tyl_ok) E130_ok (L := L130_0) (ps := [.v (.pair (.pair (.int .i64) (.sl (.int .i64))) .str)]) (own := true) (outs := [.pair (.pair (.int .i64) (.sl (.int .i64))) .str]) func130 (c := codeOf f130) (by kernel_rfl) (codeOk_in (L := L130_0) (tysOk_of tyl_ok) E130_ok mixed (c := codeOf f130) (bs := []) (by kernel_rfl) allNil (by kernel_rfl))
  rw [spec_l13OwnElement_eq] at h
  exact h
/-! spec.l13OwnListElement -/
noncomputable def E91 : Env := ⟨ty0, fun g => ifEq g 130 (some A130) (none), fun _ => none, fun _ => none, fun _ => none⟩
theorem E91_ok : FnsOk prog E91 := (oneFn A130_ok func130 (by kernel_rfl) (by kernel_rfl) (noFns _ _))
noncomputable def L91_0 : Nat → Option LoopD := fun _ => none
def sh91_3 : List Fm := [d, d, d, .cell (.own (.pair (.pair (.int .i64) (.sl (.int .i64))) .str) 100300 false), d, d, d, .cell (.val (.sl (.pair (.pair (.int .i64) (.sl (.int .i64))) .str))), .cell (.val (.int .i64)), .cell (.val (.int .i64)), d, d, d, d, d, d, d, d, d, d]
def xs91_3 : List (Ex × List Fm) := [(.exit 0, [d, d, d, .cell (.own (.pair (.pair (.int .i64) (.sl (.int .i64))) .str) 100300 false), d, d, d, d, d, d, d, d, d, d, d, d, d, d, d, d])]
noncomputable def spec_l13OwnListElement_l3 : ((List ((Int × (List Int)) × ByteArray)) × (List ((Int × (List Int)) × ByteArray)) × Int × Int × Unit) → Option (((List ((Int × (List Int)) × ByteArray)) × (List ((Int × (List Int)) × ByteArray)) × Int × Int × Unit) ⊕ (((List ((Int × (List Int)) × ByteArray)) × Unit))) := fun (v3, v7, v8, v9, _) =>
  bif (decide (v9 < v8)) then
    if (((0 : Int) ≤ v9) ∧ (v9 < (((List.length v7) : Nat) : Int))) then
      Option.bind (spec_l13OwnElement (((List.getD v7 (Int.toNat v9) (((0 : Int), []), (⟨Array.empty⟩ : ByteArray))).1.1, (List.getD v7 (Int.toNat v9) (((0 : Int), []), (⟨Array.empty⟩ : ByteArray))).1.2), (List.getD v7 (Int.toNat v9) (((0 : Int), []), (⟨Array.empty⟩ : ByteArray))).2)) fun ((r0, r1), r2) =>
        if (((0 + (List.length v3)) = (List.length v3)) ∧ ((((List.length v3) + (List.length (List.take 1 (List.drop 0 [((r0, (List.take (List.length r1) (List.drop 0 r1))), r2)])))) * 48) ≤ 140737488355328)) then
          some (Sum.inl ((List.take ((List.length v3) + (List.length (List.take 1 (List.drop 0 [((r0, (List.take (List.length r1) (List.drop 0 r1))), r2)])))) (List.drop 0 ((List.drop 0 v3) ++ (List.take 1 (List.drop 0 [((r0, (List.take (List.length r1) (List.drop 0 r1))), r2)]))))), v7, v8, (IntKind.wrap .i64 (v9 + (1 : Int))), ()))
        else
          none
    else
      none
  else
    some (Sum.inr ((List.take (List.length v3) (List.drop 0 v3)), ()))
theorem spec_l13OwnListElement_l3_eq : loopStep 20 E91 L91_0 (loopOf f91 3) sh91_3 xs91_3 = spec_l13OwnListElement_l3 := by kernel_rfl
theorem loop91_3 {L : Nat → Option LoopD} (h : L 3 = some ⟨20, sh91_3, xs91_3, spec_l13OwnListElement_l3⟩) : LoopOk prog L (loopOf f91 3) :=
  loopOk (tysOk_of tyl_ok) E91_ok (codeOk_in (L := L91_0) (tysOk_of tyl_ok) E91_ok mixed (c := loopOf f91 3) (bs := []) (by kernel_rfl) allNil (by kernel_rfl)) (by kernel_rfl) (by kernel_rfl) spec_l13OwnListElement_l3_eq (by rw [show firstId (loopOf f91 3) = 3 from by kernel_rfl]; exact h)
noncomputable def L91_1 : Nat → Option LoopD := fun n => ifEq n 3 (some ⟨20, sh91_3, xs91_3, spec_l13OwnListElement_l3⟩) (L91_0 n)
noncomputable def spec_l13OwnListElement : (List ((Int × (List Int)) × ByteArray)) → Option ((List ((Int × (List Int)) × ByteArray))) := fun a0 =>
  Option.bind (loopF spec_l13OwnListElement_l3 ((List.take 0 (List.drop 0 [])), a0, (((List.length a0) : Nat) : Int), (0 : Int), ())) fun (r0, _) =>
    some (List.take (List.length r0) (List.drop 0 r0))
noncomputable def A91 : FnA := ⟨[.v (.sl (.pair (.pair (.int .i64) (.sl (.int .i64))) .str))], true, [.sl (.pair (.pair (.int .i64) (.sl (.int .i64))) .str)], fun x => spec_l13OwnListElement x.1⟩
theorem spec_l13OwnListElement_eq : fnF E91 L91_1 [.v (.sl (.pair (.pair (.int .i64) (.sl (.int .i64))) .str))] true [.sl (.pair (.pair (.int .i64) (.sl (.int .i64))) .str)] f91.ntmps f91.results.toList (codeOf f91) = fun x => spec_l13OwnListElement x.1 := by kernel_rfl
theorem A91_ok : FnOk prog 91 A91 := by
  have h := fnOk_of_run (P := prog) (E := E91) (tysOk_of tyl_ok) E91_ok (L := L91_1) (ps := [.v (.sl (.pair (.pair (.int .i64) (.sl (.int .i64))) .str))]) (own := true) (outs := [.sl (.pair (.pair (.int .i64) (.sl (.int .i64))) .str)]) func91 (c := codeOf f91) (by kernel_rfl) (codeOk_in (L := L91_1) (tysOk_of tyl_ok) E91_ok mixed (c := codeOf f91) (bs := [loopOf f91 3]) (by kernel_rfl) (allCons (loop91_3 rfl) allNil) (by kernel_rfl))
  rw [spec_l13OwnListElement_eq] at h
  exact h
/-! spec.ElementsOf -/
noncomputable def E40 : Env := ⟨ty0, fun g => ifEq g 90 (some A90) (ifEq g 91 (some A91) (none)), fun _ => none, fun _ => none, fun _ => none⟩
theorem E40_ok : FnsOk prog E40 := (oneFn A90_ok func90 (by kernel_rfl) (by kernel_rfl) (oneFn A91_ok func91 (by kernel_rfl) (by kernel_rfl) (noFns _ _)))
noncomputable def L40_0 : Nat → Option LoopD := fun _ => none
noncomputable def spec_ElementsOf : (Int × ((List Int) × ((List Int) × (List (Int × (ByteArray × (Int × Int))))))) → Option ((List ((Int × (List Int)) × ByteArray)) × Bool) := fun (a0_0, a0_1, a0_2, a0_3) =>
  Option.bind (spec_l8RawElementsOf (a0_0, a0_1, a0_2, a0_3)) fun (r0, r1) =>
    Option.bind (spec_l13OwnListElement r0) fun r2 =>
      some ((List.take (List.length r2) (List.drop 0 r2)), r1)
noncomputable def A40 : FnA := ⟨[.v (.pair (.int .i64) (.pair (.sl (.int .i64)) (.pair (.sl (.int .i64)) (.sl (.pair (.int .i64) (.pair .str (.pair (.int .i64) (.int .i64))))))))], true, [.sl (.pair (.pair (.int .i64) (.sl (.int .i64))) .str), .bool], fun x => spec_ElementsOf x.1⟩
theorem spec_ElementsOf_eq : fnF E40 L40_0 [.v (.pair (.int .i64) (.pair (.sl (.int .i64)) (.pair (.sl (.int .i64)) (.sl (.pair (.int .i64) (.pair .str (.pair (.int .i64) (.int .i64))))))))] true [.sl (.pair (.pair (.int .i64) (.sl (.int .i64))) .str), .bool] f40.ntmps f40.results.toList (codeOf f40) = fun x => spec_ElementsOf x.1 := by kernel_rfl
theorem A40_ok : FnOk prog 40 A40 := by
  have h := fnOk_of_run (P := prog) (E := E40) (tysOk_of tyl_ok) E40_ok (L := L40_0) (ps := [.v (.pair (.int .i64) (.pair (.sl (.int .i64)) (.pair (.sl (.int .i64)) (.sl (.pair (.int .i64) (.pair .str (.pair (.int .i64) (.int .i64))))))))]) (own := true) (outs := [.sl (.pair (.pair (.int .i64) (.sl (.int .i64))) .str), .bool]) func40 (c := codeOf f40) (by kernel_rfl) (codeOk_in (L := L40_0) (tysOk_of tyl_ok) E40_ok mixed (c := codeOf f40) (bs := []) (by kernel_rfl) allNil (by kernel_rfl))
  rw [spec_ElementsOf_eq] at h
  exact h
/-! spec.l6Draw -/
noncomputable def E48 : Env := ⟨ty0, fun _ => none, fun g => ifEq g 101 (some A101) (none), fun _ => none, fun _ => none⟩
theorem E48_ok : FnsOk prog E48 := (oneMs A101_ok (by kernel_rfl) func101 (by kernel_rfl) (by kernel_rfl) (noFns _ _))
noncomputable def L48_0 : Nat → Option LoopD := fun _ => none
def sh48_3 : List Fm := [.box 200000 [.val (.sl (.int .u8)), .val (.int .i64)], d, d, d, .box 100400 [.val (.int .i64), .own (.int .i64) 100402 false], .box 100500 [.val (.int .i64), .own (.int .i64) 100502 false], d, d, d, d, .cell (.val (.int .i64)), .cell (.val (.int .i64)), d, d, d, d, d, d, d, d, d, d, d]
def xs48_3 : List (Ex × List Fm) := [(.exit 0, [.box 200000 [.val (.sl (.int .u8)), .val (.int .i64)], d, d, d, .box 100400 [.val (.int .i64), .own (.int .i64) 100402 false], .box 100500 [.val (.int .i64), .own (.int .i64) 100502 false], d, d, d, d, d, d, d, d, d, d, d, d, d, d, d, d, d])]
noncomputable def spec_l6Draw_l3 : (((List Int) × Int × Unit) × (Int × (List Int) × Unit) × (Int × (List Int) × Unit) × Int × Int × Unit) → Option ((((List Int) × Int × Unit) × (Int × (List Int) × Unit) × (Int × (List Int) × Unit) × Int × Int × Unit) ⊕ ((((List Int) × Int × Unit) × (Int × (List Int) × Unit) × (Int × (List Int) × Unit) × Unit))) := fun ((v0_0, v0_1, _), (v4_0, v4_1, _), (v5_0, v5_1, _), v10, v11, _) =>
  bif (decide (v11 < v10)) then
    Option.bind (spec_l13Rd_num (v0_0, v0_1) (List.take 7 (List.drop 0 [(3 : Int), (0 : Int), (1 : Int), (3 : Int), (2 : Int), (1 : Int), (0 : Int)]))) fun (r0, (r1, r2), _) =>
      if (((0 + (List.length v5_1)) = (List.length v5_1)) ∧ ((((List.length v5_1) + (List.length (List.take 1 (List.drop 0 [r0])))) * 8) ≤ 140737488355328)) then
        some (Sum.inl ((r1, r2, ()), (v4_0, (List.take (List.length v4_1) (List.drop 0 v4_1)), ()), (v5_0, (List.take ((List.length v5_1) + (List.length (List.take 1 (List.drop 0 [r0])))) (List.drop 0 ((List.drop 0 v5_1) ++ (List.take 1 (List.drop 0 [r0]))))), ()), v10, (IntKind.wrap .i64 (v11 + (1 : Int))), ()))
      else
        none
  else
    some (Sum.inr ((v0_0, v0_1, ()), (v4_0, (List.take (List.length v4_1) (List.drop 0 v4_1)), ()), (v5_0, (List.take (List.length v5_1) (List.drop 0 v5_1)), ()), ()))
theorem spec_l6Draw_l3_eq : loopStep 23 E48 L48_0 (loopOf f48 3) sh48_3 xs48_3 = spec_l6Draw_l3 := by kernel_rfl
theorem loop48_3 {L : Nat → Option LoopD} (h : L 3 = some ⟨23, sh48_3, xs48_3, spec_l6Draw_l3⟩) : LoopOk prog L (loopOf f48 3) :=
  loopOk (tysOk_of tyl_ok) E48_ok (codeOk_in (L := L48_0) (tysOk_of tyl_ok) E48_ok mixed (c := loopOf f48 3) (bs := []) (by kernel_rfl) allNil (by kernel_rfl)) (by kernel_rfl) (by kernel_rfl) spec_l6Draw_l3_eq (by rw [show firstId (loopOf f48 3) = 3 from by kernel_rfl]; exact h)
noncomputable def L48_1 : Nat → Option LoopD := fun n => ifEq n 3 (some ⟨23, sh48_3, xs48_3, spec_l6Draw_l3⟩) (L48_0 n)
noncomputable def spec_l6Draw : ((List Int) × Int) → Int → Option (((Int × (List Int))) × (((List Int) × Int) × Unit)) := fun (a0_0, a0_1) a1 =>
  Option.bind (loopF spec_l6Draw_l3 ((a0_0, a0_1, ()), ((0 : Int), [], ()), (a1, [], ()), (IntKind.wrap .i64 (a1 * a1)), (0 : Int), ())) fun ((r0, r1, _), (r2, r3, _), (r4, r5, _), _) =>
    some ((r4, (List.take (List.length r5) (List.drop 0 r5))), (r0, r1), ())
noncomputable def A48 : FnM := ⟨[.bx (.pair (.sl (.int .u8)) (.int .i64)), .v (.int .i64)], true, [.pair (.int .i64) (.sl (.int .i64))], none, fun x => spec_l6Draw x.1 x.2.1⟩
theorem spec_l6Draw_eq : fnMF E48 L48_1 [.bx (.pair (.sl (.int .u8)) (.int .i64)), .v (.int .i64)] true [.pair (.int .i64) (.sl (.int .i64))] f48.ntmps f48.results.toList (codeOf f48) = fun x => spec_l6Draw x.1 x.2.1 := by kernel_rfl
theorem A48_ok : FnMOk prog 48 A48 := by
  have h := fnMOk_of_run (P := prog) (E := E48) (tysOk_of tyl_ok) E48_ok (L := L48_1) (ps := [.bx (.pair (.sl (.int .u8)) (.int .i64)), .v (.int .i64)]) (own := true) (outs := [.pair (.int .i64) (.sl (.int .i64))]) func48 (c := codeOf f48) (by kernel_rfl) (codeOk_in (L := L48_1) (tysOk_of tyl_ok) E48_ok mixed (c := codeOf f48) (bs := [loopOf f48 3]) (by kernel_rfl) (allCons (loop48_3 rfl) allNil) (by kernel_rfl)) (by kernel_rfl)
  rw [spec_l6Draw_eq] at h
  exact h
/-! spec.DrawExpressionFor -/
noncomputable def E9 : Env := ⟨ty0, fun g => ifEq g 40 (some A40) (none), fun g => ifEq g 46 (some A46) (ifEq g 47 (some A47) (ifEq g 48 (some A48) (none))), fun g => ifEq g 45 (some A45) (none), fun _ => none⟩
theorem E9_ok : FnsOk prog E9 := (oneFn A40_ok func40 (by kernel_rfl) (by kernel_rfl) (oneBs A45_ok func45 (by kernel_rfl) (by kernel_rfl) (oneMs A46_ok (by kernel_rfl) func46 (by kernel_rfl) (by kernel_rfl) (oneMs A47_ok (by kernel_rfl) func47 (by kernel_rfl) (by kernel_rfl) (oneMs A48_ok (by kernel_rfl) func48 (by kernel_rfl) (by kernel_rfl) (noFns _ _))))))
noncomputable def L9_0 : Nat → Option LoopD := fun _ => none
noncomputable def spec_DrawExpressionFor : (List Int) → Option ((Int × ((List Int) × ((List Int) × (List (Int × (ByteArray × (Int × Int))))))) × (Int × (List Int))) := fun a0 =>
  Option.bind (spec_l13Open a0) fun (r0, r1) =>
    Option.bind (spec_l8Draw (r0, r1)) fun ((r2, r3, r4, r5), (r6, r7), _) =>
      Option.bind (spec_ElementsOf (r2, r3, r4, r5)) fun (r8, r9) =>
        bif r9 then
          Option.bind (spec_l13Rd_pick (r6, r7) (4 : Int)) fun (r10, (r11, r12), _) =>
            bif (decide (r10 > (0 : Int))) then
              Option.bind (spec_l13Rd_pick (r11, r12) (((List.length r8) : Nat) : Int)) fun (r13, (r14, r15), _) =>
                if (((0 : Int) ≤ r13) ∧ (r13 < (((List.length r8) : Nat) : Int))) then
                  some ((r2, r3, r4, r5), (List.getD r8 (0 + (Int.toNat r13)) (((0 : Int), []), (⟨Array.empty⟩ : ByteArray))).1.1, (List.getD r8 (0 + (Int.toNat r13)) (((0 : Int), []), (⟨Array.empty⟩ : ByteArray))).1.2)
                else
                  none
            else
              Option.bind (spec_l6Draw (r11, r12) (if ((1 : Int) > (if ((4 : Int) < r2) then (4 : Int) else r2)) then (1 : Int) else (if ((4 : Int) < r2) then (4 : Int) else r2))) fun ((r16, r17), (r18, r19), _) =>
                some ((r2, r3, r4, r5), r16, (List.take (List.length r17) (List.drop 0 r17)))
        else
          Option.bind (spec_l6Draw (r6, r7) (if ((1 : Int) > (if ((4 : Int) < r2) then (4 : Int) else r2)) then (1 : Int) else (if ((4 : Int) < r2) then (4 : Int) else r2))) fun ((r20, r21), (r22, r23), _) =>
            some ((r2, r3, r4, r5), r20, (List.take (List.length r21) (List.drop 0 r21)))
noncomputable def A9 : FnA := ⟨[.v (.sl (.int .u8))], false, [.pair (.int .i64) (.pair (.sl (.int .i64)) (.pair (.sl (.int .i64)) (.sl (.pair (.int .i64) (.pair .str (.pair (.int .i64) (.int .i64))))))), .pair (.int .i64) (.sl (.int .i64))], fun x => spec_DrawExpressionFor x.1⟩
theorem spec_DrawExpressionFor_eq : fnF E9 L9_0 [.v (.sl (.int .u8))] false [.pair (.int .i64) (.pair (.sl (.int .i64)) (.pair (.sl (.int .i64)) (.sl (.pair (.int .i64) (.pair .str (.pair (.int .i64) (.int .i64))))))), .pair (.int .i64) (.sl (.int .i64))] f9.ntmps f9.results.toList (codeOf f9) = fun x => spec_DrawExpressionFor x.1 := by kernel_rfl
theorem A9_ok : FnOk prog 9 A9 := by
  have h := fnOk_of_run (P := prog) (E := E9) (tysOk_of tyl_ok) E9_ok (L := L9_0) (ps := [.v (.sl (.int .u8))]) (own := false) (outs := [.pair (.int .i64) (.pair (.sl (.int .i64)) (.pair (.sl (.int .i64)) (.sl (.pair (.int .i64) (.pair .str (.pair (.int .i64) (.int .i64))))))), .pair (.int .i64) (.sl (.int .i64))]) func9 (c := codeOf f9) (by kernel_rfl) (codeOk_in (L := L9_0) (tysOk_of tyl_ok) E9_ok mixed (c := codeOf f9) (bs := []) (by kernel_rfl) allNil (by kernel_rfl))
  rw [spec_DrawExpressionFor_eq] at h
  exact h
/-! impl.statesOk -/
noncomputable def E80 : Env := ⟨ty0, fun _ => none, fun _ => none, fun _ => none, fun _ => none⟩
theorem E80_ok : FnsOk prog E80 := (noFns _ _)
noncomputable def L80_0 : Nat → Option LoopD := fun _ => none
def sh80_2 : List Fm := [.cell (.val (.sl (.int .i64))), .cell (.val (.int .i64)), d, d, d, d, d, .cell (.val (.sl (.int .i64))), .cell (.val (.int .i64)), .cell (.val (.int .i64)), d, d, d, d, d, d, d, d, d, d, d, d, d, d, d, d, d, d, d, d, d, d, d, d, d]
def xs80_2 : List (Ex × List Fm) := [(.ret, [d, d, d, d, .cell (.val .bool), d, d, d, d, d, d, d, d, d, d, d, d, d, d, d, d, d, d, d, d, d, d, d, d, d, d, d, d, d, d]), (.exit 0, [d, d, d, d, d, d, d, d, d, d, d, d, d, d, d, d, d, d, d, d, d, d, d, d, d, d, d, d, d, d, d, d, d, d, d])]
noncomputable def impl_statesOk_l2 : ((List Int) × Int × (List Int) × Int × Int × Unit) → Option (((List Int) × Int × (List Int) × Int × Int × Unit) ⊕ ((Bool × Unit) ⊕ (Unit))) := fun (v0, v1, v7, v8, v9, _) =>
  bif (decide (v9 < v8)) then
    if (((0 : Int) ≤ v9) ∧ (v9 < (((List.length v7) : Nat) : Int))) then
      bif (decide ((List.getD v7 (Int.toNat v9) (0 : Int)) < (0 : Int))) then
        some (Sum.inr (Sum.inl (false, ())))
      else
        bif (decide ((List.getD v7 (Int.toNat v9) (0 : Int)) ≥ v1)) then
          some (Sum.inr (Sum.inl (false, ())))
        else
          bif (decide (v9 > (0 : Int))) then
            if (((0 : Int) ≤ (IntKind.wrap .i64 (v9 - (1 : Int)))) ∧ ((IntKind.wrap .i64 (v9 - (1 : Int))) < (((List.length v0) : Nat) : Int))) then
              bif (decide ((List.getD v0 (Int.toNat (IntKind.wrap .i64 (v9 - (1 : Int)))) (0 : Int)) ≥ (List.getD v7 (Int.toNat v9) (0 : Int)))) then
                some (Sum.inr (Sum.inl (false, ())))
              else
                some (Sum.inl (v0, v1, v7, v8, (IntKind.wrap .i64 (v9 + (1 : Int))), ()))
            else
              none
          else
            some (Sum.inl (v0, v1, v7, v8, (IntKind.wrap .i64 (v9 + (1 : Int))), ()))
    else
      none
  else
    some (Sum.inr (Sum.inr ()))
theorem impl_statesOk_l2_eq : loopStep 35 E80 L80_0 (loopOf f80 2) sh80_2 xs80_2 = impl_statesOk_l2 := by kernel_rfl
theorem loop80_2 {L : Nat → Option LoopD} (h : L 2 = some ⟨35, sh80_2, xs80_2, impl_statesOk_l2⟩) : LoopOk prog L (loopOf f80 2) :=
  loopOk (tysOk_of tyl_ok) E80_ok (codeOk_in (L := L80_0) (tysOk_of tyl_ok) E80_ok mixed (c := loopOf f80 2) (bs := []) (by kernel_rfl) allNil (by kernel_rfl)) (by kernel_rfl) (by kernel_rfl) impl_statesOk_l2_eq (by rw [show firstId (loopOf f80 2) = 2 from by kernel_rfl]; exact h)
noncomputable def L80_1 : Nat → Option LoopD := fun n => ifEq n 2 (some ⟨35, sh80_2, xs80_2, impl_statesOk_l2⟩) (L80_0 n)
noncomputable def impl_statesOk : (List Int) → Int → Option (Bool) := fun a0 a1 =>
  Option.bind (loopF impl_statesOk_l2 (a0, a1, a0, (((List.length a0) : Nat) : Int), (0 : Int), ())) fun r0 =>
    (match r0 with
    | .inl (d1, _) =>
        some d1
    | .inr _ =>
        some true)
noncomputable def A80 : FnA := ⟨[.v (.sl (.int .i64)), .v (.int .i64)], true, [.bool], fun x => impl_statesOk x.1 x.2.1⟩
theorem impl_statesOk_eq : fnF E80 L80_1 [.v (.sl (.int .i64)), .v (.int .i64)] true [.bool] f80.ntmps f80.results.toList (codeOf f80) = fun x => impl_statesOk x.1 x.2.1 := by kernel_rfl
theorem A80_ok : FnOk prog 80 A80 := by
  have h := fnOk_of_run (P := prog) (E := E80) (tysOk_of tyl_ok) E80_ok (L := L80_1) (ps := [.v (.sl (.int .i64)), .v (.int .i64)]) (own := true) (outs := [.bool]) func80 (c := codeOf f80) (by kernel_rfl) (codeOk_in (L := L80_1) (tysOk_of tyl_ok) E80_ok mixed (c := codeOf f80) (bs := [loopOf f80 2]) (by kernel_rfl) (allCons (loop80_2 rfl) allNil) (by kernel_rfl))
  rw [impl_statesOk_eq] at h
  exact h
/-! cmp.isNaN[int] -/
noncomputable def E148 : Env := ⟨ty0, fun _ => none, fun _ => none, fun _ => none, fun _ => none⟩
theorem E148_ok : FnsOk prog E148 := (noFns _ _)
noncomputable def L148_0 : Nat → Option LoopD := fun _ => none
noncomputable def cmp_isNaN : Int → Option (Bool) := fun a0 =>
  some (a0 != a0)
noncomputable def A148 : FnA := ⟨[.v (.int .i64)], true, [.bool], fun x => cmp_isNaN x.1⟩
theorem cmp_isNaN_eq : fnF E148 L148_0 [.v (.int .i64)] true [.bool] f148.ntmps f148.results.toList (codeOf f148) = fun x => cmp_isNaN x.1 := by kernel_rfl
theorem A148_ok : FnOk prog 148 A148 := by
  have h := fnOk_of_run (P := prog) (E := E148) (tysOk_of tyl_ok) E148_ok (L := L148_0) (ps := [.v (.int .i64)]) (own := true) (outs := [.bool]) func148 (c := codeOf f148) (by kernel_rfl) (codeOk_in (L := L148_0) (tysOk_of tyl_ok) E148_ok mixed (c := codeOf f148) (bs := []) (by kernel_rfl) allNil (by kernel_rfl))
  rw [cmp_isNaN_eq] at h
  exact h
/-! cmp.Compare[int] -/
noncomputable def E117 : Env := ⟨ty0, fun g => ifEq g 148 (some A148) (none), fun _ => none, fun _ => none, fun _ => none⟩
theorem E117_ok : FnsOk prog E117 := (oneFn A148_ok func148 (by kernel_rfl) (by kernel_rfl) (noFns _ _))
noncomputable def L117_0 : Nat → Option LoopD := fun _ => none
noncomputable def cmp_Compare : Int → Int → Option (Int) := fun a0 a1 =>
  Option.bind (cmp_isNaN a0) fun r0 =>
    Option.bind (cmp_isNaN a1) fun r1 =>
      bif r0 then
        bif r1 then
          some (0 : Int)
        else
          some (-1 : Int)
      else
        bif r1 then
          some (1 : Int)
        else
          bif (decide (a0 < a1)) then
            some (-1 : Int)
          else
            bif (decide (a0 > a1)) then
              some (1 : Int)
            else
              some (0 : Int)
noncomputable def A117 : FnA := ⟨[.v (.int .i64), .v (.int .i64)], true, [.int .i64], fun x => cmp_Compare x.1 x.2.1⟩
theorem cmp_Compare_eq : fnF E117 L117_0 [.v (.int .i64), .v (.int .i64)] true [.int .i64] f117.ntmps f117.results.toList (codeOf f117) = fun x => cmp_Compare x.1 x.2.1 := by kernel_rfl
theorem A117_ok : FnOk prog 117 A117 := by
  have h := fnOk_of_run (P := prog) (E := E117) (tysOk_of tyl_ok) E117_ok (L := L117_0) (ps := [.v (.int .i64), .v (.int .i64)]) (own := true) (outs := [.int .i64]) func117 (c := codeOf f117) (by kernel_rfl) (codeOk_in (L := L117_0) (tysOk_of tyl_ok) E117_ok mixed (c := codeOf f117) (bs := []) (by kernel_rfl) allNil (by kernel_rfl))
  rw [cmp_Compare_eq] at h
  exact h
/-! cmp.Or[int] -/
noncomputable def E116 : Env := ⟨ty0, fun _ => none, fun _ => none, fun _ => none, fun _ => none⟩
theorem E116_ok : FnsOk prog E116 := (noFns _ _)
noncomputable def L116_0 : Nat → Option LoopD := fun _ => none
def sh116_3 : List Fm := [d, d, d, .cell (.val (.int .i64)), d, d, .cell (.val (.sl (.int .i64))), .cell (.val (.int .i64)), .cell (.val (.int .i64)), d, d, d, d, d, d, d, d, d]
def xs116_3 : List (Ex × List Fm) := [(.ret, [d, d, .cell (.val (.int .i64)), d, d, d, d, d, d, d, d, d, d, d, d, d, d, d]), (.exit 0, [d, d, d, .cell (.val (.int .i64)), d, d, d, d, d, d, d, d, d, d, d, d, d, d])]
noncomputable def cmp_Or_l3 : (Int × (List Int) × Int × Int × Unit) → Option ((Int × (List Int) × Int × Int × Unit) ⊕ ((Int × Unit) ⊕ (Int × Unit))) := fun (v3, v6, v7, v8, _) =>
  bif (decide (v8 < v7)) then
    if (((0 : Int) ≤ v8) ∧ (v8 < (((List.length v6) : Nat) : Int))) then
      bif ((List.getD v6 (Int.toNat v8) (0 : Int)) != v3) then
        some (Sum.inr (Sum.inl ((List.getD v6 (Int.toNat v8) (0 : Int)), ())))
      else
        some (Sum.inl (v3, v6, v7, (IntKind.wrap .i64 (v8 + (1 : Int))), ()))
    else
      none
  else
    some (Sum.inr (Sum.inr (v3, ())))
theorem cmp_Or_l3_eq : loopStep 18 E116 L116_0 (loopOf f116 3) sh116_3 xs116_3 = cmp_Or_l3 := by kernel_rfl
theorem loop116_3 {L : Nat → Option LoopD} (h : L 3 = some ⟨18, sh116_3, xs116_3, cmp_Or_l3⟩) : LoopOk prog L (loopOf f116 3) :=
  loopOk (tysOk_of tyl_ok) E116_ok (codeOk_in (L := L116_0) (tysOk_of tyl_ok) E116_ok mixed (c := loopOf f116 3) (bs := []) (by kernel_rfl) allNil (by kernel_rfl)) (by kernel_rfl) (by kernel_rfl) cmp_Or_l3_eq (by rw [show firstId (loopOf f116 3) = 3 from by kernel_rfl]; exact h)
noncomputable def L116_1 : Nat → Option LoopD := fun n => ifEq n 3 (some ⟨18, sh116_3, xs116_3, cmp_Or_l3⟩) (L116_0 n)
noncomputable def cmp_Or : (List Int) → Option (Int) := fun a0 =>
  Option.bind (loopF cmp_Or_l3 ((0 : Int), a0, (((List.length a0) : Nat) : Int), (0 : Int), ())) fun r0 =>
    (match r0 with
    | .inl (d1, _) =>
        some d1
    | .inr (d2, _) =>
        some d2)
noncomputable def A116 : FnA := ⟨[.v (.sl (.int .i64))], true, [.int .i64], fun x => cmp_Or x.1⟩
theorem cmp_Or_eq : fnF E116 L116_1 [.v (.sl (.int .i64))] true [.int .i64] f116.ntmps f116.results.toList (codeOf f116) = fun x => cmp_Or x.1 := by kernel_rfl
theorem A116_ok : FnOk prog 116 A116 := by
  have h := fnOk_of_run (P := prog) (E := E116) (tysOk_of tyl_ok) E116_ok (L := L116_1) (ps := [.v (.sl (.int .i64))]) (own := true) (outs := [.int .i64]) func116 (c := codeOf f116) (by kernel_rfl) (codeOk_in (L := L116_1) (tysOk_of tyl_ok) E116_ok mixed (c := codeOf f116) (bs := [loopOf f116 3]) (by kernel_rfl) (allCons (loop116_3 rfl) allNil) (by kernel_rfl))
  rw [cmp_Or_eq] at h
  exact h
/-! impl.stepOrder -/
noncomputable def E68 : Env := ⟨ty0, fun g => ifEq g 117 (some A117) (ifEq g 118 (some A118) (ifEq g 116 (some A116) (none))), fun _ => none, fun _ => none, fun _ => none⟩
theorem E68_ok : FnsOk prog E68 := (oneFn A117_ok func117 (by kernel_rfl) (by kernel_rfl) (oneFn A118_ok func118 (by kernel_rfl) (by kernel_rfl) (oneFn A116_ok func116 (by kernel_rfl) (by kernel_rfl) (noFns _ _))))
noncomputable def L68_0 : Nat → Option LoopD := fun _ => none
noncomputable def impl_stepOrder : (Int × (ByteArray × (Int × Int))) → (Int × (ByteArray × (Int × Int))) → Option (Int) := fun (a0_0, a0_1, a0_2, a0_3) (a1_0, a1_1, a1_2, a1_3) =>
  Option.bind (cmp_Compare a0_0 a1_0) fun r0 =>
    Option.bind (strings_Compare a0_1 a1_1) fun r1 =>
      Option.bind (cmp_Compare a0_2 a1_2) fun r2 =>
        Option.bind (cmp_Or (List.take 3 (List.drop 0 [r0, r1, r2]))) fun r3 =>
          some r3
noncomputable def A68 : FnA := ⟨[.v (.pair (.int .i64) (.pair .str (.pair (.int .i64) (.int .i64)))), .v (.pair (.int .i64) (.pair .str (.pair (.int .i64) (.int .i64))))], true, [.int .i64], fun x => impl_stepOrder x.1 x.2.1⟩
theorem impl_stepOrder_eq : fnF E68 L68_0 [.v (.pair (.int .i64) (.pair .str (.pair (.int .i64) (.int .i64)))), .v (.pair (.int .i64) (.pair .str (.pair (.int .i64) (.int .i64))))] true [.int .i64] f68.ntmps f68.results.toList (codeOf f68) = fun x => impl_stepOrder x.1 x.2.1 := by kernel_rfl
theorem A68_ok : FnOk prog 68 A68 := by
  have h := fnOk_of_run (P := prog) (E := E68) (tysOk_of tyl_ok) E68_ok (L := L68_0) (ps := [.v (.pair (.int .i64) (.pair .str (.pair (.int .i64) (.int .i64)))), .v (.pair (.int .i64) (.pair .str (.pair (.int .i64) (.int .i64))))]) (own := true) (outs := [.int .i64]) func68 (c := codeOf f68) (by kernel_rfl) (codeOk_in (L := L68_0) (tysOk_of tyl_ok) E68_ok mixed (c := codeOf f68) (bs := []) (by kernel_rfl) allNil (by kernel_rfl))
  rw [impl_stepOrder_eq] at h
  exact h
/-! impl.AutomatonValid -/
noncomputable def E27 : Env := ⟨ty0, fun g => ifEq g 80 (some A80) (ifEq g 68 (some A68) (none)), fun _ => none, fun _ => none, fun _ => none⟩
theorem E27_ok : FnsOk prog E27 := (oneFn A80_ok func80 (by kernel_rfl) (by kernel_rfl) (oneFn A68_ok func68 (by kernel_rfl) (by kernel_rfl) (noFns _ _)))
noncomputable def L27_0 : Nat → Option LoopD := fun _ => none
def sh27_4 : List Fm := [d, .box 100100 [.val (.int .i64), .val (.sl (.int .i64)), .val (.sl (.int .i64)), .val (.sl (.pair (.int .i64) (.pair .str (.pair (.int .i64) (.int .i64)))))], d, d, d, d, d, d, d, d, d, d, d, d, d, d, d, d, d, d, d, d, d, d, d, d, d, d, d, d, d, d, d, d, d, d, .cell (.val (.sl (.pair (.int .i64) (.pair .str (.pair (.int .i64) (.int .i64)))))), .cell (.val (.int .i64)), .cell (.val (.int .i64)), d, d, d, d, d, d, d, d, d, d, d, d, d, d, d, d, d, d, d, d, d, d, d, d, d, d, d, d, d, d, d, d, d, d, d, d, d, d, d, d, d, d, d, d, d, d, d, d, d, d, d, d, d, d, d, d, d, d, d, d, d, d]
def xs27_4 : List (Ex × List Fm) := [(.ret, [d, d, .cell (.val .bool), d, d, d, d, d, d, d, d, d, d, d, d, d, d, d, d, d, d, d, d, d, d, d, d, d, d, d, d, d, d, d, d, d, d, d, d, d, d, d, d, d, d, d, d, d, d, d, d, d, d, d, d, d, d, d, d, d, d, d, d, d, d, d, d, d, d, d, d, d, d, d, d, d, d, d, d, d, d, d, d, d, d, d, d, d, d, d, d, d, d, d, d, d, d, d, d, d, d]), (.exit 0, [d, d, d, d, d, d, d, d, d, d, d, d, d, d, d, d, d, d, d, d, d, d, d, d, d, d, d, d, d, d, d, d, d, d, d, d, d, d, d, d, d, d, d, d, d, d, d, d, d, d, d, d, d, d, d, d, d, d, d, d, d, d, d, d, d, d, d, d, d, d, d, d, d, d, d, d, d, d, d, d, d, d, d, d, d, d, d, d, d, d, d, d, d, d, d, d, d, d, d, d, d])]
noncomputable def impl_AutomatonValid_l4 : ((Int × (List Int) × (List Int) × (List (Int × (ByteArray × (Int × Int)))) × Unit) × (List (Int × (ByteArray × (Int × Int)))) × Int × Int × Unit) → Option (((Int × (List Int) × (List Int) × (List (Int × (ByteArray × (Int × Int)))) × Unit) × (List (Int × (ByteArray × (Int × Int)))) × Int × Int × Unit) ⊕ ((Bool × Unit) ⊕ (Unit))) := fun ((v1_0, v1_1, v1_2, v1_3, _), v36, v37, v38, _) =>
  bif (decide (v38 < v37)) then
    if (((0 : Int) ≤ v38) ∧ (v38 < (((List.length v36) : Nat) : Int))) then
      bif (decide ((List.getD v36 (Int.toNat v38) ((0 : Int), (⟨Array.empty⟩ : ByteArray), (0 : Int), (0 : Int))).1 < (0 : Int))) then
        some (Sum.inr (Sum.inl (false, ())))
      else
        bif (decide ((List.getD v36 (Int.toNat v38) ((0 : Int), (⟨Array.empty⟩ : ByteArray), (0 : Int), (0 : Int))).1 ≥ v1_0)) then
          some (Sum.inr (Sum.inl (false, ())))
        else
          bif (decide ((List.getD v36 (Int.toNat v38) ((0 : Int), (⟨Array.empty⟩ : ByteArray), (0 : Int), (0 : Int))).2.2.1 < (0 : Int))) then
            some (Sum.inr (Sum.inl (false, ())))
          else
            bif (decide ((List.getD v36 (Int.toNat v38) ((0 : Int), (⟨Array.empty⟩ : ByteArray), (0 : Int), (0 : Int))).2.2.1 ≥ v1_0)) then
              some (Sum.inr (Sum.inl (false, ())))
            else
              bif (!((ByteArray.toList (List.getD v36 (Int.toNat v38) ((0 : Int), (⟨Array.empty⟩ : ByteArray), (0 : Int), (0 : Int))).2.1) == (ByteArray.toList (⟨#[(97 : UInt8)]⟩ : ByteArray)))) then
                bif (!((ByteArray.toList (List.getD v36 (Int.toNat v38) ((0 : Int), (⟨Array.empty⟩ : ByteArray), (0 : Int), (0 : Int))).2.1) == (ByteArray.toList (⟨#[(98 : UInt8)]⟩ : ByteArray)))) then
                  some (Sum.inr (Sum.inl (false, ())))
                else
                  bif (decide ((List.getD v36 (Int.toNat v38) ((0 : Int), (⟨Array.empty⟩ : ByteArray), (0 : Int), (0 : Int))).2.2.2 < (0 : Int))) then
                    some (Sum.inr (Sum.inl (false, ())))
                  else
                    bif (decide ((List.getD v36 (Int.toNat v38) ((0 : Int), (⟨Array.empty⟩ : ByteArray), (0 : Int), (0 : Int))).2.2.2 > (3 : Int))) then
                      some (Sum.inr (Sum.inl (false, ())))
                    else
                      bif (decide (v38 > (0 : Int))) then
                        if (((0 : Int) ≤ (IntKind.wrap .i64 (v38 - (1 : Int)))) ∧ ((IntKind.wrap .i64 (v38 - (1 : Int))) < (((List.length v1_3) : Nat) : Int))) then
                          Option.bind (impl_stepOrder (List.getD v1_3 (Int.toNat (IntKind.wrap .i64 (v38 - (1 : Int)))) ((0 : Int), (⟨Array.empty⟩ : ByteArray), (0 : Int), (0 : Int))) ((List.getD v36 (Int.toNat v38) ((0 : Int), (⟨Array.empty⟩ : ByteArray), (0 : Int), (0 : Int))).1, (List.getD v36 (Int.toNat v38) ((0 : Int), (⟨Array.empty⟩ : ByteArray), (0 : Int), (0 : Int))).2.1, (List.getD v36 (Int.toNat v38) ((0 : Int), (⟨Array.empty⟩ : ByteArray), (0 : Int), (0 : Int))).2.2.1, (List.getD v36 (Int.toNat v38) ((0 : Int), (⟨Array.empty⟩ : ByteArray), (0 : Int), (0 : Int))).2.2.2)) fun r0 =>
                            bif (decide (r0 ≥ (0 : Int))) then
                              some (Sum.inr (Sum.inl (false, ())))
                            else
                              some (Sum.inl ((v1_0, v1_1, v1_2, v1_3, ()), v36, v37, (IntKind.wrap .i64 (v38 + (1 : Int))), ()))
                        else
                          none
                      else
                        some (Sum.inl ((v1_0, v1_1, v1_2, v1_3, ()), v36, v37, (IntKind.wrap .i64 (v38 + (1 : Int))), ()))
              else
                bif (decide ((List.getD v36 (Int.toNat v38) ((0 : Int), (⟨Array.empty⟩ : ByteArray), (0 : Int), (0 : Int))).2.2.2 < (0 : Int))) then
                  some (Sum.inr (Sum.inl (false, ())))
                else
                  bif (decide ((List.getD v36 (Int.toNat v38) ((0 : Int), (⟨Array.empty⟩ : ByteArray), (0 : Int), (0 : Int))).2.2.2 > (3 : Int))) then
                    some (Sum.inr (Sum.inl (false, ())))
                  else
                    bif (decide (v38 > (0 : Int))) then
                      if (((0 : Int) ≤ (IntKind.wrap .i64 (v38 - (1 : Int)))) ∧ ((IntKind.wrap .i64 (v38 - (1 : Int))) < (((List.length v1_3) : Nat) : Int))) then
                        Option.bind (impl_stepOrder (List.getD v1_3 (Int.toNat (IntKind.wrap .i64 (v38 - (1 : Int)))) ((0 : Int), (⟨Array.empty⟩ : ByteArray), (0 : Int), (0 : Int))) ((List.getD v36 (Int.toNat v38) ((0 : Int), (⟨Array.empty⟩ : ByteArray), (0 : Int), (0 : Int))).1, (List.getD v36 (Int.toNat v38) ((0 : Int), (⟨Array.empty⟩ : ByteArray), (0 : Int), (0 : Int))).2.1, (List.getD v36 (Int.toNat v38) ((0 : Int), (⟨Array.empty⟩ : ByteArray), (0 : Int), (0 : Int))).2.2.1, (List.getD v36 (Int.toNat v38) ((0 : Int), (⟨Array.empty⟩ : ByteArray), (0 : Int), (0 : Int))).2.2.2)) fun r1 =>
                          bif (decide (r1 ≥ (0 : Int))) then
                            some (Sum.inr (Sum.inl (false, ())))
                          else
                            some (Sum.inl ((v1_0, v1_1, v1_2, v1_3, ()), v36, v37, (IntKind.wrap .i64 (v38 + (1 : Int))), ()))
                      else
                        none
                    else
                      some (Sum.inl ((v1_0, v1_1, v1_2, v1_3, ()), v36, v37, (IntKind.wrap .i64 (v38 + (1 : Int))), ()))
    else
      none
  else
    some (Sum.inr (Sum.inr ()))
theorem impl_AutomatonValid_l4_eq : loopStep 101 E27 L27_0 (loopOf f27 4) sh27_4 xs27_4 = impl_AutomatonValid_l4 := by kernel_rfl
theorem loop27_4 {L : Nat → Option LoopD} (h : L 4 = some ⟨101, sh27_4, xs27_4, impl_AutomatonValid_l4⟩) : LoopOk prog L (loopOf f27 4) :=
  loopOk (tysOk_of tyl_ok) E27_ok (codeOk_in (L := L27_0) (tysOk_of tyl_ok) E27_ok mixed (c := loopOf f27 4) (bs := []) (by kernel_rfl) allNil (by kernel_rfl)) (by kernel_rfl) (by kernel_rfl) impl_AutomatonValid_l4_eq (by rw [show firstId (loopOf f27 4) = 4 from by kernel_rfl]; exact h)
noncomputable def L27_1 : Nat → Option LoopD := fun n => ifEq n 4 (some ⟨101, sh27_4, xs27_4, impl_AutomatonValid_l4⟩) (L27_0 n)
noncomputable def impl_AutomatonValid : (Int × ((List Int) × ((List Int) × (List (Int × (ByteArray × (Int × Int))))))) → Option (Bool) := fun (a0_0, a0_1, a0_2, a0_3) =>
  bif (decide (a0_0 < (1 : Int))) then
    some false
  else
    bif (decide (a0_0 > (4 : Int))) then
      some false
    else
      bif (decide ((((List.length a0_3) : Nat) : Int) > (24 : Int))) then
        some false
      else
        Option.bind (impl_statesOk a0_1 a0_0) fun r0 =>
          bif (!r0) then
            some false
          else
            Option.bind (impl_statesOk a0_2 a0_0) fun r1 =>
              bif (!r1) then
                some false
              else
                Option.bind (loopF impl_AutomatonValid_l4 ((a0_0, a0_1, a0_2, a0_3, ()), a0_3, (((List.length a0_3) : Nat) : Int), (0 : Int), ())) fun r2 =>
                  (match r2 with
                  | .inl (d3, _) =>
                      some d3
                  | .inr _ =>
                      some true)
noncomputable def A27 : FnA := ⟨[.v (.pair (.int .i64) (.pair (.sl (.int .i64)) (.pair (.sl (.int .i64)) (.sl (.pair (.int .i64) (.pair .str (.pair (.int .i64) (.int .i64))))))))], true, [.bool], fun x => impl_AutomatonValid x.1⟩
theorem impl_AutomatonValid_eq : fnF E27 L27_1 [.v (.pair (.int .i64) (.pair (.sl (.int .i64)) (.pair (.sl (.int .i64)) (.sl (.pair (.int .i64) (.pair .str (.pair (.int .i64) (.int .i64))))))))] true [.bool] f27.ntmps f27.results.toList (codeOf f27) = fun x => impl_AutomatonValid x.1 := by kernel_rfl
theorem A27_ok : FnOk prog 27 A27 := by
  have h := fnOk_of_run (P := prog) (E := E27) (tysOk_of tyl_ok) E27_ok (L := L27_1) (ps := [.v (.pair (.int .i64) (.pair (.sl (.int .i64)) (.pair (.sl (.int .i64)) (.sl (.pair (.int .i64) (.pair .str (.pair (.int .i64) (.int .i64))))))))]) (own := true) (outs := [.bool]) func27 (c := codeOf f27) (by kernel_rfl) (codeOk_in (L := L27_1) (tysOk_of tyl_ok) E27_ok mixed (c := codeOf f27) (bs := [loopOf f27 4]) (by kernel_rfl) (allCons (loop27_4 rfl) allNil) (by kernel_rfl))
  rw [impl_AutomatonValid_eq] at h
  exact h
/-! internal/stringslite.HasPrefix -/
noncomputable def E168 : Env := ⟨ty0, fun _ => none, fun _ => none, fun _ => none, fun _ => none⟩
theorem E168_ok : FnsOk prog E168 := (noFns _ _)
noncomputable def L168_0 : Nat → Option LoopD := fun _ => none
noncomputable def internal_stringslite_HasPrefix : ByteArray → ByteArray → Option (Bool) := fun a0 a1 =>
  bif (decide ((((ByteArray.size a0) : Nat) : Int) ≥ (((ByteArray.size a1) : Nat) : Int))) then
    if (((0 : Int) ≤ (((ByteArray.size a1) : Nat) : Int)) ∧ ((((ByteArray.size a1) : Nat) : Int) ≤ (((ByteArray.size a0) : Nat) : Int))) then
      some ((ByteArray.toList (ByteArray.extract a0 0 (Int.toNat (((ByteArray.size a1) : Nat) : Int)))) == (ByteArray.toList a1))
    else
      none
  else
    some false
noncomputable def A168 : FnA := ⟨[.v .str, .v .str], true, [.bool], fun x => internal_stringslite_HasPrefix x.1 x.2.1⟩
theorem internal_stringslite_HasPrefix_eq : fnF E168 L168_0 [.v .str, .v .str] true [.bool] f168.ntmps f168.results.toList (codeOf f168) = fun x => internal_stringslite_HasPrefix x.1 x.2.1 := by kernel_rfl
theorem A168_ok : FnOk prog 168 A168 := by
  have h := fnOk_of_run (P := prog) (E := E168) (tysOk_of tyl_ok) E168_ok (L := L168_0) (ps := [.v .str, .v .str]) (own := true) (outs := [.bool]) func168 (c := codeOf f168) (by kernel_rfl) (codeOk_in (L := L168_0) (tysOk_of tyl_ok) E168_ok mixed (c := codeOf f168) (bs := []) (by kernel_rfl) allNil (by kernel_rfl))
  rw [internal_stringslite_HasPrefix_eq] at h
  exact h
/-! strings.HasPrefix -/
noncomputable def E142 : Env := ⟨ty0, fun g => ifEq g 168 (some A168) (none), fun _ => none, fun _ => none, fun _ => none⟩
theorem E142_ok : FnsOk prog E142 := (oneFn A168_ok func168 (by kernel_rfl) (by kernel_rfl) (noFns _ _))
noncomputable def L142_0 : Nat → Option LoopD := fun _ => none
noncomputable def strings_HasPrefix : ByteArray → ByteArray → Option (Bool) := fun a0 a1 =>
  Option.bind (internal_stringslite_HasPrefix a0 a1) fun r0 =>
    some r0
noncomputable def A142 : FnA := ⟨[.v .str, .v .str], true, [.bool], fun x => strings_HasPrefix x.1 x.2.1⟩
theorem strings_HasPrefix_eq : fnF E142 L142_0 [.v .str, .v .str] true [.bool] f142.ntmps f142.results.toList (codeOf f142) = fun x => strings_HasPrefix x.1 x.2.1 := by kernel_rfl
theorem A142_ok : FnOk prog 142 A142 := by
  have h := fnOk_of_run (P := prog) (E := E142) (tysOk_of tyl_ok) E142_ok (L := L142_0) (ps := [.v .str, .v .str]) (own := true) (outs := [.bool]) func142 (c := codeOf f142) (by kernel_rfl) (codeOk_in (L := L142_0) (tysOk_of tyl_ok) E142_ok mixed (c := codeOf f142) (bs := []) (by kernel_rfl) allNil (by kernel_rfl))
  rw [strings_HasPrefix_eq] at h
  exact h
/-! impl.readParts -/
noncomputable def R104 (impl_readParts_rec : ByteArray → Option ((List (ByteArray × PT)) × ByteArray)) : FnA := ⟨[.v .str], true, [.sl (.pair .str .pt), .str], fun x => impl_readParts_rec x.1⟩
noncomputable def E104 (impl_readParts_rec : ByteArray → Option ((List (ByteArray × PT)) × ByteArray)) : Env := ⟨ty0, fun g => ifEq g 104 (some (R104 impl_readParts_rec)) (ifEq g 142 (some A142) (none)), fun _ => none, fun _ => none, fun _ => none⟩
theorem E104_ok (impl_readParts_rec : ByteArray → Option ((List (ByteArray × PT)) × ByteArray)) (hrec : FnOk prog 104 (R104 impl_readParts_rec)) : FnsOk prog (E104 impl_readParts_rec) := (oneFn hrec func104 (by kernel_rfl) (by kernel_rfl) (oneFn A142_ok func142 (by kernel_rfl) (by kernel_rfl) (noFns _ _)))
noncomputable def L104_0 (impl_readParts_rec : ByteArray → Option ((List (ByteArray × PT)) × ByteArray)) : Nat → Option LoopD := fun _ => none
def sh104_2 : List Fm := [.cell (.val .str), d, d, d, .cell (.own (.pair .str .pt) 100400 false), d, d, d, d, d, d, d, d, d, d, d, d, d, d, d, d, d, d, d, d, d, d, d, d, d, d, d, d, d, d, d, d, d, d, d, d, d, d, d, d, d, d, d, d]
def xs104_2 : List (Ex × List Fm) := [(.ret, [d, d, .cell (.own (.pair .str .pt) 100200 false), .cell (.val .str), d, d, d, d, d, d, d, d, d, d, d, d, d, d, d, d, d, d, d, d, d, d, d, d, d, d, d, d, d, d, d, d, d, d, d, d, d, d, d, d, d, d, d, d, d]), (.exit 0, [.cell (.val .str), d, d, d, .cell (.own (.pair .str .pt) 100400 false), d, d, d, d, d, d, d, d, d, d, d, d, d, d, d, d, d, d, d, d, d, d, d, d, d, d, d, d, d, d, d, d, d, d, d, d, d, d, d, d, d, d, d, d])]
noncomputable def impl_readParts_l2 (impl_readParts_rec : ByteArray → Option ((List (ByteArray × PT)) × ByteArray)) : (ByteArray × (List (ByteArray × PT)) × Unit) → Option ((ByteArray × (List (ByteArray × PT)) × Unit) ⊕ (((List (ByteArray × PT)) × ByteArray × Unit) ⊕ (ByteArray × (List (ByteArray × PT)) × Unit))) := fun (v0, v4, _) =>
  bif (!((ByteArray.toList v0) == (ByteArray.toList (⟨#[]⟩ : ByteArray)))) then
    if (((0 : Int) ≤ (0 : Int)) ∧ ((0 : Int) < (((ByteArray.size v0) : Nat) : Int))) then
      bif ((((UInt8.toNat (Array.getD (ByteArray.data v0) (Int.toNat (0 : Int)) (0 : UInt8))) : Nat) : Int) == (97 : Int)) then
        bif ((((UInt8.toNat (Array.getD (ByteArray.data v0) (Int.toNat (0 : Int)) (0 : UInt8))) : Nat) : Int) == (97 : Int)) then
          if (((0 : Int) ≤ (1 : Int)) ∧ ((1 : Int) ≤ (((ByteArray.size v0) : Nat) : Int))) then
            if (((0 + (List.length v4)) = (List.length v4)) ∧ ((((List.length v4) + (List.length (List.take 1 (List.drop 0 [((ByteArray.extract v0 0 (Int.toNat (1 : Int))), (PT.mk []))])))) * 40) ≤ 140737488355328)) then
              if (((0 : Int) ≤ (1 : Int)) ∧ ((1 : Int) ≤ (((ByteArray.size v0) : Nat) : Int))) then
                some (Sum.inl ((ByteArray.extract v0 (Int.toNat (1 : Int)) (ByteArray.size v0)), (List.take ((List.length v4) + (List.length (List.take 1 (List.drop 0 [((ByteArray.extract v0 0 (Int.toNat (1 : Int))), (PT.mk []))])))) (List.drop 0 ((List.drop 0 v4) ++ (List.take 1 (List.drop 0 [((ByteArray.extract v0 0 (Int.toNat (1 : Int))), (PT.mk []))]))))), ()))
              else
                none
            else
              none
          else
            none
        else
          bif ((((UInt8.toNat (Array.getD (ByteArray.data v0) (Int.toNat (0 : Int)) (0 : UInt8))) : Nat) : Int) == (40 : Int)) then
            if (((0 : Int) ≤ (1 : Int)) ∧ ((1 : Int) ≤ (((ByteArray.size v0) : Nat) : Int))) then
              Option.bind (impl_readParts_rec (ByteArray.extract v0 (Int.toNat (1 : Int)) (ByteArray.size v0))) fun (r0, r1) =>
                bif (decide ((((List.length r0) : Nat) : Int) > (0 : Int))) then
                  Option.bind (strings_HasPrefix r1 (⟨#[(41 : UInt8), (35 : UInt8)]⟩ : ByteArray)) fun r2 =>
                    bif r2 then
                      if (((0 + (List.length v4)) = (List.length v4)) ∧ ((((List.length v4) + (List.length (List.take 1 (List.drop 0 [((⟨Array.empty⟩ : ByteArray), (PT.mk (List.take (List.length r0) (List.drop 0 r0))))])))) * 40) ≤ 140737488355328)) then
                        if (((0 : Int) ≤ (2 : Int)) ∧ ((2 : Int) ≤ (((ByteArray.size r1) : Nat) : Int))) then
                          some (Sum.inl ((ByteArray.extract r1 (Int.toNat (2 : Int)) (ByteArray.size r1)), (List.take ((List.length v4) + (List.length (List.take 1 (List.drop 0 [((⟨Array.empty⟩ : ByteArray), (PT.mk (List.take (List.length r0) (List.drop 0 r0))))])))) (List.drop 0 ((List.drop 0 v4) ++ (List.take 1 (List.drop 0 [((⟨Array.empty⟩ : ByteArray), (PT.mk (List.take (List.length r0) (List.drop 0 r0))))]))))), ()))
                        else
                          none
                      else
                        none
                    else
                      some (Sum.inr (Sum.inl ((List.take (List.length v4) (List.drop 0 v4)), v0, ())))
                else
                  some (Sum.inr (Sum.inl ((List.take (List.length v4) (List.drop 0 v4)), v0, ())))
            else
              none
          else
            some (Sum.inr (Sum.inl ((List.take (List.length v4) (List.drop 0 v4)), v0, ())))
      else
        bif ((((UInt8.toNat (Array.getD (ByteArray.data v0) (Int.toNat (0 : Int)) (0 : UInt8))) : Nat) : Int) == (98 : Int)) then
          if (((0 : Int) ≤ (1 : Int)) ∧ ((1 : Int) ≤ (((ByteArray.size v0) : Nat) : Int))) then
            if (((0 + (List.length v4)) = (List.length v4)) ∧ ((((List.length v4) + (List.length (List.take 1 (List.drop 0 [((ByteArray.extract v0 0 (Int.toNat (1 : Int))), (PT.mk []))])))) * 40) ≤ 140737488355328)) then
              if (((0 : Int) ≤ (1 : Int)) ∧ ((1 : Int) ≤ (((ByteArray.size v0) : Nat) : Int))) then
                some (Sum.inl ((ByteArray.extract v0 (Int.toNat (1 : Int)) (ByteArray.size v0)), (List.take ((List.length v4) + (List.length (List.take 1 (List.drop 0 [((ByteArray.extract v0 0 (Int.toNat (1 : Int))), (PT.mk []))])))) (List.drop 0 ((List.drop 0 v4) ++ (List.take 1 (List.drop 0 [((ByteArray.extract v0 0 (Int.toNat (1 : Int))), (PT.mk []))]))))), ()))
              else
                none
            else
              none
          else
            none
        else
          bif ((((UInt8.toNat (Array.getD (ByteArray.data v0) (Int.toNat (0 : Int)) (0 : UInt8))) : Nat) : Int) == (40 : Int)) then
            if (((0 : Int) ≤ (1 : Int)) ∧ ((1 : Int) ≤ (((ByteArray.size v0) : Nat) : Int))) then
              Option.bind (impl_readParts_rec (ByteArray.extract v0 (Int.toNat (1 : Int)) (ByteArray.size v0))) fun (r3, r4) =>
                bif (decide ((((List.length r3) : Nat) : Int) > (0 : Int))) then
                  Option.bind (strings_HasPrefix r4 (⟨#[(41 : UInt8), (35 : UInt8)]⟩ : ByteArray)) fun r5 =>
                    bif r5 then
                      if (((0 + (List.length v4)) = (List.length v4)) ∧ ((((List.length v4) + (List.length (List.take 1 (List.drop 0 [((⟨Array.empty⟩ : ByteArray), (PT.mk (List.take (List.length r3) (List.drop 0 r3))))])))) * 40) ≤ 140737488355328)) then
                        if (((0 : Int) ≤ (2 : Int)) ∧ ((2 : Int) ≤ (((ByteArray.size r4) : Nat) : Int))) then
                          some (Sum.inl ((ByteArray.extract r4 (Int.toNat (2 : Int)) (ByteArray.size r4)), (List.take ((List.length v4) + (List.length (List.take 1 (List.drop 0 [((⟨Array.empty⟩ : ByteArray), (PT.mk (List.take (List.length r3) (List.drop 0 r3))))])))) (List.drop 0 ((List.drop 0 v4) ++ (List.take 1 (List.drop 0 [((⟨Array.empty⟩ : ByteArray), (PT.mk (List.take (List.length r3) (List.drop 0 r3))))]))))), ()))
                        else
                          none
                      else
                        none
                    else
                      some (Sum.inr (Sum.inl ((List.take (List.length v4) (List.drop 0 v4)), v0, ())))
                else
                  some (Sum.inr (Sum.inl ((List.take (List.length v4) (List.drop 0 v4)), v0, ())))
            else
              none
          else
            some (Sum.inr (Sum.inl ((List.take (List.length v4) (List.drop 0 v4)), v0, ())))
    else
      none
  else
    some (Sum.inr (Sum.inr (v0, (List.take (List.length v4) (List.drop 0 v4)), ())))
theorem impl_readParts_l2_eq (impl_readParts_rec : ByteArray → Option ((List (ByteArray × PT)) × ByteArray)) : loopStep 49 (E104 impl_readParts_rec) (L104_0 impl_readParts_rec) (loopOf f104 2) sh104_2 xs104_2 = (impl_readParts_l2 impl_readParts_rec) := by kernel_rfl
theorem loop104_2 (impl_readParts_rec : ByteArray → Option ((List (ByteArray × PT)) × ByteArray)) (hrec : FnOk prog 104 (R104 impl_readParts_rec)) {L : Nat → Option LoopD} (h : L 2 = some ⟨49, sh104_2, xs104_2, (impl_readParts_l2 impl_readParts_rec)⟩) : LoopOk prog L (loopOf f104 2) :=
  loopOk (tysOk_of tyl_ok) (E104_ok impl_readParts_rec hrec) (codeOk_in (L := (L104_0 impl_readParts_rec)) (tysOk_of tyl_ok) (E104_ok impl_readParts_rec hrec) mixed (c := loopOf f104 2) (bs := []) (by kernel_rfl) allNil (by kernel_rfl)) (by kernel_rfl) (by kernel_rfl) (impl_readParts_l2_eq impl_readParts_rec) (by rw [show firstId (loopOf f104 2) = 2 from by kernel_rfl]; exact h)
noncomputable def L104_1 (impl_readParts_rec : ByteArray → Option ((List (ByteArray × PT)) × ByteArray)) : Nat → Option LoopD := fun n => ifEq n 2 (some ⟨49, sh104_2, xs104_2, (impl_readParts_l2 impl_readParts_rec)⟩) ((L104_0 impl_readParts_rec) n)
noncomputable def impl_readParts_step (impl_readParts_rec : ByteArray → Option ((List (ByteArray × PT)) × ByteArray)) : ByteArray → Option ((List (ByteArray × PT)) × ByteArray) := fun a0 =>
  Option.bind (loopF (impl_readParts_l2 impl_readParts_rec) (a0, (List.take 0 (List.drop 0 [])), ())) fun r0 =>
    (match r0 with
    | .inl (d1, d2, _) =>
        some ((List.take (List.length d1) (List.drop 0 d1)), d2)
    | .inr (d3, d4, _) =>
        some ((List.take (List.length d4) (List.drop 0 d4)), d3))
theorem impl_readParts_step_eq (impl_readParts_rec : ByteArray → Option ((List (ByteArray × PT)) × ByteArray)) : fnF (E104 impl_readParts_rec) (L104_1 impl_readParts_rec) [.v .str] true [.sl (.pair .str .pt), .str] f104.ntmps f104.results.toList (codeOf f104) = fun x => (impl_readParts_step impl_readParts_rec) x.1 := by kernel_rfl
theorem impl_readParts_step_ok (impl_readParts_rec : ByteArray → Option ((List (ByteArray × PT)) × ByteArray)) (hrec : FnOk prog 104 (R104 impl_readParts_rec)) : FnOk prog 104 ⟨[.v .str], true, [.sl (.pair .str .pt), .str], fun x => (impl_readParts_step impl_readParts_rec) x.1⟩ := by
  have h := fnOk_of_run (P := prog) (E := (E104 impl_readParts_rec)) (tysOk_of tyl_ok) (E104_ok impl_readParts_rec hrec) (L := (L104_1 impl_readParts_rec)) (ps := [.v .str]) (own := true) (outs := [.sl (.pair .str .pt), .str]) func104 (c := codeOf f104) (by kernel_rfl) (codeOk_in (L := (L104_1 impl_readParts_rec)) (tysOk_of tyl_ok) (E104_ok impl_readParts_rec hrec) mixed (c := codeOf f104) (bs := [loopOf f104 2]) (by kernel_rfl) (allCons (loop104_2 impl_readParts_rec hrec rfl) allNil) (by kernel_rfl))
  rw [(impl_readParts_step_eq impl_readParts_rec)] at h
  exact h
/-- so many calls within each other -/
noncomputable def impl_readParts_fuel : Nat → ByteArray → Option ((List (ByteArray × PT)) × ByteArray)
  | 0 => fun _ => none
  | n + 1 => impl_readParts_step (impl_readParts_fuel n)
theorem impl_readParts_fuel_ok : ∀ n, FnOk prog 104 (R104 (impl_readParts_fuel n))
  | 0 => fun xs r h => by cases h
  | n + 1 => impl_readParts_step_ok (impl_readParts_fuel n) (impl_readParts_fuel_ok n)
noncomputable def impl_readParts : ByteArray → Option ((List (ByteArray × PT)) × ByteArray) := impl_readParts_fuel 200
noncomputable def A104 : FnA := R104 impl_readParts
theorem A104_ok : FnOk prog 104 A104 := impl_readParts_fuel_ok 200
/-! impl.parts -/
noncomputable def E51 : Env := ⟨ty0, fun g => ifEq g 104 (some A104) (none), fun _ => none, fun _ => none, fun _ => none⟩
theorem E51_ok : FnsOk prog E51 := (oneFn A104_ok func104 (by kernel_rfl) (by kernel_rfl) (noFns _ _))
noncomputable def L51_0 : Nat → Option LoopD := fun _ => none
noncomputable def impl_parts : ByteArray → Option ((List (ByteArray × PT)) × Bool) := fun a0 =>
  bif (decide ((((ByteArray.size a0) : Nat) : Int) > (120 : Int))) then
    some ([], false)
  else
    Option.bind (impl_readParts a0) fun (r0, r1) =>
      bif (decide ((((List.length r0) : Nat) : Int) > (0 : Int))) then
        some ((List.take (List.length r0) (List.drop 0 r0)), ((ByteArray.toList r1) == (ByteArray.toList (⟨#[]⟩ : ByteArray))))
      else
        some ((List.take (List.length r0) (List.drop 0 r0)), false)
noncomputable def A51 : FnA := ⟨[.v .str], true, [.sl (.pair .str .pt), .bool], fun x => impl_parts x.1⟩
theorem impl_parts_eq : fnF E51 L51_0 [.v .str] true [.sl (.pair .str .pt), .bool] f51.ntmps f51.results.toList (codeOf f51) = fun x => impl_parts x.1 := by kernel_rfl
theorem A51_ok : FnOk prog 51 A51 := by
  have h := fnOk_of_run (P := prog) (E := E51) (tysOk_of tyl_ok) E51_ok (L := L51_0) (ps := [.v .str]) (own := true) (outs := [.sl (.pair .str .pt), .bool]) func51 (c := codeOf f51) (by kernel_rfl) (codeOk_in (L := L51_0) (tysOk_of tyl_ok) E51_ok mixed (c := codeOf f51) (bs := []) (by kernel_rfl) allNil (by kernel_rfl))
  rw [impl_parts_eq] at h
  exact h
/-! impl.filled -/
noncomputable def E132 : Env := ⟨ty0, fun _ => none, fun _ => none, fun _ => none, fun _ => none⟩
theorem E132_ok : FnsOk prog E132 := (noFns _ _)
noncomputable def L132_0 : Nat → Option LoopD := fun _ => none
def sh132_6 : List Fm := [.cell (.val (.int .i64)), .clo [.int .i64, .int .i64] (.int .i64), d, d, .box 100400 [.val (.int .i64), .own (.int .i64) 100402 false], .box 100500 [.val (.int .i64), .own (.int .i64) 100502 false], .cell (.val (.int .i64)), d, d, d, .cell (.val (.int .i64)), .cell (.val (.int .i64)), d, d, .cell (.val (.int .i64)), .cell (.val (.int .i64)), d, d, d, d, d, d, d, d, d, d, d, d, d, d]
def xs132_6 : List (Ex × List Fm) := [(.exit 2, [.cell (.val (.int .i64)), .clo [.int .i64, .int .i64] (.int .i64), d, d, .box 100400 [.val (.int .i64), .own (.int .i64) 100402 false], .box 100500 [.val (.int .i64), .own (.int .i64) 100502 false], d, d, d, d, .cell (.val (.int .i64)), .cell (.val (.int .i64)), d, d, d, d, d, d, d, d, d, d, d, d, d, d, d, d, d, d])]
noncomputable def impl_filled_l6 : (Int × ((Int × Int × Unit) → Option (Int)) × (Int × (List Int) × Unit) × (Int × (List Int) × Unit) × Int × Int × Int × Int × Int × Unit) → Option ((Int × ((Int × Int × Unit) → Option (Int)) × (Int × (List Int) × Unit) × (Int × (List Int) × Unit) × Int × Int × Int × Int × Int × Unit) ⊕ ((Int × ((Int × Int × Unit) → Option (Int)) × (Int × (List Int) × Unit) × (Int × (List Int) × Unit) × Int × Int × Unit))) := fun (v0, v1, (v4_0, v4_1, _), (v5_0, v5_1, _), v6, v10, v11, v14, v15, _) =>
  bif (decide (v15 < v14)) then
    Option.bind (v1 (v6, v15, ())) fun r0 =>
      if (((0 + (List.length v5_1)) = (List.length v5_1)) ∧ ((((List.length v5_1) + (List.length (List.take 1 (List.drop 0 [r0])))) * 8) ≤ 140737488355328)) then
        some (Sum.inl (v0, v1, (v4_0, (List.take (List.length v4_1) (List.drop 0 v4_1)), ()), (v5_0, (List.take ((List.length v5_1) + (List.length (List.take 1 (List.drop 0 [r0])))) (List.drop 0 ((List.drop 0 v5_1) ++ (List.take 1 (List.drop 0 [r0]))))), ()), v6, v10, v11, v14, (IntKind.wrap .i64 (v15 + (1 : Int))), ()))
      else
        none
  else
    some (Sum.inr (v0, v1, (v4_0, (List.take (List.length v4_1) (List.drop 0 v4_1)), ()), (v5_0, (List.take (List.length v5_1) (List.drop 0 v5_1)), ()), v10, v11, ()))
theorem impl_filled_l6_eq : loopStep 30 E132 L132_0 (loopOf f132 6) sh132_6 xs132_6 = impl_filled_l6 := by kernel_rfl
theorem loop132_6 {L : Nat → Option LoopD} (h : L 6 = some ⟨30, sh132_6, xs132_6, impl_filled_l6⟩) : LoopOk prog L (loopOf f132 6) :=
  loopOk (tysOk_of tyl_ok) E132_ok (codeOk_in (L := L132_0) (tysOk_of tyl_ok) E132_ok mixed (c := loopOf f132 6) (bs := []) (by kernel_rfl) allNil (by kernel_rfl)) (by kernel_rfl) (by kernel_rfl) impl_filled_l6_eq (by rw [show firstId (loopOf f132 6) = 6 from by kernel_rfl]; exact h)
noncomputable def L132_1 : Nat → Option LoopD := fun n => ifEq n 6 (some ⟨30, sh132_6, xs132_6, impl_filled_l6⟩) (L132_0 n)
def sh132_3 : List Fm := [.cell (.val (.int .i64)), .clo [.int .i64, .int .i64] (.int .i64), d, d, .box 100400 [.val (.int .i64), .own (.int .i64) 100402 false], .box 100500 [.val (.int .i64), .own (.int .i64) 100502 false], d, d, d, d, .cell (.val (.int .i64)), .cell (.val (.int .i64)), d, d, d, d, d, d, d, d, d, d, d, d, d, d, d, d, d, d]
def xs132_3 : List (Ex × List Fm) := [(.exit 0, [d, d, d, d, .box 100400 [.val (.int .i64), .own (.int .i64) 100402 false], .box 100500 [.val (.int .i64), .own (.int .i64) 100502 false], d, d, d, d, d, d, d, d, d, d, d, d, d, d, d, d, d, d, d, d, d, d, d, d])]
noncomputable def impl_filled_l3 : (Int × ((Int × Int × Unit) → Option (Int)) × (Int × (List Int) × Unit) × (Int × (List Int) × Unit) × Int × Int × Unit) → Option ((Int × ((Int × Int × Unit) → Option (Int)) × (Int × (List Int) × Unit) × (Int × (List Int) × Unit) × Int × Int × Unit) ⊕ (((Int × (List Int) × Unit) × (Int × (List Int) × Unit) × Unit))) := fun (v0, v1, (v4_0, v4_1, _), (v5_0, v5_1, _), v10, v11, _) =>
  bif (decide (v11 < v10)) then
    Option.bind (loopF impl_filled_l6 (v0, v1, (v4_0, (List.take (List.length v4_1) (List.drop 0 v4_1)), ()), (v5_0, (List.take (List.length v5_1) (List.drop 0 v5_1)), ()), v11, v10, v11, v0, (0 : Int), ())) fun (r0, r1, (r2, r3, _), (r4, r5, _), r6, r7, _) =>
      some (Sum.inl (r0, r1, (r2, (List.take (List.length r3) (List.drop 0 r3)), ()), (r4, (List.take (List.length r5) (List.drop 0 r5)), ()), r6, (IntKind.wrap .i64 (r7 + (1 : Int))), ()))
  else
    some (Sum.inr ((v4_0, (List.take (List.length v4_1) (List.drop 0 v4_1)), ()), (v5_0, (List.take (List.length v5_1) (List.drop 0 v5_1)), ()), ()))
theorem impl_filled_l3_eq : loopStep 30 E132 L132_1 (loopOf f132 3) sh132_3 xs132_3 = impl_filled_l3 := by kernel_rfl
theorem loop132_3 {L : Nat → Option LoopD} (h : L 3 = some ⟨30, sh132_3, xs132_3, impl_filled_l3⟩) : LoopOk prog L (loopOf f132 3) :=
  loopOk (tysOk_of tyl_ok) E132_ok (codeOk_in (L := L132_1) (tysOk_of tyl_ok) E132_ok mixed (c := loopOf f132 3) (bs := [loopOf f132 6]) (by kernel_rfl) (allCons (loop132_6 rfl) allNil) (by kernel_rfl)) (by kernel_rfl) (by kernel_rfl) impl_filled_l3_eq (by rw [show firstId (loopOf f132 3) = 3 from by kernel_rfl]; exact h)
noncomputable def L132_2 : Nat → Option LoopD := fun n => ifEq n 3 (some ⟨30, sh132_3, xs132_3, impl_filled_l3⟩) (L132_1 n)
noncomputable def impl_filled : Int → ((Int × Int × Unit) → Option (Int)) → Option ((Int × (List Int))) := fun a0 a1 =>
  Option.bind (loopF impl_filled_l3 (a0, a1, ((0 : Int), [], ()), (a0, [], ()), a0, (0 : Int), ())) fun ((r0, r1, _), (r2, r3, _), _) =>
    some (r2, (List.take (List.length r3) (List.drop 0 r3)))
noncomputable def A132 : FnA := ⟨[.v (.int .i64), .clo [.int .i64, .int .i64] (.int .i64)], true, [.pair (.int .i64) (.sl (.int .i64))], fun x => impl_filled x.1 x.2.1⟩
theorem impl_filled_eq : fnF E132 L132_2 [.v (.int .i64), .clo [.int .i64, .int .i64] (.int .i64)] true [.pair (.int .i64) (.sl (.int .i64))] f132.ntmps f132.results.toList (codeOf f132) = fun x => impl_filled x.1 x.2.1 := by kernel_rfl
theorem A132_ok : FnOk prog 132 A132 := by
  have h := fnOk_of_run (P := prog) (E := E132) (tysOk_of tyl_ok) E132_ok (L := L132_2) (ps := [.v (.int .i64), .clo [.int .i64, .int .i64] (.int .i64)]) (own := true) (outs := [.pair (.int .i64) (.sl (.int .i64))]) func132 (c := codeOf f132) (by kernel_rfl) (codeOk_in (L := L132_2) (tysOk_of tyl_ok) E132_ok mixed (c := codeOf f132) (bs := [loopOf f132 3]) (by kernel_rfl) (allCons (loop132_3 rfl) allNil) (by kernel_rfl))
  rw [impl_filled_eq] at h
  exact h
/-! impl.StepMatrix$1 -/
noncomputable def E143 : Env := ⟨ty0, fun _ => none, fun _ => none, fun _ => none, fun _ => none⟩
theorem E143_ok : FnsOk prog E143 := (noFns _ _)
noncomputable def L143_0 : Nat → Option LoopD := fun _ => none
noncomputable def impl_StepMatrix_1 : Int → Int → Option (Int) := fun a0 a1 =>
  some (1000000 : Int)
noncomputable def A143 : FnA := ⟨[.v (.int .i64), .v (.int .i64)], true, [.int .i64], fun x => impl_StepMatrix_1 x.1 x.2.1⟩
theorem impl_StepMatrix_1_eq : fnF E143 L143_0 [.v (.int .i64), .v (.int .i64)] true [.int .i64] f143.ntmps f143.results.toList (codeOf f143) = fun x => impl_StepMatrix_1 x.1 x.2.1 := by kernel_rfl
theorem A143_ok : FnOk prog 143 A143 := by
  have h := fnOk_of_run (P := prog) (E := E143) (tysOk_of tyl_ok) E143_ok (L := L143_0) (ps := [.v (.int .i64), .v (.int .i64)]) (own := true) (outs := [.int .i64]) func143 (c := codeOf f143) (by kernel_rfl) (codeOk_in (L := L143_0) (tysOk_of tyl_ok) E143_ok mixed (c := codeOf f143) (bs := []) (by kernel_rfl) allNil (by kernel_rfl))
  rw [impl_StepMatrix_1_eq] at h
  exact h
/-! impl.StepMatrix -/
noncomputable def E105 : Env := ⟨ty0, fun g => ifEq g 27 (some A27) (ifEq g 132 (some A132) (ifEq g 143 (some A143) (none))), fun _ => none, fun _ => none, fun _ => none⟩
theorem E105_ok : FnsOk prog E105 := (oneFn A27_ok func27 (by kernel_rfl) (by kernel_rfl) (oneFn A132_ok func132 (by kernel_rfl) (by kernel_rfl) (oneFn A143_ok func143 (by kernel_rfl) (by kernel_rfl) (noFns _ _))))
noncomputable def L105_0 : Nat → Option LoopD := fun _ => none
def sh105_5 : List Fm := [d, .cell (.val .str), d, d, .box 100400 [.val (.int .i64), .own (.int .i64) 100402 false], d, .box 100600 [.val (.int .i64), .own (.int .i64) 100602 false], d, d, d, d, d, d, d, d, d, d, d, d, d, d, d, d, d, d, .cell (.val (.sl (.pair (.int .i64) (.pair .str (.pair (.int .i64) (.int .i64)))))), .cell (.val (.int .i64)), .cell (.val (.int .i64)), d, d, d, d, d, d, d, d, d, d, d, d, d, d, d, d, d, d, d, d, d, d]
def xs105_5 : List (Ex × List Fm) := [(.exit 0, [d, d, d, d, .box 100400 [.val (.int .i64), .own (.int .i64) 100402 false], d, .box 100600 [.val (.int .i64), .own (.int .i64) 100602 false], d, d, d, d, d, d, d, d, d, d, d, d, d, d, d, d, d, d, d, d, d, d, d, d, d, d, d, d, d, d, d, d, d, d, d, d, d, d, d, d, d, d, d])]
noncomputable def impl_StepMatrix_l5 : (ByteArray × (Int × (List Int) × Unit) × (Int × (List Int) × Unit) × (List (Int × (ByteArray × (Int × Int)))) × Int × Int × Unit) → Option ((ByteArray × (Int × (List Int) × Unit) × (Int × (List Int) × Unit) × (List (Int × (ByteArray × (Int × Int)))) × Int × Int × Unit) ⊕ (((Int × (List Int) × Unit) × (Int × (List Int) × Unit) × Unit))) := fun (v1, (v4_0, v4_1, _), (v6_0, v6_1, _), v25, v26, v27, _) =>
  bif (decide (v27 < v26)) then
    if (((0 : Int) ≤ v27) ∧ (v27 < (((List.length v25) : Nat) : Int))) then
      bif ((ByteArray.toList (List.getD v25 (Int.toNat v27) ((0 : Int), (⟨Array.empty⟩ : ByteArray), (0 : Int), (0 : Int))).2.1) == (ByteArray.toList v1)) then
        if (((0 : Int) ≤ (IntKind.wrap .i64 ((IntKind.wrap .i64 ((List.getD v25 (Int.toNat v27) ((0 : Int), (⟨Array.empty⟩ : ByteArray), (0 : Int), (0 : Int))).1 * v6_0)) + (List.getD v25 (Int.toNat v27) ((0 : Int), (⟨Array.empty⟩ : ByteArray), (0 : Int), (0 : Int))).2.2.1))) ∧ ((IntKind.wrap .i64 ((IntKind.wrap .i64 ((List.getD v25 (Int.toNat v27) ((0 : Int), (⟨Array.empty⟩ : ByteArray), (0 : Int), (0 : Int))).1 * v6_0)) + (List.getD v25 (Int.toNat v27) ((0 : Int), (⟨Array.empty⟩ : ByteArray), (0 : Int), (0 : Int))).2.2.1)) < (((List.length v6_1) : Nat) : Int))) then
          some (Sum.inl (v1, (v4_0, (List.take (List.length v4_1) (List.drop 0 v4_1)), ()), (v6_0, (List.take (List.length v6_1) (List.drop 0 (List.set v6_1 (0 + (Int.toNat (IntKind.wrap .i64 ((IntKind.wrap .i64 ((List.getD v25 (Int.toNat v27) ((0 : Int), (⟨Array.empty⟩ : ByteArray), (0 : Int), (0 : Int))).1 * v6_0)) + (List.getD v25 (Int.toNat v27) ((0 : Int), (⟨Array.empty⟩ : ByteArray), (0 : Int), (0 : Int))).2.2.1)))) (List.getD v25 (Int.toNat v27) ((0 : Int), (⟨Array.empty⟩ : ByteArray), (0 : Int), (0 : Int))).2.2.2))), ()), v25, v26, (IntKind.wrap .i64 (v27 + (1 : Int))), ()))
        else
          none
      else
        some (Sum.inl (v1, (v4_0, (List.take (List.length v4_1) (List.drop 0 v4_1)), ()), (v6_0, (List.take (List.length v6_1) (List.drop 0 v6_1)), ()), v25, v26, (IntKind.wrap .i64 (v27 + (1 : Int))), ()))
    else
      none
  else
    some (Sum.inr ((v4_0, (List.take (List.length v4_1) (List.drop 0 v4_1)), ()), (v6_0, (List.take (List.length v6_1) (List.drop 0 v6_1)), ()), ()))
theorem impl_StepMatrix_l5_eq : loopStep 50 E105 L105_0 (loopOf f105 5) sh105_5 xs105_5 = impl_StepMatrix_l5 := by kernel_rfl
theorem loop105_5 {L : Nat → Option LoopD} (h : L 5 = some ⟨50, sh105_5, xs105_5, impl_StepMatrix_l5⟩) : LoopOk prog L (loopOf f105 5) :=
  loopOk (tysOk_of tyl_ok) E105_ok (codeOk_in (L := L105_0) (tysOk_of tyl_ok) E105_ok mixed (c := loopOf f105 5) (bs := []) (by kernel_rfl) allNil (by kernel_rfl)) (by kernel_rfl) (by kernel_rfl) impl_StepMatrix_l5_eq (by rw [show firstId (loopOf f105 5) = 5 from by kernel_rfl]; exact h)
noncomputable def L105_1 : Nat → Option LoopD := fun n => ifEq n 5 (some ⟨50, sh105_5, xs105_5, impl_StepMatrix_l5⟩) (L105_0 n)
noncomputable def impl_StepMatrix : (Int × ((List Int) × ((List Int) × (List (Int × (ByteArray × (Int × Int))))))) → ByteArray → Option ((Int × (List Int)) × Bool) := fun (a0_0, a0_1, a0_2, a0_3) a1 =>
  Option.bind (impl_AutomatonValid (a0_0, a0_1, a0_2, a0_3)) fun r0 =>
    bif (!r0) then
      some (((0 : Int), []), false)
    else
      bif (!((ByteArray.toList a1) == (ByteArray.toList (⟨#[(97 : UInt8)]⟩ : ByteArray)))) then
        bif (!((ByteArray.toList a1) == (ByteArray.toList (⟨#[(98 : UInt8)]⟩ : ByteArray)))) then
          some (((0 : Int), []), false)
        else
          Option.bind (impl_filled a0_0 (fun y1 => (impl_StepMatrix_1 y1.1 y1.2.1))) fun (r2, r3) =>
            Option.bind (loopF impl_StepMatrix_l5 (a1, ((0 : Int), [], ()), (r2, (List.take (List.length r3) (List.drop 0 r3)), ()), a0_3, (((List.length a0_3) : Nat) : Int), (0 : Int), ())) fun ((r4, r5, _), (r6, r7, _), _) =>
              some ((r6, (List.take (List.length r7) (List.drop 0 r7))), true)
      else
        Option.bind (impl_filled a0_0 (fun y8 => (impl_StepMatrix_1 y8.1 y8.2.1))) fun (r9, r10) =>
          Option.bind (loopF impl_StepMatrix_l5 (a1, ((0 : Int), [], ()), (r9, (List.take (List.length r10) (List.drop 0 r10)), ()), a0_3, (((List.length a0_3) : Nat) : Int), (0 : Int), ())) fun ((r11, r12, _), (r13, r14, _), _) =>
            some ((r13, (List.take (List.length r14) (List.drop 0 r14))), true)
noncomputable def A105 : FnA := ⟨[.v (.pair (.int .i64) (.pair (.sl (.int .i64)) (.pair (.sl (.int .i64)) (.sl (.pair (.int .i64) (.pair .str (.pair (.int .i64) (.int .i64)))))))), .v .str], true, [.pair (.int .i64) (.sl (.int .i64)), .bool], fun x => impl_StepMatrix x.1 x.2.1⟩
theorem impl_StepMatrix_eq : fnF E105 L105_1 [.v (.pair (.int .i64) (.pair (.sl (.int .i64)) (.pair (.sl (.int .i64)) (.sl (.pair (.int .i64) (.pair .str (.pair (.int .i64) (.int .i64)))))))), .v .str] true [.pair (.int .i64) (.sl (.int .i64)), .bool] f105.ntmps f105.results.toList (codeOf f105) = fun x => impl_StepMatrix x.1 x.2.1 := by kernel_rfl
theorem A105_ok : FnOk prog 105 A105 := by
  have h := fnOk_of_run (P := prog) (E := E105) (tysOk_of tyl_ok) E105_ok (L := L105_1) (ps := [.v (.pair (.int .i64) (.pair (.sl (.int .i64)) (.pair (.sl (.int .i64)) (.sl (.pair (.int .i64) (.pair .str (.pair (.int .i64) (.int .i64)))))))), .v .str]) (own := true) (outs := [.pair (.int .i64) (.sl (.int .i64)), .bool]) func105 (c := codeOf f105) (by kernel_rfl) (codeOk_in (L := L105_1) (tysOk_of tyl_ok) E105_ok mixed (c := codeOf f105) (bs := [loopOf f105 5]) (by kernel_rfl) (allCons (loop105_5 rfl) allNil) (by kernel_rfl))
  rw [impl_StepMatrix_eq] at h
  exact h
/-! slices.IndexFunc[[]int,int] -/
noncomputable def E196 : Env := ⟨ty0, fun _ => none, fun _ => none, fun _ => none, fun _ => none⟩
theorem E196_ok : FnsOk prog E196 := (noFns _ _)
noncomputable def L196_0 : Nat → Option LoopD := fun _ => none
def sh196_2 : List Fm := [.cell (.val (.sl (.int .i64))), .clo [.int .i64] .bool, d, d, d, d, d, .cell (.val (.int .i64)), .cell (.val (.int .i64)), d, d, d, d, d, d, d, d, d, d]
def xs196_2 : List (Ex × List Fm) := [(.ret, [d, d, d, d, .cell (.val (.int .i64)), d, d, d, d, d, d, d, d, d, d, d, d, d, d]), (.exit 0, [d, d, d, d, d, d, d, d, d, d, d, d, d, d, d, d, d, d, d])]
noncomputable def slices_IndexFunc_l2 : ((List Int) × ((Int × Unit) → Option (Bool)) × Int × Int × Unit) → Option (((List Int) × ((Int × Unit) → Option (Bool)) × Int × Int × Unit) ⊕ ((Int × Unit) ⊕ (Unit))) := fun (v0, v1, v7, v8, _) =>
  bif (decide (v8 < v7)) then
    if (((0 : Int) ≤ v8) ∧ (v8 < (((List.length v0) : Nat) : Int))) then
      Option.bind (v1 ((List.getD v0 (Int.toNat v8) (0 : Int)), ())) fun r0 =>
        bif r0 then
          some (Sum.inr (Sum.inl (v8, ())))
        else
          some (Sum.inl (v0, v1, v7, (IntKind.wrap .i64 (v8 + (1 : Int))), ()))
    else
      none
  else
    some (Sum.inr (Sum.inr ()))
theorem slices_IndexFunc_l2_eq : loopStep 19 E196 L196_0 (loopOf f196 2) sh196_2 xs196_2 = slices_IndexFunc_l2 := by kernel_rfl
theorem loop196_2 {L : Nat → Option LoopD} (h : L 2 = some ⟨19, sh196_2, xs196_2, slices_IndexFunc_l2⟩) : LoopOk prog L (loopOf f196 2) :=
  loopOk (tysOk_of tyl_ok) E196_ok (codeOk_in (L := L196_0) (tysOk_of tyl_ok) E196_ok mixed (c := loopOf f196 2) (bs := []) (by kernel_rfl) allNil (by kernel_rfl)) (by kernel_rfl) (by kernel_rfl) slices_IndexFunc_l2_eq (by rw [show firstId (loopOf f196 2) = 2 from by kernel_rfl]; exact h)
noncomputable def L196_1 : Nat → Option LoopD := fun n => ifEq n 2 (some ⟨19, sh196_2, xs196_2, slices_IndexFunc_l2⟩) (L196_0 n)
noncomputable def slices_IndexFunc : (List Int) → ((Int × Unit) → Option (Bool)) → Option (Int) := fun a0 a1 =>
  Option.bind (loopF slices_IndexFunc_l2 (a0, a1, (((List.length a0) : Nat) : Int), (0 : Int), ())) fun r0 =>
    (match r0 with
    | .inl (d1, _) =>
        some d1
    | .inr _ =>
        some (-1 : Int))
noncomputable def A196 : FnA := ⟨[.v (.sl (.int .i64)), .clo [.int .i64] .bool], true, [.int .i64], fun x => slices_IndexFunc x.1 x.2.1⟩
theorem slices_IndexFunc_eq : fnF E196 L196_1 [.v (.sl (.int .i64)), .clo [.int .i64] .bool] true [.int .i64] f196.ntmps f196.results.toList (codeOf f196) = fun x => slices_IndexFunc x.1 x.2.1 := by kernel_rfl
theorem A196_ok : FnOk prog 196 A196 := by
  have h := fnOk_of_run (P := prog) (E := E196) (tysOk_of tyl_ok) E196_ok (L := L196_1) (ps := [.v (.sl (.int .i64)), .clo [.int .i64] .bool]) (own := true) (outs := [.int .i64]) func196 (c := codeOf f196) (by kernel_rfl) (codeOk_in (L := L196_1) (tysOk_of tyl_ok) E196_ok mixed (c := codeOf f196) (bs := [loopOf f196 2]) (by kernel_rfl) (allCons (loop196_2 rfl) allNil) (by kernel_rfl))
  rw [slices_IndexFunc_eq] at h
  exact h
/-! slices.ContainsFunc[[]int,int] -/
noncomputable def E165 : Env := ⟨ty0, fun g => ifEq g 196 (some A196) (none), fun _ => none, fun _ => none, fun _ => none⟩
theorem E165_ok : FnsOk prog E165 := (oneFn A196_ok func196 (by kernel_rfl) (by kernel_rfl) (noFns _ _))
noncomputable def L165_0 : Nat → Option LoopD := fun _ => none
noncomputable def slices_ContainsFunc : (List Int) → ((Int × Unit) → Option (Bool)) → Option (Bool) := fun a0 a1 =>
  Option.bind (slices_IndexFunc a0 a1) fun r0 =>
    some (decide (r0 ≥ (0 : Int)))
noncomputable def A165 : FnA := ⟨[.v (.sl (.int .i64)), .clo [.int .i64] .bool], true, [.bool], fun x => slices_ContainsFunc x.1 x.2.1⟩
theorem slices_ContainsFunc_eq : fnF E165 L165_0 [.v (.sl (.int .i64)), .clo [.int .i64] .bool] true [.bool] f165.ntmps f165.results.toList (codeOf f165) = fun x => slices_ContainsFunc x.1 x.2.1 := by kernel_rfl
theorem A165_ok : FnOk prog 165 A165 := by
  have h := fnOk_of_run (P := prog) (E := E165) (tysOk_of tyl_ok) E165_ok (L := L165_0) (ps := [.v (.sl (.int .i64)), .clo [.int .i64] .bool]) (own := true) (outs := [.bool]) func165 (c := codeOf f165) (by kernel_rfl) (codeOk_in (L := L165_0) (tysOk_of tyl_ok) E165_ok mixed (c := codeOf f165) (bs := []) (by kernel_rfl) allNil (by kernel_rfl))
  rw [slices_ContainsFunc_eq] at h
  exact h
/-! impl.CostValid -/
noncomputable def E170 : Env := ⟨ty0, fun _ => none, fun _ => none, fun _ => none, fun _ => none⟩
theorem E170_ok : FnsOk prog E170 := (noFns _ _)
noncomputable def L170_0 : Nat → Option LoopD := fun _ => none
noncomputable def impl_CostValid : Int → Option (Bool) := fun a0 =>
  bif (decide (a0 ≥ (0 : Int))) then
    some (decide (a0 ≤ (1000000 : Int)))
  else
    some false
noncomputable def A170 : FnA := ⟨[.v (.int .i64)], true, [.bool], fun x => impl_CostValid x.1⟩
theorem impl_CostValid_eq : fnF E170 L170_0 [.v (.int .i64)] true [.bool] f170.ntmps f170.results.toList (codeOf f170) = fun x => impl_CostValid x.1 := by kernel_rfl
theorem A170_ok : FnOk prog 170 A170 := by
  have h := fnOk_of_run (P := prog) (E := E170) (tysOk_of tyl_ok) E170_ok (L := L170_0) (ps := [.v (.int .i64)]) (own := true) (outs := [.bool]) func170 (c := codeOf f170) (by kernel_rfl) (codeOk_in (L := L170_0) (tysOk_of tyl_ok) E170_ok mixed (c := codeOf f170) (bs := []) (by kernel_rfl) allNil (by kernel_rfl))
  rw [impl_CostValid_eq] at h
  exact h
/-! impl.MatrixValid$1 -/
noncomputable def E169 : Env := ⟨ty0, fun g => ifEq g 170 (some A170) (none), fun _ => none, fun _ => none, fun _ => none⟩
theorem E169_ok : FnsOk prog E169 := (oneFn A170_ok func170 (by kernel_rfl) (by kernel_rfl) (noFns _ _))
noncomputable def L169_0 : Nat → Option LoopD := fun _ => none
noncomputable def impl_MatrixValid_1 : Int → Option (Bool) := fun a0 =>
  Option.bind (impl_CostValid a0) fun r0 =>
    some (!r0)
noncomputable def A169 : FnA := ⟨[.v (.int .i64)], true, [.bool], fun x => impl_MatrixValid_1 x.1⟩
theorem impl_MatrixValid_1_eq : fnF E169 L169_0 [.v (.int .i64)] true [.bool] f169.ntmps f169.results.toList (codeOf f169) = fun x => impl_MatrixValid_1 x.1 := by kernel_rfl
theorem A169_ok : FnOk prog 169 A169 := by
  have h := fnOk_of_run (P := prog) (E := E169) (tysOk_of tyl_ok) E169_ok (L := L169_0) (ps := [.v (.int .i64)]) (own := true) (outs := [.bool]) func169 (c := codeOf f169) (by kernel_rfl) (codeOk_in (L := L169_0) (tysOk_of tyl_ok) E169_ok mixed (c := codeOf f169) (bs := []) (by kernel_rfl) allNil (by kernel_rfl))
  rw [impl_MatrixValid_1_eq] at h
  exact h
/-! impl.MatrixValid -/
noncomputable def E144 : Env := ⟨ty0, fun g => ifEq g 165 (some A165) (ifEq g 169 (some A169) (none)), fun _ => none, fun _ => none, fun _ => none⟩
theorem E144_ok : FnsOk prog E144 := (oneFn A165_ok func165 (by kernel_rfl) (by kernel_rfl) (oneFn A169_ok func169 (by kernel_rfl) (by kernel_rfl) (noFns _ _)))
noncomputable def L144_0 : Nat → Option LoopD := fun _ => none
noncomputable def impl_MatrixValid : (Int × (List Int)) → Option (Bool) := fun (a0_0, a0_1) =>
  bif (decide (a0_0 < (1 : Int))) then
    some false
  else
    bif (decide (a0_0 > (4 : Int))) then
      some false
    else
      bif ((((List.length a0_1) : Nat) : Int) != (IntKind.wrap .i64 (a0_0 * a0_0))) then
        some false
      else
        Option.bind (slices_ContainsFunc a0_1 (fun y0 => (impl_MatrixValid_1 y0.1))) fun r1 =>
          some (!r1)
noncomputable def A144 : FnA := ⟨[.v (.pair (.int .i64) (.sl (.int .i64)))], true, [.bool], fun x => impl_MatrixValid x.1⟩
theorem impl_MatrixValid_eq : fnF E144 L144_0 [.v (.pair (.int .i64) (.sl (.int .i64)))] true [.bool] f144.ntmps f144.results.toList (codeOf f144) = fun x => impl_MatrixValid x.1 := by kernel_rfl
theorem A144_ok : FnOk prog 144 A144 := by
  have h := fnOk_of_run (P := prog) (E := E144) (tysOk_of tyl_ok) E144_ok (L := L144_0) (ps := [.v (.pair (.int .i64) (.sl (.int .i64)))]) (own := true) (outs := [.bool]) func144 (c := codeOf f144) (by kernel_rfl) (codeOk_in (L := L144_0) (tysOk_of tyl_ok) E144_ok mixed (c := codeOf f144) (bs := []) (by kernel_rfl) allNil (by kernel_rfl))
  rw [impl_MatrixValid_eq] at h
  exact h
/-! (impl.Matrix).at -/
noncomputable def E134 : Env := ⟨ty0, fun _ => none, fun _ => none, fun _ => none, fun _ => none⟩
theorem E134_ok : FnsOk prog E134 := (noFns _ _)
noncomputable def L134_0 : Nat → Option LoopD := fun _ => none
noncomputable def impl_Matrix_at : (Int × (List Int)) → Int → Int → Option (Int) := fun (a0_0, a0_1) a1 a2 =>
  if (((0 : Int) ≤ (IntKind.wrap .i64 ((IntKind.wrap .i64 (a1 * a0_0)) + a2))) ∧ ((IntKind.wrap .i64 ((IntKind.wrap .i64 (a1 * a0_0)) + a2)) < (((List.length a0_1) : Nat) : Int))) then
    some (List.getD a0_1 (Int.toNat (IntKind.wrap .i64 ((IntKind.wrap .i64 (a1 * a0_0)) + a2))) (0 : Int))
  else
    none
noncomputable def A134 : FnA := ⟨[.v (.pair (.int .i64) (.sl (.int .i64))), .v (.int .i64), .v (.int .i64)], true, [.int .i64], fun x => impl_Matrix_at x.1 x.2.1 x.2.2.1⟩
theorem impl_Matrix_at_eq : fnF E134 L134_0 [.v (.pair (.int .i64) (.sl (.int .i64))), .v (.int .i64), .v (.int .i64)] true [.int .i64] f134.ntmps f134.results.toList (codeOf f134) = fun x => impl_Matrix_at x.1 x.2.1 x.2.2.1 := by kernel_rfl
theorem A134_ok : FnOk prog 134 A134 := by
  have h := fnOk_of_run (P := prog) (E := E134) (tysOk_of tyl_ok) E134_ok (L := L134_0) (ps := [.v (.pair (.int .i64) (.sl (.int .i64))), .v (.int .i64), .v (.int .i64)]) (own := true) (outs := [.int .i64]) func134 (c := codeOf f134) (by kernel_rfl) (codeOk_in (L := L134_0) (tysOk_of tyl_ok) E134_ok mixed (c := codeOf f134) (bs := []) (by kernel_rfl) allNil (by kernel_rfl))
  rw [impl_Matrix_at_eq] at h
  exact h
/-! impl.GradesOf$1 -/
noncomputable def E145 : Env := ⟨ty0, fun g => ifEq g 134 (some A134) (none), fun _ => none, fun _ => none, fun _ => none⟩
theorem E145_ok : FnsOk prog E145 := (oneFn A134_ok func134 (by kernel_rfl) (by kernel_rfl) (noFns _ _))
noncomputable def L145_0 : Nat → Option LoopD := fun _ => none
noncomputable def impl_GradesOf_1 : Int → Int → (Int × (List Int)) → Option (Int) := fun a0 a1 (a2_0, a2_1) =>
  Option.bind (impl_Matrix_at (a2_0, a2_1) a0 a1) fun r0 =>
    bif (r0 == (0 : Int)) then
      some (0 : Int)
    else
      bif (r0 == (1000000 : Int)) then
        some (3 : Int)
      else
        some (1 : Int)
noncomputable def A145 : FnA := ⟨[.v (.int .i64), .v (.int .i64), .cap (.pair (.int .i64) (.sl (.int .i64)))], true, [.int .i64], fun x => impl_GradesOf_1 x.1 x.2.1 x.2.2.1⟩
theorem impl_GradesOf_1_eq : fnF E145 L145_0 [.v (.int .i64), .v (.int .i64), .cap (.pair (.int .i64) (.sl (.int .i64)))] true [.int .i64] f145.ntmps f145.results.toList (codeOf f145) = fun x => impl_GradesOf_1 x.1 x.2.1 x.2.2.1 := by kernel_rfl
theorem A145_ok : FnOk prog 145 A145 := by
  have h := fnOk_of_run (P := prog) (E := E145) (tysOk_of tyl_ok) E145_ok (L := L145_0) (ps := [.v (.int .i64), .v (.int .i64), .cap (.pair (.int .i64) (.sl (.int .i64)))]) (own := true) (outs := [.int .i64]) func145 (c := codeOf f145) (by kernel_rfl) (codeOk_in (L := L145_0) (tysOk_of tyl_ok) E145_ok mixed (c := codeOf f145) (bs := []) (by kernel_rfl) allNil (by kernel_rfl))
  rw [impl_GradesOf_1_eq] at h
  exact h
/-! impl.GradesOf -/
noncomputable def E106 : Env := ⟨ty0, fun g => ifEq g 144 (some A144) (ifEq g 132 (some A132) (ifEq g 145 (some A145) (none))), fun _ => none, fun _ => none, fun _ => none⟩
theorem E106_ok : FnsOk prog E106 := (oneFn A144_ok func144 (by kernel_rfl) (by kernel_rfl) (oneFn A132_ok func132 (by kernel_rfl) (by kernel_rfl) (oneFn A145_ok func145 (by kernel_rfl) (by kernel_rfl) (noFns _ _))))
noncomputable def L106_0 : Nat → Option LoopD := fun _ => none
noncomputable def impl_GradesOf : (Int × (List Int)) → Option ((Int × (List Int)) × Bool) := fun (a0_0, a0_1) =>
  Option.bind (impl_MatrixValid (a0_0, a0_1)) fun r0 =>
    bif (!r0) then
      some (((0 : Int), []), false)
    else
      Option.bind (impl_filled a0_0 (fun y1 => (impl_GradesOf_1 y1.1 y1.2.1 (a0_0, a0_1)))) fun (r2, r3) =>
        some ((r2, (List.take (List.length r3) (List.drop 0 r3))), true)
noncomputable def A106 : FnA := ⟨[.v (.pair (.int .i64) (.sl (.int .i64)))], true, [.pair (.int .i64) (.sl (.int .i64)), .bool], fun x => impl_GradesOf x.1⟩
theorem impl_GradesOf_eq : fnF E106 L106_0 [.v (.pair (.int .i64) (.sl (.int .i64)))] true [.pair (.int .i64) (.sl (.int .i64)), .bool] f106.ntmps f106.results.toList (codeOf f106) = fun x => impl_GradesOf x.1 := by kernel_rfl
theorem A106_ok : FnOk prog 106 A106 := by
  have h := fnOk_of_run (P := prog) (E := E106) (tysOk_of tyl_ok) E106_ok (L := L106_0) (ps := [.v (.pair (.int .i64) (.sl (.int .i64)))]) (own := true) (outs := [.pair (.int .i64) (.sl (.int .i64)), .bool]) func106 (c := codeOf f106) (by kernel_rfl) (codeOk_in (L := L106_0) (tysOk_of tyl_ok) E106_ok mixed (c := codeOf f106) (bs := []) (by kernel_rfl) allNil (by kernel_rfl))
  rw [impl_GradesOf_eq] at h
  exact h
/-! impl.GradesValid$1 -/
noncomputable def E166 : Env := ⟨ty0, fun _ => none, fun _ => none, fun _ => none, fun _ => none⟩
theorem E166_ok : FnsOk prog E166 := (noFns _ _)
noncomputable def L166_0 : Nat → Option LoopD := fun _ => none
noncomputable def impl_GradesValid_1 : Int → Option (Bool) := fun a0 =>
  some (decide (a0 > (3 : Int)))
noncomputable def A166 : FnA := ⟨[.v (.int .i64)], true, [.bool], fun x => impl_GradesValid_1 x.1⟩
theorem impl_GradesValid_1_eq : fnF E166 L166_0 [.v (.int .i64)] true [.bool] f166.ntmps f166.results.toList (codeOf f166) = fun x => impl_GradesValid_1 x.1 := by kernel_rfl
theorem A166_ok : FnOk prog 166 A166 := by
  have h := fnOk_of_run (P := prog) (E := E166) (tysOk_of tyl_ok) E166_ok (L := L166_0) (ps := [.v (.int .i64)]) (own := true) (outs := [.bool]) func166 (c := codeOf f166) (by kernel_rfl) (codeOk_in (L := L166_0) (tysOk_of tyl_ok) E166_ok mixed (c := codeOf f166) (bs := []) (by kernel_rfl) allNil (by kernel_rfl))
  rw [impl_GradesValid_1_eq] at h
  exact h
/-! impl.GradesValid -/
noncomputable def E137 : Env := ⟨ty0, fun g => ifEq g 144 (some A144) (ifEq g 165 (some A165) (ifEq g 166 (some A166) (none))), fun _ => none, fun _ => none, fun _ => none⟩
theorem E137_ok : FnsOk prog E137 := (oneFn A144_ok func144 (by kernel_rfl) (by kernel_rfl) (oneFn A165_ok func165 (by kernel_rfl) (by kernel_rfl) (oneFn A166_ok func166 (by kernel_rfl) (by kernel_rfl) (noFns _ _))))
noncomputable def L137_0 : Nat → Option LoopD := fun _ => none
noncomputable def impl_GradesValid : (Int × (List Int)) → Option (Bool) := fun (a0_0, a0_1) =>
  Option.bind (impl_MatrixValid (a0_0, a0_1)) fun r0 =>
    bif r0 then
      Option.bind (slices_ContainsFunc a0_1 (fun y1 => (impl_GradesValid_1 y1.1))) fun r2 =>
        some (!r2)
    else
      some false
noncomputable def A137 : FnA := ⟨[.v (.pair (.int .i64) (.sl (.int .i64)))], true, [.bool], fun x => impl_GradesValid x.1⟩
theorem impl_GradesValid_eq : fnF E137 L137_0 [.v (.pair (.int .i64) (.sl (.int .i64)))] true [.bool] f137.ntmps f137.results.toList (codeOf f137) = fun x => impl_GradesValid x.1 := by kernel_rfl
theorem A137_ok : FnOk prog 137 A137 := by
  have h := fnOk_of_run (P := prog) (E := E137) (tysOk_of tyl_ok) E137_ok (L := L137_0) (ps := [.v (.pair (.int .i64) (.sl (.int .i64)))]) (own := true) (outs := [.bool]) func137 (c := codeOf f137) (by kernel_rfl) (codeOk_in (L := L137_0) (tysOk_of tyl_ok) E137_ok mixed (c := codeOf f137) (bs := []) (by kernel_rfl) allNil (by kernel_rfl))
  rw [impl_GradesValid_eq] at h
  exact h
/-! impl.MulGrades$1 -/
noncomputable def E138 : Env := ⟨ty0, fun g => ifEq g 134 (some A134) (none), fun _ => none, fun _ => none, fun _ => none⟩
theorem E138_ok : FnsOk prog E138 := (oneFn A134_ok func134 (by kernel_rfl) (by kernel_rfl) (noFns _ _))
noncomputable def L138_0 : Nat → Option LoopD := fun _ => none
def sh138_3 : List Fm := [.cell (.val (.int .i64)), .cell (.val (.int .i64)), .fp (.pair (.int .i64) (.sl (.int .i64))), .fp (.pair (.int .i64) (.sl (.int .i64))), d, d, d, .cell (.val (.int .i64)), d, d, .cell (.val (.int .i64)), .cell (.val (.int .i64)), d, d, d, d, d, d, d, d, d, d, d, d, d, d, d]
def xs138_3 : List (Ex × List Fm) := [(.exit 0, [d, d, d, d, d, d, d, .cell (.val (.int .i64)), d, d, d, d, d, d, d, d, d, d, d, d, d, d, d, d, d, d, d])]
noncomputable def impl_MulGrades_1_l3 : (Int × Int × (Int × (List Int)) × (Int × (List Int)) × Int × Int × Int × Unit) → Option ((Int × Int × (Int × (List Int)) × (Int × (List Int)) × Int × Int × Int × Unit) ⊕ ((Int × Unit))) := fun (v0, v1, (v2_0, v2_1), (v3_0, v3_1), v7, v10, v11, _) =>
  bif (decide (v11 < v10)) then
    Option.bind (impl_Matrix_at (v2_0, v2_1) v0 v11) fun r0 =>
      Option.bind (impl_Matrix_at (v3_0, v3_1) v11 v1) fun r1 =>
        some (Sum.inl (v0, v1, (v2_0, v2_1), (v3_0, v3_1), (if ((if (r1 > r0) then r1 else r0) < v7) then (if (r1 > r0) then r1 else r0) else v7), v10, (IntKind.wrap .i64 (v11 + (1 : Int))), ()))
  else
    some (Sum.inr (v7, ()))
theorem impl_MulGrades_1_l3_eq : loopStep 27 E138 L138_0 (loopOf f138 3) sh138_3 xs138_3 = impl_MulGrades_1_l3 := by kernel_rfl
theorem loop138_3 {L : Nat → Option LoopD} (h : L 3 = some ⟨27, sh138_3, xs138_3, impl_MulGrades_1_l3⟩) : LoopOk prog L (loopOf f138 3) :=
  loopOk (tysOk_of tyl_ok) E138_ok (codeOk_in (L := L138_0) (tysOk_of tyl_ok) E138_ok mixed (c := loopOf f138 3) (bs := []) (by kernel_rfl) allNil (by kernel_rfl)) (by kernel_rfl) (by kernel_rfl) impl_MulGrades_1_l3_eq (by rw [show firstId (loopOf f138 3) = 3 from by kernel_rfl]; exact h)
noncomputable def L138_1 : Nat → Option LoopD := fun n => ifEq n 3 (some ⟨27, sh138_3, xs138_3, impl_MulGrades_1_l3⟩) (L138_0 n)
noncomputable def impl_MulGrades_1 : Int → Int → (Int × (List Int)) → (Int × (List Int)) → Option (Int) := fun a0 a1 (a2_0, a2_1) (a3_0, a3_1) =>
  Option.bind (loopF impl_MulGrades_1_l3 (a0, a1, (a2_0, a2_1), (a3_0, a3_1), (3 : Int), a2_0, (0 : Int), ())) fun (r0, _) =>
    some r0
noncomputable def A138 : FnA := ⟨[.v (.int .i64), .v (.int .i64), .cap (.pair (.int .i64) (.sl (.int .i64))), .cap (.pair (.int .i64) (.sl (.int .i64)))], true, [.int .i64], fun x => impl_MulGrades_1 x.1 x.2.1 x.2.2.1 x.2.2.2.1⟩
theorem impl_MulGrades_1_eq : fnF E138 L138_1 [.v (.int .i64), .v (.int .i64), .cap (.pair (.int .i64) (.sl (.int .i64))), .cap (.pair (.int .i64) (.sl (.int .i64)))] true [.int .i64] f138.ntmps f138.results.toList (codeOf f138) = fun x => impl_MulGrades_1 x.1 x.2.1 x.2.2.1 x.2.2.2.1 := by kernel_rfl
theorem A138_ok : FnOk prog 138 A138 := by
  have h := fnOk_of_run (P := prog) (E := E138) (tysOk_of tyl_ok) E138_ok (L := L138_1) (ps := [.v (.int .i64), .v (.int .i64), .cap (.pair (.int .i64) (.sl (.int .i64))), .cap (.pair (.int .i64) (.sl (.int .i64)))]) (own := true) (outs := [.int .i64]) func138 (c := codeOf f138) (by kernel_rfl) (codeOk_in (L := L138_1) (tysOk_of tyl_ok) E138_ok mixed (c := codeOf f138) (bs := [loopOf f138 3]) (by kernel_rfl) (allCons (loop138_3 rfl) allNil) (by kernel_rfl))
  rw [impl_MulGrades_1_eq] at h
  exact h
/-! impl.MulGrades -/
noncomputable def E96 : Env := ⟨ty0, fun g => ifEq g 137 (some A137) (ifEq g 132 (some A132) (ifEq g 138 (some A138) (none))), fun _ => none, fun _ => none, fun _ => none⟩
theorem E96_ok : FnsOk prog E96 := (oneFn A137_ok func137 (by kernel_rfl) (by kernel_rfl) (oneFn A132_ok func132 (by kernel_rfl) (by kernel_rfl) (oneFn A138_ok func138 (by kernel_rfl) (by kernel_rfl) (noFns _ _))))
noncomputable def L96_0 : Nat → Option LoopD := fun _ => none
noncomputable def impl_MulGrades : (Int × (List Int)) → (Int × (List Int)) → Option ((Int × (List Int)) × Bool) := fun (a0_0, a0_1) (a1_0, a1_1) =>
  Option.bind (impl_GradesValid (a0_0, a0_1)) fun r0 =>
    bif (!r0) then
      some (((0 : Int), []), false)
    else
      Option.bind (impl_GradesValid (a1_0, a1_1)) fun r1 =>
        bif (!r1) then
          some (((0 : Int), []), false)
        else
          bif (a0_0 != a1_0) then
            some (((0 : Int), []), false)
          else
            Option.bind (impl_filled a0_0 (fun y2 => (impl_MulGrades_1 y2.1 y2.2.1 (a0_0, a0_1) (a1_0, a1_1)))) fun (r3, r4) =>
              some ((r3, (List.take (List.length r4) (List.drop 0 r4))), true)
noncomputable def A96 : FnA := ⟨[.v (.pair (.int .i64) (.sl (.int .i64))), .v (.pair (.int .i64) (.sl (.int .i64)))], true, [.pair (.int .i64) (.sl (.int .i64)), .bool], fun x => impl_MulGrades x.1 x.2.1⟩
theorem impl_MulGrades_eq : fnF E96 L96_0 [.v (.pair (.int .i64) (.sl (.int .i64))), .v (.pair (.int .i64) (.sl (.int .i64)))] true [.pair (.int .i64) (.sl (.int .i64)), .bool] f96.ntmps f96.results.toList (codeOf f96) = fun x => impl_MulGrades x.1 x.2.1 := by kernel_rfl
theorem A96_ok : FnOk prog 96 A96 := by
  have h := fnOk_of_run (P := prog) (E := E96) (tysOk_of tyl_ok) E96_ok (L := L96_0) (ps := [.v (.pair (.int .i64) (.sl (.int .i64))), .v (.pair (.int .i64) (.sl (.int .i64)))]) (own := true) (outs := [.pair (.int .i64) (.sl (.int .i64)), .bool]) func96 (c := codeOf f96) (by kernel_rfl) (codeOk_in (L := L96_0) (tysOk_of tyl_ok) E96_ok mixed (c := codeOf f96) (bs := []) (by kernel_rfl) allNil (by kernel_rfl))
  rw [impl_MulGrades_eq] at h
  exact h
/-! slices.Equal[[]int,int] -/
noncomputable def E102 : Env := ⟨ty0, fun _ => none, fun _ => none, fun _ => none, fun _ => none⟩
theorem E102_ok : FnsOk prog E102 := (noFns _ _)
noncomputable def L102_0 : Nat → Option LoopD := fun _ => none
def sh102_4 : List Fm := [.cell (.val (.sl (.int .i64))), .cell (.val (.sl (.int .i64))), d, d, d, d, d, d, d, d, d, d, .cell (.val (.int .i64)), .cell (.val (.int .i64)), d, d, d, d, d, d, d, d, d, d, d, d]
def xs102_4 : List (Ex × List Fm) := [(.ret, [d, d, d, d, .cell (.val .bool), d, d, d, d, d, d, d, d, d, d, d, d, d, d, d, d, d, d, d, d, d]), (.exit 0, [d, d, d, d, d, d, d, d, d, d, d, d, d, d, d, d, d, d, d, d, d, d, d, d, d, d])]
noncomputable def slices_Equal_l4 : ((List Int) × (List Int) × Int × Int × Unit) → Option (((List Int) × (List Int) × Int × Int × Unit) ⊕ ((Bool × Unit) ⊕ (Unit))) := fun (v0, v1, v12, v13, _) =>
  bif (decide (v13 < v12)) then
    if (((0 : Int) ≤ v13) ∧ (v13 < (((List.length v0) : Nat) : Int))) then
      if (((0 : Int) ≤ v13) ∧ (v13 < (((List.length v1) : Nat) : Int))) then
        bif ((List.getD v0 (Int.toNat v13) (0 : Int)) != (List.getD v1 (Int.toNat v13) (0 : Int))) then
          some (Sum.inr (Sum.inl (false, ())))
        else
          some (Sum.inl (v0, v1, v12, (IntKind.wrap .i64 (v13 + (1 : Int))), ()))
      else
        none
    else
      none
  else
    some (Sum.inr (Sum.inr ()))
theorem slices_Equal_l4_eq : loopStep 26 E102 L102_0 (loopOf f102 4) sh102_4 xs102_4 = slices_Equal_l4 := by kernel_rfl
theorem loop102_4 {L : Nat → Option LoopD} (h : L 4 = some ⟨26, sh102_4, xs102_4, slices_Equal_l4⟩) : LoopOk prog L (loopOf f102 4) :=
  loopOk (tysOk_of tyl_ok) E102_ok (codeOk_in (L := L102_0) (tysOk_of tyl_ok) E102_ok mixed (c := loopOf f102 4) (bs := []) (by kernel_rfl) allNil (by kernel_rfl)) (by kernel_rfl) (by kernel_rfl) slices_Equal_l4_eq (by rw [show firstId (loopOf f102 4) = 4 from by kernel_rfl]; exact h)
noncomputable def L102_1 : Nat → Option LoopD := fun n => ifEq n 4 (some ⟨26, sh102_4, xs102_4, slices_Equal_l4⟩) (L102_0 n)
noncomputable def slices_Equal : (List Int) → (List Int) → Option (Bool) := fun a0 a1 =>
  bif ((((List.length a0) : Nat) : Int) != (((List.length a1) : Nat) : Int)) then
    some false
  else
    Option.bind (loopF slices_Equal_l4 (a0, a1, (((List.length a0) : Nat) : Int), (0 : Int), ())) fun r0 =>
      (match r0 with
      | .inl (d1, _) =>
          some d1
      | .inr _ =>
          some true)
noncomputable def A102 : FnA := ⟨[.v (.sl (.int .i64)), .v (.sl (.int .i64))], true, [.bool], fun x => slices_Equal x.1 x.2.1⟩
theorem slices_Equal_eq : fnF E102 L102_1 [.v (.sl (.int .i64)), .v (.sl (.int .i64))] true [.bool] f102.ntmps f102.results.toList (codeOf f102) = fun x => slices_Equal x.1 x.2.1 := by kernel_rfl
theorem A102_ok : FnOk prog 102 A102 := by
  have h := fnOk_of_run (P := prog) (E := E102) (tysOk_of tyl_ok) E102_ok (L := L102_1) (ps := [.v (.sl (.int .i64)), .v (.sl (.int .i64))]) (own := true) (outs := [.bool]) func102 (c := codeOf f102) (by kernel_rfl) (codeOk_in (L := L102_1) (tysOk_of tyl_ok) E102_ok mixed (c := codeOf f102) (bs := [loopOf f102 4]) (by kernel_rfl) (allCons (loop102_4 rfl) allNil) (by kernel_rfl))
  rw [slices_Equal_eq] at h
  exact h
/-! impl.SameMatrix -/
noncomputable def E49 : Env := ⟨ty0, fun g => ifEq g 102 (some A102) (none), fun _ => none, fun _ => none, fun _ => none⟩
theorem E49_ok : FnsOk prog E49 := (oneFn A102_ok func102 (by kernel_rfl) (by kernel_rfl) (noFns _ _))
noncomputable def L49_0 : Nat → Option LoopD := fun _ => none
noncomputable def impl_SameMatrix : (Int × (List Int)) → (Int × (List Int)) → Option (Bool) := fun (a0_0, a0_1) (a1_0, a1_1) =>
  bif (a0_0 == a1_0) then
    Option.bind (slices_Equal a0_1 a1_1) fun r0 =>
      some r0
  else
    some false
noncomputable def A49 : FnA := ⟨[.v (.pair (.int .i64) (.sl (.int .i64))), .v (.pair (.int .i64) (.sl (.int .i64)))], true, [.bool], fun x => impl_SameMatrix x.1 x.2.1⟩
theorem impl_SameMatrix_eq : fnF E49 L49_0 [.v (.pair (.int .i64) (.sl (.int .i64))), .v (.pair (.int .i64) (.sl (.int .i64)))] true [.bool] f49.ntmps f49.results.toList (codeOf f49) = fun x => impl_SameMatrix x.1 x.2.1 := by kernel_rfl
theorem A49_ok : FnOk prog 49 A49 := by
  have h := fnOk_of_run (P := prog) (E := E49) (tysOk_of tyl_ok) E49_ok (L := L49_0) (ps := [.v (.pair (.int .i64) (.sl (.int .i64))), .v (.pair (.int .i64) (.sl (.int .i64)))]) (own := true) (outs := [.bool]) func49 (c := codeOf f49) (by kernel_rfl) (codeOk_in (L := L49_0) (tysOk_of tyl_ok) E49_ok mixed (c := codeOf f49) (bs := []) (by kernel_rfl) allNil (by kernel_rfl))
  rw [impl_SameMatrix_eq] at h
  exact h
/-! impl.IsIdempotent -/
noncomputable def E131 : Env := ⟨ty0, fun g => ifEq g 96 (some A96) (ifEq g 49 (some A49) (none)), fun _ => none, fun _ => none, fun _ => none⟩
theorem E131_ok : FnsOk prog E131 := (oneFn A96_ok func96 (by kernel_rfl) (by kernel_rfl) (oneFn A49_ok func49 (by kernel_rfl) (by kernel_rfl) (noFns _ _)))
noncomputable def L131_0 : Nat → Option LoopD := fun _ => none
noncomputable def impl_IsIdempotent : (Int × (List Int)) → Option (Bool) := fun (a0_0, a0_1) =>
  Option.bind (impl_MulGrades (a0_0, a0_1) (a0_0, a0_1)) fun ((r0, r1), r2) =>
    bif r2 then
      Option.bind (impl_SameMatrix (r0, (List.take (List.length r1) (List.drop 0 r1))) (a0_0, a0_1)) fun r3 =>
        some r3
    else
      some false
noncomputable def A131 : FnA := ⟨[.v (.pair (.int .i64) (.sl (.int .i64)))], true, [.bool], fun x => impl_IsIdempotent x.1⟩
theorem impl_IsIdempotent_eq : fnF E131 L131_0 [.v (.pair (.int .i64) (.sl (.int .i64)))] true [.bool] f131.ntmps f131.results.toList (codeOf f131) = fun x => impl_IsIdempotent x.1 := by kernel_rfl
theorem A131_ok : FnOk prog 131 A131 := by
  have h := fnOk_of_run (P := prog) (E := E131) (tysOk_of tyl_ok) E131_ok (L := L131_0) (ps := [.v (.pair (.int .i64) (.sl (.int .i64)))]) (own := true) (outs := [.bool]) func131 (c := codeOf f131) (by kernel_rfl) (codeOk_in (L := L131_0) (tysOk_of tyl_ok) E131_ok mixed (c := codeOf f131) (bs := []) (by kernel_rfl) allNil (by kernel_rfl))
  rw [impl_IsIdempotent_eq] at h
  exact h
/-! impl.Stabilise$1 -/
noncomputable def E133 : Env := ⟨ty0, fun g => ifEq g 134 (some A134) (none), fun _ => none, fun _ => none, fun _ => none⟩
theorem E133_ok : FnsOk prog E133 := (oneFn A134_ok func134 (by kernel_rfl) (by kernel_rfl) (noFns _ _))
noncomputable def L133_0 : Nat → Option LoopD := fun _ => none
def sh133_3 : List Fm := [.cell (.val (.int .i64)), .cell (.val (.int .i64)), .fp (.pair (.int .i64) (.sl (.int .i64))), d, d, d, .cell (.val (.int .i64)), d, d, d, .cell (.val (.int .i64)), .cell (.val (.int .i64)), d, d, d, d, d, d, d, d, d, d, d, d, d, d, d, d, d, d, d, d, d, d]
def xs133_3 : List (Ex × List Fm) := [(.exit 0, [d, d, d, d, d, d, .cell (.val (.int .i64)), d, d, d, d, d, d, d, d, d, d, d, d, d, d, d, d, d, d, d, d, d, d, d, d, d, d, d])]
noncomputable def impl_Stabilise_1_l3 : (Int × Int × (Int × (List Int)) × Int × Int × Int × Unit) → Option ((Int × Int × (Int × (List Int)) × Int × Int × Int × Unit) ⊕ ((Int × Unit))) := fun (v0, v1, (v2_0, v2_1), v6, v10, v11, _) =>
  bif (decide (v11 < v10)) then
    Option.bind (impl_Matrix_at (v2_0, v2_1) v11 v11) fun r0 =>
      bif (r0 == (1 : Int)) then
        Option.bind (impl_Matrix_at (v2_0, v2_1) v0 v11) fun r1 =>
          Option.bind (impl_Matrix_at (v2_0, v2_1) v11 v1) fun r2 =>
            some (Sum.inl (v0, v1, (v2_0, v2_1), (if ((if (r2 > (if ((2 : Int) > r1) then (2 : Int) else r1)) then r2 else (if ((2 : Int) > r1) then (2 : Int) else r1)) < v6) then (if (r2 > (if ((2 : Int) > r1) then (2 : Int) else r1)) then r2 else (if ((2 : Int) > r1) then (2 : Int) else r1)) else v6), v10, (IntKind.wrap .i64 (v11 + (1 : Int))), ()))
      else
        Option.bind (impl_Matrix_at (v2_0, v2_1) v0 v11) fun r3 =>
          Option.bind (impl_Matrix_at (v2_0, v2_1) v11 v1) fun r4 =>
            some (Sum.inl (v0, v1, (v2_0, v2_1), (if ((if (r4 > (if (r0 > r3) then r0 else r3)) then r4 else (if (r0 > r3) then r0 else r3)) < v6) then (if (r4 > (if (r0 > r3) then r0 else r3)) then r4 else (if (r0 > r3) then r0 else r3)) else v6), v10, (IntKind.wrap .i64 (v11 + (1 : Int))), ()))
  else
    some (Sum.inr (v6, ()))
theorem impl_Stabilise_1_l3_eq : loopStep 34 E133 L133_0 (loopOf f133 3) sh133_3 xs133_3 = impl_Stabilise_1_l3 := by kernel_rfl
theorem loop133_3 {L : Nat → Option LoopD} (h : L 3 = some ⟨34, sh133_3, xs133_3, impl_Stabilise_1_l3⟩) : LoopOk prog L (loopOf f133 3) :=
  loopOk (tysOk_of tyl_ok) E133_ok (codeOk_in (L := L133_0) (tysOk_of tyl_ok) E133_ok mixed (c := loopOf f133 3) (bs := []) (by kernel_rfl) allNil (by kernel_rfl)) (by kernel_rfl) (by kernel_rfl) impl_Stabilise_1_l3_eq (by rw [show firstId (loopOf f133 3) = 3 from by kernel_rfl]; exact h)
noncomputable def L133_1 : Nat → Option LoopD := fun n => ifEq n 3 (some ⟨34, sh133_3, xs133_3, impl_Stabilise_1_l3⟩) (L133_0 n)
noncomputable def impl_Stabilise_1 : Int → Int → (Int × (List Int)) → Option (Int) := fun a0 a1 (a2_0, a2_1) =>
  Option.bind (loopF impl_Stabilise_1_l3 (a0, a1, (a2_0, a2_1), (3 : Int), a2_0, (0 : Int), ())) fun (r0, _) =>
    some r0
noncomputable def A133 : FnA := ⟨[.v (.int .i64), .v (.int .i64), .cap (.pair (.int .i64) (.sl (.int .i64)))], true, [.int .i64], fun x => impl_Stabilise_1 x.1 x.2.1 x.2.2.1⟩
theorem impl_Stabilise_1_eq : fnF E133 L133_1 [.v (.int .i64), .v (.int .i64), .cap (.pair (.int .i64) (.sl (.int .i64)))] true [.int .i64] f133.ntmps f133.results.toList (codeOf f133) = fun x => impl_Stabilise_1 x.1 x.2.1 x.2.2.1 := by kernel_rfl
theorem A133_ok : FnOk prog 133 A133 := by
  have h := fnOk_of_run (P := prog) (E := E133) (tysOk_of tyl_ok) E133_ok (L := L133_1) (ps := [.v (.int .i64), .v (.int .i64), .cap (.pair (.int .i64) (.sl (.int .i64)))]) (own := true) (outs := [.int .i64]) func133 (c := codeOf f133) (by kernel_rfl) (codeOk_in (L := L133_1) (tysOk_of tyl_ok) E133_ok mixed (c := codeOf f133) (bs := [loopOf f133 3]) (by kernel_rfl) (allCons (loop133_3 rfl) allNil) (by kernel_rfl))
  rw [impl_Stabilise_1_eq] at h
  exact h
/-! impl.Stabilise -/
noncomputable def E94 : Env := ⟨ty0, fun g => ifEq g 131 (some A131) (ifEq g 132 (some A132) (ifEq g 133 (some A133) (none))), fun _ => none, fun _ => none, fun _ => none⟩
theorem E94_ok : FnsOk prog E94 := (oneFn A131_ok func131 (by kernel_rfl) (by kernel_rfl) (oneFn A132_ok func132 (by kernel_rfl) (by kernel_rfl) (oneFn A133_ok func133 (by kernel_rfl) (by kernel_rfl) (noFns _ _))))
noncomputable def L94_0 : Nat → Option LoopD := fun _ => none
noncomputable def impl_Stabilise : (Int × (List Int)) → Option ((Int × (List Int)) × Bool) := fun (a0_0, a0_1) =>
  Option.bind (impl_IsIdempotent (a0_0, a0_1)) fun r0 =>
    bif (!r0) then
      some (((0 : Int), []), false)
    else
      Option.bind (impl_filled a0_0 (fun y1 => (impl_Stabilise_1 y1.1 y1.2.1 (a0_0, a0_1)))) fun (r2, r3) =>
        some ((r2, (List.take (List.length r3) (List.drop 0 r3))), true)
noncomputable def A94 : FnA := ⟨[.v (.pair (.int .i64) (.sl (.int .i64)))], true, [.pair (.int .i64) (.sl (.int .i64)), .bool], fun x => impl_Stabilise x.1⟩
theorem impl_Stabilise_eq : fnF E94 L94_0 [.v (.pair (.int .i64) (.sl (.int .i64)))] true [.pair (.int .i64) (.sl (.int .i64)), .bool] f94.ntmps f94.results.toList (codeOf f94) = fun x => impl_Stabilise x.1 := by kernel_rfl
theorem A94_ok : FnOk prog 94 A94 := by
  have h := fnOk_of_run (P := prog) (E := E94) (tysOk_of tyl_ok) E94_ok (L := L94_0) (ps := [.v (.pair (.int .i64) (.sl (.int .i64)))]) (own := true) (outs := [.pair (.int .i64) (.sl (.int .i64)), .bool]) func94 (c := codeOf f94) (by kernel_rfl) (codeOk_in (L := L94_0) (tysOk_of tyl_ok) E94_ok mixed (c := codeOf f94) (bs := []) (by kernel_rfl) allNil (by kernel_rfl))
  rw [impl_Stabilise_eq] at h
  exact h
/-! impl.value -/
noncomputable def R52 (impl_value_rec : (Int × ((List Int) × ((List Int) × (List (Int × (ByteArray × (Int × Int))))))) → (List (ByteArray × PT)) → Option ((Int × (List Int)) × Bool)) : FnA := ⟨[.v (.pair (.int .i64) (.pair (.sl (.int .i64)) (.pair (.sl (.int .i64)) (.sl (.pair (.int .i64) (.pair .str (.pair (.int .i64) (.int .i64)))))))), .v (.sl (.pair .str .pt))], true, [.pair (.int .i64) (.sl (.int .i64)), .bool], fun x => impl_value_rec x.1 x.2.1⟩
noncomputable def E52 (impl_value_rec : (Int × ((List Int) × ((List Int) × (List (Int × (ByteArray × (Int × Int))))))) → (List (ByteArray × PT)) → Option ((Int × (List Int)) × Bool)) : Env := ⟨ty0, fun g => ifEq g 105 (some A105) (ifEq g 106 (some A106) (ifEq g 52 (some (R52 impl_value_rec)) (ifEq g 94 (some A94) (ifEq g 96 (some A96) (none))))), fun _ => none, fun _ => none, fun _ => none⟩
theorem E52_ok (impl_value_rec : (Int × ((List Int) × ((List Int) × (List (Int × (ByteArray × (Int × Int))))))) → (List (ByteArray × PT)) → Option ((Int × (List Int)) × Bool)) (hrec : FnOk prog 52 (R52 impl_value_rec)) : FnsOk prog (E52 impl_value_rec) := (oneFn A105_ok func105 (by kernel_rfl) (by kernel_rfl) (oneFn A106_ok func106 (by kernel_rfl) (by kernel_rfl) (oneFn hrec func52 (by kernel_rfl) (by kernel_rfl) (oneFn A94_ok func94 (by kernel_rfl) (by kernel_rfl) (oneFn A96_ok func96 (by kernel_rfl) (by kernel_rfl) (noFns _ _))))))
noncomputable def L52_0 (impl_value_rec : (Int × ((List Int) × ((List Int) × (List (Int × (ByteArray × (Int × Int))))))) → (List (ByteArray × PT)) → Option ((Int × (List Int)) × Bool)) : Nat → Option LoopD := fun _ => none
def sh52_3 : List Fm := [d, d, .box 100200 [.val (.int .i64), .val (.sl (.int .i64)), .val (.sl (.int .i64)), .val (.sl (.pair (.int .i64) (.pair .str (.pair (.int .i64) (.int .i64)))))], d, .box 100400 [.val (.int .i64), .own (.int .i64) 100402 false], d, .box 100600 [.val (.int .i64), .own (.int .i64) 100602 false], d, d, d, d, d, d, .cell (.val (.sl (.pair .str .pt))), .cell (.val (.int .i64)), .cell (.val (.int .i64)), d, d, d, d, d, d, d, d, d, d, d, d, d, d, d, d, d, d, d, d, d, d, d, d, d, d, d, d, d, d, d, d, d, d, d, d, d, d, d, d, d, d, d, d, d, d]
def xs52_3 : List (Ex × List Fm) := [(.ret, [d, d, d, d, .box 100400 [.val (.int .i64), .own (.int .i64) 100402 false], .cell (.val .bool), d, d, d, d, d, d, d, d, d, d, d, d, d, d, d, d, d, d, d, d, d, d, d, d, d, d, d, d, d, d, d, d, d, d, d, d, d, d, d, d, d, d, d, d, d, d, d, d, d, d, d, d, d, d, d, d]), (.exit 0, [d, d, d, d, .box 100400 [.val (.int .i64), .own (.int .i64) 100402 false], d, .box 100600 [.val (.int .i64), .own (.int .i64) 100602 false], d, d, d, d, d, d, d, d, d, d, d, d, d, d, d, d, d, d, d, d, d, d, d, d, d, d, d, d, d, d, d, d, d, d, d, d, d, d, d, d, d, d, d, d, d, d, d, d, d, d, d, d, d, d, d])]
noncomputable def impl_value_l3 (impl_value_rec : (Int × ((List Int) × ((List Int) × (List (Int × (ByteArray × (Int × Int))))))) → (List (ByteArray × PT)) → Option ((Int × (List Int)) × Bool)) : ((Int × (List Int) × (List Int) × (List (Int × (ByteArray × (Int × Int)))) × Unit) × (Int × (List Int) × Unit) × (Int × (List Int) × Unit) × (List (ByteArray × PT)) × Int × Int × Unit) → Option (((Int × (List Int) × (List Int) × (List (Int × (ByteArray × (Int × Int)))) × Unit) × (Int × (List Int) × Unit) × (Int × (List Int) × Unit) × (List (ByteArray × PT)) × Int × Int × Unit) ⊕ (((Int × (List Int) × Unit) × Bool × Unit) ⊕ ((Int × (List Int) × Unit) × (Int × (List Int) × Unit) × Unit))) := fun ((v2_0, v2_1, v2_2, v2_3, _), (v4_0, v4_1, _), (v6_0, v6_1, _), v13, v14, v15, _) =>
  bif (decide (v15 < v14)) then
    if (((0 : Int) ≤ v15) ∧ (v15 < (((List.length v13) : Nat) : Int))) then
      bif (!((ByteArray.toList (List.getD v13 (Int.toNat v15) ((⟨Array.empty⟩ : ByteArray), (PT.mk []))).1) == (ByteArray.toList (⟨#[]⟩ : ByteArray)))) then
        Option.bind (impl_StepMatrix (v2_0, v2_1, v2_2, v2_3) (List.getD v13 (Int.toNat v15) ((⟨Array.empty⟩ : ByteArray), (PT.mk []))).1) fun ((r0, r1), r2) =>
          Option.bind (impl_GradesOf (r0, (List.take (List.length r1) (List.drop 0 r1)))) fun ((r3, r4), r5) =>
            bif (decide (v15 > (0 : Int))) then
              Option.bind (impl_MulGrades (v6_0, (List.take (List.length v6_1) (List.drop 0 v6_1))) (r3, (List.take (List.length r4) (List.drop 0 r4)))) fun ((r6, r7), r8) =>
                some (Sum.inl ((v2_0, v2_1, v2_2, v2_3, ()), (v4_0, (List.take (List.length v4_1) (List.drop 0 v4_1)), ()), (r6, (List.take (List.length r7) (List.drop 0 r7)), ()), v13, v14, (IntKind.wrap .i64 (v15 + (1 : Int))), ()))
            else
              some (Sum.inl ((v2_0, v2_1, v2_2, v2_3, ()), (v4_0, (List.take (List.length v4_1) (List.drop 0 v4_1)), ()), (r3, (List.take (List.length r4) (List.drop 0 r4)), ()), v13, v14, (IntKind.wrap .i64 (v15 + (1 : Int))), ()))
      else
        Option.bind (impl_value_rec (v2_0, v2_1, v2_2, v2_3) (PT.l (List.getD v13 (Int.toNat v15) ((⟨Array.empty⟩ : ByteArray), (PT.mk []))).2)) fun ((r9, r10), r11) =>
          bif r11 then
            Option.bind (impl_Stabilise (r9, (List.take (List.length r10) (List.drop 0 r10)))) fun ((r12, r13), r14) =>
              bif (!r14) then
                some (Sum.inr (Sum.inl (((0 : Int), [], ()), false, ())))
              else
                bif (decide (v15 > (0 : Int))) then
                  Option.bind (impl_MulGrades (v6_0, (List.take (List.length v6_1) (List.drop 0 v6_1))) (r12, (List.take (List.length r13) (List.drop 0 r13)))) fun ((r15, r16), r17) =>
                    some (Sum.inl ((v2_0, v2_1, v2_2, v2_3, ()), (v4_0, (List.take (List.length v4_1) (List.drop 0 v4_1)), ()), (r15, (List.take (List.length r16) (List.drop 0 r16)), ()), v13, v14, (IntKind.wrap .i64 (v15 + (1 : Int))), ()))
                else
                  some (Sum.inl ((v2_0, v2_1, v2_2, v2_3, ()), (v4_0, (List.take (List.length v4_1) (List.drop 0 v4_1)), ()), (r12, (List.take (List.length r13) (List.drop 0 r13)), ()), v13, v14, (IntKind.wrap .i64 (v15 + (1 : Int))), ()))
          else
            bif (!r11) then
              some (Sum.inr (Sum.inl (((0 : Int), [], ()), false, ())))
            else
              bif (decide (v15 > (0 : Int))) then
                Option.bind (impl_MulGrades (v6_0, (List.take (List.length v6_1) (List.drop 0 v6_1))) (r9, (List.take (List.length r10) (List.drop 0 r10)))) fun ((r18, r19), r20) =>
                  some (Sum.inl ((v2_0, v2_1, v2_2, v2_3, ()), (v4_0, (List.take (List.length v4_1) (List.drop 0 v4_1)), ()), (r18, (List.take (List.length r19) (List.drop 0 r19)), ()), v13, v14, (IntKind.wrap .i64 (v15 + (1 : Int))), ()))
              else
                some (Sum.inl ((v2_0, v2_1, v2_2, v2_3, ()), (v4_0, (List.take (List.length v4_1) (List.drop 0 v4_1)), ()), (r9, (List.take (List.length r10) (List.drop 0 r10)), ()), v13, v14, (IntKind.wrap .i64 (v15 + (1 : Int))), ()))
    else
      none
  else
    some (Sum.inr (Sum.inr ((v4_0, (List.take (List.length v4_1) (List.drop 0 v4_1)), ()), (v6_0, (List.take (List.length v6_1) (List.drop 0 v6_1)), ()), ())))
theorem impl_value_l3_eq (impl_value_rec : (Int × ((List Int) × ((List Int) × (List (Int × (ByteArray × (Int × Int))))))) → (List (ByteArray × PT)) → Option ((Int × (List Int)) × Bool)) : loopStep 62 (E52 impl_value_rec) (L52_0 impl_value_rec) (loopOf f52 3) sh52_3 xs52_3 = (impl_value_l3 impl_value_rec) := by kernel_rfl
theorem loop52_3 (impl_value_rec : (Int × ((List Int) × ((List Int) × (List (Int × (ByteArray × (Int × Int))))))) → (List (ByteArray × PT)) → Option ((Int × (List Int)) × Bool)) (hrec : FnOk prog 52 (R52 impl_value_rec)) {L : Nat → Option LoopD} (h : L 3 = some ⟨62, sh52_3, xs52_3, (impl_value_l3 impl_value_rec)⟩) : LoopOk prog L (loopOf f52 3) :=
  loopOk (tysOk_of tyl_ok) (E52_ok impl_value_rec hrec) (codeOk_in (L := (L52_0 impl_value_rec)) (tysOk_of tyl_ok) (E52_ok impl_value_rec hrec) mixed (c := loopOf f52 3) (bs := []) (by kernel_rfl) allNil (by kernel_rfl)) (by kernel_rfl) (by kernel_rfl) (impl_value_l3_eq impl_value_rec) (by rw [show firstId (loopOf f52 3) = 3 from by kernel_rfl]; exact h)
noncomputable def L52_1 (impl_value_rec : (Int × ((List Int) × ((List Int) × (List (Int × (ByteArray × (Int × Int))))))) → (List (ByteArray × PT)) → Option ((Int × (List Int)) × Bool)) : Nat → Option LoopD := fun n => ifEq n 3 (some ⟨62, sh52_3, xs52_3, (impl_value_l3 impl_value_rec)⟩) ((L52_0 impl_value_rec) n)
noncomputable def impl_value_step (impl_value_rec : (Int × ((List Int) × ((List Int) × (List (Int × (ByteArray × (Int × Int))))))) → (List (ByteArray × PT)) → Option ((Int × (List Int)) × Bool)) : (Int × ((List Int) × ((List Int) × (List (Int × (ByteArray × (Int × Int))))))) → (List (ByteArray × PT)) → Option ((Int × (List Int)) × Bool) := fun (a0_0, a0_1, a0_2, a0_3) a1 =>
  Option.bind (loopF (impl_value_l3 impl_value_rec) ((a0_0, a0_1, a0_2, a0_3, ()), ((0 : Int), [], ()), ((0 : Int), [], ()), a1, (((List.length a1) : Nat) : Int), (0 : Int), ())) fun r0 =>
    (match r0 with
    | .inl ((d1, d2, _), d3, _) =>
        some ((d1, (List.take (List.length d2) (List.drop 0 d2))), d3)
    | .inr ((d4, d5, _), (d6, d7, _), _) =>
        some ((d6, (List.take (List.length d7) (List.drop 0 d7))), true))
theorem impl_value_step_eq (impl_value_rec : (Int × ((List Int) × ((List Int) × (List (Int × (ByteArray × (Int × Int))))))) → (List (ByteArray × PT)) → Option ((Int × (List Int)) × Bool)) : fnF (E52 impl_value_rec) (L52_1 impl_value_rec) [.v (.pair (.int .i64) (.pair (.sl (.int .i64)) (.pair (.sl (.int .i64)) (.sl (.pair (.int .i64) (.pair .str (.pair (.int .i64) (.int .i64)))))))), .v (.sl (.pair .str .pt))] true [.pair (.int .i64) (.sl (.int .i64)), .bool] f52.ntmps f52.results.toList (codeOf f52) = fun x => (impl_value_step impl_value_rec) x.1 x.2.1 := by kernel_rfl
theorem impl_value_step_ok (impl_value_rec : (Int × ((List Int) × ((List Int) × (List (Int × (ByteArray × (Int × Int))))))) → (List (ByteArray × PT)) → Option ((Int × (List Int)) × Bool)) (hrec : FnOk prog 52 (R52 impl_value_rec)) : FnOk prog 52 ⟨[.v (.pair (.int .i64) (.pair (.sl (.int .i64)) (.pair (.sl (.int .i64)) (.sl (.pair (.int .i64) (.pair .str (.pair (.int .i64) (.int .i64)))))))), .v (.sl (.pair .str .pt))], true, [.pair (.int .i64) (.sl (.int .i64)), .bool], fun x => (impl_value_step impl_value_rec) x.1 x.2.1⟩ := by
  have h := fnOk_of_run (P := prog) (E := (E52 impl_value_rec)) (tysOk_of tyl_ok) (E52_ok impl_value_rec hrec) (L := (L52_1 impl_value_rec)) (ps := [.v (.pair (.int .i64) (.pair (.sl (.int .i64)) (.pair (.sl (.int .i64)) (.sl (.pair (.int .i64) (.pair .str (.pair (.int .i64) (.int .i64)))))))), .v (.sl (.pair .str .pt))]) (own := true) (outs := [.pair (.int .i64) (.sl (.int .i64)), .bool]) func52 (c := codeOf f52) (by kernel_rfl) (codeOk_in (L := (L52_1 impl_value_rec)) (tysOk_of tyl_ok) (E52_ok impl_value_rec hrec) mixed (c := codeOf f52) (bs := [loopOf f52 3]) (by kernel_rfl) (allCons (loop52_3 impl_value_rec hrec rfl) allNil) (by kernel_rfl))
  rw [(impl_value_step_eq impl_value_rec)] at h
  exact h
/-- so many calls within each other -/
noncomputable def impl_value_fuel : Nat → (Int × ((List Int) × ((List Int) × (List (Int × (ByteArray × (Int × Int))))))) → (List (ByteArray × PT)) → Option ((Int × (List Int)) × Bool)
  | 0 => fun _ _ => none
  | n + 1 => impl_value_step (impl_value_fuel n)
theorem impl_value_fuel_ok : ∀ n, FnOk prog 52 (R52 (impl_value_fuel n))
  | 0 => fun xs r h => by cases h
  | n + 1 => impl_value_step_ok (impl_value_fuel n) (impl_value_fuel_ok n)
noncomputable def impl_value : (Int × ((List Int) × ((List Int) × (List (Int × (ByteArray × (Int × Int))))))) → (List (ByteArray × PT)) → Option ((Int × (List Int)) × Bool) := impl_value_fuel 200
noncomputable def A52 : FnA := R52 impl_value
theorem A52_ok : FnOk prog 52 A52 := impl_value_fuel_ok 200
/-! impl.ValueOf -/
noncomputable def E12 : Env := ⟨ty0, fun g => ifEq g 51 (some A51) (ifEq g 27 (some A27) (ifEq g 52 (some A52) (none))), fun _ => none, fun _ => none, fun _ => none⟩
theorem E12_ok : FnsOk prog E12 := (oneFn A51_ok func51 (by kernel_rfl) (by kernel_rfl) (oneFn A27_ok func27 (by kernel_rfl) (by kernel_rfl) (oneFn A52_ok func52 (by kernel_rfl) (by kernel_rfl) (noFns _ _))))
noncomputable def L12_0 : Nat → Option LoopD := fun _ => none
noncomputable def impl_ValueOf : (Int × ((List Int) × ((List Int) × (List (Int × (ByteArray × (Int × Int))))))) → ByteArray → Option ((Int × (List Int)) × Bool) := fun (a0_0, a0_1, a0_2, a0_3) a1 =>
  Option.bind (impl_parts a1) fun (r0, r1) =>
    bif (!r1) then
      some (((0 : Int), []), false)
    else
      Option.bind (impl_AutomatonValid (a0_0, a0_1, a0_2, a0_3)) fun r2 =>
        bif (!r2) then
          some (((0 : Int), []), false)
        else
          Option.bind (impl_value (a0_0, a0_1, a0_2, a0_3) (List.take (List.length r0) (List.drop 0 r0))) fun ((r3, r4), r5) =>
            some ((r3, (List.take (List.length r4) (List.drop 0 r4))), r5)
noncomputable def A12 : FnA := ⟨[.v (.pair (.int .i64) (.pair (.sl (.int .i64)) (.pair (.sl (.int .i64)) (.sl (.pair (.int .i64) (.pair .str (.pair (.int .i64) (.int .i64)))))))), .v .str], true, [.pair (.int .i64) (.sl (.int .i64)), .bool], fun x => impl_ValueOf x.1 x.2.1⟩
theorem impl_ValueOf_eq : fnF E12 L12_0 [.v (.pair (.int .i64) (.pair (.sl (.int .i64)) (.pair (.sl (.int .i64)) (.sl (.pair (.int .i64) (.pair .str (.pair (.int .i64) (.int .i64)))))))), .v .str] true [.pair (.int .i64) (.sl (.int .i64)), .bool] f12.ntmps f12.results.toList (codeOf f12) = fun x => impl_ValueOf x.1 x.2.1 := by kernel_rfl
theorem A12_ok : FnOk prog 12 A12 := by
  have h := fnOk_of_run (P := prog) (E := E12) (tysOk_of tyl_ok) E12_ok (L := L12_0) (ps := [.v (.pair (.int .i64) (.pair (.sl (.int .i64)) (.pair (.sl (.int .i64)) (.sl (.pair (.int .i64) (.pair .str (.pair (.int .i64) (.int .i64)))))))), .v .str]) (own := true) (outs := [.pair (.int .i64) (.sl (.int .i64)), .bool]) func12 (c := codeOf f12) (by kernel_rfl) (codeOk_in (L := L12_0) (tysOk_of tyl_ok) E12_ok mixed (c := codeOf f12) (bs := []) (by kernel_rfl) allNil (by kernel_rfl))
  rw [impl_ValueOf_eq] at h
  exact h
/-! slices.IndexFunc[[]impl.Element,impl.Element] -/
noncomputable def E164 : Env := ⟨ty0, fun _ => none, fun _ => none, fun _ => none, fun _ => none⟩
theorem E164_ok : FnsOk prog E164 := (noFns _ _)
noncomputable def L164_0 : Nat → Option LoopD := fun _ => none
def sh164_2 : List Fm := [.cell (.val (.sl (.pair (.pair (.int .i64) (.sl (.int .i64))) .str))), .clo [.pair (.pair (.int .i64) (.sl (.int .i64))) .str] .bool, d, d, d, d, d, .cell (.val (.int .i64)), .cell (.val (.int .i64)), d, d, d, d, d, d, d, d, d, d]
def xs164_2 : List (Ex × List Fm) := [(.ret, [d, d, d, d, .cell (.val (.int .i64)), d, d, d, d, d, d, d, d, d, d, d, d, d, d]), (.exit 0, [d, d, d, d, d, d, d, d, d, d, d, d, d, d, d, d, d, d, d])]
noncomputable def slices_IndexFunc_Element_l2 : ((List ((Int × (List Int)) × ByteArray)) × ((((Int × (List Int)) × ByteArray) × Unit) → Option (Bool)) × Int × Int × Unit) → Option (((List ((Int × (List Int)) × ByteArray)) × ((((Int × (List Int)) × ByteArray) × Unit) → Option (Bool)) × Int × Int × Unit) ⊕ ((Int × Unit) ⊕ (Unit))) := fun (v0, v1, v7, v8, _) =>
  bif (decide (v8 < v7)) then
    if (((0 : Int) ≤ v8) ∧ (v8 < (((List.length v0) : Nat) : Int))) then
      Option.bind (v1 ((List.getD v0 (Int.toNat v8) (((0 : Int), []), (⟨Array.empty⟩ : ByteArray))), ())) fun r0 =>
        bif r0 then
          some (Sum.inr (Sum.inl (v8, ())))
        else
          some (Sum.inl (v0, v1, v7, (IntKind.wrap .i64 (v8 + (1 : Int))), ()))
    else
      none
  else
    some (Sum.inr (Sum.inr ()))
theorem slices_IndexFunc_Element_l2_eq : loopStep 19 E164 L164_0 (loopOf f164 2) sh164_2 xs164_2 = slices_IndexFunc_Element_l2 := by kernel_rfl
theorem loop164_2 {L : Nat → Option LoopD} (h : L 2 = some ⟨19, sh164_2, xs164_2, slices_IndexFunc_Element_l2⟩) : LoopOk prog L (loopOf f164 2) :=
  loopOk (tysOk_of tyl_ok) E164_ok (codeOk_in (L := L164_0) (tysOk_of tyl_ok) E164_ok mixed (c := loopOf f164 2) (bs := []) (by kernel_rfl) allNil (by kernel_rfl)) (by kernel_rfl) (by kernel_rfl) slices_IndexFunc_Element_l2_eq (by rw [show firstId (loopOf f164 2) = 2 from by kernel_rfl]; exact h)
noncomputable def L164_1 : Nat → Option LoopD := fun n => ifEq n 2 (some ⟨19, sh164_2, xs164_2, slices_IndexFunc_Element_l2⟩) (L164_0 n)
noncomputable def slices_IndexFunc_Element : (List ((Int × (List Int)) × ByteArray)) → ((((Int × (List Int)) × ByteArray) × Unit) → Option (Bool)) → Option (Int) := fun a0 a1 =>
  Option.bind (loopF slices_IndexFunc_Element_l2 (a0, a1, (((List.length a0) : Nat) : Int), (0 : Int), ())) fun r0 =>
    (match r0 with
    | .inl (d1, _) =>
        some d1
    | .inr _ =>
        some (-1 : Int))
noncomputable def A164 : FnA := ⟨[.v (.sl (.pair (.pair (.int .i64) (.sl (.int .i64))) .str)), .clo [.pair (.pair (.int .i64) (.sl (.int .i64))) .str] .bool], true, [.int .i64], fun x => slices_IndexFunc_Element x.1 x.2.1⟩
theorem slices_IndexFunc_Element_eq : fnF E164 L164_1 [.v (.sl (.pair (.pair (.int .i64) (.sl (.int .i64))) .str)), .clo [.pair (.pair (.int .i64) (.sl (.int .i64))) .str] .bool] true [.int .i64] f164.ntmps f164.results.toList (codeOf f164) = fun x => slices_IndexFunc_Element x.1 x.2.1 := by kernel_rfl
theorem A164_ok : FnOk prog 164 A164 := by
  have h := fnOk_of_run (P := prog) (E := E164) (tysOk_of tyl_ok) E164_ok (L := L164_1) (ps := [.v (.sl (.pair (.pair (.int .i64) (.sl (.int .i64))) .str)), .clo [.pair (.pair (.int .i64) (.sl (.int .i64))) .str] .bool]) (own := true) (outs := [.int .i64]) func164 (c := codeOf f164) (by kernel_rfl) (codeOk_in (L := L164_1) (tysOk_of tyl_ok) E164_ok mixed (c := codeOf f164) (bs := [loopOf f164 2]) (by kernel_rfl) (allCons (loop164_2 rfl) allNil) (by kernel_rfl))
  rw [slices_IndexFunc_Element_eq] at h
  exact h
/-! slices.ContainsFunc[[]impl.Element,impl.Element] -/
noncomputable def E135 : Env := ⟨ty0, fun g => ifEq g 164 (some A164) (none), fun _ => none, fun _ => none, fun _ => none⟩
theorem E135_ok : FnsOk prog E135 := (oneFn A164_ok func164 (by kernel_rfl) (by kernel_rfl) (noFns _ _))
noncomputable def L135_0 : Nat → Option LoopD := fun _ => none
noncomputable def slices_ContainsFunc_Element : (List ((Int × (List Int)) × ByteArray)) → ((((Int × (List Int)) × ByteArray) × Unit) → Option (Bool)) → Option (Bool) := fun a0 a1 =>
  Option.bind (slices_IndexFunc_Element a0 a1) fun r0 =>
    some (decide (r0 ≥ (0 : Int)))
noncomputable def A135 : FnA := ⟨[.v (.sl (.pair (.pair (.int .i64) (.sl (.int .i64))) .str)), .clo [.pair (.pair (.int .i64) (.sl (.int .i64))) .str] .bool], true, [.bool], fun x => slices_ContainsFunc_Element x.1 x.2.1⟩
theorem slices_ContainsFunc_Element_eq : fnF E135 L135_0 [.v (.sl (.pair (.pair (.int .i64) (.sl (.int .i64))) .str)), .clo [.pair (.pair (.int .i64) (.sl (.int .i64))) .str] .bool] true [.bool] f135.ntmps f135.results.toList (codeOf f135) = fun x => slices_ContainsFunc_Element x.1 x.2.1 := by kernel_rfl
theorem A135_ok : FnOk prog 135 A135 := by
  have h := fnOk_of_run (P := prog) (E := E135) (tysOk_of tyl_ok) E135_ok (L := L135_0) (ps := [.v (.sl (.pair (.pair (.int .i64) (.sl (.int .i64))) .str)), .clo [.pair (.pair (.int .i64) (.sl (.int .i64))) .str] .bool]) (own := true) (outs := [.bool]) func135 (c := codeOf f135) (by kernel_rfl) (codeOk_in (L := L135_0) (tysOk_of tyl_ok) E135_ok mixed (c := codeOf f135) (bs := []) (by kernel_rfl) allNil (by kernel_rfl))
  rw [slices_ContainsFunc_Element_eq] at h
  exact h
/-! (*impl.found).put$1 -/
noncomputable def E136 : Env := ⟨ty0, fun g => ifEq g 49 (some A49) (none), fun _ => none, fun _ => none, fun _ => none⟩
theorem E136_ok : FnsOk prog E136 := (oneFn A49_ok func49 (by kernel_rfl) (by kernel_rfl) (noFns _ _))
noncomputable def L136_0 : Nat → Option LoopD := fun _ => none
noncomputable def impl_found_put_1 : ((Int × (List Int)) × ByteArray) → (Int × (List Int)) → Option (Bool) := fun ((a0_0, a0_1), a0_2) (a1_0, a1_1) =>
  Option.bind (impl_SameMatrix (a0_0, a0_1) (a1_0, a1_1)) fun r0 =>
    some r0
noncomputable def A136 : FnA := ⟨[.v (.pair (.pair (.int .i64) (.sl (.int .i64))) .str), .cap (.pair (.int .i64) (.sl (.int .i64)))], true, [.bool], fun x => impl_found_put_1 x.1 x.2.1⟩
theorem impl_found_put_1_eq : fnF E136 L136_0 [.v (.pair (.pair (.int .i64) (.sl (.int .i64))) .str), .cap (.pair (.int .i64) (.sl (.int .i64)))] true [.bool] f136.ntmps f136.results.toList (codeOf f136) = fun x => impl_found_put_1 x.1 x.2.1 := by kernel_rfl
theorem A136_ok : FnOk prog 136 A136 := by
  have h := fnOk_of_run (P := prog) (E := E136) (tysOk_of tyl_ok) E136_ok (L := L136_0) (ps := [.v (.pair (.pair (.int .i64) (.sl (.int .i64))) .str), .cap (.pair (.int .i64) (.sl (.int .i64)))]) (own := true) (outs := [.bool]) func136 (c := codeOf f136) (by kernel_rfl) (codeOk_in (L := L136_0) (tysOk_of tyl_ok) E136_ok mixed (c := codeOf f136) (bs := []) (by kernel_rfl) allNil (by kernel_rfl))
  rw [impl_found_put_1_eq] at h
  exact h
end Go.Proofs.Ytbmlleocidldpaa
