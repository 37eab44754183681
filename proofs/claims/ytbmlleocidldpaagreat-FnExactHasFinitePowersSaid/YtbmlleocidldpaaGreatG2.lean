/- What Go functions that the laws reach compute, and that they do: written by a program of this session. -/
import Derived.Test.YtbmlleocidldpaaGreatG1
import Derived.KernelRfl
set_option linter.unusedVariables false
namespace Go.Proofs.YtbmlleocidldpaaGreat
open Go Go.Proofs.YtbmlleocidldpaaGreat.Am Go.Proofs.Tryz
set_option maxRecDepth 100000
/-! impl.AutomatonValid -/
noncomputable def E30 : Env := ⟨ty0, fun g => ifEq g 78 (some A78) (ifEq g 79 (some A79) (none)), fun _ => none, fun _ => none, fun _ => none⟩
theorem E30_ok : FnsOk prog E30 := (oneFn A78_ok func78 (by kernel_rfl) (by kernel_rfl) (oneFn A79_ok func79 (by kernel_rfl) (by kernel_rfl) (noFns _ _)))
noncomputable def L30_0 : Nat → Option LoopD := fun _ => none
def sh30_4 : List Fm := [d, .box 100100 [.val (.int .i64), .val (.sl (.int .i64)), .val (.sl (.int .i64)), .val (.sl (.pair (.int .i64) (.pair .str (.pair (.int .i64) (.int .i64)))))], d, d, d, d, d, d, d, d, d, d, d, d, d, d, d, d, d, d, d, d, d, d, d, d, d, d, d, d, d, d, d, d, d, d, .cell (.val (.sl (.pair (.int .i64) (.pair .str (.pair (.int .i64) (.int .i64)))))), .cell (.val (.int .i64)), .cell (.val (.int .i64)), d, d, d, d, d, d, d, d, d, d, d, d, d, d, d, d, d, d, d, d, d, d, d, d, d, d, d, d, d, d, d, d, d, d, d, d, d, d, d, d, d, d, d, d, d, d, d, d, d, d, d, d, d, d, d, d, d, d, d, d, d, d]
def xs30_4 : List (Ex × List Fm) := [(.ret, [d, d, .cell (.val .bool), d, d, d, d, d, d, d, d, d, d, d, d, d, d, d, d, d, d, d, d, d, d, d, d, d, d, d, d, d, d, d, d, d, d, d, d, d, d, d, d, d, d, d, d, d, d, d, d, d, d, d, d, d, d, d, d, d, d, d, d, d, d, d, d, d, d, d, d, d, d, d, d, d, d, d, d, d, d, d, d, d, d, d, d, d, d, d, d, d, d, d, d, d, d, d, d, d, d]), (.exit 0, [d, d, d, d, d, d, d, d, d, d, d, d, d, d, d, d, d, d, d, d, d, d, d, d, d, d, d, d, d, d, d, d, d, d, d, d, d, d, d, d, d, d, d, d, d, d, d, d, d, d, d, d, d, d, d, d, d, d, d, d, d, d, d, d, d, d, d, d, d, d, d, d, d, d, d, d, d, d, d, d, d, d, d, d, d, d, d, d, d, d, d, d, d, d, d, d, d, d, d, d, d])]
noncomputable def impl_AutomatonValid_l4 : ((Int × (List Int) × (List Int) × (List (Int × (ByteArray × (Int × Int)))) × Unit) × (List (Int × (ByteArray × (Int × Int)))) × Int × Int × Unit) → Option (((Int × (List Int) × (List Int) × (List (Int × (ByteArray × (Int × Int)))) × Unit) × (List (Int × (ByteArray × (Int × Int)))) × Int × Int × Unit) ⊕ ((Bool × Unit) ⊕ (Unit))) := fun ((v1_0, v1_1, v1_2, v1_3, _), v36, v37, v38, _) =>
  bif (decide (v38 < v37)) then
    if (((0 : Int) ≤ v38) ∧ (v38 < (((List.length v36) : Nat) : Int))) then
      bif (decide ((List.getD v36 (Int.toNat v38) ((0 : Int), (⟨Array.empty⟩ : ByteArray), (0 : Int), (0 : Int))).1 < (0 : Int))) then
        some (Sum.inr (Sum.inl (false, ())))
      else
        bif (decide ((List.getD v36 (Int.toNat v38) ((0 : Int), (⟨Array.empty⟩ : ByteArray), (0 : Int), (0 : Int))).1 ≥ v1_0)) then
          some (Sum.inr (Sum.inl (false, ())))
        else
          bif (decide ((List.getD v36 (Int.toNat v38) ((0 : Int), (⟨Array.empty⟩ : ByteArray), (0 : Int), (0 : Int))).2.2.1 < (0 : Int))) then
            some (Sum.inr (Sum.inl (false, ())))
          else
            bif (decide ((List.getD v36 (Int.toNat v38) ((0 : Int), (⟨Array.empty⟩ : ByteArray), (0 : Int), (0 : Int))).2.2.1 ≥ v1_0)) then
              some (Sum.inr (Sum.inl (false, ())))
            else
              bif (!((ByteArray.toList (List.getD v36 (Int.toNat v38) ((0 : Int), (⟨Array.empty⟩ : ByteArray), (0 : Int), (0 : Int))).2.1) == (ByteArray.toList (⟨#[(97 : UInt8)]⟩ : ByteArray)))) then
                bif (!((ByteArray.toList (List.getD v36 (Int.toNat v38) ((0 : Int), (⟨Array.empty⟩ : ByteArray), (0 : Int), (0 : Int))).2.1) == (ByteArray.toList (⟨#[(98 : UInt8)]⟩ : ByteArray)))) then
                  some (Sum.inr (Sum.inl (false, ())))
                else
                  bif (decide ((List.getD v36 (Int.toNat v38) ((0 : Int), (⟨Array.empty⟩ : ByteArray), (0 : Int), (0 : Int))).2.2.2 < (0 : Int))) then
                    some (Sum.inr (Sum.inl (false, ())))
                  else
                    bif (decide ((List.getD v36 (Int.toNat v38) ((0 : Int), (⟨Array.empty⟩ : ByteArray), (0 : Int), (0 : Int))).2.2.2 > (3 : Int))) then
                      some (Sum.inr (Sum.inl (false, ())))
                    else
                      bif (decide (v38 > (0 : Int))) then
                        if (((0 : Int) ≤ (IntKind.wrap .i64 (v38 - (1 : Int)))) ∧ ((IntKind.wrap .i64 (v38 - (1 : Int))) < (((List.length v1_3) : Nat) : Int))) then
                          Option.bind (impl_stepOrder (List.getD v1_3 (Int.toNat (IntKind.wrap .i64 (v38 - (1 : Int)))) ((0 : Int), (⟨Array.empty⟩ : ByteArray), (0 : Int), (0 : Int))) ((List.getD v36 (Int.toNat v38) ((0 : Int), (⟨Array.empty⟩ : ByteArray), (0 : Int), (0 : Int))).1, (List.getD v36 (Int.toNat v38) ((0 : Int), (⟨Array.empty⟩ : ByteArray), (0 : Int), (0 : Int))).2.1, (List.getD v36 (Int.toNat v38) ((0 : Int), (⟨Array.empty⟩ : ByteArray), (0 : Int), (0 : Int))).2.2.1, (List.getD v36 (Int.toNat v38) ((0 : Int), (⟨Array.empty⟩ : ByteArray), (0 : Int), (0 : Int))).2.2.2)) fun r0 =>
                            bif (decide (r0 ≥ (0 : Int))) then
                              some (Sum.inr (Sum.inl (false, ())))
                            else
                              some (Sum.inl ((v1_0, v1_1, v1_2, v1_3, ()), v36, v37, (IntKind.wrap .i64 (v38 + (1 : Int))), ()))
                        else
                          none
                      else
                        some (Sum.inl ((v1_0, v1_1, v1_2, v1_3, ()), v36, v37, (IntKind.wrap .i64 (v38 + (1 : Int))), ()))
              else
                bif (decide ((List.getD v36 (Int.toNat v38) ((0 : Int), (⟨Array.empty⟩ : ByteArray), (0 : Int), (0 : Int))).2.2.2 < (0 : Int))) then
                  some (Sum.inr (Sum.inl (false, ())))
                else
                  bif (decide ((List.getD v36 (Int.toNat v38) ((0 : Int), (⟨Array.empty⟩ : ByteArray), (0 : Int), (0 : Int))).2.2.2 > (3 : Int))) then
                    some (Sum.inr (Sum.inl (false, ())))
                  else
                    bif (decide (v38 > (0 : Int))) then
                      if (((0 : Int) ≤ (IntKind.wrap .i64 (v38 - (1 : Int)))) ∧ ((IntKind.wrap .i64 (v38 - (1 : Int))) < (((List.length v1_3) : Nat) : Int))) then
                        Option.bind (impl_stepOrder (List.getD v1_3 (Int.toNat (IntKind.wrap .i64 (v38 - (1 : Int)))) ((0 : Int), (⟨Array.empty⟩ : ByteArray), (0 : Int), (0 : Int))) ((List.getD v36 (Int.toNat v38) ((0 : Int), (⟨Array.empty⟩ : ByteArray), (0 : Int), (0 : Int))).1, (List.getD v36 (Int.toNat v38) ((0 : Int), (⟨Array.empty⟩ : ByteArray), (0 : Int), (0 : Int))).2.1, (List.getD v36 (Int.toNat v38) ((0 : Int), (⟨Array.empty⟩ : ByteArray), (0 : Int), (0 : Int))).2.2.1, (List.getD v36 (Int.toNat v38) ((0 : Int), (⟨Array.empty⟩ : ByteArray), (0 : Int), (0 : Int))).2.2.2)) fun r1 =>
                          bif (decide (r1 ≥ (0 : Int))) then
                            some (Sum.inr (Sum.inl (false, ())))
                          else
                            some (Sum.inl ((v1_0, v1_1, v1_2, v1_3, ()), v36, v37, (IntKind.wrap .i64 (v38 + (1 : Int))), ()))
                      else
                        none
                    else
                      some (Sum.inl ((v1_0, v1_1, v1_2, v1_3, ()), v36, v37, (IntKind.wrap .i64 (v38 + (1 : Int))), ()))
    else
      none
  else
    some (Sum.inr (Sum.inr ()))
theorem impl_AutomatonValid_l4_eq : loopStep 101 E30 L30_0 (loopOf f30 4) sh30_4 xs30_4 = impl_AutomatonValid_l4 := by kernel_rfl
theorem loop30_4 {L : Nat → Option LoopD} (h : L 4 = some ⟨101, sh30_4, xs30_4, impl_AutomatonValid_l4⟩) : LoopOk prog L (loopOf f30 4) :=
  loopOk (tysOk_of tyl_ok) E30_ok (codeOk_in (L := L30_0) (tysOk_of tyl_ok) E30_ok mixed (c := loopOf f30 4) (bs := []) (by kernel_rfl) allNil (by kernel_rfl)) (by kernel_rfl) (by kernel_rfl) impl_AutomatonValid_l4_eq (by rw [show firstId (loopOf f30 4) = 4 from by kernel_rfl]; exact h)
noncomputable def L30_1 : Nat → Option LoopD := fun n => ifEq n 4 (some ⟨101, sh30_4, xs30_4, impl_AutomatonValid_l4⟩) (L30_0 n)
noncomputable def impl_AutomatonValid : (Int × ((List Int) × ((List Int) × (List (Int × (ByteArray × (Int × Int))))))) → Option (Bool) := fun (a0_0, a0_1, a0_2, a0_3) =>
  bif (decide (a0_0 < (1 : Int))) then
    some false
  else
    bif (decide (a0_0 > (4 : Int))) then
      some false
    else
      bif (decide ((((List.length a0_3) : Nat) : Int) > (24 : Int))) then
        some false
      else
        Option.bind (impl_statesOk a0_1 a0_0) fun r0 =>
          bif (!r0) then
            some false
          else
            Option.bind (impl_statesOk a0_2 a0_0) fun r1 =>
              bif (!r1) then
                some false
              else
                Option.bind (loopF impl_AutomatonValid_l4 ((a0_0, a0_1, a0_2, a0_3, ()), a0_3, (((List.length a0_3) : Nat) : Int), (0 : Int), ())) fun r2 =>
                  (match r2 with
                  | .inl (d3, _) =>
                      some d3
                  | .inr _ =>
                      some true)
noncomputable def A30 : FnA := ⟨[.v (.pair (.int .i64) (.pair (.sl (.int .i64)) (.pair (.sl (.int .i64)) (.sl (.pair (.int .i64) (.pair .str (.pair (.int .i64) (.int .i64))))))))], true, [.bool], fun x => impl_AutomatonValid x.1⟩
theorem impl_AutomatonValid_eq : fnF E30 L30_1 [.v (.pair (.int .i64) (.pair (.sl (.int .i64)) (.pair (.sl (.int .i64)) (.sl (.pair (.int .i64) (.pair .str (.pair (.int .i64) (.int .i64))))))))] true [.bool] f30.ntmps f30.results.toList (codeOf f30) = fun x => impl_AutomatonValid x.1 := by kernel_rfl
theorem A30_ok : FnOk prog 30 A30 := by
  have h := fnOk_of_run (P := prog) (E := E30) (tysOk_of tyl_ok) E30_ok (L := L30_1) (ps := [.v (.pair (.int .i64) (.pair (.sl (.int .i64)) (.pair (.sl (.int .i64)) (.sl (.pair (.int .i64) (.pair .str (.pair (.int .i64) (.int .i64))))))))]) (own := true) (outs := [.bool]) func30 (c := codeOf f30) (by kernel_rfl) (codeOk_in (L := L30_1) (tysOk_of tyl_ok) E30_ok mixed (c := codeOf f30) (bs := [loopOf f30 4]) (by kernel_rfl) (allCons (loop30_4 rfl) allNil) (by kernel_rfl))
  rw [impl_AutomatonValid_eq] at h
  exact h
/-! impl.stepped -/
noncomputable def E91 : Env := ⟨ty0, fun _ => none, fun _ => none, fun _ => none, fun _ => none⟩
theorem E91_ok : FnsOk prog E91 := (noFns _ _)
noncomputable def L91_0 : Nat → Option LoopD := fun _ => none
def sh91_3 : List Fm := [d, .clo [.pair (.int .i64) (.pair .str (.pair (.int .i64) (.int .i64)))] (.pair (.int .i64) (.pair .str (.pair (.int .i64) (.int .i64)))), d, d, d, .cell (.own (.pair (.int .i64) (.pair .str (.pair (.int .i64) (.int .i64)))) 100500 false), d, d, d, .cell (.val (.sl (.pair (.int .i64) (.pair .str (.pair (.int .i64) (.int .i64)))))), .cell (.val (.int .i64)), .cell (.val (.int .i64)), d, d, d, d, d, d, d, d, d, d, d]
def xs91_3 : List (Ex × List Fm) := [(.exit 0, [d, d, d, d, d, .cell (.own (.pair (.int .i64) (.pair .str (.pair (.int .i64) (.int .i64)))) 100500 false), d, d, d, d, d, d, d, d, d, d, d, d, d, d, d, d, d])]
noncomputable def impl_stepped_l3 : ((((Int × (ByteArray × (Int × Int))) × Unit) → Option ((Int × (ByteArray × (Int × Int))))) × (List (Int × (ByteArray × (Int × Int)))) × (List (Int × (ByteArray × (Int × Int)))) × Int × Int × Unit) → Option (((((Int × (ByteArray × (Int × Int))) × Unit) → Option ((Int × (ByteArray × (Int × Int))))) × (List (Int × (ByteArray × (Int × Int)))) × (List (Int × (ByteArray × (Int × Int)))) × Int × Int × Unit) ⊕ (((List (Int × (ByteArray × (Int × Int)))) × Unit))) := fun (v1, v5, v9, v10, v11, _) =>
  bif (decide (v11 < v10)) then
    if (((0 : Int) ≤ v11) ∧ (v11 < (((List.length v9) : Nat) : Int))) then
      Option.bind (v1 (((List.getD v9 (Int.toNat v11) ((0 : Int), (⟨Array.empty⟩ : ByteArray), (0 : Int), (0 : Int))).1, (List.getD v9 (Int.toNat v11) ((0 : Int), (⟨Array.empty⟩ : ByteArray), (0 : Int), (0 : Int))).2.1, (List.getD v9 (Int.toNat v11) ((0 : Int), (⟨Array.empty⟩ : ByteArray), (0 : Int), (0 : Int))).2.2.1, (List.getD v9 (Int.toNat v11) ((0 : Int), (⟨Array.empty⟩ : ByteArray), (0 : Int), (0 : Int))).2.2.2), ())) fun (r0, r1, r2, r3) =>
        if (((0 + (List.length v5)) = (List.length v5)) ∧ ((((List.length v5) + (List.length (List.take 1 (List.drop 0 [(r0, r1, r2, r3)])))) * 40) ≤ 140737488355328)) then
          some (Sum.inl (v1, (List.take ((List.length v5) + (List.length (List.take 1 (List.drop 0 [(r0, r1, r2, r3)])))) (List.drop 0 ((List.drop 0 v5) ++ (List.take 1 (List.drop 0 [(r0, r1, r2, r3)]))))), v9, v10, (IntKind.wrap .i64 (v11 + (1 : Int))), ()))
        else
          none
    else
      none
  else
    some (Sum.inr ((List.take (List.length v5) (List.drop 0 v5)), ()))
theorem impl_stepped_l3_eq : loopStep 23 E91 L91_0 (loopOf f91 3) sh91_3 xs91_3 = impl_stepped_l3 := by kernel_rfl
theorem loop91_3 {L : Nat → Option LoopD} (h : L 3 = some ⟨23, sh91_3, xs91_3, impl_stepped_l3⟩) : LoopOk prog L (loopOf f91 3) :=
  loopOk (tysOk_of tyl_ok) E91_ok (codeOk_in (L := L91_0) (tysOk_of tyl_ok) E91_ok mixed (c := loopOf f91 3) (bs := []) (by kernel_rfl) allNil (by kernel_rfl)) (by kernel_rfl) (by kernel_rfl) impl_stepped_l3_eq (by rw [show firstId (loopOf f91 3) = 3 from by kernel_rfl]; exact h)
noncomputable def L91_1 : Nat → Option LoopD := fun n => ifEq n 3 (some ⟨23, sh91_3, xs91_3, impl_stepped_l3⟩) (L91_0 n)
noncomputable def impl_stepped : (List (Int × (ByteArray × (Int × Int)))) → (((Int × (ByteArray × (Int × Int))) × Unit) → Option ((Int × (ByteArray × (Int × Int))))) → Option ((List (Int × (ByteArray × (Int × Int))))) := fun a0 a1 =>
  Option.bind (loopF impl_stepped_l3 (a1, (List.take 0 (List.drop 0 [])), a0, (((List.length a0) : Nat) : Int), (0 : Int), ())) fun (r0, _) =>
    some (List.take (List.length r0) (List.drop 0 r0))
noncomputable def A91 : FnA := ⟨[.v (.sl (.pair (.int .i64) (.pair .str (.pair (.int .i64) (.int .i64))))), .clo [.pair (.int .i64) (.pair .str (.pair (.int .i64) (.int .i64)))] (.pair (.int .i64) (.pair .str (.pair (.int .i64) (.int .i64))))], true, [.sl (.pair (.int .i64) (.pair .str (.pair (.int .i64) (.int .i64))))], fun x => impl_stepped x.1 x.2.1⟩
theorem impl_stepped_eq : fnF E91 L91_1 [.v (.sl (.pair (.int .i64) (.pair .str (.pair (.int .i64) (.int .i64))))), .clo [.pair (.int .i64) (.pair .str (.pair (.int .i64) (.int .i64)))] (.pair (.int .i64) (.pair .str (.pair (.int .i64) (.int .i64))))] true [.sl (.pair (.int .i64) (.pair .str (.pair (.int .i64) (.int .i64))))] f91.ntmps f91.results.toList (codeOf f91) = fun x => impl_stepped x.1 x.2.1 := by kernel_rfl
theorem A91_ok : FnOk prog 91 A91 := by
  have h := fnOk_of_run (P := prog) (E := E91) (tysOk_of tyl_ok) E91_ok (L := L91_1) (ps := [.v (.sl (.pair (.int .i64) (.pair .str (.pair (.int .i64) (.int .i64))))), .clo [.pair (.int .i64) (.pair .str (.pair (.int .i64) (.int .i64)))] (.pair (.int .i64) (.pair .str (.pair (.int .i64) (.int .i64))))]) (own := true) (outs := [.sl (.pair (.int .i64) (.pair .str (.pair (.int .i64) (.int .i64))))]) func91 (c := codeOf f91) (by kernel_rfl) (codeOk_in (L := L91_1) (tysOk_of tyl_ok) E91_ok mixed (c := codeOf f91) (bs := [loopOf f91 3]) (by kernel_rfl) (allCons (loop91_3 rfl) allNil) (by kernel_rfl))
  rw [impl_stepped_eq] at h
  exact h
/-! impl.PowerAutomaton$1 -/
noncomputable def E126 : Env := ⟨ty0, fun _ => none, fun _ => none, fun _ => none, fun _ => none⟩
theorem E126_ok : FnsOk prog E126 := (noFns _ _)
noncomputable def L126_0 : Nat → Option LoopD := fun _ => none
noncomputable def impl_PowerAutomaton_1 : (Int × (ByteArray × (Int × Int))) → Option ((Int × (ByteArray × (Int × Int)))) := fun (a0_0, a0_1, a0_2, a0_3) =>
  some (a0_0, a0_1, a0_2, (0 : Int))
noncomputable def A126 : FnA := ⟨[.v (.pair (.int .i64) (.pair .str (.pair (.int .i64) (.int .i64))))], true, [.pair (.int .i64) (.pair .str (.pair (.int .i64) (.int .i64)))], fun x => impl_PowerAutomaton_1 x.1⟩
theorem impl_PowerAutomaton_1_eq : fnF E126 L126_0 [.v (.pair (.int .i64) (.pair .str (.pair (.int .i64) (.int .i64))))] true [.pair (.int .i64) (.pair .str (.pair (.int .i64) (.int .i64)))] f126.ntmps f126.results.toList (codeOf f126) = fun x => impl_PowerAutomaton_1 x.1 := by kernel_rfl
theorem A126_ok : FnOk prog 126 A126 := by
  have h := fnOk_of_run (P := prog) (E := E126) (tysOk_of tyl_ok) E126_ok (L := L126_0) (ps := [.v (.pair (.int .i64) (.pair .str (.pair (.int .i64) (.int .i64))))]) (own := true) (outs := [.pair (.int .i64) (.pair .str (.pair (.int .i64) (.int .i64)))]) func126 (c := codeOf f126) (by kernel_rfl) (codeOk_in (L := L126_0) (tysOk_of tyl_ok) E126_ok mixed (c := codeOf f126) (bs := []) (by kernel_rfl) allNil (by kernel_rfl))
  rw [impl_PowerAutomaton_1_eq] at h
  exact h
/-! slices.Index[[]int,int] -/
noncomputable def E117 : Env := ⟨ty0, fun _ => none, fun _ => none, fun _ => none, fun _ => none⟩
theorem E117_ok : FnsOk prog E117 := (noFns _ _)
noncomputable def L117_0 : Nat → Option LoopD := fun _ => none
def sh117_2 : List Fm := [.cell (.val (.sl (.int .i64))), .cell (.val (.int .i64)), d, d, d, d, d, .cell (.val (.int .i64)), .cell (.val (.int .i64)), d, d, d, d, d, d, d, d, d, d]
def xs117_2 : List (Ex × List Fm) := [(.ret, [d, d, d, d, .cell (.val (.int .i64)), d, d, d, d, d, d, d, d, d, d, d, d, d, d]), (.exit 0, [d, d, d, d, d, d, d, d, d, d, d, d, d, d, d, d, d, d, d])]
noncomputable def slices_Index_l2 : ((List Int) × Int × Int × Int × Unit) → Option (((List Int) × Int × Int × Int × Unit) ⊕ ((Int × Unit) ⊕ (Unit))) := fun (v0, v1, v7, v8, _) =>
  bif (decide (v8 < v7)) then
    if (((0 : Int) ≤ v8) ∧ (v8 < (((List.length v0) : Nat) : Int))) then
      bif (v1 == (List.getD v0 (Int.toNat v8) (0 : Int))) then
        some (Sum.inr (Sum.inl (v8, ())))
      else
        some (Sum.inl (v0, v1, v7, (IntKind.wrap .i64 (v8 + (1 : Int))), ()))
    else
      none
  else
    some (Sum.inr (Sum.inr ()))
theorem slices_Index_l2_eq : loopStep 19 E117 L117_0 (loopOf f117 2) sh117_2 xs117_2 = slices_Index_l2 := by kernel_rfl
theorem loop117_2 {L : Nat → Option LoopD} (h : L 2 = some ⟨19, sh117_2, xs117_2, slices_Index_l2⟩) : LoopOk prog L (loopOf f117 2) :=
  loopOk (tysOk_of tyl_ok) E117_ok (codeOk_in (L := L117_0) (tysOk_of tyl_ok) E117_ok mixed (c := loopOf f117 2) (bs := []) (by kernel_rfl) allNil (by kernel_rfl)) (by kernel_rfl) (by kernel_rfl) slices_Index_l2_eq (by rw [show firstId (loopOf f117 2) = 2 from by kernel_rfl]; exact h)
noncomputable def L117_1 : Nat → Option LoopD := fun n => ifEq n 2 (some ⟨19, sh117_2, xs117_2, slices_Index_l2⟩) (L117_0 n)
noncomputable def slices_Index : (List Int) → Int → Option (Int) := fun a0 a1 =>
  Option.bind (loopF slices_Index_l2 (a0, a1, (((List.length a0) : Nat) : Int), (0 : Int), ())) fun r0 =>
    (match r0 with
    | .inl (d1, _) =>
        some d1
    | .inr _ =>
        some (-1 : Int))
noncomputable def A117 : FnA := ⟨[.v (.sl (.int .i64)), .v (.int .i64)], true, [.int .i64], fun x => slices_Index x.1 x.2.1⟩
theorem slices_Index_eq : fnF E117 L117_1 [.v (.sl (.int .i64)), .v (.int .i64)] true [.int .i64] f117.ntmps f117.results.toList (codeOf f117) = fun x => slices_Index x.1 x.2.1 := by kernel_rfl
theorem A117_ok : FnOk prog 117 A117 := by
  have h := fnOk_of_run (P := prog) (E := E117) (tysOk_of tyl_ok) E117_ok (L := L117_1) (ps := [.v (.sl (.int .i64)), .v (.int .i64)]) (own := true) (outs := [.int .i64]) func117 (c := codeOf f117) (by kernel_rfl) (codeOk_in (L := L117_1) (tysOk_of tyl_ok) E117_ok mixed (c := codeOf f117) (bs := [loopOf f117 2]) (by kernel_rfl) (allCons (loop117_2 rfl) allNil) (by kernel_rfl))
  rw [slices_Index_eq] at h
  exact h
/-! slices.Contains[[]int,int] -/
noncomputable def E75 : Env := ⟨ty0, fun g => ifEq g 117 (some A117) (none), fun _ => none, fun _ => none, fun _ => none⟩
theorem E75_ok : FnsOk prog E75 := (oneFn A117_ok func117 (by kernel_rfl) (by kernel_rfl) (noFns _ _))
noncomputable def L75_0 : Nat → Option LoopD := fun _ => none
noncomputable def slices_Contains : (List Int) → Int → Option (Bool) := fun a0 a1 =>
  Option.bind (slices_Index a0 a1) fun r0 =>
    some (decide (r0 ≥ (0 : Int)))
noncomputable def A75 : FnA := ⟨[.v (.sl (.int .i64)), .v (.int .i64)], true, [.bool], fun x => slices_Contains x.1 x.2.1⟩
theorem slices_Contains_eq : fnF E75 L75_0 [.v (.sl (.int .i64)), .v (.int .i64)] true [.bool] f75.ntmps f75.results.toList (codeOf f75) = fun x => slices_Contains x.1 x.2.1 := by kernel_rfl
theorem A75_ok : FnOk prog 75 A75 := by
  have h := fnOk_of_run (P := prog) (E := E75) (tysOk_of tyl_ok) E75_ok (L := L75_0) (ps := [.v (.sl (.int .i64)), .v (.int .i64)]) (own := true) (outs := [.bool]) func75 (c := codeOf f75) (by kernel_rfl) (codeOk_in (L := L75_0) (tysOk_of tyl_ok) E75_ok mixed (c := codeOf f75) (bs := []) (by kernel_rfl) allNil (by kernel_rfl))
  rw [slices_Contains_eq] at h
  exact h
/-! slices.IndexFunc[[]impl.Step,impl.Step] -/
noncomputable def E165 : Env := ⟨ty0, fun _ => none, fun _ => none, fun _ => none, fun _ => none⟩
theorem E165_ok : FnsOk prog E165 := (noFns _ _)
noncomputable def L165_0 : Nat → Option LoopD := fun _ => none
def sh165_2 : List Fm := [.cell (.val (.sl (.pair (.int .i64) (.pair .str (.pair (.int .i64) (.int .i64)))))), .clo [.pair (.int .i64) (.pair .str (.pair (.int .i64) (.int .i64)))] .bool, d, d, d, d, d, .cell (.val (.int .i64)), .cell (.val (.int .i64)), d, d, d, d, d, d, d, d, d, d]
def xs165_2 : List (Ex × List Fm) := [(.ret, [d, d, d, d, .cell (.val (.int .i64)), d, d, d, d, d, d, d, d, d, d, d, d, d, d]), (.exit 0, [d, d, d, d, d, d, d, d, d, d, d, d, d, d, d, d, d, d, d])]
noncomputable def slices_IndexFunc_Step_l2 : ((List (Int × (ByteArray × (Int × Int)))) × (((Int × (ByteArray × (Int × Int))) × Unit) → Option (Bool)) × Int × Int × Unit) → Option (((List (Int × (ByteArray × (Int × Int)))) × (((Int × (ByteArray × (Int × Int))) × Unit) → Option (Bool)) × Int × Int × Unit) ⊕ ((Int × Unit) ⊕ (Unit))) := fun (v0, v1, v7, v8, _) =>
  bif (decide (v8 < v7)) then
    if (((0 : Int) ≤ v8) ∧ (v8 < (((List.length v0) : Nat) : Int))) then
      Option.bind (v1 ((List.getD v0 (Int.toNat v8) ((0 : Int), (⟨Array.empty⟩ : ByteArray), (0 : Int), (0 : Int))), ())) fun r0 =>
        bif r0 then
          some (Sum.inr (Sum.inl (v8, ())))
        else
          some (Sum.inl (v0, v1, v7, (IntKind.wrap .i64 (v8 + (1 : Int))), ()))
    else
      none
  else
    some (Sum.inr (Sum.inr ()))
theorem slices_IndexFunc_Step_l2_eq : loopStep 19 E165 L165_0 (loopOf f165 2) sh165_2 xs165_2 = slices_IndexFunc_Step_l2 := by kernel_rfl
theorem loop165_2 {L : Nat → Option LoopD} (h : L 2 = some ⟨19, sh165_2, xs165_2, slices_IndexFunc_Step_l2⟩) : LoopOk prog L (loopOf f165 2) :=
  loopOk (tysOk_of tyl_ok) E165_ok (codeOk_in (L := L165_0) (tysOk_of tyl_ok) E165_ok mixed (c := loopOf f165 2) (bs := []) (by kernel_rfl) allNil (by kernel_rfl)) (by kernel_rfl) (by kernel_rfl) slices_IndexFunc_Step_l2_eq (by rw [show firstId (loopOf f165 2) = 2 from by kernel_rfl]; exact h)
noncomputable def L165_1 : Nat → Option LoopD := fun n => ifEq n 2 (some ⟨19, sh165_2, xs165_2, slices_IndexFunc_Step_l2⟩) (L165_0 n)
noncomputable def slices_IndexFunc_Step : (List (Int × (ByteArray × (Int × Int)))) → (((Int × (ByteArray × (Int × Int))) × Unit) → Option (Bool)) → Option (Int) := fun a0 a1 =>
  Option.bind (loopF slices_IndexFunc_Step_l2 (a0, a1, (((List.length a0) : Nat) : Int), (0 : Int), ())) fun r0 =>
    (match r0 with
    | .inl (d1, _) =>
        some d1
    | .inr _ =>
        some (-1 : Int))
noncomputable def A165 : FnA := ⟨[.v (.sl (.pair (.int .i64) (.pair .str (.pair (.int .i64) (.int .i64))))), .clo [.pair (.int .i64) (.pair .str (.pair (.int .i64) (.int .i64)))] .bool], true, [.int .i64], fun x => slices_IndexFunc_Step x.1 x.2.1⟩
theorem slices_IndexFunc_Step_eq : fnF E165 L165_1 [.v (.sl (.pair (.int .i64) (.pair .str (.pair (.int .i64) (.int .i64))))), .clo [.pair (.int .i64) (.pair .str (.pair (.int .i64) (.int .i64)))] .bool] true [.int .i64] f165.ntmps f165.results.toList (codeOf f165) = fun x => slices_IndexFunc_Step x.1 x.2.1 := by kernel_rfl
theorem A165_ok : FnOk prog 165 A165 := by
  have h := fnOk_of_run (P := prog) (E := E165) (tysOk_of tyl_ok) E165_ok (L := L165_1) (ps := [.v (.sl (.pair (.int .i64) (.pair .str (.pair (.int .i64) (.int .i64))))), .clo [.pair (.int .i64) (.pair .str (.pair (.int .i64) (.int .i64)))] .bool]) (own := true) (outs := [.int .i64]) func165 (c := codeOf f165) (by kernel_rfl) (codeOk_in (L := L165_1) (tysOk_of tyl_ok) E165_ok mixed (c := codeOf f165) (bs := [loopOf f165 2]) (by kernel_rfl) (allCons (loop165_2 rfl) allNil) (by kernel_rfl))
  rw [slices_IndexFunc_Step_eq] at h
  exact h
/-! slices.ContainsFunc[[]impl.Step,impl.Step] -/
noncomputable def E127 : Env := ⟨ty0, fun g => ifEq g 165 (some A165) (none), fun _ => none, fun _ => none, fun _ => none⟩
theorem E127_ok : FnsOk prog E127 := (oneFn A165_ok func165 (by kernel_rfl) (by kernel_rfl) (noFns _ _))
noncomputable def L127_0 : Nat → Option LoopD := fun _ => none
noncomputable def slices_ContainsFunc_Step : (List (Int × (ByteArray × (Int × Int)))) → (((Int × (ByteArray × (Int × Int))) × Unit) → Option (Bool)) → Option (Bool) := fun a0 a1 =>
  Option.bind (slices_IndexFunc_Step a0 a1) fun r0 =>
    some (decide (r0 ≥ (0 : Int)))
noncomputable def A127 : FnA := ⟨[.v (.sl (.pair (.int .i64) (.pair .str (.pair (.int .i64) (.int .i64))))), .clo [.pair (.int .i64) (.pair .str (.pair (.int .i64) (.int .i64)))] .bool], true, [.bool], fun x => slices_ContainsFunc_Step x.1 x.2.1⟩
theorem slices_ContainsFunc_Step_eq : fnF E127 L127_0 [.v (.sl (.pair (.int .i64) (.pair .str (.pair (.int .i64) (.int .i64))))), .clo [.pair (.int .i64) (.pair .str (.pair (.int .i64) (.int .i64)))] .bool] true [.bool] f127.ntmps f127.results.toList (codeOf f127) = fun x => slices_ContainsFunc_Step x.1 x.2.1 := by kernel_rfl
theorem A127_ok : FnOk prog 127 A127 := by
  have h := fnOk_of_run (P := prog) (E := E127) (tysOk_of tyl_ok) E127_ok (L := L127_0) (ps := [.v (.sl (.pair (.int .i64) (.pair .str (.pair (.int .i64) (.int .i64))))), .clo [.pair (.int .i64) (.pair .str (.pair (.int .i64) (.int .i64)))] .bool]) (own := true) (outs := [.bool]) func127 (c := codeOf f127) (by kernel_rfl) (codeOk_in (L := L127_0) (tysOk_of tyl_ok) E127_ok mixed (c := codeOf f127) (bs := []) (by kernel_rfl) allNil (by kernel_rfl))
  rw [slices_ContainsFunc_Step_eq] at h
  exact h
/-! impl.PowerAutomaton$2 -/
noncomputable def E128 : Env := ⟨ty0, fun g => ifEq g 79 (some A79) (none), fun _ => none, fun _ => none, fun _ => none⟩
theorem E128_ok : FnsOk prog E128 := (oneFn A79_ok func79 (by kernel_rfl) (by kernel_rfl) (noFns _ _))
noncomputable def L128_0 : Nat → Option LoopD := fun _ => none
noncomputable def impl_PowerAutomaton_2 : (Int × (ByteArray × (Int × Int))) → (Int × (ByteArray × (Int × Int))) → Option (Bool) := fun (a0_0, a0_1, a0_2, a0_3) (a1_0, a1_1, a1_2, a1_3) =>
  Option.bind (impl_stepOrder (a0_0, a0_1, a0_2, a0_3) (a1_0, a1_1, a1_2, a1_3)) fun r0 =>
    some (r0 == (0 : Int))
noncomputable def A128 : FnA := ⟨[.v (.pair (.int .i64) (.pair .str (.pair (.int .i64) (.int .i64)))), .cap (.pair (.int .i64) (.pair .str (.pair (.int .i64) (.int .i64))))], true, [.bool], fun x => impl_PowerAutomaton_2 x.1 x.2.1⟩
theorem impl_PowerAutomaton_2_eq : fnF E128 L128_0 [.v (.pair (.int .i64) (.pair .str (.pair (.int .i64) (.int .i64)))), .cap (.pair (.int .i64) (.pair .str (.pair (.int .i64) (.int .i64))))] true [.bool] f128.ntmps f128.results.toList (codeOf f128) = fun x => impl_PowerAutomaton_2 x.1 x.2.1 := by kernel_rfl
theorem A128_ok : FnOk prog 128 A128 := by
  have h := fnOk_of_run (P := prog) (E := E128) (tysOk_of tyl_ok) E128_ok (L := L128_0) (ps := [.v (.pair (.int .i64) (.pair .str (.pair (.int .i64) (.int .i64)))), .cap (.pair (.int .i64) (.pair .str (.pair (.int .i64) (.int .i64))))]) (own := true) (outs := [.bool]) func128 (c := codeOf f128) (by kernel_rfl) (codeOk_in (L := L128_0) (tysOk_of tyl_ok) E128_ok mixed (c := codeOf f128) (bs := []) (by kernel_rfl) allNil (by kernel_rfl))
  rw [impl_PowerAutomaton_2_eq] at h
  exact h
/-! slices.Clone[[]int,int] -/
noncomputable def E136 : Env := ⟨ty0, fun _ => none, fun _ => none, fun _ => none, fun _ => none⟩
theorem E136_ok : FnsOk prog E136 := (noFns _ _)
noncomputable def L136_0 : Nat → Option LoopD := fun _ => none
noncomputable def slices_Clone : (List Int) → Option ((List Int)) := fun a0 =>
  ifSame (some [])
    (if (((0 + 0) = (List.length ([] : List Unit))) ∧ (((0 + (List.length a0)) * 8) ≤ 140737488355328)) then
      some (List.take (0 + (List.length a0)) (List.drop 0 ((List.drop 0 []) ++ a0)))
    else
      none)
    (bif (List.isEmpty a0) then
      none
    else
      if (((0 + 0) = (List.length ([] : List Unit))) ∧ (((0 + (List.length a0)) * 8) ≤ 140737488355328)) then
        some (List.take (0 + (List.length a0)) (List.drop 0 ((List.drop 0 []) ++ a0)))
      else
        none)
noncomputable def A136 : FnA := ⟨[.v (.sl (.int .i64))], true, [.sl (.int .i64)], fun x => slices_Clone x.1⟩
theorem slices_Clone_eq : fnF E136 L136_0 [.v (.sl (.int .i64))] true [.sl (.int .i64)] f136.ntmps f136.results.toList (codeOf f136) = fun x => slices_Clone x.1 := by kernel_rfl
theorem A136_ok : FnOk prog 136 A136 := by
  have h := fnOk_of_run (P := prog) (E := E136) (tysOk_of tyl_ok) E136_ok (L := L136_0) (ps := [.v (.sl (.int .i64))]) (own := true) (outs := [.sl (.int .i64)]) func136 (c := codeOf f136) (by kernel_rfl) (codeOk_in (L := L136_0) (tysOk_of tyl_ok) E136_ok mixed (c := codeOf f136) (bs := []) (by kernel_rfl) allNil (by kernel_rfl))
  rw [slices_Clone_eq] at h
  exact h
/-! slices.Clone[[]impl.Step,impl.Step] -/
noncomputable def E137 : Env := ⟨ty0, fun _ => none, fun _ => none, fun _ => none, fun _ => none⟩
theorem E137_ok : FnsOk prog E137 := (noFns _ _)
noncomputable def L137_0 : Nat → Option LoopD := fun _ => none
noncomputable def slices_Clone_Step : (List (Int × (ByteArray × (Int × Int)))) → Option ((List (Int × (ByteArray × (Int × Int))))) := fun a0 =>
  ifSame (some [])
    (if (((0 + 0) = (List.length ([] : List Unit))) ∧ (((0 + (List.length a0)) * 40) ≤ 140737488355328)) then
      some (List.take (0 + (List.length a0)) (List.drop 0 ((List.drop 0 []) ++ a0)))
    else
      none)
    (bif (List.isEmpty a0) then
      none
    else
      if (((0 + 0) = (List.length ([] : List Unit))) ∧ (((0 + (List.length a0)) * 40) ≤ 140737488355328)) then
        some (List.take (0 + (List.length a0)) (List.drop 0 ((List.drop 0 []) ++ a0)))
      else
        none)
noncomputable def A137 : FnA := ⟨[.v (.sl (.pair (.int .i64) (.pair .str (.pair (.int .i64) (.int .i64)))))], true, [.sl (.pair (.int .i64) (.pair .str (.pair (.int .i64) (.int .i64))))], fun x => slices_Clone_Step x.1⟩
theorem slices_Clone_Step_eq : fnF E137 L137_0 [.v (.sl (.pair (.int .i64) (.pair .str (.pair (.int .i64) (.int .i64)))))] true [.sl (.pair (.int .i64) (.pair .str (.pair (.int .i64) (.int .i64))))] f137.ntmps f137.results.toList (codeOf f137) = fun x => slices_Clone_Step x.1 := by kernel_rfl
theorem A137_ok : FnOk prog 137 A137 := by
  have h := fnOk_of_run (P := prog) (E := E137) (tysOk_of tyl_ok) E137_ok (L := L137_0) (ps := [.v (.sl (.pair (.int .i64) (.pair .str (.pair (.int .i64) (.int .i64)))))]) (own := true) (outs := [.sl (.pair (.int .i64) (.pair .str (.pair (.int .i64) (.int .i64))))]) func137 (c := codeOf f137) (by kernel_rfl) (codeOk_in (L := L137_0) (tysOk_of tyl_ok) E137_ok mixed (c := codeOf f137) (bs := []) (by kernel_rfl) allNil (by kernel_rfl))
  rw [slices_Clone_Step_eq] at h
  exact h
/-! impl.made -/
noncomputable def E90 : Env := ⟨ty0, fun g => ifEq g 136 (some A136) (ifEq g 137 (some A137) (ifEq g 30 (some A30) (none))), fun g => ifEq g 51 (some A51) (ifEq g 138 (some A138) (none)), fun _ => none, fun _ => none⟩
theorem E90_ok : FnsOk prog E90 := (oneFn A136_ok func136 (by kernel_rfl) (by kernel_rfl) (oneFn A137_ok func137 (by kernel_rfl) (by kernel_rfl) (oneFn A30_ok func30 (by kernel_rfl) (by kernel_rfl) (oneMs A51_ok (by kernel_rfl) func51 (by kernel_rfl) (by kernel_rfl) (oneMs A138_ok (by kernel_rfl) func138 (by kernel_rfl) (by kernel_rfl) (noFns _ _))))))
noncomputable def L90_0 : Nat → Option LoopD := fun _ => none
noncomputable def impl_made : Int → (List Int) → (List Int) → (List (Int × (ByteArray × (Int × Int)))) → Option ((Int × ((List Int) × ((List Int) × (List (Int × (ByteArray × (Int × Int))))))) × Bool) := fun a0 a1 a2 a3 =>
  Option.bind (slices_Clone a1) fun r0 =>
    Option.bind (slices_Clone a2) fun r1 =>
      Option.bind (slices_Clone_Step a3) fun r2 =>
        if ((List.length r0) = (List.length r0)) then
          Option.bind (slices_Sort r0) fun (_, r3, _) =>
            if ((List.length r1) = (List.length r1)) then
              Option.bind (slices_Sort r1) fun (_, r4, _) =>
                if ((List.length r2) = (List.length r2)) then
                  Option.bind (slices_SortFunc r2) fun (_, r5, _) =>
                    Option.bind (impl_AutomatonValid (a0, (List.take (List.length r0) (List.drop 0 r3)), (List.take (List.length r1) (List.drop 0 r4)), (List.take (List.length r2) (List.drop 0 r5)))) fun r6 =>
                      bif (!r6) then
                        some (((0 : Int), [], [], []), false)
                      else
                        some ((a0, (List.take (List.length r0) (List.drop 0 r3)), (List.take (List.length r1) (List.drop 0 r4)), (List.take (List.length r2) (List.drop 0 r5))), true)
                else
                  none
            else
              none
        else
          none
noncomputable def A90 : FnA := ⟨[.v (.int .i64), .v (.sl (.int .i64)), .v (.sl (.int .i64)), .v (.sl (.pair (.int .i64) (.pair .str (.pair (.int .i64) (.int .i64)))))], true, [.pair (.int .i64) (.pair (.sl (.int .i64)) (.pair (.sl (.int .i64)) (.sl (.pair (.int .i64) (.pair .str (.pair (.int .i64) (.int .i64))))))), .bool], fun x => impl_made x.1 x.2.1 x.2.2.1 x.2.2.2.1⟩
theorem impl_made_eq : fnF E90 L90_0 [.v (.int .i64), .v (.sl (.int .i64)), .v (.sl (.int .i64)), .v (.sl (.pair (.int .i64) (.pair .str (.pair (.int .i64) (.int .i64)))))] true [.pair (.int .i64) (.pair (.sl (.int .i64)) (.pair (.sl (.int .i64)) (.sl (.pair (.int .i64) (.pair .str (.pair (.int .i64) (.int .i64))))))), .bool] f90.ntmps f90.results.toList (codeOf f90) = fun x => impl_made x.1 x.2.1 x.2.2.1 x.2.2.2.1 := by kernel_rfl
theorem A90_ok : FnOk prog 90 A90 := by
  have h := fnOk_of_run (P := prog) (E := E90) (tysOk_of tyl_ok) E90_ok (L := L90_0) (ps := [.v (.int .i64), .v (.sl (.int .i64)), .v (.sl (.int .i64)), .v (.sl (.pair (.int .i64) (.pair .str (.pair (.int .i64) (.int .i64)))))]) (own := true) (outs := [.pair (.int .i64) (.pair (.sl (.int .i64)) (.pair (.sl (.int .i64)) (.sl (.pair (.int .i64) (.pair .str (.pair (.int .i64) (.int .i64))))))), .bool]) func90 (c := codeOf f90) (by kernel_rfl) (codeOk_in (L := L90_0) (tysOk_of tyl_ok) E90_ok mixed (c := codeOf f90) (bs := []) (by kernel_rfl) allNil (by kernel_rfl))
  rw [impl_made_eq] at h
  exact h
/-! impl.PowerAutomaton -/
noncomputable def E86 : Env := ⟨ty0, fun g => ifEq g 30 (some A30) (ifEq g 91 (some A91) (ifEq g 126 (some A126) (ifEq g 75 (some A75) (ifEq g 127 (some A127) (ifEq g 128 (some A128) (ifEq g 90 (some A90) (none))))))), fun _ => none, fun _ => none, fun _ => none⟩
theorem E86_ok : FnsOk prog E86 := (oneFn A30_ok func30 (by kernel_rfl) (by kernel_rfl) (oneFn A91_ok func91 (by kernel_rfl) (by kernel_rfl) (oneFn A126_ok func126 (by kernel_rfl) (by kernel_rfl) (oneFn A75_ok func75 (by kernel_rfl) (by kernel_rfl) (oneFn A127_ok func127 (by kernel_rfl) (by kernel_rfl) (oneFn A128_ok func128 (by kernel_rfl) (by kernel_rfl) (oneFn A90_ok func90 (by kernel_rfl) (by kernel_rfl) (noFns _ _))))))))
noncomputable def L86_0 : Nat → Option LoopD := fun _ => none
def sh86_8 : List Fm := [d, .box 100100 [.val (.int .i64), .val (.sl (.int .i64)), .val (.sl (.int .i64)), .val (.sl (.pair (.int .i64) (.pair .str (.pair (.int .i64) (.int .i64)))))], .box 100200 [.val (.int .i64), .own (.int .i64) 100202 false, .own (.int .i64) 100203 false, .own (.pair (.int .i64) (.pair .str (.pair (.int .i64) (.int .i64)))) 100204 false], d, .cell (.own (.pair (.int .i64) (.pair .str (.pair (.int .i64) (.int .i64)))) 100400 false), d, .box 100600 [.val (.int .i64), .val .str, .val (.int .i64), .val (.int .i64)], d, d, d, d, d, d, d, d, d, d, d, .cell (.val (.sl (.pair (.int .i64) (.pair .str (.pair (.int .i64) (.int .i64)))))), .cell (.val (.int .i64)), .cell (.val (.int .i64)), d, d, d, d, .cell (.val (.sl (.int .i64))), .cell (.val (.int .i64)), .cell (.val (.int .i64)), d, d, d, d, d, d, d, d, d, d, d, d, d, d, d, d, d, d, d, d, d, d, d, d, d, d, d, d, d, d, d, d, d, d, d, d]
def xs86_8 : List (Ex × List Fm) := [(.exit 2, [d, .box 100100 [.val (.int .i64), .val (.sl (.int .i64)), .val (.sl (.int .i64)), .val (.sl (.pair (.int .i64) (.pair .str (.pair (.int .i64) (.int .i64)))))], .box 100200 [.val (.int .i64), .own (.int .i64) 100202 false, .own (.int .i64) 100203 false, .own (.pair (.int .i64) (.pair .str (.pair (.int .i64) (.int .i64)))) 100204 false], d, .cell (.own (.pair (.int .i64) (.pair .str (.pair (.int .i64) (.int .i64)))) 100400 false), d, d, d, d, d, d, d, d, d, d, d, d, d, .cell (.val (.sl (.pair (.int .i64) (.pair .str (.pair (.int .i64) (.int .i64)))))), .cell (.val (.int .i64)), .cell (.val (.int .i64)), d, d, d, d, d, d, d, d, d, d, d, d, d, d, d, d, d, d, d, d, d, d, d, d, d, d, d, d, d, d, d, d, d, d, d, d, d, d, d, d, d, d, d])]
noncomputable def impl_PowerAutomaton_l8 : ((Int × (List Int) × (List Int) × (List (Int × (ByteArray × (Int × Int)))) × Unit) × (Int × (List Int) × (List Int) × (List (Int × (ByteArray × (Int × Int)))) × Unit) × (List (Int × (ByteArray × (Int × Int)))) × (Int × ByteArray × Int × Int × Unit) × (List (Int × (ByteArray × (Int × Int)))) × Int × Int × (List Int) × Int × Int × Unit) → Option (((Int × (List Int) × (List Int) × (List (Int × (ByteArray × (Int × Int)))) × Unit) × (Int × (List Int) × (List Int) × (List (Int × (ByteArray × (Int × Int)))) × Unit) × (List (Int × (ByteArray × (Int × Int)))) × (Int × ByteArray × Int × Int × Unit) × (List (Int × (ByteArray × (Int × Int)))) × Int × Int × (List Int) × Int × Int × Unit) ⊕ (((Int × (List Int) × (List Int) × (List (Int × (ByteArray × (Int × Int)))) × Unit) × (Int × (List Int) × (List Int) × (List (Int × (ByteArray × (Int × Int)))) × Unit) × (List (Int × (ByteArray × (Int × Int)))) × (List (Int × (ByteArray × (Int × Int)))) × Int × Int × Unit))) := fun ((v1_0, v1_1, v1_2, v1_3, _), (v2_0, v2_1, v2_2, v2_3, _), v4, (v6_0, v6_1, v6_2, v6_3, _), v18, v19, v20, v25, v26, v27, _) =>
  bif (decide (v27 < v26)) then
    if (((0 : Int) ≤ v27) ∧ (v27 < (((List.length v25) : Nat) : Int))) then
      Option.bind (slices_Contains v1_1 v6_0) fun r0 =>
        bif r0 then
          Option.bind (slices_ContainsFunc_Step (List.take (List.length v4) (List.drop 0 v4)) (fun y1 => (impl_PowerAutomaton_2 y1.1 ((List.getD v25 (Int.toNat v27) (0 : Int)), v6_1, v6_2, (1 : Int))))) fun r2 =>
            bif (!r2) then
              if (((0 + (List.length v4)) = (List.length v4)) ∧ ((((List.length v4) + (List.length (List.take 1 (List.drop 0 [((List.getD v25 (Int.toNat v27) (0 : Int)), v6_1, v6_2, (1 : Int))])))) * 40) ≤ 140737488355328)) then
                some (Sum.inl ((v1_0, v1_1, v1_2, v1_3, ()), (v2_0, (List.take (List.length v2_1) (List.drop 0 v2_1)), (List.take (List.length v2_2) (List.drop 0 v2_2)), (List.take (List.length v2_3) (List.drop 0 v2_3)), ()), (List.take ((List.length v4) + (List.length (List.take 1 (List.drop 0 [((List.getD v25 (Int.toNat v27) (0 : Int)), v6_1, v6_2, (1 : Int))])))) (List.drop 0 ((List.drop 0 v4) ++ (List.take 1 (List.drop 0 [((List.getD v25 (Int.toNat v27) (0 : Int)), v6_1, v6_2, (1 : Int))]))))), (v6_0, v6_1, v6_2, v6_3, ()), v18, v19, v20, v25, v26, (IntKind.wrap .i64 (v27 + (1 : Int))), ()))
              else
                none
            else
              some (Sum.inl ((v1_0, v1_1, v1_2, v1_3, ()), (v2_0, (List.take (List.length v2_1) (List.drop 0 v2_1)), (List.take (List.length v2_2) (List.drop 0 v2_2)), (List.take (List.length v2_3) (List.drop 0 v2_3)), ()), (List.take (List.length v4) (List.drop 0 v4)), (v6_0, v6_1, v6_2, v6_3, ()), v18, v19, v20, v25, v26, (IntKind.wrap .i64 (v27 + (1 : Int))), ()))
        else
          some (Sum.inl ((v1_0, v1_1, v1_2, v1_3, ()), (v2_0, (List.take (List.length v2_1) (List.drop 0 v2_1)), (List.take (List.length v2_2) (List.drop 0 v2_2)), (List.take (List.length v2_3) (List.drop 0 v2_3)), ()), (List.take (List.length v4) (List.drop 0 v4)), (v6_0, v6_1, v6_2, v6_3, ()), v18, v19, v20, v25, v26, (IntKind.wrap .i64 (v27 + (1 : Int))), ()))
    else
      none
  else
    some (Sum.inr ((v1_0, v1_1, v1_2, v1_3, ()), (v2_0, (List.take (List.length v2_1) (List.drop 0 v2_1)), (List.take (List.length v2_2) (List.drop 0 v2_2)), (List.take (List.length v2_3) (List.drop 0 v2_3)), ()), (List.take (List.length v4) (List.drop 0 v4)), v18, v19, v20, ()))
theorem impl_PowerAutomaton_l8_eq : loopStep 64 E86 L86_0 (loopOf f86 8) sh86_8 xs86_8 = impl_PowerAutomaton_l8 := by kernel_rfl
theorem loop86_8 {L : Nat → Option LoopD} (h : L 8 = some ⟨64, sh86_8, xs86_8, impl_PowerAutomaton_l8⟩) : LoopOk prog L (loopOf f86 8) :=
  loopOk (tysOk_of tyl_ok) E86_ok (codeOk_in (L := L86_0) (tysOk_of tyl_ok) E86_ok mixed (c := loopOf f86 8) (bs := []) (by kernel_rfl) allNil (by kernel_rfl)) (by kernel_rfl) (by kernel_rfl) impl_PowerAutomaton_l8_eq (by rw [show firstId (loopOf f86 8) = 8 from by kernel_rfl]; exact h)
noncomputable def L86_1 : Nat → Option LoopD := fun n => ifEq n 8 (some ⟨64, sh86_8, xs86_8, impl_PowerAutomaton_l8⟩) (L86_0 n)
def sh86_5 : List Fm := [d, .box 100100 [.val (.int .i64), .val (.sl (.int .i64)), .val (.sl (.int .i64)), .val (.sl (.pair (.int .i64) (.pair .str (.pair (.int .i64) (.int .i64)))))], .box 100200 [.val (.int .i64), .own (.int .i64) 100202 false, .own (.int .i64) 100203 false, .own (.pair (.int .i64) (.pair .str (.pair (.int .i64) (.int .i64)))) 100204 false], d, .cell (.own (.pair (.int .i64) (.pair .str (.pair (.int .i64) (.int .i64)))) 100400 false), d, d, d, d, d, d, d, d, d, d, d, d, d, .cell (.val (.sl (.pair (.int .i64) (.pair .str (.pair (.int .i64) (.int .i64)))))), .cell (.val (.int .i64)), .cell (.val (.int .i64)), d, d, d, d, d, d, d, d, d, d, d, d, d, d, d, d, d, d, d, d, d, d, d, d, d, d, d, d, d, d, d, d, d, d, d, d, d, d, d, d, d, d, d]
def xs86_5 : List (Ex × List Fm) := [(.exit 0, [d, .box 100100 [.val (.int .i64), .val (.sl (.int .i64)), .val (.sl (.int .i64)), .val (.sl (.pair (.int .i64) (.pair .str (.pair (.int .i64) (.int .i64)))))], .box 100200 [.val (.int .i64), .own (.int .i64) 100202 false, .own (.int .i64) 100203 false, .own (.pair (.int .i64) (.pair .str (.pair (.int .i64) (.int .i64)))) 100204 false], d, .cell (.own (.pair (.int .i64) (.pair .str (.pair (.int .i64) (.int .i64)))) 100400 false), d, d, d, d, d, d, d, d, d, d, d, d, d, d, d, d, d, d, d, d, d, d, d, d, d, d, d, d, d, d, d, d, d, d, d, d, d, d, d, d, d, d, d, d, d, d, d, d, d, d, d, d, d, d, d, d, d, d, d])]
noncomputable def impl_PowerAutomaton_l5 : ((Int × (List Int) × (List Int) × (List (Int × (ByteArray × (Int × Int)))) × Unit) × (Int × (List Int) × (List Int) × (List (Int × (ByteArray × (Int × Int)))) × Unit) × (List (Int × (ByteArray × (Int × Int)))) × (List (Int × (ByteArray × (Int × Int)))) × Int × Int × Unit) → Option (((Int × (List Int) × (List Int) × (List (Int × (ByteArray × (Int × Int)))) × Unit) × (Int × (List Int) × (List Int) × (List (Int × (ByteArray × (Int × Int)))) × Unit) × (List (Int × (ByteArray × (Int × Int)))) × (List (Int × (ByteArray × (Int × Int)))) × Int × Int × Unit) ⊕ (((Int × (List Int) × (List Int) × (List (Int × (ByteArray × (Int × Int)))) × Unit) × (Int × (List Int) × (List Int) × (List (Int × (ByteArray × (Int × Int)))) × Unit) × (List (Int × (ByteArray × (Int × Int)))) × Unit))) := fun ((v1_0, v1_1, v1_2, v1_3, _), (v2_0, v2_1, v2_2, v2_3, _), v4, v18, v19, v20, _) =>
  bif (decide (v20 < v19)) then
    if (((0 : Int) ≤ v20) ∧ (v20 < (((List.length v18) : Nat) : Int))) then
      Option.bind (loopF impl_PowerAutomaton_l8 ((v1_0, v1_1, v1_2, v1_3, ()), (v2_0, (List.take (List.length v2_1) (List.drop 0 v2_1)), (List.take (List.length v2_2) (List.drop 0 v2_2)), (List.take (List.length v2_3) (List.drop 0 v2_3)), ()), (List.take (List.length v4) (List.drop 0 v4)), ((List.getD v18 (Int.toNat v20) ((0 : Int), (⟨Array.empty⟩ : ByteArray), (0 : Int), (0 : Int))).1, (List.getD v18 (Int.toNat v20) ((0 : Int), (⟨Array.empty⟩ : ByteArray), (0 : Int), (0 : Int))).2.1, (List.getD v18 (Int.toNat v20) ((0 : Int), (⟨Array.empty⟩ : ByteArray), (0 : Int), (0 : Int))).2.2.1, (List.getD v18 (Int.toNat v20) ((0 : Int), (⟨Array.empty⟩ : ByteArray), (0 : Int), (0 : Int))).2.2.2, ()), v18, v19, v20, v1_2, (((List.length v1_2) : Nat) : Int), (0 : Int), ())) fun ((r0, r1, r2, r3, _), (r4, r5, r6, r7, _), r8, r9, r10, r11, _) =>
        some (Sum.inl ((r0, r1, r2, r3, ()), (r4, (List.take (List.length r5) (List.drop 0 r5)), (List.take (List.length r6) (List.drop 0 r6)), (List.take (List.length r7) (List.drop 0 r7)), ()), (List.take (List.length r8) (List.drop 0 r8)), r9, r10, (IntKind.wrap .i64 (r11 + (1 : Int))), ()))
    else
      none
  else
    some (Sum.inr ((v1_0, v1_1, v1_2, v1_3, ()), (v2_0, (List.take (List.length v2_1) (List.drop 0 v2_1)), (List.take (List.length v2_2) (List.drop 0 v2_2)), (List.take (List.length v2_3) (List.drop 0 v2_3)), ()), (List.take (List.length v4) (List.drop 0 v4)), ()))
theorem impl_PowerAutomaton_l5_eq : loopStep 64 E86 L86_1 (loopOf f86 5) sh86_5 xs86_5 = impl_PowerAutomaton_l5 := by kernel_rfl
theorem loop86_5 {L : Nat → Option LoopD} (h : L 5 = some ⟨64, sh86_5, xs86_5, impl_PowerAutomaton_l5⟩) : LoopOk prog L (loopOf f86 5) :=
  loopOk (tysOk_of tyl_ok) E86_ok (codeOk_in (L := L86_1) (tysOk_of tyl_ok) E86_ok mixed (c := loopOf f86 5) (bs := [loopOf f86 8]) (by kernel_rfl) (allCons (loop86_8 rfl) allNil) (by kernel_rfl)) (by kernel_rfl) (by kernel_rfl) impl_PowerAutomaton_l5_eq (by rw [show firstId (loopOf f86 5) = 5 from by kernel_rfl]; exact h)
noncomputable def L86_2 : Nat → Option LoopD := fun n => ifEq n 5 (some ⟨64, sh86_5, xs86_5, impl_PowerAutomaton_l5⟩) (L86_1 n)
noncomputable def impl_PowerAutomaton : (Int × ((List Int) × ((List Int) × (List (Int × (ByteArray × (Int × Int))))))) → Option ((Int × ((List Int) × ((List Int) × (List (Int × (ByteArray × (Int × Int))))))) × Bool) := fun (a0_0, a0_1, a0_2, a0_3) =>
  Option.bind (impl_AutomatonValid (a0_0, a0_1, a0_2, a0_3)) fun r0 =>
    bif (!r0) then
      some (((0 : Int), [], [], []), false)
    else
      Option.bind (impl_stepped a0_3 (fun y1 => (impl_PowerAutomaton_1 y1.1))) fun r2 =>
        Option.bind (loopF impl_PowerAutomaton_l5 ((a0_0, a0_1, a0_2, a0_3, ()), ((0 : Int), [], [], [], ()), (List.take (List.length r2) (List.drop 0 r2)), a0_3, (((List.length a0_3) : Nat) : Int), (0 : Int), ())) fun ((r3, r4, r5, r6, _), (r7, r8, r9, r10, _), r11, _) =>
          Option.bind (impl_made r3 r4 r5 (List.take (List.length r11) (List.drop 0 r11))) fun ((r12, r13, r14, r15), r16) =>
            some ((r12, (List.take (List.length r13) (List.drop 0 r13)), (List.take (List.length r14) (List.drop 0 r14)), (List.take (List.length r15) (List.drop 0 r15))), r16)
noncomputable def A86 : FnA := ⟨[.v (.pair (.int .i64) (.pair (.sl (.int .i64)) (.pair (.sl (.int .i64)) (.sl (.pair (.int .i64) (.pair .str (.pair (.int .i64) (.int .i64))))))))], true, [.pair (.int .i64) (.pair (.sl (.int .i64)) (.pair (.sl (.int .i64)) (.sl (.pair (.int .i64) (.pair .str (.pair (.int .i64) (.int .i64))))))), .bool], fun x => impl_PowerAutomaton x.1⟩
theorem impl_PowerAutomaton_eq : fnF E86 L86_2 [.v (.pair (.int .i64) (.pair (.sl (.int .i64)) (.pair (.sl (.int .i64)) (.sl (.pair (.int .i64) (.pair .str (.pair (.int .i64) (.int .i64))))))))] true [.pair (.int .i64) (.pair (.sl (.int .i64)) (.pair (.sl (.int .i64)) (.sl (.pair (.int .i64) (.pair .str (.pair (.int .i64) (.int .i64))))))), .bool] f86.ntmps f86.results.toList (codeOf f86) = fun x => impl_PowerAutomaton x.1 := by kernel_rfl
theorem A86_ok : FnOk prog 86 A86 := by
  have h := fnOk_of_run (P := prog) (E := E86) (tysOk_of tyl_ok) E86_ok (L := L86_2) (ps := [.v (.pair (.int .i64) (.pair (.sl (.int .i64)) (.pair (.sl (.int .i64)) (.sl (.pair (.int .i64) (.pair .str (.pair (.int .i64) (.int .i64))))))))]) (own := true) (outs := [.pair (.int .i64) (.pair (.sl (.int .i64)) (.pair (.sl (.int .i64)) (.sl (.pair (.int .i64) (.pair .str (.pair (.int .i64) (.int .i64))))))), .bool]) func86 (c := codeOf f86) (by kernel_rfl) (codeOk_in (L := L86_2) (tysOk_of tyl_ok) E86_ok mixed (c := codeOf f86) (bs := [loopOf f86 5]) (by kernel_rfl) (allCons (loop86_5 rfl) allNil) (by kernel_rfl))
  rw [impl_PowerAutomaton_eq] at h
  exact h
/-! internal/stringslite.HasPrefix -/
noncomputable def E183 : Env := ⟨ty0, fun _ => none, fun _ => none, fun _ => none, fun _ => none⟩
theorem E183_ok : FnsOk prog E183 := (noFns _ _)
noncomputable def L183_0 : Nat → Option LoopD := fun _ => none
noncomputable def internal_stringslite_HasPrefix : ByteArray → ByteArray → Option (Bool) := fun a0 a1 =>
  bif (decide ((((ByteArray.size a0) : Nat) : Int) ≥ (((ByteArray.size a1) : Nat) : Int))) then
    if (((0 : Int) ≤ (((ByteArray.size a1) : Nat) : Int)) ∧ ((((ByteArray.size a1) : Nat) : Int) ≤ (((ByteArray.size a0) : Nat) : Int))) then
      some ((ByteArray.toList (ByteArray.extract a0 0 (Int.toNat (((ByteArray.size a1) : Nat) : Int)))) == (ByteArray.toList a1))
    else
      none
  else
    some false
noncomputable def A183 : FnA := ⟨[.v .str, .v .str], true, [.bool], fun x => internal_stringslite_HasPrefix x.1 x.2.1⟩
theorem internal_stringslite_HasPrefix_eq : fnF E183 L183_0 [.v .str, .v .str] true [.bool] f183.ntmps f183.results.toList (codeOf f183) = fun x => internal_stringslite_HasPrefix x.1 x.2.1 := by kernel_rfl
theorem A183_ok : FnOk prog 183 A183 := by
  have h := fnOk_of_run (P := prog) (E := E183) (tysOk_of tyl_ok) E183_ok (L := L183_0) (ps := [.v .str, .v .str]) (own := true) (outs := [.bool]) func183 (c := codeOf f183) (by kernel_rfl) (codeOk_in (L := L183_0) (tysOk_of tyl_ok) E183_ok mixed (c := codeOf f183) (bs := []) (by kernel_rfl) allNil (by kernel_rfl))
  rw [internal_stringslite_HasPrefix_eq] at h
  exact h
/-! strings.HasPrefix -/
noncomputable def E158 : Env := ⟨ty0, fun g => ifEq g 183 (some A183) (none), fun _ => none, fun _ => none, fun _ => none⟩
theorem E158_ok : FnsOk prog E158 := (oneFn A183_ok func183 (by kernel_rfl) (by kernel_rfl) (noFns _ _))
noncomputable def L158_0 : Nat → Option LoopD := fun _ => none
noncomputable def strings_HasPrefix : ByteArray → ByteArray → Option (Bool) := fun a0 a1 =>
  Option.bind (internal_stringslite_HasPrefix a0 a1) fun r0 =>
    some r0
noncomputable def A158 : FnA := ⟨[.v .str, .v .str], true, [.bool], fun x => strings_HasPrefix x.1 x.2.1⟩
theorem strings_HasPrefix_eq : fnF E158 L158_0 [.v .str, .v .str] true [.bool] f158.ntmps f158.results.toList (codeOf f158) = fun x => strings_HasPrefix x.1 x.2.1 := by kernel_rfl
theorem A158_ok : FnOk prog 158 A158 := by
  have h := fnOk_of_run (P := prog) (E := E158) (tysOk_of tyl_ok) E158_ok (L := L158_0) (ps := [.v .str, .v .str]) (own := true) (outs := [.bool]) func158 (c := codeOf f158) (by kernel_rfl) (codeOk_in (L := L158_0) (tysOk_of tyl_ok) E158_ok mixed (c := codeOf f158) (bs := []) (by kernel_rfl) allNil (by kernel_rfl))
  rw [strings_HasPrefix_eq] at h
  exact h
/-! impl.readParts -/
noncomputable def R107 (impl_readParts_rec : ByteArray → Option ((List (ByteArray × PT)) × ByteArray)) : FnA := ⟨[.v .str], true, [.sl (.pair .str .pt), .str], fun x => impl_readParts_rec x.1⟩
noncomputable def E107 (impl_readParts_rec : ByteArray → Option ((List (ByteArray × PT)) × ByteArray)) : Env := ⟨ty0, fun g => ifEq g 107 (some (R107 impl_readParts_rec)) (ifEq g 158 (some A158) (none)), fun _ => none, fun _ => none, fun _ => none⟩
theorem E107_ok (impl_readParts_rec : ByteArray → Option ((List (ByteArray × PT)) × ByteArray)) (hrec : FnOk prog 107 (R107 impl_readParts_rec)) : FnsOk prog (E107 impl_readParts_rec) := (oneFn hrec func107 (by kernel_rfl) (by kernel_rfl) (oneFn A158_ok func158 (by kernel_rfl) (by kernel_rfl) (noFns _ _)))
noncomputable def L107_0 (impl_readParts_rec : ByteArray → Option ((List (ByteArray × PT)) × ByteArray)) : Nat → Option LoopD := fun _ => none
def sh107_2 : List Fm := [.cell (.val .str), d, d, d, .cell (.own (.pair .str .pt) 100400 false), d, d, d, d, d, d, d, d, d, d, d, d, d, d, d, d, d, d, d, d, d, d, d, d, d, d, d, d, d, d, d, d, d, d, d, d, d, d, d, d, d, d, d, d]
def xs107_2 : List (Ex × List Fm) := [(.ret, [d, d, .cell (.own (.pair .str .pt) 100200 false), .cell (.val .str), d, d, d, d, d, d, d, d, d, d, d, d, d, d, d, d, d, d, d, d, d, d, d, d, d, d, d, d, d, d, d, d, d, d, d, d, d, d, d, d, d, d, d, d, d]), (.exit 0, [.cell (.val .str), d, d, d, .cell (.own (.pair .str .pt) 100400 false), d, d, d, d, d, d, d, d, d, d, d, d, d, d, d, d, d, d, d, d, d, d, d, d, d, d, d, d, d, d, d, d, d, d, d, d, d, d, d, d, d, d, d, d])]
noncomputable def impl_readParts_l2 (impl_readParts_rec : ByteArray → Option ((List (ByteArray × PT)) × ByteArray)) : (ByteArray × (List (ByteArray × PT)) × Unit) → Option ((ByteArray × (List (ByteArray × PT)) × Unit) ⊕ (((List (ByteArray × PT)) × ByteArray × Unit) ⊕ (ByteArray × (List (ByteArray × PT)) × Unit))) := fun (v0, v4, _) =>
  bif (!((ByteArray.toList v0) == (ByteArray.toList (⟨#[]⟩ : ByteArray)))) then
    if (((0 : Int) ≤ (0 : Int)) ∧ ((0 : Int) < (((ByteArray.size v0) : Nat) : Int))) then
      bif ((((UInt8.toNat (Array.getD (ByteArray.data v0) (Int.toNat (0 : Int)) (0 : UInt8))) : Nat) : Int) == (97 : Int)) then
        bif ((((UInt8.toNat (Array.getD (ByteArray.data v0) (Int.toNat (0 : Int)) (0 : UInt8))) : Nat) : Int) == (97 : Int)) then
          if (((0 : Int) ≤ (1 : Int)) ∧ ((1 : Int) ≤ (((ByteArray.size v0) : Nat) : Int))) then
            if (((0 + (List.length v4)) = (List.length v4)) ∧ ((((List.length v4) + (List.length (List.take 1 (List.drop 0 [((ByteArray.extract v0 0 (Int.toNat (1 : Int))), (PT.mk []))])))) * 40) ≤ 140737488355328)) then
              if (((0 : Int) ≤ (1 : Int)) ∧ ((1 : Int) ≤ (((ByteArray.size v0) : Nat) : Int))) then
                some (Sum.inl ((ByteArray.extract v0 (Int.toNat (1 : Int)) (ByteArray.size v0)), (List.take ((List.length v4) + (List.length (List.take 1 (List.drop 0 [((ByteArray.extract v0 0 (Int.toNat (1 : Int))), (PT.mk []))])))) (List.drop 0 ((List.drop 0 v4) ++ (List.take 1 (List.drop 0 [((ByteArray.extract v0 0 (Int.toNat (1 : Int))), (PT.mk []))]))))), ()))
              else
                none
            else
              none
          else
            none
        else
          bif ((((UInt8.toNat (Array.getD (ByteArray.data v0) (Int.toNat (0 : Int)) (0 : UInt8))) : Nat) : Int) == (40 : Int)) then
            if (((0 : Int) ≤ (1 : Int)) ∧ ((1 : Int) ≤ (((ByteArray.size v0) : Nat) : Int))) then
              Option.bind (impl_readParts_rec (ByteArray.extract v0 (Int.toNat (1 : Int)) (ByteArray.size v0))) fun (r0, r1) =>
                bif (decide ((((List.length r0) : Nat) : Int) > (0 : Int))) then
                  Option.bind (strings_HasPrefix r1 (⟨#[(41 : UInt8), (35 : UInt8)]⟩ : ByteArray)) fun r2 =>
                    bif r2 then
                      if (((0 + (List.length v4)) = (List.length v4)) ∧ ((((List.length v4) + (List.length (List.take 1 (List.drop 0 [((⟨Array.empty⟩ : ByteArray), (PT.mk (List.take (List.length r0) (List.drop 0 r0))))])))) * 40) ≤ 140737488355328)) then
                        if (((0 : Int) ≤ (2 : Int)) ∧ ((2 : Int) ≤ (((ByteArray.size r1) : Nat) : Int))) then
                          some (Sum.inl ((ByteArray.extract r1 (Int.toNat (2 : Int)) (ByteArray.size r1)), (List.take ((List.length v4) + (List.length (List.take 1 (List.drop 0 [((⟨Array.empty⟩ : ByteArray), (PT.mk (List.take (List.length r0) (List.drop 0 r0))))])))) (List.drop 0 ((List.drop 0 v4) ++ (List.take 1 (List.drop 0 [((⟨Array.empty⟩ : ByteArray), (PT.mk (List.take (List.length r0) (List.drop 0 r0))))]))))), ()))
                        else
                          none
                      else
                        none
                    else
                      some (Sum.inr (Sum.inl ((List.take (List.length v4) (List.drop 0 v4)), v0, ())))
                else
                  some (Sum.inr (Sum.inl ((List.take (List.length v4) (List.drop 0 v4)), v0, ())))
            else
              none
          else
            some (Sum.inr (Sum.inl ((List.take (List.length v4) (List.drop 0 v4)), v0, ())))
      else
        bif ((((UInt8.toNat (Array.getD (ByteArray.data v0) (Int.toNat (0 : Int)) (0 : UInt8))) : Nat) : Int) == (98 : Int)) then
          if (((0 : Int) ≤ (1 : Int)) ∧ ((1 : Int) ≤ (((ByteArray.size v0) : Nat) : Int))) then
            if (((0 + (List.length v4)) = (List.length v4)) ∧ ((((List.length v4) + (List.length (List.take 1 (List.drop 0 [((ByteArray.extract v0 0 (Int.toNat (1 : Int))), (PT.mk []))])))) * 40) ≤ 140737488355328)) then
              if (((0 : Int) ≤ (1 : Int)) ∧ ((1 : Int) ≤ (((ByteArray.size v0) : Nat) : Int))) then
                some (Sum.inl ((ByteArray.extract v0 (Int.toNat (1 : Int)) (ByteArray.size v0)), (List.take ((List.length v4) + (List.length (List.take 1 (List.drop 0 [((ByteArray.extract v0 0 (Int.toNat (1 : Int))), (PT.mk []))])))) (List.drop 0 ((List.drop 0 v4) ++ (List.take 1 (List.drop 0 [((ByteArray.extract v0 0 (Int.toNat (1 : Int))), (PT.mk []))]))))), ()))
              else
                none
            else
              none
          else
            none
        else
          bif ((((UInt8.toNat (Array.getD (ByteArray.data v0) (Int.toNat (0 : Int)) (0 : UInt8))) : Nat) : Int) == (40 : Int)) then
            if (((0 : Int) ≤ (1 : Int)) ∧ ((1 : Int) ≤ (((ByteArray.size v0) : Nat) : Int))) then
              Option.bind (impl_readParts_rec (ByteArray.extract v0 (Int.toNat (1 : Int)) (ByteArray.size v0))) fun (r3, r4) =>
                bif (decide ((((List.length r3) : Nat) : Int) > (0 : Int))) then
                  Option.bind (strings_HasPrefix r4 (⟨#[(41 : UInt8), (35 : UInt8)]⟩ : ByteArray)) fun r5 =>
                    bif r5 then
                      if (((0 + (List.length v4)) = (List.length v4)) ∧ ((((List.length v4) + (List.length (List.take 1 (List.drop 0 [((⟨Array.empty⟩ : ByteArray), (PT.mk (List.take (List.length r3) (List.drop 0 r3))))])))) * 40) ≤ 140737488355328)) then
                        if (((0 : Int) ≤ (2 : Int)) ∧ ((2 : Int) ≤ (((ByteArray.size r4) : Nat) : Int))) then
                          some (Sum.inl ((ByteArray.extract r4 (Int.toNat (2 : Int)) (ByteArray.size r4)), (List.take ((List.length v4) + (List.length (List.take 1 (List.drop 0 [((⟨Array.empty⟩ : ByteArray), (PT.mk (List.take (List.length r3) (List.drop 0 r3))))])))) (List.drop 0 ((List.drop 0 v4) ++ (List.take 1 (List.drop 0 [((⟨Array.empty⟩ : ByteArray), (PT.mk (List.take (List.length r3) (List.drop 0 r3))))]))))), ()))
                        else
                          none
                      else
                        none
                    else
                      some (Sum.inr (Sum.inl ((List.take (List.length v4) (List.drop 0 v4)), v0, ())))
                else
                  some (Sum.inr (Sum.inl ((List.take (List.length v4) (List.drop 0 v4)), v0, ())))
            else
              none
          else
            some (Sum.inr (Sum.inl ((List.take (List.length v4) (List.drop 0 v4)), v0, ())))
    else
      none
  else
    some (Sum.inr (Sum.inr (v0, (List.take (List.length v4) (List.drop 0 v4)), ())))
theorem impl_readParts_l2_eq (impl_readParts_rec : ByteArray → Option ((List (ByteArray × PT)) × ByteArray)) : loopStep 49 (E107 impl_readParts_rec) (L107_0 impl_readParts_rec) (loopOf f107 2) sh107_2 xs107_2 = (impl_readParts_l2 impl_readParts_rec) := by kernel_rfl
theorem loop107_2 (impl_readParts_rec : ByteArray → Option ((List (ByteArray × PT)) × ByteArray)) (hrec : FnOk prog 107 (R107 impl_readParts_rec)) {L : Nat → Option LoopD} (h : L 2 = some ⟨49, sh107_2, xs107_2, (impl_readParts_l2 impl_readParts_rec)⟩) : LoopOk prog L (loopOf f107 2) :=
  loopOk (tysOk_of tyl_ok) (E107_ok impl_readParts_rec hrec) (codeOk_in (L := (L107_0 impl_readParts_rec)) (tysOk_of tyl_ok) (E107_ok impl_readParts_rec hrec) mixed (c := loopOf f107 2) (bs := []) (by kernel_rfl) allNil (by kernel_rfl)) (by kernel_rfl) (by kernel_rfl) (impl_readParts_l2_eq impl_readParts_rec) (by rw [show firstId (loopOf f107 2) = 2 from by kernel_rfl]; exact h)
noncomputable def L107_1 (impl_readParts_rec : ByteArray → Option ((List (ByteArray × PT)) × ByteArray)) : Nat → Option LoopD := fun n => ifEq n 2 (some ⟨49, sh107_2, xs107_2, (impl_readParts_l2 impl_readParts_rec)⟩) ((L107_0 impl_readParts_rec) n)
noncomputable def impl_readParts_step (impl_readParts_rec : ByteArray → Option ((List (ByteArray × PT)) × ByteArray)) : ByteArray → Option ((List (ByteArray × PT)) × ByteArray) := fun a0 =>
  Option.bind (loopF (impl_readParts_l2 impl_readParts_rec) (a0, (List.take 0 (List.drop 0 [])), ())) fun r0 =>
    (match r0 with
    | .inl (d1, d2, _) =>
        some ((List.take (List.length d1) (List.drop 0 d1)), d2)
    | .inr (d3, d4, _) =>
        some ((List.take (List.length d4) (List.drop 0 d4)), d3))
theorem impl_readParts_step_eq (impl_readParts_rec : ByteArray → Option ((List (ByteArray × PT)) × ByteArray)) : fnF (E107 impl_readParts_rec) (L107_1 impl_readParts_rec) [.v .str] true [.sl (.pair .str .pt), .str] f107.ntmps f107.results.toList (codeOf f107) = fun x => (impl_readParts_step impl_readParts_rec) x.1 := by kernel_rfl
theorem impl_readParts_step_ok (impl_readParts_rec : ByteArray → Option ((List (ByteArray × PT)) × ByteArray)) (hrec : FnOk prog 107 (R107 impl_readParts_rec)) : FnOk prog 107 ⟨[.v .str], true, [.sl (.pair .str .pt), .str], fun x => (impl_readParts_step impl_readParts_rec) x.1⟩ := by
  have h := fnOk_of_run (P := prog) (E := (E107 impl_readParts_rec)) (tysOk_of tyl_ok) (E107_ok impl_readParts_rec hrec) (L := (L107_1 impl_readParts_rec)) (ps := [.v .str]) (own := true) (outs := [.sl (.pair .str .pt), .str]) func107 (c := codeOf f107) (by kernel_rfl) (codeOk_in (L := (L107_1 impl_readParts_rec)) (tysOk_of tyl_ok) (E107_ok impl_readParts_rec hrec) mixed (c := codeOf f107) (bs := [loopOf f107 2]) (by kernel_rfl) (allCons (loop107_2 impl_readParts_rec hrec rfl) allNil) (by kernel_rfl))
  rw [(impl_readParts_step_eq impl_readParts_rec)] at h
  exact h
/-- so many calls within each other -/
noncomputable def impl_readParts_fuel : Nat → ByteArray → Option ((List (ByteArray × PT)) × ByteArray)
  | 0 => fun _ => none
  | n + 1 => impl_readParts_step (impl_readParts_fuel n)
theorem impl_readParts_fuel_ok : ∀ n, FnOk prog 107 (R107 (impl_readParts_fuel n))
  | 0 => fun xs r h => by cases h
  | n + 1 => impl_readParts_step_ok (impl_readParts_fuel n) (impl_readParts_fuel_ok n)
noncomputable def impl_readParts : ByteArray → Option ((List (ByteArray × PT)) × ByteArray) := impl_readParts_fuel 200
noncomputable def A107 : FnA := R107 impl_readParts
theorem A107_ok : FnOk prog 107 A107 := impl_readParts_fuel_ok 200
/-! impl.parts -/
noncomputable def E62 : Env := ⟨ty0, fun g => ifEq g 107 (some A107) (none), fun _ => none, fun _ => none, fun _ => none⟩
theorem E62_ok : FnsOk prog E62 := (oneFn A107_ok func107 (by kernel_rfl) (by kernel_rfl) (noFns _ _))
noncomputable def L62_0 : Nat → Option LoopD := fun _ => none
noncomputable def impl_parts : ByteArray → Option ((List (ByteArray × PT)) × Bool) := fun a0 =>
  bif (decide ((((ByteArray.size a0) : Nat) : Int) > (120 : Int))) then
    some ([], false)
  else
    Option.bind (impl_readParts a0) fun (r0, r1) =>
      bif (decide ((((List.length r0) : Nat) : Int) > (0 : Int))) then
        some ((List.take (List.length r0) (List.drop 0 r0)), ((ByteArray.toList r1) == (ByteArray.toList (⟨#[]⟩ : ByteArray))))
      else
        some ((List.take (List.length r0) (List.drop 0 r0)), false)
noncomputable def A62 : FnA := ⟨[.v .str], true, [.sl (.pair .str .pt), .bool], fun x => impl_parts x.1⟩
theorem impl_parts_eq : fnF E62 L62_0 [.v .str] true [.sl (.pair .str .pt), .bool] f62.ntmps f62.results.toList (codeOf f62) = fun x => impl_parts x.1 := by kernel_rfl
theorem A62_ok : FnOk prog 62 A62 := by
  have h := fnOk_of_run (P := prog) (E := E62) (tysOk_of tyl_ok) E62_ok (L := L62_0) (ps := [.v .str]) (own := true) (outs := [.sl (.pair .str .pt), .bool]) func62 (c := codeOf f62) (by kernel_rfl) (codeOk_in (L := L62_0) (tysOk_of tyl_ok) E62_ok mixed (c := codeOf f62) (bs := []) (by kernel_rfl) allNil (by kernel_rfl))
  rw [impl_parts_eq] at h
  exact h
/-! impl.filled -/
noncomputable def E65 : Env := ⟨ty0, fun _ => none, fun _ => none, fun _ => none, fun _ => none⟩
theorem E65_ok : FnsOk prog E65 := (noFns _ _)
noncomputable def L65_0 : Nat → Option LoopD := fun _ => none
def sh65_6 : List Fm := [.cell (.val (.int .i64)), .clo [.int .i64, .int .i64] (.int .i64), d, d, .box 100400 [.val (.int .i64), .own (.int .i64) 100402 false], .box 100500 [.val (.int .i64), .own (.int .i64) 100502 false], .cell (.val (.int .i64)), d, d, d, .cell (.val (.int .i64)), .cell (.val (.int .i64)), d, d, .cell (.val (.int .i64)), .cell (.val (.int .i64)), d, d, d, d, d, d, d, d, d, d, d, d, d, d]
def xs65_6 : List (Ex × List Fm) := [(.exit 2, [.cell (.val (.int .i64)), .clo [.int .i64, .int .i64] (.int .i64), d, d, .box 100400 [.val (.int .i64), .own (.int .i64) 100402 false], .box 100500 [.val (.int .i64), .own (.int .i64) 100502 false], d, d, d, d, .cell (.val (.int .i64)), .cell (.val (.int .i64)), d, d, d, d, d, d, d, d, d, d, d, d, d, d, d, d, d, d])]
noncomputable def impl_filled_l6 : (Int × ((Int × Int × Unit) → Option (Int)) × (Int × (List Int) × Unit) × (Int × (List Int) × Unit) × Int × Int × Int × Int × Int × Unit) → Option ((Int × ((Int × Int × Unit) → Option (Int)) × (Int × (List Int) × Unit) × (Int × (List Int) × Unit) × Int × Int × Int × Int × Int × Unit) ⊕ ((Int × ((Int × Int × Unit) → Option (Int)) × (Int × (List Int) × Unit) × (Int × (List Int) × Unit) × Int × Int × Unit))) := fun (v0, v1, (v4_0, v4_1, _), (v5_0, v5_1, _), v6, v10, v11, v14, v15, _) =>
  bif (decide (v15 < v14)) then
    Option.bind (v1 (v6, v15, ())) fun r0 =>
      if (((0 + (List.length v5_1)) = (List.length v5_1)) ∧ ((((List.length v5_1) + (List.length (List.take 1 (List.drop 0 [r0])))) * 8) ≤ 140737488355328)) then
        some (Sum.inl (v0, v1, (v4_0, (List.take (List.length v4_1) (List.drop 0 v4_1)), ()), (v5_0, (List.take ((List.length v5_1) + (List.length (List.take 1 (List.drop 0 [r0])))) (List.drop 0 ((List.drop 0 v5_1) ++ (List.take 1 (List.drop 0 [r0]))))), ()), v6, v10, v11, v14, (IntKind.wrap .i64 (v15 + (1 : Int))), ()))
      else
        none
  else
    some (Sum.inr (v0, v1, (v4_0, (List.take (List.length v4_1) (List.drop 0 v4_1)), ()), (v5_0, (List.take (List.length v5_1) (List.drop 0 v5_1)), ()), v10, v11, ()))
theorem impl_filled_l6_eq : loopStep 30 E65 L65_0 (loopOf f65 6) sh65_6 xs65_6 = impl_filled_l6 := by kernel_rfl
theorem loop65_6 {L : Nat → Option LoopD} (h : L 6 = some ⟨30, sh65_6, xs65_6, impl_filled_l6⟩) : LoopOk prog L (loopOf f65 6) :=
  loopOk (tysOk_of tyl_ok) E65_ok (codeOk_in (L := L65_0) (tysOk_of tyl_ok) E65_ok mixed (c := loopOf f65 6) (bs := []) (by kernel_rfl) allNil (by kernel_rfl)) (by kernel_rfl) (by kernel_rfl) impl_filled_l6_eq (by rw [show firstId (loopOf f65 6) = 6 from by kernel_rfl]; exact h)
noncomputable def L65_1 : Nat → Option LoopD := fun n => ifEq n 6 (some ⟨30, sh65_6, xs65_6, impl_filled_l6⟩) (L65_0 n)
def sh65_3 : List Fm := [.cell (.val (.int .i64)), .clo [.int .i64, .int .i64] (.int .i64), d, d, .box 100400 [.val (.int .i64), .own (.int .i64) 100402 false], .box 100500 [.val (.int .i64), .own (.int .i64) 100502 false], d, d, d, d, .cell (.val (.int .i64)), .cell (.val (.int .i64)), d, d, d, d, d, d, d, d, d, d, d, d, d, d, d, d, d, d]
def xs65_3 : List (Ex × List Fm) := [(.exit 0, [d, d, d, d, .box 100400 [.val (.int .i64), .own (.int .i64) 100402 false], .box 100500 [.val (.int .i64), .own (.int .i64) 100502 false], d, d, d, d, d, d, d, d, d, d, d, d, d, d, d, d, d, d, d, d, d, d, d, d])]
noncomputable def impl_filled_l3 : (Int × ((Int × Int × Unit) → Option (Int)) × (Int × (List Int) × Unit) × (Int × (List Int) × Unit) × Int × Int × Unit) → Option ((Int × ((Int × Int × Unit) → Option (Int)) × (Int × (List Int) × Unit) × (Int × (List Int) × Unit) × Int × Int × Unit) ⊕ (((Int × (List Int) × Unit) × (Int × (List Int) × Unit) × Unit))) := fun (v0, v1, (v4_0, v4_1, _), (v5_0, v5_1, _), v10, v11, _) =>
  bif (decide (v11 < v10)) then
    Option.bind (loopF impl_filled_l6 (v0, v1, (v4_0, (List.take (List.length v4_1) (List.drop 0 v4_1)), ()), (v5_0, (List.take (List.length v5_1) (List.drop 0 v5_1)), ()), v11, v10, v11, v0, (0 : Int), ())) fun (r0, r1, (r2, r3, _), (r4, r5, _), r6, r7, _) =>
      some (Sum.inl (r0, r1, (r2, (List.take (List.length r3) (List.drop 0 r3)), ()), (r4, (List.take (List.length r5) (List.drop 0 r5)), ()), r6, (IntKind.wrap .i64 (r7 + (1 : Int))), ()))
  else
    some (Sum.inr ((v4_0, (List.take (List.length v4_1) (List.drop 0 v4_1)), ()), (v5_0, (List.take (List.length v5_1) (List.drop 0 v5_1)), ()), ()))
theorem impl_filled_l3_eq : loopStep 30 E65 L65_1 (loopOf f65 3) sh65_3 xs65_3 = impl_filled_l3 := by kernel_rfl
theorem loop65_3 {L : Nat → Option LoopD} (h : L 3 = some ⟨30, sh65_3, xs65_3, impl_filled_l3⟩) : LoopOk prog L (loopOf f65 3) :=
  loopOk (tysOk_of tyl_ok) E65_ok (codeOk_in (L := L65_1) (tysOk_of tyl_ok) E65_ok mixed (c := loopOf f65 3) (bs := [loopOf f65 6]) (by kernel_rfl) (allCons (loop65_6 rfl) allNil) (by kernel_rfl)) (by kernel_rfl) (by kernel_rfl) impl_filled_l3_eq (by rw [show firstId (loopOf f65 3) = 3 from by kernel_rfl]; exact h)
noncomputable def L65_2 : Nat → Option LoopD := fun n => ifEq n 3 (some ⟨30, sh65_3, xs65_3, impl_filled_l3⟩) (L65_1 n)
noncomputable def impl_filled : Int → ((Int × Int × Unit) → Option (Int)) → Option ((Int × (List Int))) := fun a0 a1 =>
  Option.bind (loopF impl_filled_l3 (a0, a1, ((0 : Int), [], ()), (a0, [], ()), a0, (0 : Int), ())) fun ((r0, r1, _), (r2, r3, _), _) =>
    some (r2, (List.take (List.length r3) (List.drop 0 r3)))
noncomputable def A65 : FnA := ⟨[.v (.int .i64), .clo [.int .i64, .int .i64] (.int .i64)], true, [.pair (.int .i64) (.sl (.int .i64))], fun x => impl_filled x.1 x.2.1⟩
theorem impl_filled_eq : fnF E65 L65_2 [.v (.int .i64), .clo [.int .i64, .int .i64] (.int .i64)] true [.pair (.int .i64) (.sl (.int .i64))] f65.ntmps f65.results.toList (codeOf f65) = fun x => impl_filled x.1 x.2.1 := by kernel_rfl
theorem A65_ok : FnOk prog 65 A65 := by
  have h := fnOk_of_run (P := prog) (E := E65) (tysOk_of tyl_ok) E65_ok (L := L65_2) (ps := [.v (.int .i64), .clo [.int .i64, .int .i64] (.int .i64)]) (own := true) (outs := [.pair (.int .i64) (.sl (.int .i64))]) func65 (c := codeOf f65) (by kernel_rfl) (codeOk_in (L := L65_2) (tysOk_of tyl_ok) E65_ok mixed (c := codeOf f65) (bs := [loopOf f65 3]) (by kernel_rfl) (allCons (loop65_3 rfl) allNil) (by kernel_rfl))
  rw [impl_filled_eq] at h
  exact h
/-! impl.StepMatrix$1 -/
noncomputable def E159 : Env := ⟨ty0, fun _ => none, fun _ => none, fun _ => none, fun _ => none⟩
theorem E159_ok : FnsOk prog E159 := (noFns _ _)
noncomputable def L159_0 : Nat → Option LoopD := fun _ => none
noncomputable def impl_StepMatrix_1 : Int → Int → Option (Int) := fun a0 a1 =>
  some (1000000 : Int)
noncomputable def A159 : FnA := ⟨[.v (.int .i64), .v (.int .i64)], true, [.int .i64], fun x => impl_StepMatrix_1 x.1 x.2.1⟩
theorem impl_StepMatrix_1_eq : fnF E159 L159_0 [.v (.int .i64), .v (.int .i64)] true [.int .i64] f159.ntmps f159.results.toList (codeOf f159) = fun x => impl_StepMatrix_1 x.1 x.2.1 := by kernel_rfl
theorem A159_ok : FnOk prog 159 A159 := by
  have h := fnOk_of_run (P := prog) (E := E159) (tysOk_of tyl_ok) E159_ok (L := L159_0) (ps := [.v (.int .i64), .v (.int .i64)]) (own := true) (outs := [.int .i64]) func159 (c := codeOf f159) (by kernel_rfl) (codeOk_in (L := L159_0) (tysOk_of tyl_ok) E159_ok mixed (c := codeOf f159) (bs := []) (by kernel_rfl) allNil (by kernel_rfl))
  rw [impl_StepMatrix_1_eq] at h
  exact h
/-! impl.StepMatrix -/
noncomputable def E108 : Env := ⟨ty0, fun g => ifEq g 30 (some A30) (ifEq g 65 (some A65) (ifEq g 159 (some A159) (none))), fun _ => none, fun _ => none, fun _ => none⟩
theorem E108_ok : FnsOk prog E108 := (oneFn A30_ok func30 (by kernel_rfl) (by kernel_rfl) (oneFn A65_ok func65 (by kernel_rfl) (by kernel_rfl) (oneFn A159_ok func159 (by kernel_rfl) (by kernel_rfl) (noFns _ _))))
noncomputable def L108_0 : Nat → Option LoopD := fun _ => none
def sh108_5 : List Fm := [d, .cell (.val .str), d, d, .box 100400 [.val (.int .i64), .own (.int .i64) 100402 false], d, .box 100600 [.val (.int .i64), .own (.int .i64) 100602 false], d, d, d, d, d, d, d, d, d, d, d, d, d, d, d, d, d, d, .cell (.val (.sl (.pair (.int .i64) (.pair .str (.pair (.int .i64) (.int .i64)))))), .cell (.val (.int .i64)), .cell (.val (.int .i64)), d, d, d, d, d, d, d, d, d, d, d, d, d, d, d, d, d, d, d, d, d, d]
def xs108_5 : List (Ex × List Fm) := [(.exit 0, [d, d, d, d, .box 100400 [.val (.int .i64), .own (.int .i64) 100402 false], d, .box 100600 [.val (.int .i64), .own (.int .i64) 100602 false], d, d, d, d, d, d, d, d, d, d, d, d, d, d, d, d, d, d, d, d, d, d, d, d, d, d, d, d, d, d, d, d, d, d, d, d, d, d, d, d, d, d, d])]
noncomputable def impl_StepMatrix_l5 : (ByteArray × (Int × (List Int) × Unit) × (Int × (List Int) × Unit) × (List (Int × (ByteArray × (Int × Int)))) × Int × Int × Unit) → Option ((ByteArray × (Int × (List Int) × Unit) × (Int × (List Int) × Unit) × (List (Int × (ByteArray × (Int × Int)))) × Int × Int × Unit) ⊕ (((Int × (List Int) × Unit) × (Int × (List Int) × Unit) × Unit))) := fun (v1, (v4_0, v4_1, _), (v6_0, v6_1, _), v25, v26, v27, _) =>
  bif (decide (v27 < v26)) then
    if (((0 : Int) ≤ v27) ∧ (v27 < (((List.length v25) : Nat) : Int))) then
      bif ((ByteArray.toList (List.getD v25 (Int.toNat v27) ((0 : Int), (⟨Array.empty⟩ : ByteArray), (0 : Int), (0 : Int))).2.1) == (ByteArray.toList v1)) then
        if (((0 : Int) ≤ (IntKind.wrap .i64 ((IntKind.wrap .i64 ((List.getD v25 (Int.toNat v27) ((0 : Int), (⟨Array.empty⟩ : ByteArray), (0 : Int), (0 : Int))).1 * v6_0)) + (List.getD v25 (Int.toNat v27) ((0 : Int), (⟨Array.empty⟩ : ByteArray), (0 : Int), (0 : Int))).2.2.1))) ∧ ((IntKind.wrap .i64 ((IntKind.wrap .i64 ((List.getD v25 (Int.toNat v27) ((0 : Int), (⟨Array.empty⟩ : ByteArray), (0 : Int), (0 : Int))).1 * v6_0)) + (List.getD v25 (Int.toNat v27) ((0 : Int), (⟨Array.empty⟩ : ByteArray), (0 : Int), (0 : Int))).2.2.1)) < (((List.length v6_1) : Nat) : Int))) then
          some (Sum.inl (v1, (v4_0, (List.take (List.length v4_1) (List.drop 0 v4_1)), ()), (v6_0, (List.take (List.length v6_1) (List.drop 0 (List.set v6_1 (0 + (Int.toNat (IntKind.wrap .i64 ((IntKind.wrap .i64 ((List.getD v25 (Int.toNat v27) ((0 : Int), (⟨Array.empty⟩ : ByteArray), (0 : Int), (0 : Int))).1 * v6_0)) + (List.getD v25 (Int.toNat v27) ((0 : Int), (⟨Array.empty⟩ : ByteArray), (0 : Int), (0 : Int))).2.2.1)))) (List.getD v25 (Int.toNat v27) ((0 : Int), (⟨Array.empty⟩ : ByteArray), (0 : Int), (0 : Int))).2.2.2))), ()), v25, v26, (IntKind.wrap .i64 (v27 + (1 : Int))), ()))
        else
          none
      else
        some (Sum.inl (v1, (v4_0, (List.take (List.length v4_1) (List.drop 0 v4_1)), ()), (v6_0, (List.take (List.length v6_1) (List.drop 0 v6_1)), ()), v25, v26, (IntKind.wrap .i64 (v27 + (1 : Int))), ()))
    else
      none
  else
    some (Sum.inr ((v4_0, (List.take (List.length v4_1) (List.drop 0 v4_1)), ()), (v6_0, (List.take (List.length v6_1) (List.drop 0 v6_1)), ()), ()))
theorem impl_StepMatrix_l5_eq : loopStep 50 E108 L108_0 (loopOf f108 5) sh108_5 xs108_5 = impl_StepMatrix_l5 := by kernel_rfl
theorem loop108_5 {L : Nat → Option LoopD} (h : L 5 = some ⟨50, sh108_5, xs108_5, impl_StepMatrix_l5⟩) : LoopOk prog L (loopOf f108 5) :=
  loopOk (tysOk_of tyl_ok) E108_ok (codeOk_in (L := L108_0) (tysOk_of tyl_ok) E108_ok mixed (c := loopOf f108 5) (bs := []) (by kernel_rfl) allNil (by kernel_rfl)) (by kernel_rfl) (by kernel_rfl) impl_StepMatrix_l5_eq (by rw [show firstId (loopOf f108 5) = 5 from by kernel_rfl]; exact h)
noncomputable def L108_1 : Nat → Option LoopD := fun n => ifEq n 5 (some ⟨50, sh108_5, xs108_5, impl_StepMatrix_l5⟩) (L108_0 n)
noncomputable def impl_StepMatrix : (Int × ((List Int) × ((List Int) × (List (Int × (ByteArray × (Int × Int))))))) → ByteArray → Option ((Int × (List Int)) × Bool) := fun (a0_0, a0_1, a0_2, a0_3) a1 =>
  Option.bind (impl_AutomatonValid (a0_0, a0_1, a0_2, a0_3)) fun r0 =>
    bif (!r0) then
      some (((0 : Int), []), false)
    else
      bif (!((ByteArray.toList a1) == (ByteArray.toList (⟨#[(97 : UInt8)]⟩ : ByteArray)))) then
        bif (!((ByteArray.toList a1) == (ByteArray.toList (⟨#[(98 : UInt8)]⟩ : ByteArray)))) then
          some (((0 : Int), []), false)
        else
          Option.bind (impl_filled a0_0 (fun y1 => (impl_StepMatrix_1 y1.1 y1.2.1))) fun (r2, r3) =>
            Option.bind (loopF impl_StepMatrix_l5 (a1, ((0 : Int), [], ()), (r2, (List.take (List.length r3) (List.drop 0 r3)), ()), a0_3, (((List.length a0_3) : Nat) : Int), (0 : Int), ())) fun ((r4, r5, _), (r6, r7, _), _) =>
              some ((r6, (List.take (List.length r7) (List.drop 0 r7))), true)
      else
        Option.bind (impl_filled a0_0 (fun y8 => (impl_StepMatrix_1 y8.1 y8.2.1))) fun (r9, r10) =>
          Option.bind (loopF impl_StepMatrix_l5 (a1, ((0 : Int), [], ()), (r9, (List.take (List.length r10) (List.drop 0 r10)), ()), a0_3, (((List.length a0_3) : Nat) : Int), (0 : Int), ())) fun ((r11, r12, _), (r13, r14, _), _) =>
            some ((r13, (List.take (List.length r14) (List.drop 0 r14))), true)
noncomputable def A108 : FnA := ⟨[.v (.pair (.int .i64) (.pair (.sl (.int .i64)) (.pair (.sl (.int .i64)) (.sl (.pair (.int .i64) (.pair .str (.pair (.int .i64) (.int .i64)))))))), .v .str], true, [.pair (.int .i64) (.sl (.int .i64)), .bool], fun x => impl_StepMatrix x.1 x.2.1⟩
theorem impl_StepMatrix_eq : fnF E108 L108_1 [.v (.pair (.int .i64) (.pair (.sl (.int .i64)) (.pair (.sl (.int .i64)) (.sl (.pair (.int .i64) (.pair .str (.pair (.int .i64) (.int .i64)))))))), .v .str] true [.pair (.int .i64) (.sl (.int .i64)), .bool] f108.ntmps f108.results.toList (codeOf f108) = fun x => impl_StepMatrix x.1 x.2.1 := by kernel_rfl
theorem A108_ok : FnOk prog 108 A108 := by
  have h := fnOk_of_run (P := prog) (E := E108) (tysOk_of tyl_ok) E108_ok (L := L108_1) (ps := [.v (.pair (.int .i64) (.pair (.sl (.int .i64)) (.pair (.sl (.int .i64)) (.sl (.pair (.int .i64) (.pair .str (.pair (.int .i64) (.int .i64)))))))), .v .str]) (own := true) (outs := [.pair (.int .i64) (.sl (.int .i64)), .bool]) func108 (c := codeOf f108) (by kernel_rfl) (codeOk_in (L := L108_1) (tysOk_of tyl_ok) E108_ok mixed (c := codeOf f108) (bs := [loopOf f108 5]) (by kernel_rfl) (allCons (loop108_5 rfl) allNil) (by kernel_rfl))
  rw [impl_StepMatrix_eq] at h
  exact h
/-! slices.IndexFunc[[]int,int] -/
noncomputable def E176 : Env := ⟨ty0, fun _ => none, fun _ => none, fun _ => none, fun _ => none⟩
theorem E176_ok : FnsOk prog E176 := (noFns _ _)
noncomputable def L176_0 : Nat → Option LoopD := fun _ => none
def sh176_2 : List Fm := [.cell (.val (.sl (.int .i64))), .clo [.int .i64] .bool, d, d, d, d, d, .cell (.val (.int .i64)), .cell (.val (.int .i64)), d, d, d, d, d, d, d, d, d, d]
def xs176_2 : List (Ex × List Fm) := [(.ret, [d, d, d, d, .cell (.val (.int .i64)), d, d, d, d, d, d, d, d, d, d, d, d, d, d]), (.exit 0, [d, d, d, d, d, d, d, d, d, d, d, d, d, d, d, d, d, d, d])]
noncomputable def slices_IndexFunc_l2 : ((List Int) × ((Int × Unit) → Option (Bool)) × Int × Int × Unit) → Option (((List Int) × ((Int × Unit) → Option (Bool)) × Int × Int × Unit) ⊕ ((Int × Unit) ⊕ (Unit))) := fun (v0, v1, v7, v8, _) =>
  bif (decide (v8 < v7)) then
    if (((0 : Int) ≤ v8) ∧ (v8 < (((List.length v0) : Nat) : Int))) then
      Option.bind (v1 ((List.getD v0 (Int.toNat v8) (0 : Int)), ())) fun r0 =>
        bif r0 then
          some (Sum.inr (Sum.inl (v8, ())))
        else
          some (Sum.inl (v0, v1, v7, (IntKind.wrap .i64 (v8 + (1 : Int))), ()))
    else
      none
  else
    some (Sum.inr (Sum.inr ()))
theorem slices_IndexFunc_l2_eq : loopStep 19 E176 L176_0 (loopOf f176 2) sh176_2 xs176_2 = slices_IndexFunc_l2 := by kernel_rfl
theorem loop176_2 {L : Nat → Option LoopD} (h : L 2 = some ⟨19, sh176_2, xs176_2, slices_IndexFunc_l2⟩) : LoopOk prog L (loopOf f176 2) :=
  loopOk (tysOk_of tyl_ok) E176_ok (codeOk_in (L := L176_0) (tysOk_of tyl_ok) E176_ok mixed (c := loopOf f176 2) (bs := []) (by kernel_rfl) allNil (by kernel_rfl)) (by kernel_rfl) (by kernel_rfl) slices_IndexFunc_l2_eq (by rw [show firstId (loopOf f176 2) = 2 from by kernel_rfl]; exact h)
noncomputable def L176_1 : Nat → Option LoopD := fun n => ifEq n 2 (some ⟨19, sh176_2, xs176_2, slices_IndexFunc_l2⟩) (L176_0 n)
noncomputable def slices_IndexFunc : (List Int) → ((Int × Unit) → Option (Bool)) → Option (Int) := fun a0 a1 =>
  Option.bind (loopF slices_IndexFunc_l2 (a0, a1, (((List.length a0) : Nat) : Int), (0 : Int), ())) fun r0 =>
    (match r0 with
    | .inl (d1, _) =>
        some d1
    | .inr _ =>
        some (-1 : Int))
noncomputable def A176 : FnA := ⟨[.v (.sl (.int .i64)), .clo [.int .i64] .bool], true, [.int .i64], fun x => slices_IndexFunc x.1 x.2.1⟩
theorem slices_IndexFunc_eq : fnF E176 L176_1 [.v (.sl (.int .i64)), .clo [.int .i64] .bool] true [.int .i64] f176.ntmps f176.results.toList (codeOf f176) = fun x => slices_IndexFunc x.1 x.2.1 := by kernel_rfl
theorem A176_ok : FnOk prog 176 A176 := by
  have h := fnOk_of_run (P := prog) (E := E176) (tysOk_of tyl_ok) E176_ok (L := L176_1) (ps := [.v (.sl (.int .i64)), .clo [.int .i64] .bool]) (own := true) (outs := [.int .i64]) func176 (c := codeOf f176) (by kernel_rfl) (codeOk_in (L := L176_1) (tysOk_of tyl_ok) E176_ok mixed (c := codeOf f176) (bs := [loopOf f176 2]) (by kernel_rfl) (allCons (loop176_2 rfl) allNil) (by kernel_rfl))
  rw [slices_IndexFunc_eq] at h
  exact h
/-! slices.ContainsFunc[[]int,int] -/
noncomputable def E142 : Env := ⟨ty0, fun g => ifEq g 176 (some A176) (none), fun _ => none, fun _ => none, fun _ => none⟩
theorem E142_ok : FnsOk prog E142 := (oneFn A176_ok func176 (by kernel_rfl) (by kernel_rfl) (noFns _ _))
noncomputable def L142_0 : Nat → Option LoopD := fun _ => none
noncomputable def slices_ContainsFunc : (List Int) → ((Int × Unit) → Option (Bool)) → Option (Bool) := fun a0 a1 =>
  Option.bind (slices_IndexFunc a0 a1) fun r0 =>
    some (decide (r0 ≥ (0 : Int)))
noncomputable def A142 : FnA := ⟨[.v (.sl (.int .i64)), .clo [.int .i64] .bool], true, [.bool], fun x => slices_ContainsFunc x.1 x.2.1⟩
theorem slices_ContainsFunc_eq : fnF E142 L142_0 [.v (.sl (.int .i64)), .clo [.int .i64] .bool] true [.bool] f142.ntmps f142.results.toList (codeOf f142) = fun x => slices_ContainsFunc x.1 x.2.1 := by kernel_rfl
theorem A142_ok : FnOk prog 142 A142 := by
  have h := fnOk_of_run (P := prog) (E := E142) (tysOk_of tyl_ok) E142_ok (L := L142_0) (ps := [.v (.sl (.int .i64)), .clo [.int .i64] .bool]) (own := true) (outs := [.bool]) func142 (c := codeOf f142) (by kernel_rfl) (codeOk_in (L := L142_0) (tysOk_of tyl_ok) E142_ok mixed (c := codeOf f142) (bs := []) (by kernel_rfl) allNil (by kernel_rfl))
  rw [slices_ContainsFunc_eq] at h
  exact h
/-! impl.CostValid -/
noncomputable def E168 : Env := ⟨ty0, fun _ => none, fun _ => none, fun _ => none, fun _ => none⟩
theorem E168_ok : FnsOk prog E168 := (noFns _ _)
noncomputable def L168_0 : Nat → Option LoopD := fun _ => none
noncomputable def impl_CostValid : Int → Option (Bool) := fun a0 =>
  bif (decide (a0 ≥ (0 : Int))) then
    some (decide (a0 ≤ (1000000 : Int)))
  else
    some false
noncomputable def A168 : FnA := ⟨[.v (.int .i64)], true, [.bool], fun x => impl_CostValid x.1⟩
theorem impl_CostValid_eq : fnF E168 L168_0 [.v (.int .i64)] true [.bool] f168.ntmps f168.results.toList (codeOf f168) = fun x => impl_CostValid x.1 := by kernel_rfl
theorem A168_ok : FnOk prog 168 A168 := by
  have h := fnOk_of_run (P := prog) (E := E168) (tysOk_of tyl_ok) E168_ok (L := L168_0) (ps := [.v (.int .i64)]) (own := true) (outs := [.bool]) func168 (c := codeOf f168) (by kernel_rfl) (codeOk_in (L := L168_0) (tysOk_of tyl_ok) E168_ok mixed (c := codeOf f168) (bs := []) (by kernel_rfl) allNil (by kernel_rfl))
  rw [impl_CostValid_eq] at h
  exact h
/-! impl.MatrixValid$1 -/
noncomputable def E175 : Env := ⟨ty0, fun g => ifEq g 168 (some A168) (none), fun _ => none, fun _ => none, fun _ => none⟩
theorem E175_ok : FnsOk prog E175 := (oneFn A168_ok func168 (by kernel_rfl) (by kernel_rfl) (noFns _ _))
noncomputable def L175_0 : Nat → Option LoopD := fun _ => none
noncomputable def impl_MatrixValid_1 : Int → Option (Bool) := fun a0 =>
  Option.bind (impl_CostValid a0) fun r0 =>
    some (!r0)
noncomputable def A175 : FnA := ⟨[.v (.int .i64)], true, [.bool], fun x => impl_MatrixValid_1 x.1⟩
theorem impl_MatrixValid_1_eq : fnF E175 L175_0 [.v (.int .i64)] true [.bool] f175.ntmps f175.results.toList (codeOf f175) = fun x => impl_MatrixValid_1 x.1 := by kernel_rfl
theorem A175_ok : FnOk prog 175 A175 := by
  have h := fnOk_of_run (P := prog) (E := E175) (tysOk_of tyl_ok) E175_ok (L := L175_0) (ps := [.v (.int .i64)]) (own := true) (outs := [.bool]) func175 (c := codeOf f175) (by kernel_rfl) (codeOk_in (L := L175_0) (tysOk_of tyl_ok) E175_ok mixed (c := codeOf f175) (bs := []) (by kernel_rfl) allNil (by kernel_rfl))
  rw [impl_MatrixValid_1_eq] at h
  exact h
/-! impl.MatrixValid -/
noncomputable def E141 : Env := ⟨ty0, fun g => ifEq g 142 (some A142) (ifEq g 175 (some A175) (none)), fun _ => none, fun _ => none, fun _ => none⟩
theorem E141_ok : FnsOk prog E141 := (oneFn A142_ok func142 (by kernel_rfl) (by kernel_rfl) (oneFn A175_ok func175 (by kernel_rfl) (by kernel_rfl) (noFns _ _)))
noncomputable def L141_0 : Nat → Option LoopD := fun _ => none
noncomputable def impl_MatrixValid : (Int × (List Int)) → Option (Bool) := fun (a0_0, a0_1) =>
  bif (decide (a0_0 < (1 : Int))) then
    some false
  else
    bif (decide (a0_0 > (4 : Int))) then
      some false
    else
      bif ((((List.length a0_1) : Nat) : Int) != (IntKind.wrap .i64 (a0_0 * a0_0))) then
        some false
      else
        Option.bind (slices_ContainsFunc a0_1 (fun y0 => (impl_MatrixValid_1 y0.1))) fun r1 =>
          some (!r1)
noncomputable def A141 : FnA := ⟨[.v (.pair (.int .i64) (.sl (.int .i64)))], true, [.bool], fun x => impl_MatrixValid x.1⟩
theorem impl_MatrixValid_eq : fnF E141 L141_0 [.v (.pair (.int .i64) (.sl (.int .i64)))] true [.bool] f141.ntmps f141.results.toList (codeOf f141) = fun x => impl_MatrixValid x.1 := by kernel_rfl
theorem A141_ok : FnOk prog 141 A141 := by
  have h := fnOk_of_run (P := prog) (E := E141) (tysOk_of tyl_ok) E141_ok (L := L141_0) (ps := [.v (.pair (.int .i64) (.sl (.int .i64)))]) (own := true) (outs := [.bool]) func141 (c := codeOf f141) (by kernel_rfl) (codeOk_in (L := L141_0) (tysOk_of tyl_ok) E141_ok mixed (c := codeOf f141) (bs := []) (by kernel_rfl) allNil (by kernel_rfl))
  rw [impl_MatrixValid_eq] at h
  exact h
/-! (impl.Matrix).at -/
noncomputable def E67 : Env := ⟨ty0, fun _ => none, fun _ => none, fun _ => none, fun _ => none⟩
theorem E67_ok : FnsOk prog E67 := (noFns _ _)
noncomputable def L67_0 : Nat → Option LoopD := fun _ => none
noncomputable def impl_Matrix_at : (Int × (List Int)) → Int → Int → Option (Int) := fun (a0_0, a0_1) a1 a2 =>
  if (((0 : Int) ≤ (IntKind.wrap .i64 ((IntKind.wrap .i64 (a1 * a0_0)) + a2))) ∧ ((IntKind.wrap .i64 ((IntKind.wrap .i64 (a1 * a0_0)) + a2)) < (((List.length a0_1) : Nat) : Int))) then
    some (List.getD a0_1 (Int.toNat (IntKind.wrap .i64 ((IntKind.wrap .i64 (a1 * a0_0)) + a2))) (0 : Int))
  else
    none
noncomputable def A67 : FnA := ⟨[.v (.pair (.int .i64) (.sl (.int .i64))), .v (.int .i64), .v (.int .i64)], true, [.int .i64], fun x => impl_Matrix_at x.1 x.2.1 x.2.2.1⟩
theorem impl_Matrix_at_eq : fnF E67 L67_0 [.v (.pair (.int .i64) (.sl (.int .i64))), .v (.int .i64), .v (.int .i64)] true [.int .i64] f67.ntmps f67.results.toList (codeOf f67) = fun x => impl_Matrix_at x.1 x.2.1 x.2.2.1 := by kernel_rfl
theorem A67_ok : FnOk prog 67 A67 := by
  have h := fnOk_of_run (P := prog) (E := E67) (tysOk_of tyl_ok) E67_ok (L := L67_0) (ps := [.v (.pair (.int .i64) (.sl (.int .i64))), .v (.int .i64), .v (.int .i64)]) (own := true) (outs := [.int .i64]) func67 (c := codeOf f67) (by kernel_rfl) (codeOk_in (L := L67_0) (tysOk_of tyl_ok) E67_ok mixed (c := codeOf f67) (bs := []) (by kernel_rfl) allNil (by kernel_rfl))
  rw [impl_Matrix_at_eq] at h
  exact h
/-! impl.GradesOf$1 -/
noncomputable def E160 : Env := ⟨ty0, fun g => ifEq g 67 (some A67) (none), fun _ => none, fun _ => none, fun _ => none⟩
theorem E160_ok : FnsOk prog E160 := (oneFn A67_ok func67 (by kernel_rfl) (by kernel_rfl) (noFns _ _))
noncomputable def L160_0 : Nat → Option LoopD := fun _ => none
noncomputable def impl_GradesOf_1 : Int → Int → (Int × (List Int)) → Option (Int) := fun a0 a1 (a2_0, a2_1) =>
  Option.bind (impl_Matrix_at (a2_0, a2_1) a0 a1) fun r0 =>
    bif (r0 == (0 : Int)) then
      some (0 : Int)
    else
      bif (r0 == (1000000 : Int)) then
        some (3 : Int)
      else
        some (1 : Int)
noncomputable def A160 : FnA := ⟨[.v (.int .i64), .v (.int .i64), .cap (.pair (.int .i64) (.sl (.int .i64)))], true, [.int .i64], fun x => impl_GradesOf_1 x.1 x.2.1 x.2.2.1⟩
theorem impl_GradesOf_1_eq : fnF E160 L160_0 [.v (.int .i64), .v (.int .i64), .cap (.pair (.int .i64) (.sl (.int .i64)))] true [.int .i64] f160.ntmps f160.results.toList (codeOf f160) = fun x => impl_GradesOf_1 x.1 x.2.1 x.2.2.1 := by kernel_rfl
theorem A160_ok : FnOk prog 160 A160 := by
  have h := fnOk_of_run (P := prog) (E := E160) (tysOk_of tyl_ok) E160_ok (L := L160_0) (ps := [.v (.int .i64), .v (.int .i64), .cap (.pair (.int .i64) (.sl (.int .i64)))]) (own := true) (outs := [.int .i64]) func160 (c := codeOf f160) (by kernel_rfl) (codeOk_in (L := L160_0) (tysOk_of tyl_ok) E160_ok mixed (c := codeOf f160) (bs := []) (by kernel_rfl) allNil (by kernel_rfl))
  rw [impl_GradesOf_1_eq] at h
  exact h
/-! impl.GradesOf -/
noncomputable def E109 : Env := ⟨ty0, fun g => ifEq g 141 (some A141) (ifEq g 65 (some A65) (ifEq g 160 (some A160) (none))), fun _ => none, fun _ => none, fun _ => none⟩
theorem E109_ok : FnsOk prog E109 := (oneFn A141_ok func141 (by kernel_rfl) (by kernel_rfl) (oneFn A65_ok func65 (by kernel_rfl) (by kernel_rfl) (oneFn A160_ok func160 (by kernel_rfl) (by kernel_rfl) (noFns _ _))))
noncomputable def L109_0 : Nat → Option LoopD := fun _ => none
noncomputable def impl_GradesOf : (Int × (List Int)) → Option ((Int × (List Int)) × Bool) := fun (a0_0, a0_1) =>
  Option.bind (impl_MatrixValid (a0_0, a0_1)) fun r0 =>
    bif (!r0) then
      some (((0 : Int), []), false)
    else
      Option.bind (impl_filled a0_0 (fun y1 => (impl_GradesOf_1 y1.1 y1.2.1 (a0_0, a0_1)))) fun (r2, r3) =>
        some ((r2, (List.take (List.length r3) (List.drop 0 r3))), true)
noncomputable def A109 : FnA := ⟨[.v (.pair (.int .i64) (.sl (.int .i64)))], true, [.pair (.int .i64) (.sl (.int .i64)), .bool], fun x => impl_GradesOf x.1⟩
theorem impl_GradesOf_eq : fnF E109 L109_0 [.v (.pair (.int .i64) (.sl (.int .i64)))] true [.pair (.int .i64) (.sl (.int .i64)), .bool] f109.ntmps f109.results.toList (codeOf f109) = fun x => impl_GradesOf x.1 := by kernel_rfl
theorem A109_ok : FnOk prog 109 A109 := by
  have h := fnOk_of_run (P := prog) (E := E109) (tysOk_of tyl_ok) E109_ok (L := L109_0) (ps := [.v (.pair (.int .i64) (.sl (.int .i64)))]) (own := true) (outs := [.pair (.int .i64) (.sl (.int .i64)), .bool]) func109 (c := codeOf f109) (by kernel_rfl) (codeOk_in (L := L109_0) (tysOk_of tyl_ok) E109_ok mixed (c := codeOf f109) (bs := []) (by kernel_rfl) allNil (by kernel_rfl))
  rw [impl_GradesOf_eq] at h
  exact h
/-! impl.GradesValid$1 -/
noncomputable def E143 : Env := ⟨ty0, fun _ => none, fun _ => none, fun _ => none, fun _ => none⟩
theorem E143_ok : FnsOk prog E143 := (noFns _ _)
noncomputable def L143_0 : Nat → Option LoopD := fun _ => none
noncomputable def impl_GradesValid_1 : Int → Option (Bool) := fun a0 =>
  some (decide (a0 > (3 : Int)))
noncomputable def A143 : FnA := ⟨[.v (.int .i64)], true, [.bool], fun x => impl_GradesValid_1 x.1⟩
theorem impl_GradesValid_1_eq : fnF E143 L143_0 [.v (.int .i64)] true [.bool] f143.ntmps f143.results.toList (codeOf f143) = fun x => impl_GradesValid_1 x.1 := by kernel_rfl
theorem A143_ok : FnOk prog 143 A143 := by
  have h := fnOk_of_run (P := prog) (E := E143) (tysOk_of tyl_ok) E143_ok (L := L143_0) (ps := [.v (.int .i64)]) (own := true) (outs := [.bool]) func143 (c := codeOf f143) (by kernel_rfl) (codeOk_in (L := L143_0) (tysOk_of tyl_ok) E143_ok mixed (c := codeOf f143) (bs := []) (by kernel_rfl) allNil (by kernel_rfl))
  rw [impl_GradesValid_1_eq] at h
  exact h
/-! impl.GradesValid -/
noncomputable def E97 : Env := ⟨ty0, fun g => ifEq g 141 (some A141) (ifEq g 142 (some A142) (ifEq g 143 (some A143) (none))), fun _ => none, fun _ => none, fun _ => none⟩
theorem E97_ok : FnsOk prog E97 := (oneFn A141_ok func141 (by kernel_rfl) (by kernel_rfl) (oneFn A142_ok func142 (by kernel_rfl) (by kernel_rfl) (oneFn A143_ok func143 (by kernel_rfl) (by kernel_rfl) (noFns _ _))))
noncomputable def L97_0 : Nat → Option LoopD := fun _ => none
noncomputable def impl_GradesValid : (Int × (List Int)) → Option (Bool) := fun (a0_0, a0_1) =>
  Option.bind (impl_MatrixValid (a0_0, a0_1)) fun r0 =>
    bif r0 then
      Option.bind (slices_ContainsFunc a0_1 (fun y1 => (impl_GradesValid_1 y1.1))) fun r2 =>
        some (!r2)
    else
      some false
noncomputable def A97 : FnA := ⟨[.v (.pair (.int .i64) (.sl (.int .i64)))], true, [.bool], fun x => impl_GradesValid x.1⟩
theorem impl_GradesValid_eq : fnF E97 L97_0 [.v (.pair (.int .i64) (.sl (.int .i64)))] true [.bool] f97.ntmps f97.results.toList (codeOf f97) = fun x => impl_GradesValid x.1 := by kernel_rfl
theorem A97_ok : FnOk prog 97 A97 := by
  have h := fnOk_of_run (P := prog) (E := E97) (tysOk_of tyl_ok) E97_ok (L := L97_0) (ps := [.v (.pair (.int .i64) (.sl (.int .i64)))]) (own := true) (outs := [.bool]) func97 (c := codeOf f97) (by kernel_rfl) (codeOk_in (L := L97_0) (tysOk_of tyl_ok) E97_ok mixed (c := codeOf f97) (bs := []) (by kernel_rfl) allNil (by kernel_rfl))
  rw [impl_GradesValid_eq] at h
  exact h
/-! impl.MulGrades$1 -/
noncomputable def E112 : Env := ⟨ty0, fun g => ifEq g 67 (some A67) (none), fun _ => none, fun _ => none, fun _ => none⟩
theorem E112_ok : FnsOk prog E112 := (oneFn A67_ok func67 (by kernel_rfl) (by kernel_rfl) (noFns _ _))
noncomputable def L112_0 : Nat → Option LoopD := fun _ => none
def sh112_3 : List Fm := [.cell (.val (.int .i64)), .cell (.val (.int .i64)), .fp (.pair (.int .i64) (.sl (.int .i64))), .fp (.pair (.int .i64) (.sl (.int .i64))), d, d, d, .cell (.val (.int .i64)), d, d, .cell (.val (.int .i64)), .cell (.val (.int .i64)), d, d, d, d, d, d, d, d, d, d, d, d, d, d, d]
def xs112_3 : List (Ex × List Fm) := [(.exit 0, [d, d, d, d, d, d, d, .cell (.val (.int .i64)), d, d, d, d, d, d, d, d, d, d, d, d, d, d, d, d, d, d, d])]
noncomputable def impl_MulGrades_1_l3 : (Int × Int × (Int × (List Int)) × (Int × (List Int)) × Int × Int × Int × Unit) → Option ((Int × Int × (Int × (List Int)) × (Int × (List Int)) × Int × Int × Int × Unit) ⊕ ((Int × Unit))) := fun (v0, v1, (v2_0, v2_1), (v3_0, v3_1), v7, v10, v11, _) =>
  bif (decide (v11 < v10)) then
    Option.bind (impl_Matrix_at (v2_0, v2_1) v0 v11) fun r0 =>
      Option.bind (impl_Matrix_at (v3_0, v3_1) v11 v1) fun r1 =>
        some (Sum.inl (v0, v1, (v2_0, v2_1), (v3_0, v3_1), (if ((if (r1 > r0) then r1 else r0) < v7) then (if (r1 > r0) then r1 else r0) else v7), v10, (IntKind.wrap .i64 (v11 + (1 : Int))), ()))
  else
    some (Sum.inr (v7, ()))
theorem impl_MulGrades_1_l3_eq : loopStep 27 E112 L112_0 (loopOf f112 3) sh112_3 xs112_3 = impl_MulGrades_1_l3 := by kernel_rfl
theorem loop112_3 {L : Nat → Option LoopD} (h : L 3 = some ⟨27, sh112_3, xs112_3, impl_MulGrades_1_l3⟩) : LoopOk prog L (loopOf f112 3) :=
  loopOk (tysOk_of tyl_ok) E112_ok (codeOk_in (L := L112_0) (tysOk_of tyl_ok) E112_ok mixed (c := loopOf f112 3) (bs := []) (by kernel_rfl) allNil (by kernel_rfl)) (by kernel_rfl) (by kernel_rfl) impl_MulGrades_1_l3_eq (by rw [show firstId (loopOf f112 3) = 3 from by kernel_rfl]; exact h)
noncomputable def L112_1 : Nat → Option LoopD := fun n => ifEq n 3 (some ⟨27, sh112_3, xs112_3, impl_MulGrades_1_l3⟩) (L112_0 n)
noncomputable def impl_MulGrades_1 : Int → Int → (Int × (List Int)) → (Int × (List Int)) → Option (Int) := fun a0 a1 (a2_0, a2_1) (a3_0, a3_1) =>
  Option.bind (loopF impl_MulGrades_1_l3 (a0, a1, (a2_0, a2_1), (a3_0, a3_1), (3 : Int), a2_0, (0 : Int), ())) fun (r0, _) =>
    some r0
noncomputable def A112 : FnA := ⟨[.v (.int .i64), .v (.int .i64), .cap (.pair (.int .i64) (.sl (.int .i64))), .cap (.pair (.int .i64) (.sl (.int .i64)))], true, [.int .i64], fun x => impl_MulGrades_1 x.1 x.2.1 x.2.2.1 x.2.2.2.1⟩
theorem impl_MulGrades_1_eq : fnF E112 L112_1 [.v (.int .i64), .v (.int .i64), .cap (.pair (.int .i64) (.sl (.int .i64))), .cap (.pair (.int .i64) (.sl (.int .i64)))] true [.int .i64] f112.ntmps f112.results.toList (codeOf f112) = fun x => impl_MulGrades_1 x.1 x.2.1 x.2.2.1 x.2.2.2.1 := by kernel_rfl
theorem A112_ok : FnOk prog 112 A112 := by
  have h := fnOk_of_run (P := prog) (E := E112) (tysOk_of tyl_ok) E112_ok (L := L112_1) (ps := [.v (.int .i64), .v (.int .i64), .cap (.pair (.int .i64) (.sl (.int .i64))), .cap (.pair (.int .i64) (.sl (.int .i64)))]) (own := true) (outs := [.int .i64]) func112 (c := codeOf f112) (by kernel_rfl) (codeOk_in (L := L112_1) (tysOk_of tyl_ok) E112_ok mixed (c := codeOf f112) (bs := [loopOf f112 3]) (by kernel_rfl) (allCons (loop112_3 rfl) allNil) (by kernel_rfl))
  rw [impl_MulGrades_1_eq] at h
  exact h
/-! impl.MulGrades -/
noncomputable def E71 : Env := ⟨ty0, fun g => ifEq g 97 (some A97) (ifEq g 65 (some A65) (ifEq g 112 (some A112) (none))), fun _ => none, fun _ => none, fun _ => none⟩
theorem E71_ok : FnsOk prog E71 := (oneFn A97_ok func97 (by kernel_rfl) (by kernel_rfl) (oneFn A65_ok func65 (by kernel_rfl) (by kernel_rfl) (oneFn A112_ok func112 (by kernel_rfl) (by kernel_rfl) (noFns _ _))))
noncomputable def L71_0 : Nat → Option LoopD := fun _ => none
noncomputable def impl_MulGrades : (Int × (List Int)) → (Int × (List Int)) → Option ((Int × (List Int)) × Bool) := fun (a0_0, a0_1) (a1_0, a1_1) =>
  Option.bind (impl_GradesValid (a0_0, a0_1)) fun r0 =>
    bif (!r0) then
      some (((0 : Int), []), false)
    else
      Option.bind (impl_GradesValid (a1_0, a1_1)) fun r1 =>
        bif (!r1) then
          some (((0 : Int), []), false)
        else
          bif (a0_0 != a1_0) then
            some (((0 : Int), []), false)
          else
            Option.bind (impl_filled a0_0 (fun y2 => (impl_MulGrades_1 y2.1 y2.2.1 (a0_0, a0_1) (a1_0, a1_1)))) fun (r3, r4) =>
              some ((r3, (List.take (List.length r4) (List.drop 0 r4))), true)
noncomputable def A71 : FnA := ⟨[.v (.pair (.int .i64) (.sl (.int .i64))), .v (.pair (.int .i64) (.sl (.int .i64)))], true, [.pair (.int .i64) (.sl (.int .i64)), .bool], fun x => impl_MulGrades x.1 x.2.1⟩
theorem impl_MulGrades_eq : fnF E71 L71_0 [.v (.pair (.int .i64) (.sl (.int .i64))), .v (.pair (.int .i64) (.sl (.int .i64)))] true [.pair (.int .i64) (.sl (.int .i64)), .bool] f71.ntmps f71.results.toList (codeOf f71) = fun x => impl_MulGrades x.1 x.2.1 := by kernel_rfl
theorem A71_ok : FnOk prog 71 A71 := by
  have h := fnOk_of_run (P := prog) (E := E71) (tysOk_of tyl_ok) E71_ok (L := L71_0) (ps := [.v (.pair (.int .i64) (.sl (.int .i64))), .v (.pair (.int .i64) (.sl (.int .i64)))]) (own := true) (outs := [.pair (.int .i64) (.sl (.int .i64)), .bool]) func71 (c := codeOf f71) (by kernel_rfl) (codeOk_in (L := L71_0) (tysOk_of tyl_ok) E71_ok mixed (c := codeOf f71) (bs := []) (by kernel_rfl) allNil (by kernel_rfl))
  rw [impl_MulGrades_eq] at h
  exact h
/-! slices.Equal[[]int,int] -/
noncomputable def E104 : Env := ⟨ty0, fun _ => none, fun _ => none, fun _ => none, fun _ => none⟩
theorem E104_ok : FnsOk prog E104 := (noFns _ _)
noncomputable def L104_0 : Nat → Option LoopD := fun _ => none
def sh104_4 : List Fm := [.cell (.val (.sl (.int .i64))), .cell (.val (.sl (.int .i64))), d, d, d, d, d, d, d, d, d, d, .cell (.val (.int .i64)), .cell (.val (.int .i64)), d, d, d, d, d, d, d, d, d, d, d, d]
def xs104_4 : List (Ex × List Fm) := [(.ret, [d, d, d, d, .cell (.val .bool), d, d, d, d, d, d, d, d, d, d, d, d, d, d, d, d, d, d, d, d, d]), (.exit 0, [d, d, d, d, d, d, d, d, d, d, d, d, d, d, d, d, d, d, d, d, d, d, d, d, d, d])]
noncomputable def slices_Equal_l4 : ((List Int) × (List Int) × Int × Int × Unit) → Option (((List Int) × (List Int) × Int × Int × Unit) ⊕ ((Bool × Unit) ⊕ (Unit))) := fun (v0, v1, v12, v13, _) =>
  bif (decide (v13 < v12)) then
    if (((0 : Int) ≤ v13) ∧ (v13 < (((List.length v0) : Nat) : Int))) then
      if (((0 : Int) ≤ v13) ∧ (v13 < (((List.length v1) : Nat) : Int))) then
        bif ((List.getD v0 (Int.toNat v13) (0 : Int)) != (List.getD v1 (Int.toNat v13) (0 : Int))) then
          some (Sum.inr (Sum.inl (false, ())))
        else
          some (Sum.inl (v0, v1, v12, (IntKind.wrap .i64 (v13 + (1 : Int))), ()))
      else
        none
    else
      none
  else
    some (Sum.inr (Sum.inr ()))
theorem slices_Equal_l4_eq : loopStep 26 E104 L104_0 (loopOf f104 4) sh104_4 xs104_4 = slices_Equal_l4 := by kernel_rfl
theorem loop104_4 {L : Nat → Option LoopD} (h : L 4 = some ⟨26, sh104_4, xs104_4, slices_Equal_l4⟩) : LoopOk prog L (loopOf f104 4) :=
  loopOk (tysOk_of tyl_ok) E104_ok (codeOk_in (L := L104_0) (tysOk_of tyl_ok) E104_ok mixed (c := loopOf f104 4) (bs := []) (by kernel_rfl) allNil (by kernel_rfl)) (by kernel_rfl) (by kernel_rfl) slices_Equal_l4_eq (by rw [show firstId (loopOf f104 4) = 4 from by kernel_rfl]; exact h)
noncomputable def L104_1 : Nat → Option LoopD := fun n => ifEq n 4 (some ⟨26, sh104_4, xs104_4, slices_Equal_l4⟩) (L104_0 n)
noncomputable def slices_Equal : (List Int) → (List Int) → Option (Bool) := fun a0 a1 =>
  bif ((((List.length a0) : Nat) : Int) != (((List.length a1) : Nat) : Int)) then
    some false
  else
    Option.bind (loopF slices_Equal_l4 (a0, a1, (((List.length a0) : Nat) : Int), (0 : Int), ())) fun r0 =>
      (match r0 with
      | .inl (d1, _) =>
          some d1
      | .inr _ =>
          some true)
noncomputable def A104 : FnA := ⟨[.v (.sl (.int .i64)), .v (.sl (.int .i64))], true, [.bool], fun x => slices_Equal x.1 x.2.1⟩
theorem slices_Equal_eq : fnF E104 L104_1 [.v (.sl (.int .i64)), .v (.sl (.int .i64))] true [.bool] f104.ntmps f104.results.toList (codeOf f104) = fun x => slices_Equal x.1 x.2.1 := by kernel_rfl
theorem A104_ok : FnOk prog 104 A104 := by
  have h := fnOk_of_run (P := prog) (E := E104) (tysOk_of tyl_ok) E104_ok (L := L104_1) (ps := [.v (.sl (.int .i64)), .v (.sl (.int .i64))]) (own := true) (outs := [.bool]) func104 (c := codeOf f104) (by kernel_rfl) (codeOk_in (L := L104_1) (tysOk_of tyl_ok) E104_ok mixed (c := codeOf f104) (bs := [loopOf f104 4]) (by kernel_rfl) (allCons (loop104_4 rfl) allNil) (by kernel_rfl))
  rw [slices_Equal_eq] at h
  exact h
/-! impl.SameMatrix -/
noncomputable def E58 : Env := ⟨ty0, fun g => ifEq g 104 (some A104) (none), fun _ => none, fun _ => none, fun _ => none⟩
theorem E58_ok : FnsOk prog E58 := (oneFn A104_ok func104 (by kernel_rfl) (by kernel_rfl) (noFns _ _))
noncomputable def L58_0 : Nat → Option LoopD := fun _ => none
noncomputable def impl_SameMatrix : (Int × (List Int)) → (Int × (List Int)) → Option (Bool) := fun (a0_0, a0_1) (a1_0, a1_1) =>
  bif (a0_0 == a1_0) then
    Option.bind (slices_Equal a0_1 a1_1) fun r0 =>
      some r0
  else
    some false
noncomputable def A58 : FnA := ⟨[.v (.pair (.int .i64) (.sl (.int .i64))), .v (.pair (.int .i64) (.sl (.int .i64)))], true, [.bool], fun x => impl_SameMatrix x.1 x.2.1⟩
theorem impl_SameMatrix_eq : fnF E58 L58_0 [.v (.pair (.int .i64) (.sl (.int .i64))), .v (.pair (.int .i64) (.sl (.int .i64)))] true [.bool] f58.ntmps f58.results.toList (codeOf f58) = fun x => impl_SameMatrix x.1 x.2.1 := by kernel_rfl
theorem A58_ok : FnOk prog 58 A58 := by
  have h := fnOk_of_run (P := prog) (E := E58) (tysOk_of tyl_ok) E58_ok (L := L58_0) (ps := [.v (.pair (.int .i64) (.sl (.int .i64))), .v (.pair (.int .i64) (.sl (.int .i64)))]) (own := true) (outs := [.bool]) func58 (c := codeOf f58) (by kernel_rfl) (codeOk_in (L := L58_0) (tysOk_of tyl_ok) E58_ok mixed (c := codeOf f58) (bs := []) (by kernel_rfl) allNil (by kernel_rfl))
  rw [impl_SameMatrix_eq] at h
  exact h
/-! impl.IsIdempotent -/
noncomputable def E64 : Env := ⟨ty0, fun g => ifEq g 71 (some A71) (ifEq g 58 (some A58) (none)), fun _ => none, fun _ => none, fun _ => none⟩
theorem E64_ok : FnsOk prog E64 := (oneFn A71_ok func71 (by kernel_rfl) (by kernel_rfl) (oneFn A58_ok func58 (by kernel_rfl) (by kernel_rfl) (noFns _ _)))
noncomputable def L64_0 : Nat → Option LoopD := fun _ => none
noncomputable def impl_IsIdempotent : (Int × (List Int)) → Option (Bool) := fun (a0_0, a0_1) =>
  Option.bind (impl_MulGrades (a0_0, a0_1) (a0_0, a0_1)) fun ((r0, r1), r2) =>
    bif r2 then
      Option.bind (impl_SameMatrix (r0, (List.take (List.length r1) (List.drop 0 r1))) (a0_0, a0_1)) fun r3 =>
        some r3
    else
      some false
noncomputable def A64 : FnA := ⟨[.v (.pair (.int .i64) (.sl (.int .i64)))], true, [.bool], fun x => impl_IsIdempotent x.1⟩
theorem impl_IsIdempotent_eq : fnF E64 L64_0 [.v (.pair (.int .i64) (.sl (.int .i64)))] true [.bool] f64.ntmps f64.results.toList (codeOf f64) = fun x => impl_IsIdempotent x.1 := by kernel_rfl
theorem A64_ok : FnOk prog 64 A64 := by
  have h := fnOk_of_run (P := prog) (E := E64) (tysOk_of tyl_ok) E64_ok (L := L64_0) (ps := [.v (.pair (.int .i64) (.sl (.int .i64)))]) (own := true) (outs := [.bool]) func64 (c := codeOf f64) (by kernel_rfl) (codeOk_in (L := L64_0) (tysOk_of tyl_ok) E64_ok mixed (c := codeOf f64) (bs := []) (by kernel_rfl) allNil (by kernel_rfl))
  rw [impl_IsIdempotent_eq] at h
  exact h
/-! impl.Stabilise$1 -/
noncomputable def E66 : Env := ⟨ty0, fun g => ifEq g 67 (some A67) (none), fun _ => none, fun _ => none, fun _ => none⟩
theorem E66_ok : FnsOk prog E66 := (oneFn A67_ok func67 (by kernel_rfl) (by kernel_rfl) (noFns _ _))
noncomputable def L66_0 : Nat → Option LoopD := fun _ => none
def sh66_3 : List Fm := [.cell (.val (.int .i64)), .cell (.val (.int .i64)), .fp (.pair (.int .i64) (.sl (.int .i64))), d, d, d, .cell (.val (.int .i64)), d, d, d, .cell (.val (.int .i64)), .cell (.val (.int .i64)), d, d, d, d, d, d, d, d, d, d, d, d, d, d, d, d, d, d, d, d, d, d]
def xs66_3 : List (Ex × List Fm) := [(.exit 0, [d, d, d, d, d, d, .cell (.val (.int .i64)), d, d, d, d, d, d, d, d, d, d, d, d, d, d, d, d, d, d, d, d, d, d, d, d, d, d, d])]
noncomputable def impl_Stabilise_1_l3 : (Int × Int × (Int × (List Int)) × Int × Int × Int × Unit) → Option ((Int × Int × (Int × (List Int)) × Int × Int × Int × Unit) ⊕ ((Int × Unit))) := fun (v0, v1, (v2_0, v2_1), v6, v10, v11, _) =>
  bif (decide (v11 < v10)) then
    Option.bind (impl_Matrix_at (v2_0, v2_1) v11 v11) fun r0 =>
      bif (r0 == (1 : Int)) then
        Option.bind (impl_Matrix_at (v2_0, v2_1) v0 v11) fun r1 =>
          Option.bind (impl_Matrix_at (v2_0, v2_1) v11 v1) fun r2 =>
            some (Sum.inl (v0, v1, (v2_0, v2_1), (if ((if (r2 > (if ((2 : Int) > r1) then (2 : Int) else r1)) then r2 else (if ((2 : Int) > r1) then (2 : Int) else r1)) < v6) then (if (r2 > (if ((2 : Int) > r1) then (2 : Int) else r1)) then r2 else (if ((2 : Int) > r1) then (2 : Int) else r1)) else v6), v10, (IntKind.wrap .i64 (v11 + (1 : Int))), ()))
      else
        Option.bind (impl_Matrix_at (v2_0, v2_1) v0 v11) fun r3 =>
          Option.bind (impl_Matrix_at (v2_0, v2_1) v11 v1) fun r4 =>
            some (Sum.inl (v0, v1, (v2_0, v2_1), (if ((if (r4 > (if (r0 > r3) then r0 else r3)) then r4 else (if (r0 > r3) then r0 else r3)) < v6) then (if (r4 > (if (r0 > r3) then r0 else r3)) then r4 else (if (r0 > r3) then r0 else r3)) else v6), v10, (IntKind.wrap .i64 (v11 + (1 : Int))), ()))
  else
    some (Sum.inr (v6, ()))
theorem impl_Stabilise_1_l3_eq : loopStep 34 E66 L66_0 (loopOf f66 3) sh66_3 xs66_3 = impl_Stabilise_1_l3 := by kernel_rfl
theorem loop66_3 {L : Nat → Option LoopD} (h : L 3 = some ⟨34, sh66_3, xs66_3, impl_Stabilise_1_l3⟩) : LoopOk prog L (loopOf f66 3) :=
  loopOk (tysOk_of tyl_ok) E66_ok (codeOk_in (L := L66_0) (tysOk_of tyl_ok) E66_ok mixed (c := loopOf f66 3) (bs := []) (by kernel_rfl) allNil (by kernel_rfl)) (by kernel_rfl) (by kernel_rfl) impl_Stabilise_1_l3_eq (by rw [show firstId (loopOf f66 3) = 3 from by kernel_rfl]; exact h)
noncomputable def L66_1 : Nat → Option LoopD := fun n => ifEq n 3 (some ⟨34, sh66_3, xs66_3, impl_Stabilise_1_l3⟩) (L66_0 n)
noncomputable def impl_Stabilise_1 : Int → Int → (Int × (List Int)) → Option (Int) := fun a0 a1 (a2_0, a2_1) =>
  Option.bind (loopF impl_Stabilise_1_l3 (a0, a1, (a2_0, a2_1), (3 : Int), a2_0, (0 : Int), ())) fun (r0, _) =>
    some r0
noncomputable def A66 : FnA := ⟨[.v (.int .i64), .v (.int .i64), .cap (.pair (.int .i64) (.sl (.int .i64)))], true, [.int .i64], fun x => impl_Stabilise_1 x.1 x.2.1 x.2.2.1⟩
theorem impl_Stabilise_1_eq : fnF E66 L66_1 [.v (.int .i64), .v (.int .i64), .cap (.pair (.int .i64) (.sl (.int .i64)))] true [.int .i64] f66.ntmps f66.results.toList (codeOf f66) = fun x => impl_Stabilise_1 x.1 x.2.1 x.2.2.1 := by kernel_rfl
theorem A66_ok : FnOk prog 66 A66 := by
  have h := fnOk_of_run (P := prog) (E := E66) (tysOk_of tyl_ok) E66_ok (L := L66_1) (ps := [.v (.int .i64), .v (.int .i64), .cap (.pair (.int .i64) (.sl (.int .i64)))]) (own := true) (outs := [.int .i64]) func66 (c := codeOf f66) (by kernel_rfl) (codeOk_in (L := L66_1) (tysOk_of tyl_ok) E66_ok mixed (c := codeOf f66) (bs := [loopOf f66 3]) (by kernel_rfl) (allCons (loop66_3 rfl) allNil) (by kernel_rfl))
  rw [impl_Stabilise_1_eq] at h
  exact h
/-! impl.Stabilise -/
noncomputable def E23 : Env := ⟨ty0, fun g => ifEq g 64 (some A64) (ifEq g 65 (some A65) (ifEq g 66 (some A66) (none))), fun _ => none, fun _ => none, fun _ => none⟩
theorem E23_ok : FnsOk prog E23 := (oneFn A64_ok func64 (by kernel_rfl) (by kernel_rfl) (oneFn A65_ok func65 (by kernel_rfl) (by kernel_rfl) (oneFn A66_ok func66 (by kernel_rfl) (by kernel_rfl) (noFns _ _))))
noncomputable def L23_0 : Nat → Option LoopD := fun _ => none
noncomputable def impl_Stabilise : (Int × (List Int)) → Option ((Int × (List Int)) × Bool) := fun (a0_0, a0_1) =>
  Option.bind (impl_IsIdempotent (a0_0, a0_1)) fun r0 =>
    bif (!r0) then
      some (((0 : Int), []), false)
    else
      Option.bind (impl_filled a0_0 (fun y1 => (impl_Stabilise_1 y1.1 y1.2.1 (a0_0, a0_1)))) fun (r2, r3) =>
        some ((r2, (List.take (List.length r3) (List.drop 0 r3))), true)
noncomputable def A23 : FnA := ⟨[.v (.pair (.int .i64) (.sl (.int .i64)))], true, [.pair (.int .i64) (.sl (.int .i64)), .bool], fun x => impl_Stabilise x.1⟩
theorem impl_Stabilise_eq : fnF E23 L23_0 [.v (.pair (.int .i64) (.sl (.int .i64)))] true [.pair (.int .i64) (.sl (.int .i64)), .bool] f23.ntmps f23.results.toList (codeOf f23) = fun x => impl_Stabilise x.1 := by kernel_rfl
theorem A23_ok : FnOk prog 23 A23 := by
  have h := fnOk_of_run (P := prog) (E := E23) (tysOk_of tyl_ok) E23_ok (L := L23_0) (ps := [.v (.pair (.int .i64) (.sl (.int .i64)))]) (own := true) (outs := [.pair (.int .i64) (.sl (.int .i64)), .bool]) func23 (c := codeOf f23) (by kernel_rfl) (codeOk_in (L := L23_0) (tysOk_of tyl_ok) E23_ok mixed (c := codeOf f23) (bs := []) (by kernel_rfl) allNil (by kernel_rfl))
  rw [impl_Stabilise_eq] at h
  exact h
/-! impl.value -/
noncomputable def R63 (impl_value_rec : (Int × ((List Int) × ((List Int) × (List (Int × (ByteArray × (Int × Int))))))) → (List (ByteArray × PT)) → Option ((Int × (List Int)) × Bool)) : FnA := ⟨[.v (.pair (.int .i64) (.pair (.sl (.int .i64)) (.pair (.sl (.int .i64)) (.sl (.pair (.int .i64) (.pair .str (.pair (.int .i64) (.int .i64)))))))), .v (.sl (.pair .str .pt))], true, [.pair (.int .i64) (.sl (.int .i64)), .bool], fun x => impl_value_rec x.1 x.2.1⟩
noncomputable def E63 (impl_value_rec : (Int × ((List Int) × ((List Int) × (List (Int × (ByteArray × (Int × Int))))))) → (List (ByteArray × PT)) → Option ((Int × (List Int)) × Bool)) : Env := ⟨ty0, fun g => ifEq g 108 (some A108) (ifEq g 109 (some A109) (ifEq g 63 (some (R63 impl_value_rec)) (ifEq g 23 (some A23) (ifEq g 71 (some A71) (none))))), fun _ => none, fun _ => none, fun _ => none⟩
theorem E63_ok (impl_value_rec : (Int × ((List Int) × ((List Int) × (List (Int × (ByteArray × (Int × Int))))))) → (List (ByteArray × PT)) → Option ((Int × (List Int)) × Bool)) (hrec : FnOk prog 63 (R63 impl_value_rec)) : FnsOk prog (E63 impl_value_rec) := (oneFn A108_ok func108 (by kernel_rfl) (by kernel_rfl) (oneFn A109_ok func109 (by kernel_rfl) (by kernel_rfl) (oneFn hrec func63 (by kernel_rfl) (by kernel_rfl) (oneFn A23_ok func23 (by kernel_rfl) (by kernel_rfl) (oneFn A71_ok func71 (by kernel_rfl) (by kernel_rfl) (noFns _ _))))))
noncomputable def L63_0 (impl_value_rec : (Int × ((List Int) × ((List Int) × (List (Int × (ByteArray × (Int × Int))))))) → (List (ByteArray × PT)) → Option ((Int × (List Int)) × Bool)) : Nat → Option LoopD := fun _ => none
def sh63_3 : List Fm := [d, d, .box 100200 [.val (.int .i64), .val (.sl (.int .i64)), .val (.sl (.int .i64)), .val (.sl (.pair (.int .i64) (.pair .str (.pair (.int .i64) (.int .i64)))))], d, .box 100400 [.val (.int .i64), .own (.int .i64) 100402 false], d, .box 100600 [.val (.int .i64), .own (.int .i64) 100602 false], d, d, d, d, d, d, .cell (.val (.sl (.pair .str .pt))), .cell (.val (.int .i64)), .cell (.val (.int .i64)), d, d, d, d, d, d, d, d, d, d, d, d, d, d, d, d, d, d, d, d, d, d, d, d, d, d, d, d, d, d, d, d, d, d, d, d, d, d, d, d, d, d, d, d, d, d]
def xs63_3 : List (Ex × List Fm) := [(.ret, [d, d, d, d, .box 100400 [.val (.int .i64), .own (.int .i64) 100402 false], .cell (.val .bool), d, d, d, d, d, d, d, d, d, d, d, d, d, d, d, d, d, d, d, d, d, d, d, d, d, d, d, d, d, d, d, d, d, d, d, d, d, d, d, d, d, d, d, d, d, d, d, d, d, d, d, d, d, d, d, d]), (.exit 0, [d, d, d, d, .box 100400 [.val (.int .i64), .own (.int .i64) 100402 false], d, .box 100600 [.val (.int .i64), .own (.int .i64) 100602 false], d, d, d, d, d, d, d, d, d, d, d, d, d, d, d, d, d, d, d, d, d, d, d, d, d, d, d, d, d, d, d, d, d, d, d, d, d, d, d, d, d, d, d, d, d, d, d, d, d, d, d, d, d, d, d])]
noncomputable def impl_value_l3 (impl_value_rec : (Int × ((List Int) × ((List Int) × (List (Int × (ByteArray × (Int × Int))))))) → (List (ByteArray × PT)) → Option ((Int × (List Int)) × Bool)) : ((Int × (List Int) × (List Int) × (List (Int × (ByteArray × (Int × Int)))) × Unit) × (Int × (List Int) × Unit) × (Int × (List Int) × Unit) × (List (ByteArray × PT)) × Int × Int × Unit) → Option (((Int × (List Int) × (List Int) × (List (Int × (ByteArray × (Int × Int)))) × Unit) × (Int × (List Int) × Unit) × (Int × (List Int) × Unit) × (List (ByteArray × PT)) × Int × Int × Unit) ⊕ (((Int × (List Int) × Unit) × Bool × Unit) ⊕ ((Int × (List Int) × Unit) × (Int × (List Int) × Unit) × Unit))) := fun ((v2_0, v2_1, v2_2, v2_3, _), (v4_0, v4_1, _), (v6_0, v6_1, _), v13, v14, v15, _) =>
  bif (decide (v15 < v14)) then
    if (((0 : Int) ≤ v15) ∧ (v15 < (((List.length v13) : Nat) : Int))) then
      bif (!((ByteArray.toList (List.getD v13 (Int.toNat v15) ((⟨Array.empty⟩ : ByteArray), (PT.mk []))).1) == (ByteArray.toList (⟨#[]⟩ : ByteArray)))) then
        Option.bind (impl_StepMatrix (v2_0, v2_1, v2_2, v2_3) (List.getD v13 (Int.toNat v15) ((⟨Array.empty⟩ : ByteArray), (PT.mk []))).1) fun ((r0, r1), r2) =>
          Option.bind (impl_GradesOf (r0, (List.take (List.length r1) (List.drop 0 r1)))) fun ((r3, r4), r5) =>
            bif (decide (v15 > (0 : Int))) then
              Option.bind (impl_MulGrades (v6_0, (List.take (List.length v6_1) (List.drop 0 v6_1))) (r3, (List.take (List.length r4) (List.drop 0 r4)))) fun ((r6, r7), r8) =>
                some (Sum.inl ((v2_0, v2_1, v2_2, v2_3, ()), (v4_0, (List.take (List.length v4_1) (List.drop 0 v4_1)), ()), (r6, (List.take (List.length r7) (List.drop 0 r7)), ()), v13, v14, (IntKind.wrap .i64 (v15 + (1 : Int))), ()))
            else
              some (Sum.inl ((v2_0, v2_1, v2_2, v2_3, ()), (v4_0, (List.take (List.length v4_1) (List.drop 0 v4_1)), ()), (r3, (List.take (List.length r4) (List.drop 0 r4)), ()), v13, v14, (IntKind.wrap .i64 (v15 + (1 : Int))), ()))
      else
        Option.bind (impl_value_rec (v2_0, v2_1, v2_2, v2_3) (PT.l (List.getD v13 (Int.toNat v15) ((⟨Array.empty⟩ : ByteArray), (PT.mk []))).2)) fun ((r9, r10), r11) =>
          bif r11 then
            Option.bind (impl_Stabilise (r9, (List.take (List.length r10) (List.drop 0 r10)))) fun ((r12, r13), r14) =>
              bif (!r14) then
                some (Sum.inr (Sum.inl (((0 : Int), [], ()), false, ())))
              else
                bif (decide (v15 > (0 : Int))) then
                  Option.bind (impl_MulGrades (v6_0, (List.take (List.length v6_1) (List.drop 0 v6_1))) (r12, (List.take (List.length r13) (List.drop 0 r13)))) fun ((r15, r16), r17) =>
                    some (Sum.inl ((v2_0, v2_1, v2_2, v2_3, ()), (v4_0, (List.take (List.length v4_1) (List.drop 0 v4_1)), ()), (r15, (List.take (List.length r16) (List.drop 0 r16)), ()), v13, v14, (IntKind.wrap .i64 (v15 + (1 : Int))), ()))
                else
                  some (Sum.inl ((v2_0, v2_1, v2_2, v2_3, ()), (v4_0, (List.take (List.length v4_1) (List.drop 0 v4_1)), ()), (r12, (List.take (List.length r13) (List.drop 0 r13)), ()), v13, v14, (IntKind.wrap .i64 (v15 + (1 : Int))), ()))
          else
            bif (!r11) then
              some (Sum.inr (Sum.inl (((0 : Int), [], ()), false, ())))
            else
              bif (decide (v15 > (0 : Int))) then
                Option.bind (impl_MulGrades (v6_0, (List.take (List.length v6_1) (List.drop 0 v6_1))) (r9, (List.take (List.length r10) (List.drop 0 r10)))) fun ((r18, r19), r20) =>
                  some (Sum.inl ((v2_0, v2_1, v2_2, v2_3, ()), (v4_0, (List.take (List.length v4_1) (List.drop 0 v4_1)), ()), (r18, (List.take (List.length r19) (List.drop 0 r19)), ()), v13, v14, (IntKind.wrap .i64 (v15 + (1 : Int))), ()))
              else
                some (Sum.inl ((v2_0, v2_1, v2_2, v2_3, ()), (v4_0, (List.take (List.length v4_1) (List.drop 0 v4_1)), ()), (r9, (List.take (List.length r10) (List.drop 0 r10)), ()), v13, v14, (IntKind.wrap .i64 (v15 + (1 : Int))), ()))
    else
      none
  else
    some (Sum.inr (Sum.inr ((v4_0, (List.take (List.length v4_1) (List.drop 0 v4_1)), ()), (v6_0, (List.take (List.length v6_1) (List.drop 0 v6_1)), ()), ())))
theorem impl_value_l3_eq (impl_value_rec : (Int × ((List Int) × ((List Int) × (List (Int × (ByteArray × (Int × Int))))))) → (List (ByteArray × PT)) → Option ((Int × (List Int)) × Bool)) : loopStep 62 (E63 impl_value_rec) (L63_0 impl_value_rec) (loopOf f63 3) sh63_3 xs63_3 = (impl_value_l3 impl_value_rec) := by kernel_rfl
theorem loop63_3 (impl_value_rec : (Int × ((List Int) × ((List Int) × (List (Int × (ByteArray × (Int × Int))))))) → (List (ByteArray × PT)) → Option ((Int × (List Int)) × Bool)) (hrec : FnOk prog 63 (R63 impl_value_rec)) {L : Nat → Option LoopD} (h : L 3 = some ⟨62, sh63_3, xs63_3, (impl_value_l3 impl_value_rec)⟩) : LoopOk prog L (loopOf f63 3) :=
  loopOk (tysOk_of tyl_ok) (E63_ok impl_value_rec hrec) (codeOk_in (L := (L63_0 impl_value_rec)) (tysOk_of tyl_ok) (E63_ok impl_value_rec hrec) mixed (c := loopOf f63 3) (bs := []) (by kernel_rfl) allNil (by kernel_rfl)) (by kernel_rfl) (by kernel_rfl) (impl_value_l3_eq impl_value_rec) (by rw [show firstId (loopOf f63 3) = 3 from by kernel_rfl]; exact h)
noncomputable def L63_1 (impl_value_rec : (Int × ((List Int) × ((List Int) × (List (Int × (ByteArray × (Int × Int))))))) → (List (ByteArray × PT)) → Option ((Int × (List Int)) × Bool)) : Nat → Option LoopD := fun n => ifEq n 3 (some ⟨62, sh63_3, xs63_3, (impl_value_l3 impl_value_rec)⟩) ((L63_0 impl_value_rec) n)
noncomputable def impl_value_step (impl_value_rec : (Int × ((List Int) × ((List Int) × (List (Int × (ByteArray × (Int × Int))))))) → (List (ByteArray × PT)) → Option ((Int × (List Int)) × Bool)) : (Int × ((List Int) × ((List Int) × (List (Int × (ByteArray × (Int × Int))))))) → (List (ByteArray × PT)) → Option ((Int × (List Int)) × Bool) := fun (a0_0, a0_1, a0_2, a0_3) a1 =>
  Option.bind (loopF (impl_value_l3 impl_value_rec) ((a0_0, a0_1, a0_2, a0_3, ()), ((0 : Int), [], ()), ((0 : Int), [], ()), a1, (((List.length a1) : Nat) : Int), (0 : Int), ())) fun r0 =>
    (match r0 with
    | .inl ((d1, d2, _), d3, _) =>
        some ((d1, (List.take (List.length d2) (List.drop 0 d2))), d3)
    | .inr ((d4, d5, _), (d6, d7, _), _) =>
        some ((d6, (List.take (List.length d7) (List.drop 0 d7))), true))
theorem impl_value_step_eq (impl_value_rec : (Int × ((List Int) × ((List Int) × (List (Int × (ByteArray × (Int × Int))))))) → (List (ByteArray × PT)) → Option ((Int × (List Int)) × Bool)) : fnF (E63 impl_value_rec) (L63_1 impl_value_rec) [.v (.pair (.int .i64) (.pair (.sl (.int .i64)) (.pair (.sl (.int .i64)) (.sl (.pair (.int .i64) (.pair .str (.pair (.int .i64) (.int .i64)))))))), .v (.sl (.pair .str .pt))] true [.pair (.int .i64) (.sl (.int .i64)), .bool] f63.ntmps f63.results.toList (codeOf f63) = fun x => (impl_value_step impl_value_rec) x.1 x.2.1 := by kernel_rfl
theorem impl_value_step_ok (impl_value_rec : (Int × ((List Int) × ((List Int) × (List (Int × (ByteArray × (Int × Int))))))) → (List (ByteArray × PT)) → Option ((Int × (List Int)) × Bool)) (hrec : FnOk prog 63 (R63 impl_value_rec)) : FnOk prog 63 ⟨[.v (.pair (.int .i64) (.pair (.sl (.int .i64)) (.pair (.sl (.int .i64)) (.sl (.pair (.int .i64) (.pair .str (.pair (.int .i64) (.int .i64)))))))), .v (.sl (.pair .str .pt))], true, [.pair (.int .i64) (.sl (.int .i64)), .bool], fun x => (impl_value_step impl_value_rec) x.1 x.2.1⟩ := by
  have h := fnOk_of_run (P := prog) (E := (E63 impl_value_rec)) (tysOk_of tyl_ok) (E63_ok impl_value_rec hrec) (L := (L63_1 impl_value_rec)) (ps := [.v (.pair (.int .i64) (.pair (.sl (.int .i64)) (.pair (.sl (.int .i64)) (.sl (.pair (.int .i64) (.pair .str (.pair (.int .i64) (.int .i64)))))))), .v (.sl (.pair .str .pt))]) (own := true) (outs := [.pair (.int .i64) (.sl (.int .i64)), .bool]) func63 (c := codeOf f63) (by kernel_rfl) (codeOk_in (L := (L63_1 impl_value_rec)) (tysOk_of tyl_ok) (E63_ok impl_value_rec hrec) mixed (c := codeOf f63) (bs := [loopOf f63 3]) (by kernel_rfl) (allCons (loop63_3 impl_value_rec hrec rfl) allNil) (by kernel_rfl))
  rw [(impl_value_step_eq impl_value_rec)] at h
  exact h
/-- so many calls within each other -/
noncomputable def impl_value_fuel : Nat → (Int × ((List Int) × ((List Int) × (List (Int × (ByteArray × (Int × Int))))))) → (List (ByteArray × PT)) → Option ((Int × (List Int)) × Bool)
  | 0 => fun _ _ => none
  | n + 1 => impl_value_step (impl_value_fuel n)
theorem impl_value_fuel_ok : ∀ n, FnOk prog 63 (R63 (impl_value_fuel n))
  | 0 => fun xs r h => by cases h
  | n + 1 => impl_value_step_ok (impl_value_fuel n) (impl_value_fuel_ok n)
noncomputable def impl_value : (Int × ((List Int) × ((List Int) × (List (Int × (ByteArray × (Int × Int))))))) → (List (ByteArray × PT)) → Option ((Int × (List Int)) × Bool) := impl_value_fuel 200
noncomputable def A63 : FnA := R63 impl_value
theorem A63_ok : FnOk prog 63 A63 := impl_value_fuel_ok 200
/-! impl.ValueOf -/
noncomputable def E22 : Env := ⟨ty0, fun g => ifEq g 62 (some A62) (ifEq g 30 (some A30) (ifEq g 63 (some A63) (none))), fun _ => none, fun _ => none, fun _ => none⟩
theorem E22_ok : FnsOk prog E22 := (oneFn A62_ok func62 (by kernel_rfl) (by kernel_rfl) (oneFn A30_ok func30 (by kernel_rfl) (by kernel_rfl) (oneFn A63_ok func63 (by kernel_rfl) (by kernel_rfl) (noFns _ _))))
noncomputable def L22_0 : Nat → Option LoopD := fun _ => none
noncomputable def impl_ValueOf : (Int × ((List Int) × ((List Int) × (List (Int × (ByteArray × (Int × Int))))))) → ByteArray → Option ((Int × (List Int)) × Bool) := fun (a0_0, a0_1, a0_2, a0_3) a1 =>
  Option.bind (impl_parts a1) fun (r0, r1) =>
    bif (!r1) then
      some (((0 : Int), []), false)
    else
      Option.bind (impl_AutomatonValid (a0_0, a0_1, a0_2, a0_3)) fun r2 =>
        bif (!r2) then
          some (((0 : Int), []), false)
        else
          Option.bind (impl_value (a0_0, a0_1, a0_2, a0_3) (List.take (List.length r0) (List.drop 0 r0))) fun ((r3, r4), r5) =>
            some ((r3, (List.take (List.length r4) (List.drop 0 r4))), r5)
noncomputable def A22 : FnA := ⟨[.v (.pair (.int .i64) (.pair (.sl (.int .i64)) (.pair (.sl (.int .i64)) (.sl (.pair (.int .i64) (.pair .str (.pair (.int .i64) (.int .i64)))))))), .v .str], true, [.pair (.int .i64) (.sl (.int .i64)), .bool], fun x => impl_ValueOf x.1 x.2.1⟩
theorem impl_ValueOf_eq : fnF E22 L22_0 [.v (.pair (.int .i64) (.pair (.sl (.int .i64)) (.pair (.sl (.int .i64)) (.sl (.pair (.int .i64) (.pair .str (.pair (.int .i64) (.int .i64)))))))), .v .str] true [.pair (.int .i64) (.sl (.int .i64)), .bool] f22.ntmps f22.results.toList (codeOf f22) = fun x => impl_ValueOf x.1 x.2.1 := by kernel_rfl
theorem A22_ok : FnOk prog 22 A22 := by
  have h := fnOk_of_run (P := prog) (E := E22) (tysOk_of tyl_ok) E22_ok (L := L22_0) (ps := [.v (.pair (.int .i64) (.pair (.sl (.int .i64)) (.pair (.sl (.int .i64)) (.sl (.pair (.int .i64) (.pair .str (.pair (.int .i64) (.int .i64)))))))), .v .str]) (own := true) (outs := [.pair (.int .i64) (.sl (.int .i64)), .bool]) func22 (c := codeOf f22) (by kernel_rfl) (codeOk_in (L := L22_0) (tysOk_of tyl_ok) E22_ok mixed (c := codeOf f22) (bs := []) (by kernel_rfl) allNil (by kernel_rfl))
  rw [impl_ValueOf_eq] at h
  exact h
/-! slices.IndexFunc[[]impl.Element,impl.Element] -/
noncomputable def E161 : Env := ⟨ty0, fun _ => none, fun _ => none, fun _ => none, fun _ => none⟩
theorem E161_ok : FnsOk prog E161 := (noFns _ _)
noncomputable def L161_0 : Nat → Option LoopD := fun _ => none
def sh161_2 : List Fm := [.cell (.val (.sl (.pair (.pair (.int .i64) (.sl (.int .i64))) .str))), .clo [.pair (.pair (.int .i64) (.sl (.int .i64))) .str] .bool, d, d, d, d, d, .cell (.val (.int .i64)), .cell (.val (.int .i64)), d, d, d, d, d, d, d, d, d, d]
def xs161_2 : List (Ex × List Fm) := [(.ret, [d, d, d, d, .cell (.val (.int .i64)), d, d, d, d, d, d, d, d, d, d, d, d, d, d]), (.exit 0, [d, d, d, d, d, d, d, d, d, d, d, d, d, d, d, d, d, d, d])]
noncomputable def slices_IndexFunc_Element_l2 : ((List ((Int × (List Int)) × ByteArray)) × ((((Int × (List Int)) × ByteArray) × Unit) → Option (Bool)) × Int × Int × Unit) → Option (((List ((Int × (List Int)) × ByteArray)) × ((((Int × (List Int)) × ByteArray) × Unit) → Option (Bool)) × Int × Int × Unit) ⊕ ((Int × Unit) ⊕ (Unit))) := fun (v0, v1, v7, v8, _) =>
  bif (decide (v8 < v7)) then
    if (((0 : Int) ≤ v8) ∧ (v8 < (((List.length v0) : Nat) : Int))) then
      Option.bind (v1 ((List.getD v0 (Int.toNat v8) (((0 : Int), []), (⟨Array.empty⟩ : ByteArray))), ())) fun r0 =>
        bif r0 then
          some (Sum.inr (Sum.inl (v8, ())))
        else
          some (Sum.inl (v0, v1, v7, (IntKind.wrap .i64 (v8 + (1 : Int))), ()))
    else
      none
  else
    some (Sum.inr (Sum.inr ()))
theorem slices_IndexFunc_Element_l2_eq : loopStep 19 E161 L161_0 (loopOf f161 2) sh161_2 xs161_2 = slices_IndexFunc_Element_l2 := by kernel_rfl
theorem loop161_2 {L : Nat → Option LoopD} (h : L 2 = some ⟨19, sh161_2, xs161_2, slices_IndexFunc_Element_l2⟩) : LoopOk prog L (loopOf f161 2) :=
  loopOk (tysOk_of tyl_ok) E161_ok (codeOk_in (L := L161_0) (tysOk_of tyl_ok) E161_ok mixed (c := loopOf f161 2) (bs := []) (by kernel_rfl) allNil (by kernel_rfl)) (by kernel_rfl) (by kernel_rfl) slices_IndexFunc_Element_l2_eq (by rw [show firstId (loopOf f161 2) = 2 from by kernel_rfl]; exact h)
noncomputable def L161_1 : Nat → Option LoopD := fun n => ifEq n 2 (some ⟨19, sh161_2, xs161_2, slices_IndexFunc_Element_l2⟩) (L161_0 n)
noncomputable def slices_IndexFunc_Element : (List ((Int × (List Int)) × ByteArray)) → ((((Int × (List Int)) × ByteArray) × Unit) → Option (Bool)) → Option (Int) := fun a0 a1 =>
  Option.bind (loopF slices_IndexFunc_Element_l2 (a0, a1, (((List.length a0) : Nat) : Int), (0 : Int), ())) fun r0 =>
    (match r0 with
    | .inl (d1, _) =>
        some d1
    | .inr _ =>
        some (-1 : Int))
noncomputable def A161 : FnA := ⟨[.v (.sl (.pair (.pair (.int .i64) (.sl (.int .i64))) .str)), .clo [.pair (.pair (.int .i64) (.sl (.int .i64))) .str] .bool], true, [.int .i64], fun x => slices_IndexFunc_Element x.1 x.2.1⟩
theorem slices_IndexFunc_Element_eq : fnF E161 L161_1 [.v (.sl (.pair (.pair (.int .i64) (.sl (.int .i64))) .str)), .clo [.pair (.pair (.int .i64) (.sl (.int .i64))) .str] .bool] true [.int .i64] f161.ntmps f161.results.toList (codeOf f161) = fun x => slices_IndexFunc_Element x.1 x.2.1 := by kernel_rfl
theorem A161_ok : FnOk prog 161 A161 := by
  have h := fnOk_of_run (P := prog) (E := E161) (tysOk_of tyl_ok) E161_ok (L := L161_1) (ps := [.v (.sl (.pair (.pair (.int .i64) (.sl (.int .i64))) .str)), .clo [.pair (.pair (.int .i64) (.sl (.int .i64))) .str] .bool]) (own := true) (outs := [.int .i64]) func161 (c := codeOf f161) (by kernel_rfl) (codeOk_in (L := L161_1) (tysOk_of tyl_ok) E161_ok mixed (c := codeOf f161) (bs := [loopOf f161 2]) (by kernel_rfl) (allCons (loop161_2 rfl) allNil) (by kernel_rfl))
  rw [slices_IndexFunc_Element_eq] at h
  exact h
/-! slices.ContainsFunc[[]impl.Element,impl.Element] -/
noncomputable def E110 : Env := ⟨ty0, fun g => ifEq g 161 (some A161) (none), fun _ => none, fun _ => none, fun _ => none⟩
theorem E110_ok : FnsOk prog E110 := (oneFn A161_ok func161 (by kernel_rfl) (by kernel_rfl) (noFns _ _))
noncomputable def L110_0 : Nat → Option LoopD := fun _ => none
noncomputable def slices_ContainsFunc_Element : (List ((Int × (List Int)) × ByteArray)) → ((((Int × (List Int)) × ByteArray) × Unit) → Option (Bool)) → Option (Bool) := fun a0 a1 =>
  Option.bind (slices_IndexFunc_Element a0 a1) fun r0 =>
    some (decide (r0 ≥ (0 : Int)))
noncomputable def A110 : FnA := ⟨[.v (.sl (.pair (.pair (.int .i64) (.sl (.int .i64))) .str)), .clo [.pair (.pair (.int .i64) (.sl (.int .i64))) .str] .bool], true, [.bool], fun x => slices_ContainsFunc_Element x.1 x.2.1⟩
theorem slices_ContainsFunc_Element_eq : fnF E110 L110_0 [.v (.sl (.pair (.pair (.int .i64) (.sl (.int .i64))) .str)), .clo [.pair (.pair (.int .i64) (.sl (.int .i64))) .str] .bool] true [.bool] f110.ntmps f110.results.toList (codeOf f110) = fun x => slices_ContainsFunc_Element x.1 x.2.1 := by kernel_rfl
theorem A110_ok : FnOk prog 110 A110 := by
  have h := fnOk_of_run (P := prog) (E := E110) (tysOk_of tyl_ok) E110_ok (L := L110_0) (ps := [.v (.sl (.pair (.pair (.int .i64) (.sl (.int .i64))) .str)), .clo [.pair (.pair (.int .i64) (.sl (.int .i64))) .str] .bool]) (own := true) (outs := [.bool]) func110 (c := codeOf f110) (by kernel_rfl) (codeOk_in (L := L110_0) (tysOk_of tyl_ok) E110_ok mixed (c := codeOf f110) (bs := []) (by kernel_rfl) allNil (by kernel_rfl))
  rw [slices_ContainsFunc_Element_eq] at h
  exact h
/-! (*impl.found).put$1 -/
noncomputable def E111 : Env := ⟨ty0, fun g => ifEq g 58 (some A58) (none), fun _ => none, fun _ => none, fun _ => none⟩
theorem E111_ok : FnsOk prog E111 := (oneFn A58_ok func58 (by kernel_rfl) (by kernel_rfl) (noFns _ _))
noncomputable def L111_0 : Nat → Option LoopD := fun _ => none
noncomputable def impl_found_put_1 : ((Int × (List Int)) × ByteArray) → (Int × (List Int)) → Option (Bool) := fun ((a0_0, a0_1), a0_2) (a1_0, a1_1) =>
  Option.bind (impl_SameMatrix (a0_0, a0_1) (a1_0, a1_1)) fun r0 =>
    some r0
noncomputable def A111 : FnA := ⟨[.v (.pair (.pair (.int .i64) (.sl (.int .i64))) .str), .cap (.pair (.int .i64) (.sl (.int .i64)))], true, [.bool], fun x => impl_found_put_1 x.1 x.2.1⟩
theorem impl_found_put_1_eq : fnF E111 L111_0 [.v (.pair (.pair (.int .i64) (.sl (.int .i64))) .str), .cap (.pair (.int .i64) (.sl (.int .i64)))] true [.bool] f111.ntmps f111.results.toList (codeOf f111) = fun x => impl_found_put_1 x.1 x.2.1 := by kernel_rfl
theorem A111_ok : FnOk prog 111 A111 := by
  have h := fnOk_of_run (P := prog) (E := E111) (tysOk_of tyl_ok) E111_ok (L := L111_0) (ps := [.v (.pair (.pair (.int .i64) (.sl (.int .i64))) .str), .cap (.pair (.int .i64) (.sl (.int .i64)))]) (own := true) (outs := [.bool]) func111 (c := codeOf f111) (by kernel_rfl) (codeOk_in (L := L111_0) (tysOk_of tyl_ok) E111_ok mixed (c := codeOf f111) (bs := []) (by kernel_rfl) allNil (by kernel_rfl))
  rw [impl_found_put_1_eq] at h
  exact h
/-! impl.ElementsOf -/
noncomputable def E25_at5_at32 : Env := ⟨ty0, fun g => ifEq g 30 (some A30) (ifEq g 22 (some A22) (ifEq g 110 (some A110) (ifEq g 111 (some A111) (ifEq g 23 (some A23) (ifEq g 71 (some A71) (none)))))), fun _ => none, fun _ => none, fun _ => none⟩
theorem E25_at5_at32_ok : FnsOk prog E25_at5_at32 := (oneFn A30_ok func30 (by kernel_rfl) (by kernel_rfl) (oneFn A22_ok func22 (by kernel_rfl) (by kernel_rfl) (oneFn A110_ok func110 (by kernel_rfl) (by kernel_rfl) (oneFn A111_ok func111 (by kernel_rfl) (by kernel_rfl) (oneFn A23_ok func23 (by kernel_rfl) (by kernel_rfl) (oneFn A71_ok func71 (by kernel_rfl) (by kernel_rfl) (noFns _ _)))))))
noncomputable def L25_at5_at32_0 : Nat → Option LoopD := fun _ => none
def shi25_at5_at32 : List Fm := [.box 100000 [.own (.pair (.pair (.int .i64) (.sl (.int .i64))) .str) 100001 false, .val .bool], .agg [.val (.int .i64), .own (.int .i64) 100102 false], .cell (.val .str), d, d, d, d, d, d, d, d, d, d, d, d, d, d, d, d, d, d, d, d, d, d, d, d, d, d, d, d, d, d, d, d, d, d, d, d, .fnv 69, .box 104000 [.val (.int .i64), .val (.sl (.int .i64)), .val (.sl (.int .i64)), .val (.sl (.pair (.int .i64) (.pair .str (.pair (.int .i64) (.int .i64)))))], d, d, d, .ali 100000 0, d, d, d, d, d, d, d, d, d, d, .cell (.own .str 105500 false), .cell (.val (.int .i64)), .cell (.val (.int .i64)), d, d, d, d, d, d, d, d, d, d, d, d, d, d, d, d, d, d, d, d, d, d, d, d, d, d, d, d, d, d, d, d, d, d, d, d, d, d, d, d, d, d, d, d, d, d, d, d, d, d]
def sho25_at5_at32 : List Fm := [d, .fnv 69, .box 100200 [.val (.int .i64), .val (.sl (.int .i64)), .val (.sl (.int .i64)), .val (.sl (.pair (.int .i64) (.pair .str (.pair (.int .i64) (.int .i64)))))], d, d, d, .box 100600 [.own (.pair (.pair (.int .i64) (.sl (.int .i64))) .str) 100601 false, .val .bool], d, d, d, d, d, d, d, d, d, d, .cell (.own .str 101700 false), .cell (.val (.int .i64)), .cell (.val (.int .i64)), d, d, d, d, d, d, d, d, d, d, d, d, d, d, d, d, d, d, d, d, d, d, d, d, d, d, d, d, d, d, d, d, d, d, d, d, d, d, d, d, d, d, d, d, d, d, d, d, d, d]
noncomputable def impl_ElementsOf_at5_at32 : (((List ((Int × (List Int)) × ByteArray)) × Bool × Unit) × (Int × (List Int) × Unit) × ByteArray × (Int × (List Int) × (List Int) × (List (Int × (ByteArray × (Int × Int)))) × Unit) × (List ByteArray) × Int × Int × Unit) → Option ((Int × (List Int) × (List Int) × (List (Int × (ByteArray × (Int × Int)))) × Unit) × ((List ((Int × (List Int)) × ByteArray)) × Bool × Unit) × (List ByteArray) × Int × Int × Unit) := fun ((v0_0, v0_1, _), (v1_0, v1_1, _), v2, (v40_0, v40_1, v40_2, v40_3, _), v55, v56, v57, _) =>
  Option.bind (slices_ContainsFunc_Element (List.take (List.length v0_0) (List.drop 0 v0_0)) (fun y0 => (impl_found_put_1 y0.1 (v1_0, (List.take (List.length v1_1) (List.drop 0 v1_1)))))) fun r1 =>
    bif r1 then
      some ((v40_0, v40_1, v40_2, v40_3, ()), ((List.take (List.length v0_0) (List.drop 0 v0_0)), v0_1, ()), (List.take (List.length v55) (List.drop 0 v55)), v56, v57, ())
    else
      bif (decide ((((List.length v0_0) : Nat) : Int) ≥ (120 : Int))) then
        some ((v40_0, v40_1, v40_2, v40_3, ()), ((List.take (List.length v0_0) (List.drop 0 v0_0)), false, ()), (List.take (List.length v55) (List.drop 0 v55)), v56, v57, ())
      else
        bif (decide ((((ByteArray.size v2) : Nat) : Int) > (120 : Int))) then
          some ((v40_0, v40_1, v40_2, v40_3, ()), ((List.take (List.length v0_0) (List.drop 0 v0_0)), false, ()), (List.take (List.length v55) (List.drop 0 v55)), v56, v57, ())
        else
          if (((0 + (List.length v0_0)) = (List.length v0_0)) ∧ ((((List.length v0_0) + (List.length (List.take 1 (List.drop 0 [((v1_0, (List.take (List.length v1_1) (List.drop 0 v1_1))), v2)])))) * 48) ≤ 140737488355328)) then
            some ((v40_0, v40_1, v40_2, v40_3, ()), ((List.take ((List.length v0_0) + (List.length (List.take 1 (List.drop 0 [((v1_0, (List.take (List.length v1_1) (List.drop 0 v1_1))), v2)])))) (List.drop 0 ((List.drop 0 v0_0) ++ (List.take 1 (List.drop 0 [((v1_0, (List.take (List.length v1_1) (List.drop 0 v1_1))), v2)]))))), v0_1, ()), (List.take (List.length v55) (List.drop 0 v55)), v56, v57, ())
          else
            none
theorem impl_ElementsOf_at5_at32_eq : inlStep f70.ntmps 62 32 E25_at5_at32 L25_at5_at32_0 f70.results.toList (codeOf f70) shi25_at5_at32 sho25_at5_at32 = impl_ElementsOf_at5_at32 := by kernel_rfl
noncomputable def I25_at5_at32 : CallD := ⟨f70.ntmps, shi25_at5_at32, 62, sho25_at5_at32, impl_ElementsOf_at5_at32⟩
theorem I25_at5_at32_ok : InlOk prog 32 70 I25_at5_at32 := inlOk_of (tysOk_of tyl_ok) E25_at5_at32_ok (L := L25_at5_at32_0) func70 (by kernel_rfl) (c := codeOf f70) (by kernel_rfl) (codeOk_in (L := L25_at5_at32_0) (tysOk_of tyl_ok) E25_at5_at32_ok mixed (c := codeOf f70) (bs := []) (by kernel_rfl) allNil (by kernel_rfl)) (by kernel_rfl) (by kernel_rfl) impl_ElementsOf_at5_at32_eq
noncomputable def E25_at5_at52_at31 : Env := ⟨ty0, fun g => ifEq g 30 (some A30) (ifEq g 22 (some A22) (ifEq g 110 (some A110) (ifEq g 111 (some A111) (ifEq g 23 (some A23) (ifEq g 71 (some A71) (none)))))), fun _ => none, fun _ => none, fun _ => none⟩
theorem E25_at5_at52_at31_ok : FnsOk prog E25_at5_at52_at31 := (oneFn A30_ok func30 (by kernel_rfl) (by kernel_rfl) (oneFn A22_ok func22 (by kernel_rfl) (by kernel_rfl) (oneFn A110_ok func110 (by kernel_rfl) (by kernel_rfl) (oneFn A111_ok func111 (by kernel_rfl) (by kernel_rfl) (oneFn A23_ok func23 (by kernel_rfl) (by kernel_rfl) (oneFn A71_ok func71 (by kernel_rfl) (by kernel_rfl) (noFns _ _)))))))
noncomputable def L25_at5_at52_at31_0 : Nat → Option LoopD := fun _ => none
def shi25_at5_at52_at31 : List Fm := [.box 100000 [.own (.pair (.pair (.int .i64) (.sl (.int .i64))) .str) 100001 false, .val .bool], .agg [.val (.int .i64), .own (.int .i64) 100102 false], .cell (.val .str), d, d, d, d, d, d, d, d, d, d, d, d, d, d, d, d, d, d, d, d, d, d, d, d, d, d, d, d, d, d, d, d, d, d, d, .ali 100000 0, .cell (.val (.int .i64)), d, d, .box 104200 [.val (.int .i64), .val (.sl (.int .i64)), .val .str], d, d, d, d, d, d, d, d, d, d, d, d, d, d, d, d, d, d, d, d, d, d, d, d, d, d, d, d, d, d, d, d, d, d, d, d, d, d, d, d, d, d, d, d, d, d, d, d, d, d, d, d, d, d, d, d, d, d, d, d, d, d, d, d, d, d, d, d, d, d, d, d, d, d, d, d, d, d, .fnv 69, d, d, d, d, .ali 100000 0, d, d, d, d, .cell (.val (.int .i64)), d, d, d, d, d, d, d, d, d, d, d, d, d, d, d, d, d, d, d, d, d, d, d, d, d, d, d, d, d, d, d, d, d, d, d, d, d, d, d, d, d, d, d, d, d, d, d, d, d, d, d, d, d, d, d, d, d, d]
def sho25_at5_at52_at31 : List Fm := [.box 100000 [.own (.pair (.pair (.int .i64) (.sl (.int .i64))) .str) 100001 false, .val .bool], .cell (.val (.int .i64)), d, d, .box 100400 [.val (.int .i64), .val (.sl (.int .i64)), .val .str], d, d, d, d, d, d, d, d, d, d, d, d, d, d, d, d, d, d, d, d, d, d, d, d, d, d, d, d, d, d, d, d, d, d, d, d, d, d, d, d, d, d, d, d, d, d, d, d, d, d, d, d, d, d, d, d, d, d, d, d, d, d, d, d, d, d, d, d, d, d, d, d, d, d, d, d, d, d, .fnv 69, d, d, d, d, .ali 100000 0, d, d, d, d, .cell (.val (.int .i64)), d, d, d, d, d, d, d, d, d, d, d, d, d, d, d, d, d, d, d, d, d, d, d, d, d, d, d, d, d, d, d, d, d, d, d, d, d, d, d, d, d, d, d, d, d, d, d, d, d, d, d, d, d, d, d, d, d, d]
noncomputable def impl_ElementsOf_at5_at52_at31 : (((List ((Int × (List Int)) × ByteArray)) × Bool × Unit) × (Int × (List Int) × Unit) × ByteArray × Int × (Int × (List Int) × ByteArray × Unit) × Int × Unit) → Option (((List ((Int × (List Int)) × ByteArray)) × Bool × Unit) × Int × (Int × (List Int) × ByteArray × Unit) × Int × Unit) := fun ((v0_0, v0_1, _), (v1_0, v1_1, _), v2, v39, (v42_0, v42_1, v42_2, _), v131, _) =>
  Option.bind (slices_ContainsFunc_Element (List.take (List.length v0_0) (List.drop 0 v0_0)) (fun y0 => (impl_found_put_1 y0.1 (v1_0, (List.take (List.length v1_1) (List.drop 0 v1_1)))))) fun r1 =>
    bif r1 then
      some (((List.take (List.length v0_0) (List.drop 0 v0_0)), v0_1, ()), v39, (v42_0, v42_1, v42_2, ()), v131, ())
    else
      bif (decide ((((List.length v0_0) : Nat) : Int) ≥ (120 : Int))) then
        some (((List.take (List.length v0_0) (List.drop 0 v0_0)), false, ()), v39, (v42_0, v42_1, v42_2, ()), v131, ())
      else
        bif (decide ((((ByteArray.size v2) : Nat) : Int) > (120 : Int))) then
          some (((List.take (List.length v0_0) (List.drop 0 v0_0)), false, ()), v39, (v42_0, v42_1, v42_2, ()), v131, ())
        else
          if (((0 + (List.length v0_0)) = (List.length v0_0)) ∧ ((((List.length v0_0) + (List.length (List.take 1 (List.drop 0 [((v1_0, (List.take (List.length v1_1) (List.drop 0 v1_1))), v2)])))) * 48) ≤ 140737488355328)) then
            some (((List.take ((List.length v0_0) + (List.length (List.take 1 (List.drop 0 [((v1_0, (List.take (List.length v1_1) (List.drop 0 v1_1))), v2)])))) (List.drop 0 ((List.drop 0 v0_0) ++ (List.take 1 (List.drop 0 [((v1_0, (List.take (List.length v1_1) (List.drop 0 v1_1))), v2)]))))), v0_1, ()), v39, (v42_0, v42_1, v42_2, ()), v131, ())
          else
            none
theorem impl_ElementsOf_at5_at52_at31_eq : inlStep f70.ntmps 82 31 E25_at5_at52_at31 L25_at5_at52_at31_0 f70.results.toList (codeOf f70) shi25_at5_at52_at31 sho25_at5_at52_at31 = impl_ElementsOf_at5_at52_at31 := by kernel_rfl
noncomputable def I25_at5_at52_at31 : CallD := ⟨f70.ntmps, shi25_at5_at52_at31, 82, sho25_at5_at52_at31, impl_ElementsOf_at5_at52_at31⟩
theorem I25_at5_at52_at31_ok : InlOk prog 31 70 I25_at5_at52_at31 := inlOk_of (tysOk_of tyl_ok) E25_at5_at52_at31_ok (L := L25_at5_at52_at31_0) func70 (by kernel_rfl) (c := codeOf f70) (by kernel_rfl) (codeOk_in (L := L25_at5_at52_at31_0) (tysOk_of tyl_ok) E25_at5_at52_at31_ok mixed (c := codeOf f70) (bs := []) (by kernel_rfl) allNil (by kernel_rfl)) (by kernel_rfl) (by kernel_rfl) impl_ElementsOf_at5_at52_at31_eq
noncomputable def E25_at5_at52_at65 : Env := ⟨ty0, fun g => ifEq g 30 (some A30) (ifEq g 22 (some A22) (ifEq g 110 (some A110) (ifEq g 111 (some A111) (ifEq g 23 (some A23) (ifEq g 71 (some A71) (none)))))), fun _ => none, fun _ => none, fun _ => none⟩
theorem E25_at5_at52_at65_ok : FnsOk prog E25_at5_at52_at65 := (oneFn A30_ok func30 (by kernel_rfl) (by kernel_rfl) (oneFn A22_ok func22 (by kernel_rfl) (by kernel_rfl) (oneFn A110_ok func110 (by kernel_rfl) (by kernel_rfl) (oneFn A111_ok func111 (by kernel_rfl) (by kernel_rfl) (oneFn A23_ok func23 (by kernel_rfl) (by kernel_rfl) (oneFn A71_ok func71 (by kernel_rfl) (by kernel_rfl) (noFns _ _)))))))
noncomputable def L25_at5_at52_at65_0 : Nat → Option LoopD := fun _ => none
def shi25_at5_at52_at65 : List Fm := [.box 100000 [.own (.pair (.pair (.int .i64) (.sl (.int .i64))) .str) 100001 false, .val .bool], .cell (.val (.pair (.int .i64) (.sl (.int .i64)))), .cell (.val .str), d, d, d, d, d, d, d, d, d, d, d, d, d, d, d, d, d, d, d, d, d, d, d, d, d, d, d, d, d, d, d, d, d, d, d, .ali 100000 0, .cell (.val (.int .i64)), d, d, .box 104200 [.val (.int .i64), .val (.sl (.int .i64)), .val .str], d, d, .cell (.val (.int .i64)), .box 104600 [.val (.int .i64), .val (.sl (.int .i64)), .val .str], .box 104700 [.val (.int .i64), .val (.sl (.int .i64))], d, d, d, d, d, d, d, d, d, d, d, d, d, d, d, d, d, d, d, d, d, d, d, d, d, d, d, d, d, d, d, d, d, d, d, d, d, d, d, d, d, d, d, d, d, d, d, d, d, d, d, d, d, d, d, d, d, d, d, d, d, d, d, d, d, d, d, d, d, d, d, d, d, .fnv 69, d, d, d, d, .ali 100000 0, d, d, d, d, .cell (.val (.int .i64)), d, d, d, d, d, d, d, d, d, d, d, d, d, d, d, d, d, d, d, d, d, d, d, d, d, d, d, d, d, d, d, d, d, d, d, d, d, d, d, d, d, d, d, d, d, d, d, d, d, d, d, d, d, d, d, d, d, d]
def sho25_at5_at52_at65 : List Fm := [.box 100000 [.own (.pair (.pair (.int .i64) (.sl (.int .i64))) .str) 100001 false, .val .bool], .cell (.val (.int .i64)), d, d, .box 100400 [.val (.int .i64), .val (.sl (.int .i64)), .val .str], d, d, .cell (.val (.int .i64)), .box 100800 [.val (.int .i64), .val (.sl (.int .i64)), .val .str], .box 100900 [.val (.int .i64), .val (.sl (.int .i64))], d, d, d, d, d, d, d, d, d, d, d, d, d, d, d, d, d, d, d, d, d, d, d, d, d, d, d, d, d, d, d, d, d, d, d, d, d, d, d, d, d, d, d, d, d, d, d, d, d, d, d, d, d, d, d, d, d, d, d, d, d, d, d, d, d, d, d, d, d, d, d, d, d, .fnv 69, d, d, d, d, .ali 100000 0, d, d, d, d, .cell (.val (.int .i64)), d, d, d, d, d, d, d, d, d, d, d, d, d, d, d, d, d, d, d, d, d, d, d, d, d, d, d, d, d, d, d, d, d, d, d, d, d, d, d, d, d, d, d, d, d, d, d, d, d, d, d, d, d, d, d, d, d, d]
noncomputable def impl_ElementsOf_at5_at52_at65 : (((List ((Int × (List Int)) × ByteArray)) × Bool × Unit) × (Int × (List Int)) × ByteArray × Int × (Int × (List Int) × ByteArray × Unit) × Int × (Int × (List Int) × ByteArray × Unit) × (Int × (List Int) × Unit) × Int × Unit) → Option (((List ((Int × (List Int)) × ByteArray)) × Bool × Unit) × Int × (Int × (List Int) × ByteArray × Unit) × Int × (Int × (List Int) × ByteArray × Unit) × (Int × (List Int) × Unit) × Int × Unit) := fun ((v0_0, v0_1, _), (v1_0, v1_1), v2, v39, (v42_0, v42_1, v42_2, _), v45, (v46_0, v46_1, v46_2, _), (v47_0, v47_1, _), v131, _) =>
  Option.bind (slices_ContainsFunc_Element (List.take (List.length v0_0) (List.drop 0 v0_0)) (fun y0 => (impl_found_put_1 y0.1 (v1_0, v1_1)))) fun r1 =>
    bif r1 then
      some (((List.take (List.length v0_0) (List.drop 0 v0_0)), v0_1, ()), v39, (v42_0, v42_1, v42_2, ()), v45, (v46_0, v46_1, v46_2, ()), (v47_0, v47_1, ()), v131, ())
    else
      bif (decide ((((List.length v0_0) : Nat) : Int) ≥ (120 : Int))) then
        some (((List.take (List.length v0_0) (List.drop 0 v0_0)), false, ()), v39, (v42_0, v42_1, v42_2, ()), v45, (v46_0, v46_1, v46_2, ()), (v47_0, v47_1, ()), v131, ())
      else
        bif (decide ((((ByteArray.size v2) : Nat) : Int) > (120 : Int))) then
          some (((List.take (List.length v0_0) (List.drop 0 v0_0)), false, ()), v39, (v42_0, v42_1, v42_2, ()), v45, (v46_0, v46_1, v46_2, ()), (v47_0, v47_1, ()), v131, ())
        else
          if (((0 + (List.length v0_0)) = (List.length v0_0)) ∧ ((((List.length v0_0) + (List.length (List.take 1 (List.drop 0 [((v1_0, v1_1), v2)])))) * 48) ≤ 140737488355328)) then
            some (((List.take ((List.length v0_0) + (List.length (List.take 1 (List.drop 0 [((v1_0, v1_1), v2)])))) (List.drop 0 ((List.drop 0 v0_0) ++ (List.take 1 (List.drop 0 [((v1_0, v1_1), v2)]))))), v0_1, ()), v39, (v42_0, v42_1, v42_2, ()), v45, (v46_0, v46_1, v46_2, ()), (v47_0, v47_1, ()), v131, ())
          else
            none
theorem impl_ElementsOf_at5_at52_at65_eq : inlStep f70.ntmps 82 65 E25_at5_at52_at65 L25_at5_at52_at65_0 f70.results.toList (codeOf f70) shi25_at5_at52_at65 sho25_at5_at52_at65 = impl_ElementsOf_at5_at52_at65 := by kernel_rfl
noncomputable def I25_at5_at52_at65 : CallD := ⟨f70.ntmps, shi25_at5_at52_at65, 82, sho25_at5_at52_at65, impl_ElementsOf_at5_at52_at65⟩
theorem I25_at5_at52_at65_ok : InlOk prog 65 70 I25_at5_at52_at65 := inlOk_of (tysOk_of tyl_ok) E25_at5_at52_at65_ok (L := L25_at5_at52_at65_0) func70 (by kernel_rfl) (c := codeOf f70) (by kernel_rfl) (codeOk_in (L := L25_at5_at52_at65_0) (tysOk_of tyl_ok) E25_at5_at52_at65_ok mixed (c := codeOf f70) (bs := []) (by kernel_rfl) allNil (by kernel_rfl)) (by kernel_rfl) (by kernel_rfl) impl_ElementsOf_at5_at52_at65_eq
noncomputable def E25_at5_at52_at81 : Env := ⟨ty0, fun g => ifEq g 30 (some A30) (ifEq g 22 (some A22) (ifEq g 110 (some A110) (ifEq g 111 (some A111) (ifEq g 23 (some A23) (ifEq g 71 (some A71) (none)))))), fun _ => none, fun _ => none, fun _ => none⟩
theorem E25_at5_at52_at81_ok : FnsOk prog E25_at5_at52_at81 := (oneFn A30_ok func30 (by kernel_rfl) (by kernel_rfl) (oneFn A22_ok func22 (by kernel_rfl) (by kernel_rfl) (oneFn A110_ok func110 (by kernel_rfl) (by kernel_rfl) (oneFn A111_ok func111 (by kernel_rfl) (by kernel_rfl) (oneFn A23_ok func23 (by kernel_rfl) (by kernel_rfl) (oneFn A71_ok func71 (by kernel_rfl) (by kernel_rfl) (noFns _ _)))))))
noncomputable def L25_at5_at52_at81_0 : Nat → Option LoopD := fun _ => none
def shi25_at5_at52_at81 : List Fm := [.box 100000 [.own (.pair (.pair (.int .i64) (.sl (.int .i64))) .str) 100001 false, .val .bool], .agg [.val (.int .i64), .own (.int .i64) 100102 false], .cell (.val .str), d, d, d, d, d, d, d, d, d, d, d, d, d, d, d, d, d, d, d, d, d, d, d, d, d, d, d, d, d, d, d, d, d, d, d, .ali 100000 0, .cell (.val (.int .i64)), d, d, .box 104200 [.val (.int .i64), .val (.sl (.int .i64)), .val .str], d, d, .cell (.val (.int .i64)), d, d, d, d, d, d, d, d, d, d, d, d, d, d, d, d, d, d, d, d, d, d, d, d, d, d, d, d, d, d, d, d, d, d, d, d, d, d, d, d, d, d, d, d, d, d, d, d, d, d, d, d, d, d, d, d, d, d, d, d, d, d, d, d, d, d, d, d, d, d, d, d, d, d, d, .fnv 69, d, d, d, d, .ali 100000 0, d, d, d, d, .cell (.val (.int .i64)), d, d, d, d, d, d, d, d, d, d, d, d, d, d, d, d, d, d, d, d, d, d, d, d, d, d, d, d, d, d, d, d, d, d, d, d, d, d, d, d, d, d, d, d, d, d, d, d, d, d, d, d, d, d, d, d, d, d]
def sho25_at5_at52_at81 : List Fm := [.box 100000 [.own (.pair (.pair (.int .i64) (.sl (.int .i64))) .str) 100001 false, .val .bool], .cell (.val (.int .i64)), d, d, .box 100400 [.val (.int .i64), .val (.sl (.int .i64)), .val .str], d, d, .cell (.val (.int .i64)), d, d, d, d, d, d, d, d, d, d, d, d, d, d, d, d, d, d, d, d, d, d, d, d, d, d, d, d, d, d, d, d, d, d, d, d, d, d, d, d, d, d, d, d, d, d, d, d, d, d, d, d, d, d, d, d, d, d, d, d, d, d, d, d, d, d, d, d, d, d, d, d, d, d, d, .fnv 69, d, d, d, d, .ali 100000 0, d, d, d, d, .cell (.val (.int .i64)), d, d, d, d, d, d, d, d, d, d, d, d, d, d, d, d, d, d, d, d, d, d, d, d, d, d, d, d, d, d, d, d, d, d, d, d, d, d, d, d, d, d, d, d, d, d, d, d, d, d, d, d, d, d, d, d, d, d]
noncomputable def impl_ElementsOf_at5_at52_at81 : (((List ((Int × (List Int)) × ByteArray)) × Bool × Unit) × (Int × (List Int) × Unit) × ByteArray × Int × (Int × (List Int) × ByteArray × Unit) × Int × Int × Unit) → Option (((List ((Int × (List Int)) × ByteArray)) × Bool × Unit) × Int × (Int × (List Int) × ByteArray × Unit) × Int × Int × Unit) := fun ((v0_0, v0_1, _), (v1_0, v1_1, _), v2, v39, (v42_0, v42_1, v42_2, _), v45, v131, _) =>
  Option.bind (slices_ContainsFunc_Element (List.take (List.length v0_0) (List.drop 0 v0_0)) (fun y0 => (impl_found_put_1 y0.1 (v1_0, (List.take (List.length v1_1) (List.drop 0 v1_1)))))) fun r1 =>
    bif r1 then
      some (((List.take (List.length v0_0) (List.drop 0 v0_0)), v0_1, ()), v39, (v42_0, v42_1, v42_2, ()), v45, v131, ())
    else
      bif (decide ((((List.length v0_0) : Nat) : Int) ≥ (120 : Int))) then
        some (((List.take (List.length v0_0) (List.drop 0 v0_0)), false, ()), v39, (v42_0, v42_1, v42_2, ()), v45, v131, ())
      else
        bif (decide ((((ByteArray.size v2) : Nat) : Int) > (120 : Int))) then
          some (((List.take (List.length v0_0) (List.drop 0 v0_0)), false, ()), v39, (v42_0, v42_1, v42_2, ()), v45, v131, ())
        else
          if (((0 + (List.length v0_0)) = (List.length v0_0)) ∧ ((((List.length v0_0) + (List.length (List.take 1 (List.drop 0 [((v1_0, (List.take (List.length v1_1) (List.drop 0 v1_1))), v2)])))) * 48) ≤ 140737488355328)) then
            some (((List.take ((List.length v0_0) + (List.length (List.take 1 (List.drop 0 [((v1_0, (List.take (List.length v1_1) (List.drop 0 v1_1))), v2)])))) (List.drop 0 ((List.drop 0 v0_0) ++ (List.take 1 (List.drop 0 [((v1_0, (List.take (List.length v1_1) (List.drop 0 v1_1))), v2)]))))), v0_1, ()), v39, (v42_0, v42_1, v42_2, ()), v45, v131, ())
          else
            none
theorem impl_ElementsOf_at5_at52_at81_eq : inlStep f70.ntmps 82 81 E25_at5_at52_at81 L25_at5_at52_at81_0 f70.results.toList (codeOf f70) shi25_at5_at52_at81 sho25_at5_at52_at81 = impl_ElementsOf_at5_at52_at81 := by kernel_rfl
noncomputable def I25_at5_at52_at81 : CallD := ⟨f70.ntmps, shi25_at5_at52_at81, 82, sho25_at5_at52_at81, impl_ElementsOf_at5_at52_at81⟩
theorem I25_at5_at52_at81_ok : InlOk prog 81 70 I25_at5_at52_at81 := inlOk_of (tysOk_of tyl_ok) E25_at5_at52_at81_ok (L := L25_at5_at52_at81_0) func70 (by kernel_rfl) (c := codeOf f70) (by kernel_rfl) (codeOk_in (L := L25_at5_at52_at81_0) (tysOk_of tyl_ok) E25_at5_at52_at81_ok mixed (c := codeOf f70) (bs := []) (by kernel_rfl) allNil (by kernel_rfl)) (by kernel_rfl) (by kernel_rfl) impl_ElementsOf_at5_at52_at81_eq
noncomputable def E25_at5_at52 : Env := ⟨ty0, fun g => ifEq g 30 (some A30) (ifEq g 22 (some A22) (ifEq g 110 (some A110) (ifEq g 111 (some A111) (ifEq g 23 (some A23) (ifEq g 71 (some A71) (none)))))), fun _ => none, fun _ => none, fun d => ifI (Nat.beq d 31) (some (70, I25_at5_at52_at31)) (ifI (Nat.beq d 65) (some (70, I25_at5_at52_at65)) (ifI (Nat.beq d 81) (some (70, I25_at5_at52_at81)) (none)))⟩
theorem E25_at5_at52_ok : FnsOk prog E25_at5_at52 := (oneIl (d0 := 31) (g0 := 70) I25_at5_at52_at31_ok (oneIl (d0 := 65) (g0 := 70) I25_at5_at52_at65_ok (oneIl (d0 := 81) (g0 := 70) I25_at5_at52_at81_ok (oneFn A30_ok func30 (by kernel_rfl) (by kernel_rfl) (oneFn A22_ok func22 (by kernel_rfl) (by kernel_rfl) (oneFn A110_ok func110 (by kernel_rfl) (by kernel_rfl) (oneFn A111_ok func111 (by kernel_rfl) (by kernel_rfl) (oneFn A23_ok func23 (by kernel_rfl) (by kernel_rfl) (oneFn A71_ok func71 (by kernel_rfl) (by kernel_rfl) (noFns _ _))))))))))
noncomputable def L25_at5_at52_0 : Nat → Option LoopD := fun _ => none
def sh25_at5_at52_5 : List Fm := [.box 100000 [.own (.pair (.pair (.int .i64) (.sl (.int .i64))) .str) 100001 false, .val .bool], .cell (.val (.int .i64)), d, d, .box 100400 [.val (.int .i64), .val (.sl (.int .i64)), .val .str], d, d, .cell (.val (.int .i64)), d, d, d, d, d, d, d, d, d, d, d, d, d, d, d, d, d, d, d, d, d, d, d, d, d, d, d, d, d, d, d, d, d, d, d, d, d, d, d, d, d, d, d, d, d, d, d, d, d, d, d, d, d, d, d, d, d, d, d, d, d, d, d, d, d, d, d, d, d, d, d, d, d, d, d, .fnv 69, d, d, d, d, .ali 100000 0, d, d, d, d, .cell (.val (.int .i64)), d, d, d, d, d, d, d, d, d, d, d, d, d, d, d, d, d, d, d, d, d, d, d, d, d, d, d, d, d, d, d, d, d, d, d, d, d, d, d, d, d, d, d, d, d, d, d, d, d, d, d, d, d, d, d, d, d, d]
def xs25_at5_at52_5 : List (Ex × List Fm) := [(.exit 0, [d, d, d, d, d, d, d, d, d, d, d, d, d, d, d, d, d, d, d, d, d, d, d, d, d, d, d, d, d, d, d, d, d, d, d, d, d, d, d, d, d, d, d, d, d, d, d, d, d, d, d, d, d, d, d, d, d, d, d, d, d, d, d, d, d, d, d, d, d, d, d, d, d, d, d, d, d, d, d, d, d, d, d, .fnv 69, d, d, d, d, .box 108800 [.own (.pair (.pair (.int .i64) (.sl (.int .i64))) .str) 108801 false, .val .bool], d, d, d, d, .cell (.val (.int .i64)), d, d, d, d, d, d, d, d, d, d, d, d, d, d, d, d, d, d, d, d, d, d, d, d, d, d, d, d, d, d, d, d, d, d, d, d, d, d, d, d, d, d, d, d, d, d, d, d, d, d, d, d, d, d, d, d, d, d])]
noncomputable def impl_ElementsOf_at5_at52_l5 : (((List ((Int × (List Int)) × ByteArray)) × Bool × Unit) × Int × (Int × (List Int) × ByteArray × Unit) × Int × Int × Unit) → Option ((((List ((Int × (List Int)) × ByteArray)) × Bool × Unit) × Int × (Int × (List Int) × ByteArray × Unit) × Int × Int × Unit) ⊕ ((((List ((Int × (List Int)) × ByteArray)) × Bool × Unit) × Int × Unit))) := fun ((v0_0, v0_1, _), v1, (v4_0, v4_1, v4_2, _), v7, v93, _) =>
  bif (decide (v7 ≤ v1)) then
    bif v0_1 then
      if (((0 : Int) ≤ v7) ∧ (v7 < (((List.length v0_0) : Nat) : Int))) then
        Option.bind (impl_MulGrades (v4_0, v4_1) ((List.getD v0_0 (0 + (Int.toNat v7)) (((0 : Int), []), (⟨Array.empty⟩ : ByteArray))).1.1, (List.getD v0_0 (0 + (Int.toNat v7)) (((0 : Int), []), (⟨Array.empty⟩ : ByteArray))).1.2)) fun ((r0, r1), r2) =>
          if (((ByteArray.size v4_2) + (ByteArray.size (List.getD v0_0 (0 + (Int.toNat v7)) (((0 : Int), []), (⟨Array.empty⟩ : ByteArray))).2)) ≤ 9223372036854775807) then
            Option.bind (impl_ElementsOf_at5_at52_at65 (((List.take (List.length v0_0) (List.drop 0 v0_0)), v0_1, ()), (r0, (List.take (List.length r1) (List.drop 0 r1))), (v4_2 ++ (List.getD v0_0 (0 + (Int.toNat v7)) (((0 : Int), []), (⟨Array.empty⟩ : ByteArray))).2), v1, (v4_0, v4_1, v4_2, ()), v7, ((List.getD v0_0 (0 + (Int.toNat v7)) (((0 : Int), []), (⟨Array.empty⟩ : ByteArray))).1.1, (List.getD v0_0 (0 + (Int.toNat v7)) (((0 : Int), []), (⟨Array.empty⟩ : ByteArray))).1.2, (List.getD v0_0 (0 + (Int.toNat v7)) (((0 : Int), []), (⟨Array.empty⟩ : ByteArray))).2, ()), (r0, (List.take (List.length r1) (List.drop 0 r1)), ()), v93, ())) fun ((r3, r4, _), r5, (r6, r7, r8, _), r9, (r10, r11, r12, _), (r13, r14, _), r15, _) =>
              Option.bind (impl_MulGrades (r10, r11) (r6, r7)) fun ((r16, r17), r18) =>
                if (((ByteArray.size r12) + (ByteArray.size r8)) ≤ 9223372036854775807) then
                  Option.bind (impl_ElementsOf_at5_at52_at81 (((List.take (List.length r3) (List.drop 0 r3)), r4, ()), (r16, (List.take (List.length r17) (List.drop 0 r17)), ()), (r12 ++ r8), r5, (r6, r7, r8, ()), r9, r15, ())) fun ((r19, r20, _), r21, (r22, r23, r24, _), r25, r26, _) =>
                    some (Sum.inl (((List.take (List.length r19) (List.drop 0 r19)), r20, ()), r21, (r22, r23, r24, ()), (IntKind.wrap .i64 (r25 + (1 : Int))), r26, ()))
                else
                  none
          else
            none
      else
        none
    else
      some (Sum.inr (((List.take (List.length v0_0) (List.drop 0 v0_0)), v0_1, ()), v93, ()))
  else
    some (Sum.inr (((List.take (List.length v0_0) (List.drop 0 v0_0)), v0_1, ()), v93, ()))
theorem impl_ElementsOf_at5_at52_l5_eq : loopStep 82 E25_at5_at52 L25_at5_at52_0 (loopOf f69 5) sh25_at5_at52_5 xs25_at5_at52_5 = impl_ElementsOf_at5_at52_l5 := by kernel_rfl
theorem loop25_at5_at52_5 {L : Nat → Option LoopD} (h : L 5 = some ⟨82, sh25_at5_at52_5, xs25_at5_at52_5, impl_ElementsOf_at5_at52_l5⟩) : LoopOk prog L (loopOf f69 5) :=
  loopOk (tysOk_of tyl_ok) E25_at5_at52_ok (codeOk_in (L := L25_at5_at52_0) (tysOk_of tyl_ok) E25_at5_at52_ok mixed (c := loopOf f69 5) (bs := []) (by kernel_rfl) allNil (by kernel_rfl)) (by kernel_rfl) (by kernel_rfl) impl_ElementsOf_at5_at52_l5_eq (by rw [show firstId (loopOf f69 5) = 5 from by kernel_rfl]; exact h)
noncomputable def L25_at5_at52_1 : Nat → Option LoopD := fun n => ifEq n 5 (some ⟨82, sh25_at5_at52_5, xs25_at5_at52_5, impl_ElementsOf_at5_at52_l5⟩) (L25_at5_at52_0 n)
def shi25_at5_at52 : List Fm := [.box 100000 [.own (.pair (.pair (.int .i64) (.sl (.int .i64))) .str) 100001 false, .val .bool], .cell (.val (.int .i64)), d, d, d, d, d, d, d, d, d, d, d, d, d, d, d, d, d, d, d, d, d, d, d, d, d, d, d, d, d, d, d, d, d, d, d, d, d, d, d, d, d, d, d, d, d, d, d, d, d, d, d, d, d, d, d, d, d, d, d, d, d, d, d, d, d, d, d, d, d, d, d, d, d, d, d, d, d, d, d, d, d, .fnv 69, d, d, d, d, .ali 100000 0, d, d, d, d, .cell (.val (.int .i64)), d, d, d, d, d, d, d, d, d, d, d, d, d, d, d, d, d, d, d, d, d, d, d, d, d, d, d, d, d, d, d, d, d, d, d, d, d, d, d, d, d, d, d, d, d, d, d, d, d, d, d, d, d, d, d, d, d, d]
def sho25_at5_at52 : List Fm := [d, .fnv 69, d, d, d, d, .box 100600 [.own (.pair (.pair (.int .i64) (.sl (.int .i64))) .str) 100601 false, .val .bool], d, d, d, d, .cell (.val (.int .i64)), d, d, d, d, d, d, d, d, d, d, d, d, d, d, d, d, d, d, d, d, d, d, d, d, d, d, d, d, d, d, d, d, d, d, d, d, d, d, d, d, d, d, d, d, d, d, d, d, d, d, d, d, d, d, d, d, d, d]
noncomputable def impl_ElementsOf_at5_at52 : (((List ((Int × (List Int)) × ByteArray)) × Bool × Unit) × Int × Int × Unit) → Option (((List ((Int × (List Int)) × ByteArray)) × Bool × Unit) × Int × Unit) := fun ((v0_0, v0_1, _), v1, v93, _) =>
  if (((0 : Int) ≤ v1) ∧ (v1 < (((List.length v0_0) : Nat) : Int))) then
    Option.bind (impl_Stabilise ((List.getD v0_0 (0 + (Int.toNat v1)) (((0 : Int), []), (⟨Array.empty⟩ : ByteArray))).1.1, (List.getD v0_0 (0 + (Int.toNat v1)) (((0 : Int), []), (⟨Array.empty⟩ : ByteArray))).1.2)) fun ((r0, r1), r2) =>
      bif r2 then
        if (((ByteArray.size (⟨#[(40 : UInt8)]⟩ : ByteArray)) + (ByteArray.size (List.getD v0_0 (0 + (Int.toNat v1)) (((0 : Int), []), (⟨Array.empty⟩ : ByteArray))).2)) ≤ 9223372036854775807) then
          if (((ByteArray.size ((⟨#[(40 : UInt8)]⟩ : ByteArray) ++ (List.getD v0_0 (0 + (Int.toNat v1)) (((0 : Int), []), (⟨Array.empty⟩ : ByteArray))).2)) + (ByteArray.size (⟨#[(41 : UInt8), (35 : UInt8)]⟩ : ByteArray))) ≤ 9223372036854775807) then
            Option.bind (impl_ElementsOf_at5_at52_at31 (((List.take (List.length v0_0) (List.drop 0 v0_0)), v0_1, ()), (r0, (List.take (List.length r1) (List.drop 0 r1)), ()), (((⟨#[(40 : UInt8)]⟩ : ByteArray) ++ (List.getD v0_0 (0 + (Int.toNat v1)) (((0 : Int), []), (⟨Array.empty⟩ : ByteArray))).2) ++ (⟨#[(41 : UInt8), (35 : UInt8)]⟩ : ByteArray)), v1, ((List.getD v0_0 (0 + (Int.toNat v1)) (((0 : Int), []), (⟨Array.empty⟩ : ByteArray))).1.1, (List.getD v0_0 (0 + (Int.toNat v1)) (((0 : Int), []), (⟨Array.empty⟩ : ByteArray))).1.2, (List.getD v0_0 (0 + (Int.toNat v1)) (((0 : Int), []), (⟨Array.empty⟩ : ByteArray))).2, ()), v93, ())) fun ((r3, r4, _), r5, (r6, r7, r8, _), r9, _) =>
              Option.bind (loopF impl_ElementsOf_at5_at52_l5 (((List.take (List.length r3) (List.drop 0 r3)), r4, ()), r5, (r6, r7, r8, ()), (0 : Int), r9, ())) fun ((r10, r11, _), r12, _) =>
                some (((List.take (List.length r10) (List.drop 0 r10)), r11, ()), r12, ())
          else
            none
        else
          none
      else
        Option.bind (loopF impl_ElementsOf_at5_at52_l5 (((List.take (List.length v0_0) (List.drop 0 v0_0)), v0_1, ()), v1, ((List.getD v0_0 (0 + (Int.toNat v1)) (((0 : Int), []), (⟨Array.empty⟩ : ByteArray))).1.1, (List.getD v0_0 (0 + (Int.toNat v1)) (((0 : Int), []), (⟨Array.empty⟩ : ByteArray))).1.2, (List.getD v0_0 (0 + (Int.toNat v1)) (((0 : Int), []), (⟨Array.empty⟩ : ByteArray))).2, ()), (0 : Int), v93, ())) fun ((r13, r14, _), r15, _) =>
          some (((List.take (List.length r13) (List.drop 0 r13)), r14, ()), r15, ())
  else
    none
theorem impl_ElementsOf_at5_at52_eq : inlStep f69.ntmps 62 52 E25_at5_at52 L25_at5_at52_1 f69.results.toList (codeOf f69) shi25_at5_at52 sho25_at5_at52 = impl_ElementsOf_at5_at52 := by kernel_rfl
noncomputable def I25_at5_at52 : CallD := ⟨f69.ntmps, shi25_at5_at52, 62, sho25_at5_at52, impl_ElementsOf_at5_at52⟩
theorem I25_at5_at52_ok : InlOk prog 52 69 I25_at5_at52 := inlOk_of (tysOk_of tyl_ok) E25_at5_at52_ok (L := L25_at5_at52_1) func69 (by kernel_rfl) (c := codeOf f69) (by kernel_rfl) (codeOk_in (L := L25_at5_at52_1) (tysOk_of tyl_ok) E25_at5_at52_ok mixed (c := codeOf f69) (bs := [loopOf f69 5]) (by kernel_rfl) (allCons (loop25_at5_at52_5 rfl) allNil) (by kernel_rfl)) (by kernel_rfl) (by kernel_rfl) impl_ElementsOf_at5_at52_eq
noncomputable def E25_at5 : Env := ⟨ty0, fun g => ifEq g 30 (some A30) (ifEq g 22 (some A22) (ifEq g 110 (some A110) (ifEq g 111 (some A111) (ifEq g 23 (some A23) (ifEq g 71 (some A71) (none)))))), fun _ => none, fun _ => none, fun d => ifI (Nat.beq d 32) (some (70, I25_at5_at32)) (ifI (Nat.beq d 52) (some (69, I25_at5_at52)) (none))⟩
theorem E25_at5_ok : FnsOk prog E25_at5 := (oneIl (d0 := 32) (g0 := 70) I25_at5_at32_ok (oneIl (d0 := 52) (g0 := 69) I25_at5_at52_ok (oneFn A30_ok func30 (by kernel_rfl) (by kernel_rfl) (oneFn A22_ok func22 (by kernel_rfl) (by kernel_rfl) (oneFn A110_ok func110 (by kernel_rfl) (by kernel_rfl) (oneFn A111_ok func111 (by kernel_rfl) (by kernel_rfl) (oneFn A23_ok func23 (by kernel_rfl) (by kernel_rfl) (oneFn A71_ok func71 (by kernel_rfl) (by kernel_rfl) (noFns _ _)))))))))
noncomputable def L25_at5_0 : Nat → Option LoopD := fun _ => none
def sh25_at5_5 : List Fm := [d, .fnv 69, .box 100200 [.val (.int .i64), .val (.sl (.int .i64)), .val (.sl (.int .i64)), .val (.sl (.pair (.int .i64) (.pair .str (.pair (.int .i64) (.int .i64)))))], d, d, d, .box 100600 [.own (.pair (.pair (.int .i64) (.sl (.int .i64))) .str) 100601 false, .val .bool], d, d, d, d, d, d, d, d, d, d, .cell (.own .str 101700 false), .cell (.val (.int .i64)), .cell (.val (.int .i64)), d, d, d, d, d, d, d, d, d, d, d, d, d, d, d, d, d, d, d, d, d, d, d, d, d, d, d, d, d, d, d, d, d, d, d, d, d, d, d, d, d, d, d, d, d, d, d, d, d, d]
def xs25_at5_5 : List (Ex × List Fm) := [(.exit 0, [d, .fnv 69, d, d, d, d, .box 100600 [.own (.pair (.pair (.int .i64) (.sl (.int .i64))) .str) 100601 false, .val .bool], d, d, d, d, d, d, d, d, d, d, d, d, d, d, d, d, d, d, d, d, d, d, d, d, d, d, d, d, d, d, d, d, d, d, d, d, d, d, d, d, d, d, d, d, d, d, d, d, d, d, d, d, d, d, d, d, d, d, d, d, d, d, d])]
noncomputable def impl_ElementsOf_at5_l5 : ((Int × (List Int) × (List Int) × (List (Int × (ByteArray × (Int × Int)))) × Unit) × ((List ((Int × (List Int)) × ByteArray)) × Bool × Unit) × (List ByteArray) × Int × Int × Unit) → Option (((Int × (List Int) × (List Int) × (List (Int × (ByteArray × (Int × Int)))) × Unit) × ((List ((Int × (List Int)) × ByteArray)) × Bool × Unit) × (List ByteArray) × Int × Int × Unit) ⊕ ((((List ((Int × (List Int)) × ByteArray)) × Bool × Unit) × Unit))) := fun ((v2_0, v2_1, v2_2, v2_3, _), (v6_0, v6_1, _), v17, v18, v19, _) =>
  bif (decide (v19 < v18)) then
    if (((0 : Int) ≤ v19) ∧ (v19 < (((List.length v17) : Nat) : Int))) then
      Option.bind (impl_ValueOf (v2_0, v2_1, v2_2, v2_3) (List.getD v17 (0 + (Int.toNat v19)) (⟨Array.empty⟩ : ByteArray))) fun ((r0, r1), r2) =>
        Option.bind (impl_ElementsOf_at5_at32 (((List.take (List.length v6_0) (List.drop 0 v6_0)), v6_1, ()), (r0, (List.take (List.length r1) (List.drop 0 r1)), ()), (List.getD v17 (0 + (Int.toNat v19)) (⟨Array.empty⟩ : ByteArray)), (v2_0, v2_1, v2_2, v2_3, ()), (List.take (List.length v17) (List.drop 0 v17)), v18, v19, ())) fun ((r3, r4, r5, r6, _), (r7, r8, _), r9, r10, r11, _) =>
          some (Sum.inl ((r3, r4, r5, r6, ()), ((List.take (List.length r7) (List.drop 0 r7)), r8, ()), (List.take (List.length r9) (List.drop 0 r9)), r10, (IntKind.wrap .i64 (r11 + (1 : Int))), ()))
    else
      none
  else
    some (Sum.inr (((List.take (List.length v6_0) (List.drop 0 v6_0)), v6_1, ()), ()))
theorem impl_ElementsOf_at5_l5_eq : loopStep 62 E25_at5 L25_at5_0 (loopOf f68 5) sh25_at5_5 xs25_at5_5 = impl_ElementsOf_at5_l5 := by kernel_rfl
theorem loop25_at5_5 {L : Nat → Option LoopD} (h : L 5 = some ⟨62, sh25_at5_5, xs25_at5_5, impl_ElementsOf_at5_l5⟩) : LoopOk prog L (loopOf f68 5) :=
  loopOk (tysOk_of tyl_ok) E25_at5_ok (codeOk_in (L := L25_at5_0) (tysOk_of tyl_ok) E25_at5_ok mixed (c := loopOf f68 5) (bs := []) (by kernel_rfl) allNil (by kernel_rfl)) (by kernel_rfl) (by kernel_rfl) impl_ElementsOf_at5_l5_eq (by rw [show firstId (loopOf f68 5) = 5 from by kernel_rfl]; exact h)
noncomputable def L25_at5_1 : Nat → Option LoopD := fun n => ifEq n 5 (some ⟨62, sh25_at5_5, xs25_at5_5, impl_ElementsOf_at5_l5⟩) (L25_at5_0 n)
def sh25_at5_11 : List Fm := [d, .fnv 69, d, d, d, d, .box 100600 [.own (.pair (.pair (.int .i64) (.sl (.int .i64))) .str) 100601 false, .val .bool], d, d, d, d, .cell (.val (.int .i64)), d, d, d, d, d, d, d, d, d, d, d, d, d, d, d, d, d, d, d, d, d, d, d, d, d, d, d, d, d, d, d, d, d, d, d, d, d, d, d, d, d, d, d, d, d, d, d, d, d, d, d, d, d, d, d, d, d, d]
def xs25_at5_11 : List (Ex × List Fm) := [(.exit 2, [d, d, d, d, d, d, .box 100600 [.own (.pair (.pair (.int .i64) (.sl (.int .i64))) .str) 100601 false, .val .bool], d, d, d, d, d, d, d, d, d, d, d, d, d, d, d, d, d, d, d, d, d, d, d, d, d, d, d, d, d, d, d, d, d, d, d, d, d, d, d, d, d, d, d, d, d, d, d, d, d, d, d, d, d, d, d, d, d, d, d, d, d, d, d])]
noncomputable def impl_ElementsOf_at5_l11 : (((List ((Int × (List Int)) × ByteArray)) × Bool × Unit) × Int × Unit) → Option ((((List ((Int × (List Int)) × ByteArray)) × Bool × Unit) × Int × Unit) ⊕ ((((List ((Int × (List Int)) × ByteArray)) × Bool × Unit) × Unit))) := fun ((v6_0, v6_1, _), v11, _) =>
  bif (decide (v11 < (((List.length v6_0) : Nat) : Int))) then
    bif v6_1 then
      Option.bind (impl_ElementsOf_at5_at52 (((List.take (List.length v6_0) (List.drop 0 v6_0)), v6_1, ()), v11, v11, ())) fun ((r0, r1, _), r2, _) =>
        some (Sum.inl (((List.take (List.length r0) (List.drop 0 r0)), r1, ()), (IntKind.wrap .i64 (r2 + (1 : Int))), ()))
    else
      some (Sum.inr (((List.take (List.length v6_0) (List.drop 0 v6_0)), v6_1, ()), ()))
  else
    some (Sum.inr (((List.take (List.length v6_0) (List.drop 0 v6_0)), v6_1, ()), ()))
theorem impl_ElementsOf_at5_l11_eq : loopStep 62 E25_at5 L25_at5_1 (loopOf f68 11) sh25_at5_11 xs25_at5_11 = impl_ElementsOf_at5_l11 := by kernel_rfl
theorem loop25_at5_11 {L : Nat → Option LoopD} (h : L 11 = some ⟨62, sh25_at5_11, xs25_at5_11, impl_ElementsOf_at5_l11⟩) : LoopOk prog L (loopOf f68 11) :=
  loopOk (tysOk_of tyl_ok) E25_at5_ok (codeOk_in (L := L25_at5_1) (tysOk_of tyl_ok) E25_at5_ok mixed (c := loopOf f68 11) (bs := []) (by kernel_rfl) allNil (by kernel_rfl)) (by kernel_rfl) (by kernel_rfl) impl_ElementsOf_at5_l11_eq (by rw [show firstId (loopOf f68 11) = 11 from by kernel_rfl]; exact h)
noncomputable def L25_at5_2 : Nat → Option LoopD := fun n => ifEq n 11 (some ⟨62, sh25_at5_11, xs25_at5_11, impl_ElementsOf_at5_l11⟩) (L25_at5_1 n)
def shi25_at5 : List Fm := [.cell (.val (.pair (.int .i64) (.pair (.sl (.int .i64)) (.pair (.sl (.int .i64)) (.sl (.pair (.int .i64) (.pair .str (.pair (.int .i64) (.int .i64))))))))), .fnv 69, d, d, d, d, d, d, d, d, d, d, d, d, d, d, d, d, d, d, d, d, d, d, d, d, d, d, d, d, d, d, d, d, d, d, d, d, d, d, d, d, d, d, d, d, d, d, d, d, d, d, d, d, d, d, d, d, d, d, d, d, d, d, d, d, d, d, d, d]
def sho25_at5 : List Fm := [d, d, d, d, d, .tup [.own (.pair (.pair (.int .i64) (.sl (.int .i64))) .str) 100501 false, .val .bool], d, d]
noncomputable def impl_ElementsOf_at5 : ((Int × ((List Int) × ((List Int) × (List (Int × (ByteArray × (Int × Int))))))) × Unit) → Option (((List ((Int × (List Int)) × ByteArray)) × Bool × Unit) × Unit) := fun ((v0_0, v0_1, v0_2, v0_3), _) =>
  Option.bind (impl_AutomatonValid (v0_0, v0_1, v0_2, v0_3)) fun r0 =>
    bif (!r0) then
      some (([], false, ()), ())
    else
      Option.bind (loopF impl_ElementsOf_at5_l5 ((v0_0, v0_1, v0_2, v0_3, ()), ([], true, ()), (List.take 2 (List.drop 0 [(⟨#[(97 : UInt8)]⟩ : ByteArray), (⟨#[(98 : UInt8)]⟩ : ByteArray)])), ((2 : Nat) : Int), (0 : Int), ())) fun ((r1, r2, _), _) =>
        Option.bind (loopF impl_ElementsOf_at5_l11 (((List.take (List.length r1) (List.drop 0 r1)), r2, ()), (0 : Int), ())) fun ((r3, r4, _), _) =>
          bif (!r4) then
            some (([], false, ()), ())
          else
            some (((List.take (List.length r3) (List.drop 0 r3)), true, ()), ())
theorem impl_ElementsOf_at5_eq : inlStep f68.ntmps 8 5 E25_at5 L25_at5_2 f68.results.toList (codeOf f68) shi25_at5 sho25_at5 = impl_ElementsOf_at5 := by kernel_rfl
noncomputable def I25_at5 : CallD := ⟨f68.ntmps, shi25_at5, 8, sho25_at5, impl_ElementsOf_at5⟩
theorem I25_at5_ok : InlOk prog 5 68 I25_at5 := inlOk_of (tysOk_of tyl_ok) E25_at5_ok (L := L25_at5_2) func68 (by kernel_rfl) (c := codeOf f68) (by kernel_rfl) (codeOk_in (L := L25_at5_2) (tysOk_of tyl_ok) E25_at5_ok mixed (c := codeOf f68) (bs := [loopOf f68 5, loopOf f68 11]) (by kernel_rfl) (allCons (loop25_at5_5 rfl) (allCons (loop25_at5_11 rfl) allNil)) (by kernel_rfl)) (by kernel_rfl) (by kernel_rfl) impl_ElementsOf_at5_eq
noncomputable def E25 : Env := ⟨ty0, fun g => ifEq g 30 (some A30) (ifEq g 22 (some A22) (ifEq g 110 (some A110) (ifEq g 111 (some A111) (ifEq g 23 (some A23) (ifEq g 71 (some A71) (none)))))), fun _ => none, fun _ => none, fun d => ifI (Nat.beq d 5) (some (68, I25_at5)) (none)⟩
theorem E25_ok : FnsOk prog E25 := (oneIl (d0 := 5) (g0 := 68) I25_at5_ok (oneFn A30_ok func30 (by kernel_rfl) (by kernel_rfl) (oneFn A22_ok func22 (by kernel_rfl) (by kernel_rfl) (oneFn A110_ok func110 (by kernel_rfl) (by kernel_rfl) (oneFn A111_ok func111 (by kernel_rfl) (by kernel_rfl) (oneFn A23_ok func23 (by kernel_rfl) (by kernel_rfl) (oneFn A71_ok func71 (by kernel_rfl) (by kernel_rfl) (noFns _ _))))))))
noncomputable def L25_0 : Nat → Option LoopD := fun _ => none
noncomputable def impl_ElementsOf : (Int × ((List Int) × ((List Int) × (List (Int × (ByteArray × (Int × Int))))))) → Option ((List ((Int × (List Int)) × ByteArray)) × Bool) := fun (a0_0, a0_1, a0_2, a0_3) =>
  Option.bind (impl_ElementsOf_at5 ((a0_0, a0_1, a0_2, a0_3), ())) fun ((r0, r1, _), _) =>
    some ((List.take (List.length r0) (List.drop 0 r0)), r1)
noncomputable def A25 : FnA := ⟨[.v (.pair (.int .i64) (.pair (.sl (.int .i64)) (.pair (.sl (.int .i64)) (.sl (.pair (.int .i64) (.pair .str (.pair (.int .i64) (.int .i64))))))))], true, [.sl (.pair (.pair (.int .i64) (.sl (.int .i64))) .str), .bool], fun x => impl_ElementsOf x.1⟩
theorem impl_ElementsOf_eq : fnF E25 L25_0 [.v (.pair (.int .i64) (.pair (.sl (.int .i64)) (.pair (.sl (.int .i64)) (.sl (.pair (.int .i64) (.pair .str (.pair (.int .i64) (.int .i64))))))))] true [.sl (.pair (.pair (.int .i64) (.sl (.int .i64))) .str), .bool] f25.ntmps f25.results.toList (codeOf f25) = fun x => impl_ElementsOf x.1 := by kernel_rfl
theorem A25_ok : FnOk prog 25 A25 := by
  have h := fnOk_of_run (P := prog) (E := E25) (tysOk_of tyl_ok) E25_ok (L := L25_0) (ps := [.v (.pair (.int .i64) (.pair (.sl (.int .i64)) (.pair (.sl (.int .i64)) (.sl (.pair (.int .i64) (.pair .str (.pair (.int .i64) (.int .i64))))))))]) (own := true) (outs := [.sl (.pair (.pair (.int .i64) (.sl (.int .i64))) .str), .bool]) func25 (c := codeOf f25) (by kernel_rfl) (codeOk_in (L := L25_0) (tysOk_of tyl_ok) E25_ok mixed (c := codeOf f25) (bs := []) (by kernel_rfl) allNil (by kernel_rfl))
  rw [impl_ElementsOf_eq] at h
  exact h
/-! impl.firstWith -/
noncomputable def E82 : Env := ⟨ty0, fun g => ifEq g 25 (some A25) (none), fun _ => none, fun _ => none, fun _ => none⟩
theorem E82_ok : FnsOk prog E82 := (oneFn A25_ok func25 (by kernel_rfl) (by kernel_rfl) (noFns _ _))
noncomputable def L82_0 : Nat → Option LoopD := fun _ => none
def sh82_3 : List Fm := [d, .clo [.pair (.int .i64) (.sl (.int .i64))] .bool, d, d, d, d, d, d, d, d, d, d, d, d, d, .cell (.own (.pair (.pair (.int .i64) (.sl (.int .i64))) .str) 101500 false), .cell (.val (.int .i64)), .cell (.val (.int .i64)), d, d, d, d, d, d, d, d, d, d]
def xs82_3 : List (Ex × List Fm) := [(.ret, [d, d, d, d, .cell (.val .str), .cell (.val .bool), d, d, d, d, d, d, d, d, d, d, d, d, d, d, d, d, d, d, d, d, d, d]), (.exit 0, [d, d, d, d, d, d, d, d, d, d, d, d, d, d, d, d, d, d, d, d, d, d, d, d, d, d, d, d])]
noncomputable def impl_firstWith_l3 : ((((Int × (List Int)) × Unit) → Option (Bool)) × (List ((Int × (List Int)) × ByteArray)) × Int × Int × Unit) → Option (((((Int × (List Int)) × Unit) → Option (Bool)) × (List ((Int × (List Int)) × ByteArray)) × Int × Int × Unit) ⊕ ((ByteArray × Bool × Unit) ⊕ (Unit))) := fun (v1, v15, v16, v17, _) =>
  bif (decide (v17 < v16)) then
    if (((0 : Int) ≤ v17) ∧ (v17 < (((List.length v15) : Nat) : Int))) then
      Option.bind (v1 (((List.getD v15 (0 + (Int.toNat v17)) (((0 : Int), []), (⟨Array.empty⟩ : ByteArray))).1.1, (List.getD v15 (0 + (Int.toNat v17)) (((0 : Int), []), (⟨Array.empty⟩ : ByteArray))).1.2), ())) fun r0 =>
        bif r0 then
          some (Sum.inr (Sum.inl ((List.getD v15 (0 + (Int.toNat v17)) (((0 : Int), []), (⟨Array.empty⟩ : ByteArray))).2, true, ())))
        else
          some (Sum.inl (v1, (List.take (List.length v15) (List.drop 0 v15)), v16, (IntKind.wrap .i64 (v17 + (1 : Int))), ()))
    else
      none
  else
    some (Sum.inr (Sum.inr ()))
theorem impl_firstWith_l3_eq : loopStep 28 E82 L82_0 (loopOf f82 3) sh82_3 xs82_3 = impl_firstWith_l3 := by kernel_rfl
theorem loop82_3 {L : Nat → Option LoopD} (h : L 3 = some ⟨28, sh82_3, xs82_3, impl_firstWith_l3⟩) : LoopOk prog L (loopOf f82 3) :=
  loopOk (tysOk_of tyl_ok) E82_ok (codeOk_in (L := L82_0) (tysOk_of tyl_ok) E82_ok mixed (c := loopOf f82 3) (bs := []) (by kernel_rfl) allNil (by kernel_rfl)) (by kernel_rfl) (by kernel_rfl) impl_firstWith_l3_eq (by rw [show firstId (loopOf f82 3) = 3 from by kernel_rfl]; exact h)
noncomputable def L82_1 : Nat → Option LoopD := fun n => ifEq n 3 (some ⟨28, sh82_3, xs82_3, impl_firstWith_l3⟩) (L82_0 n)
noncomputable def impl_firstWith : (Int × ((List Int) × ((List Int) × (List (Int × (ByteArray × (Int × Int))))))) → (((Int × (List Int)) × Unit) → Option (Bool)) → Option (ByteArray × Bool) := fun (a0_0, a0_1, a0_2, a0_3) a1 =>
  Option.bind (impl_ElementsOf (a0_0, a0_1, a0_2, a0_3)) fun (r0, r1) =>
    Option.bind (loopF impl_firstWith_l3 (a1, (List.take (List.length r0) (List.drop 0 r0)), (((List.length r0) : Nat) : Int), (0 : Int), ())) fun r2 =>
      (match r2 with
      | .inl (d3, d4, _) =>
          some (d3, d4)
      | .inr _ =>
          some ((⟨#[]⟩ : ByteArray), false))
noncomputable def A82 : FnA := ⟨[.v (.pair (.int .i64) (.pair (.sl (.int .i64)) (.pair (.sl (.int .i64)) (.sl (.pair (.int .i64) (.pair .str (.pair (.int .i64) (.int .i64)))))))), .clo [.pair (.int .i64) (.sl (.int .i64))] .bool], true, [.str, .bool], fun x => impl_firstWith x.1 x.2.1⟩
theorem impl_firstWith_eq : fnF E82 L82_1 [.v (.pair (.int .i64) (.pair (.sl (.int .i64)) (.pair (.sl (.int .i64)) (.sl (.pair (.int .i64) (.pair .str (.pair (.int .i64) (.int .i64)))))))), .clo [.pair (.int .i64) (.sl (.int .i64))] .bool] true [.str, .bool] f82.ntmps f82.results.toList (codeOf f82) = fun x => impl_firstWith x.1 x.2.1 := by kernel_rfl
theorem A82_ok : FnOk prog 82 A82 := by
  have h := fnOk_of_run (P := prog) (E := E82) (tysOk_of tyl_ok) E82_ok (L := L82_1) (ps := [.v (.pair (.int .i64) (.pair (.sl (.int .i64)) (.pair (.sl (.int .i64)) (.sl (.pair (.int .i64) (.pair .str (.pair (.int .i64) (.int .i64)))))))), .clo [.pair (.int .i64) (.sl (.int .i64))] .bool]) (own := true) (outs := [.str, .bool]) func82 (c := codeOf f82) (by kernel_rfl) (codeOk_in (L := L82_1) (tysOk_of tyl_ok) E82_ok mixed (c := codeOf f82) (bs := [loopOf f82 3]) (by kernel_rfl) (allCons (loop82_3 rfl) allNil) (by kernel_rfl))
  rw [impl_firstWith_eq] at h
  exact h
/-! impl.GradeBetween -/
noncomputable def E50 : Env := ⟨ty0, fun g => ifEq g 30 (some A30) (ifEq g 97 (some A97) (ifEq g 67 (some A67) (none))), fun _ => none, fun _ => none, fun _ => none⟩
theorem E50_ok : FnsOk prog E50 := (oneFn A30_ok func30 (by kernel_rfl) (by kernel_rfl) (oneFn A97_ok func97 (by kernel_rfl) (by kernel_rfl) (oneFn A67_ok func67 (by kernel_rfl) (by kernel_rfl) (noFns _ _))))
noncomputable def L50_0 : Nat → Option LoopD := fun _ => none
def sh50_8 : List Fm := [d, d, .box 100200 [.val (.int .i64), .val (.sl (.int .i64)), .val (.sl (.int .i64)), .val (.sl (.pair (.int .i64) (.pair .str (.pair (.int .i64) (.int .i64)))))], .box 100300 [.val (.int .i64), .val (.sl (.int .i64))], d, .cell (.val (.int .i64)), d, .cell (.val (.int .i64)), d, d, d, d, d, d, d, d, d, d, d, d, d, d, d, d, d, d, .cell (.val (.sl (.int .i64))), .cell (.val (.int .i64)), .cell (.val (.int .i64)), d, d, d, d, .cell (.val (.sl (.int .i64))), .cell (.val (.int .i64)), .cell (.val (.int .i64)), d, d, d, d, d, d, d, d, d, d, d, d]
def xs50_8 : List (Ex × List Fm) := [(.exit 2, [d, d, .box 100200 [.val (.int .i64), .val (.sl (.int .i64)), .val (.sl (.int .i64)), .val (.sl (.pair (.int .i64) (.pair .str (.pair (.int .i64) (.int .i64)))))], .box 100300 [.val (.int .i64), .val (.sl (.int .i64))], d, .cell (.val (.int .i64)), d, d, d, d, d, d, d, d, d, d, d, d, d, d, d, d, d, d, d, d, .cell (.val (.sl (.int .i64))), .cell (.val (.int .i64)), .cell (.val (.int .i64)), d, d, d, d, d, d, d, d, d, d, d, d, d, d, d, d, d, d, d])]
noncomputable def impl_GradeBetween_l8 : ((Int × (List Int) × (List Int) × (List (Int × (ByteArray × (Int × Int)))) × Unit) × (Int × (List Int) × Unit) × Int × Int × (List Int) × Int × Int × (List Int) × Int × Int × Unit) → Option (((Int × (List Int) × (List Int) × (List (Int × (ByteArray × (Int × Int)))) × Unit) × (Int × (List Int) × Unit) × Int × Int × (List Int) × Int × Int × (List Int) × Int × Int × Unit) ⊕ (((Int × (List Int) × (List Int) × (List (Int × (ByteArray × (Int × Int)))) × Unit) × (Int × (List Int) × Unit) × Int × (List Int) × Int × Int × Unit))) := fun ((v2_0, v2_1, v2_2, v2_3, _), (v3_0, v3_1, _), v5, v7, v26, v27, v28, v33, v34, v35, _) =>
  bif (decide (v35 < v34)) then
    if (((0 : Int) ≤ v35) ∧ (v35 < (((List.length v33) : Nat) : Int))) then
      Option.bind (impl_Matrix_at (v3_0, v3_1) v7 (List.getD v33 (Int.toNat v35) (0 : Int))) fun r0 =>
        some (Sum.inl ((v2_0, v2_1, v2_2, v2_3, ()), (v3_0, v3_1, ()), (if (r0 < v5) then r0 else v5), v7, v26, v27, v28, v33, v34, (IntKind.wrap .i64 (v35 + (1 : Int))), ()))
    else
      none
  else
    some (Sum.inr ((v2_0, v2_1, v2_2, v2_3, ()), (v3_0, v3_1, ()), v5, v26, v27, v28, ()))
theorem impl_GradeBetween_l8_eq : loopStep 48 E50 L50_0 (loopOf f50 8) sh50_8 xs50_8 = impl_GradeBetween_l8 := by kernel_rfl
theorem loop50_8 {L : Nat → Option LoopD} (h : L 8 = some ⟨48, sh50_8, xs50_8, impl_GradeBetween_l8⟩) : LoopOk prog L (loopOf f50 8) :=
  loopOk (tysOk_of tyl_ok) E50_ok (codeOk_in (L := L50_0) (tysOk_of tyl_ok) E50_ok mixed (c := loopOf f50 8) (bs := []) (by kernel_rfl) allNil (by kernel_rfl)) (by kernel_rfl) (by kernel_rfl) impl_GradeBetween_l8_eq (by rw [show firstId (loopOf f50 8) = 8 from by kernel_rfl]; exact h)
noncomputable def L50_1 : Nat → Option LoopD := fun n => ifEq n 8 (some ⟨48, sh50_8, xs50_8, impl_GradeBetween_l8⟩) (L50_0 n)
def sh50_5 : List Fm := [d, d, .box 100200 [.val (.int .i64), .val (.sl (.int .i64)), .val (.sl (.int .i64)), .val (.sl (.pair (.int .i64) (.pair .str (.pair (.int .i64) (.int .i64)))))], .box 100300 [.val (.int .i64), .val (.sl (.int .i64))], d, .cell (.val (.int .i64)), d, d, d, d, d, d, d, d, d, d, d, d, d, d, d, d, d, d, d, d, .cell (.val (.sl (.int .i64))), .cell (.val (.int .i64)), .cell (.val (.int .i64)), d, d, d, d, d, d, d, d, d, d, d, d, d, d, d, d, d, d, d]
def xs50_5 : List (Ex × List Fm) := [(.exit 0, [d, d, d, d, d, .cell (.val (.int .i64)), d, d, d, d, d, d, d, d, d, d, d, d, d, d, d, d, d, d, d, d, d, d, d, d, d, d, d, d, d, d, d, d, d, d, d, d, d, d, d, d, d, d])]
noncomputable def impl_GradeBetween_l5 : ((Int × (List Int) × (List Int) × (List (Int × (ByteArray × (Int × Int)))) × Unit) × (Int × (List Int) × Unit) × Int × (List Int) × Int × Int × Unit) → Option (((Int × (List Int) × (List Int) × (List (Int × (ByteArray × (Int × Int)))) × Unit) × (Int × (List Int) × Unit) × Int × (List Int) × Int × Int × Unit) ⊕ ((Int × Unit))) := fun ((v2_0, v2_1, v2_2, v2_3, _), (v3_0, v3_1, _), v5, v26, v27, v28, _) =>
  bif (decide (v28 < v27)) then
    if (((0 : Int) ≤ v28) ∧ (v28 < (((List.length v26) : Nat) : Int))) then
      Option.bind (loopF impl_GradeBetween_l8 ((v2_0, v2_1, v2_2, v2_3, ()), (v3_0, v3_1, ()), v5, (List.getD v26 (Int.toNat v28) (0 : Int)), v26, v27, v28, v2_2, (((List.length v2_2) : Nat) : Int), (0 : Int), ())) fun ((r0, r1, r2, r3, _), (r4, r5, _), r6, r7, r8, r9, _) =>
        some (Sum.inl ((r0, r1, r2, r3, ()), (r4, r5, ()), r6, r7, r8, (IntKind.wrap .i64 (r9 + (1 : Int))), ()))
    else
      none
  else
    some (Sum.inr (v5, ()))
theorem impl_GradeBetween_l5_eq : loopStep 48 E50 L50_1 (loopOf f50 5) sh50_5 xs50_5 = impl_GradeBetween_l5 := by kernel_rfl
theorem loop50_5 {L : Nat → Option LoopD} (h : L 5 = some ⟨48, sh50_5, xs50_5, impl_GradeBetween_l5⟩) : LoopOk prog L (loopOf f50 5) :=
  loopOk (tysOk_of tyl_ok) E50_ok (codeOk_in (L := L50_1) (tysOk_of tyl_ok) E50_ok mixed (c := loopOf f50 5) (bs := [loopOf f50 8]) (by kernel_rfl) (allCons (loop50_8 rfl) allNil) (by kernel_rfl)) (by kernel_rfl) (by kernel_rfl) impl_GradeBetween_l5_eq (by rw [show firstId (loopOf f50 5) = 5 from by kernel_rfl]; exact h)
noncomputable def L50_2 : Nat → Option LoopD := fun n => ifEq n 5 (some ⟨48, sh50_5, xs50_5, impl_GradeBetween_l5⟩) (L50_1 n)
noncomputable def impl_GradeBetween : (Int × ((List Int) × ((List Int) × (List (Int × (ByteArray × (Int × Int))))))) → (Int × (List Int)) → Option (Int) := fun (a0_0, a0_1, a0_2, a0_3) (a1_0, a1_1) =>
  Option.bind (impl_AutomatonValid (a0_0, a0_1, a0_2, a0_3)) fun r0 =>
    bif (!r0) then
      some (-1 : Int)
    else
      Option.bind (impl_GradesValid (a1_0, a1_1)) fun r1 =>
        bif (!r1) then
          some (-1 : Int)
        else
          bif (a1_0 != a0_0) then
            some (-1 : Int)
          else
            Option.bind (loopF impl_GradeBetween_l5 ((a0_0, a0_1, a0_2, a0_3, ()), (a1_0, a1_1, ()), (3 : Int), a0_1, (((List.length a0_1) : Nat) : Int), (0 : Int), ())) fun (r2, _) =>
              some r2
noncomputable def A50 : FnA := ⟨[.v (.pair (.int .i64) (.pair (.sl (.int .i64)) (.pair (.sl (.int .i64)) (.sl (.pair (.int .i64) (.pair .str (.pair (.int .i64) (.int .i64)))))))), .v (.pair (.int .i64) (.sl (.int .i64)))], true, [.int .i64], fun x => impl_GradeBetween x.1 x.2.1⟩
theorem impl_GradeBetween_eq : fnF E50 L50_2 [.v (.pair (.int .i64) (.pair (.sl (.int .i64)) (.pair (.sl (.int .i64)) (.sl (.pair (.int .i64) (.pair .str (.pair (.int .i64) (.int .i64)))))))), .v (.pair (.int .i64) (.sl (.int .i64)))] true [.int .i64] f50.ntmps f50.results.toList (codeOf f50) = fun x => impl_GradeBetween x.1 x.2.1 := by kernel_rfl
theorem A50_ok : FnOk prog 50 A50 := by
  have h := fnOk_of_run (P := prog) (E := E50) (tysOk_of tyl_ok) E50_ok (L := L50_2) (ps := [.v (.pair (.int .i64) (.pair (.sl (.int .i64)) (.pair (.sl (.int .i64)) (.sl (.pair (.int .i64) (.pair .str (.pair (.int .i64) (.int .i64)))))))), .v (.pair (.int .i64) (.sl (.int .i64)))]) (own := true) (outs := [.int .i64]) func50 (c := codeOf f50) (by kernel_rfl) (codeOk_in (L := L50_2) (tysOk_of tyl_ok) E50_ok mixed (c := codeOf f50) (bs := [loopOf f50 5]) (by kernel_rfl) (allCons (loop50_5 rfl) allNil) (by kernel_rfl))
  rw [impl_GradeBetween_eq] at h
  exact h
/-! impl.GrowingOf$1 -/
noncomputable def E83 : Env := ⟨ty0, fun g => ifEq g 50 (some A50) (none), fun _ => none, fun _ => none, fun _ => none⟩
theorem E83_ok : FnsOk prog E83 := (oneFn A50_ok func50 (by kernel_rfl) (by kernel_rfl) (noFns _ _))
noncomputable def L83_0 : Nat → Option LoopD := fun _ => none
noncomputable def impl_GrowingOf_1 : (Int × (List Int)) → (Int × ((List Int) × ((List Int) × (List (Int × (ByteArray × (Int × Int))))))) → Option (Bool) := fun (a0_0, a0_1) (a1_0, a1_1, a1_2, a1_3) =>
  Option.bind (impl_GradeBetween (a1_0, a1_1, a1_2, a1_3) (a0_0, a0_1)) fun r0 =>
    some (r0 == (2 : Int))
noncomputable def A83 : FnA := ⟨[.v (.pair (.int .i64) (.sl (.int .i64))), .cap (.pair (.int .i64) (.pair (.sl (.int .i64)) (.pair (.sl (.int .i64)) (.sl (.pair (.int .i64) (.pair .str (.pair (.int .i64) (.int .i64))))))))], true, [.bool], fun x => impl_GrowingOf_1 x.1 x.2.1⟩
theorem impl_GrowingOf_1_eq : fnF E83 L83_0 [.v (.pair (.int .i64) (.sl (.int .i64))), .cap (.pair (.int .i64) (.pair (.sl (.int .i64)) (.pair (.sl (.int .i64)) (.sl (.pair (.int .i64) (.pair .str (.pair (.int .i64) (.int .i64))))))))] true [.bool] f83.ntmps f83.results.toList (codeOf f83) = fun x => impl_GrowingOf_1 x.1 x.2.1 := by kernel_rfl
theorem A83_ok : FnOk prog 83 A83 := by
  have h := fnOk_of_run (P := prog) (E := E83) (tysOk_of tyl_ok) E83_ok (L := L83_0) (ps := [.v (.pair (.int .i64) (.sl (.int .i64))), .cap (.pair (.int .i64) (.pair (.sl (.int .i64)) (.pair (.sl (.int .i64)) (.sl (.pair (.int .i64) (.pair .str (.pair (.int .i64) (.int .i64))))))))]) (own := true) (outs := [.bool]) func83 (c := codeOf f83) (by kernel_rfl) (codeOk_in (L := L83_0) (tysOk_of tyl_ok) E83_ok mixed (c := codeOf f83) (bs := []) (by kernel_rfl) allNil (by kernel_rfl))
  rw [impl_GrowingOf_1_eq] at h
  exact h
/-! impl.GrowingOf -/
noncomputable def E35 : Env := ⟨ty0, fun g => ifEq g 82 (some A82) (ifEq g 83 (some A83) (none)), fun _ => none, fun _ => none, fun _ => none⟩
theorem E35_ok : FnsOk prog E35 := (oneFn A82_ok func82 (by kernel_rfl) (by kernel_rfl) (oneFn A83_ok func83 (by kernel_rfl) (by kernel_rfl) (noFns _ _)))
noncomputable def L35_0 : Nat → Option LoopD := fun _ => none
noncomputable def impl_GrowingOf : (Int × ((List Int) × ((List Int) × (List (Int × (ByteArray × (Int × Int))))))) → Option (ByteArray × Bool) := fun (a0_0, a0_1, a0_2, a0_3) =>
  Option.bind (impl_firstWith (a0_0, a0_1, a0_2, a0_3) (fun y0 => (impl_GrowingOf_1 y0.1 (a0_0, a0_1, a0_2, a0_3)))) fun (r1, r2) =>
    some (r1, r2)
noncomputable def A35 : FnA := ⟨[.v (.pair (.int .i64) (.pair (.sl (.int .i64)) (.pair (.sl (.int .i64)) (.sl (.pair (.int .i64) (.pair .str (.pair (.int .i64) (.int .i64))))))))], true, [.str, .bool], fun x => impl_GrowingOf x.1⟩
theorem impl_GrowingOf_eq : fnF E35 L35_0 [.v (.pair (.int .i64) (.pair (.sl (.int .i64)) (.pair (.sl (.int .i64)) (.sl (.pair (.int .i64) (.pair .str (.pair (.int .i64) (.int .i64))))))))] true [.str, .bool] f35.ntmps f35.results.toList (codeOf f35) = fun x => impl_GrowingOf x.1 := by kernel_rfl
theorem A35_ok : FnOk prog 35 A35 := by
  have h := fnOk_of_run (P := prog) (E := E35) (tysOk_of tyl_ok) E35_ok (L := L35_0) (ps := [.v (.pair (.int .i64) (.pair (.sl (.int .i64)) (.pair (.sl (.int .i64)) (.sl (.pair (.int .i64) (.pair .str (.pair (.int .i64) (.int .i64))))))))]) (own := true) (outs := [.str, .bool]) func35 (c := codeOf f35) (by kernel_rfl) (codeOk_in (L := L35_0) (tysOk_of tyl_ok) E35_ok mixed (c := codeOf f35) (bs := []) (by kernel_rfl) allNil (by kernel_rfl))
  rw [impl_GrowingOf_eq] at h
  exact h
/-! impl.IsBounded -/
noncomputable def E34 : Env := ⟨ty0, fun g => ifEq g 25 (some A25) (ifEq g 35 (some A35) (none)), fun _ => none, fun _ => none, fun _ => none⟩
theorem E34_ok : FnsOk prog E34 := (oneFn A25_ok func25 (by kernel_rfl) (by kernel_rfl) (oneFn A35_ok func35 (by kernel_rfl) (by kernel_rfl) (noFns _ _)))
noncomputable def L34_0 : Nat → Option LoopD := fun _ => none
noncomputable def impl_IsBounded : (Int × ((List Int) × ((List Int) × (List (Int × (ByteArray × (Int × Int))))))) → Option (Bool × Bool) := fun (a0_0, a0_1, a0_2, a0_3) =>
  Option.bind (impl_ElementsOf (a0_0, a0_1, a0_2, a0_3)) fun (r0, r1) =>
    Option.bind (impl_GrowingOf (a0_0, a0_1, a0_2, a0_3)) fun (r2, r3) =>
      bif r1 then
        some ((!r3), r1)
      else
        some (false, r1)
noncomputable def A34 : FnA := ⟨[.v (.pair (.int .i64) (.pair (.sl (.int .i64)) (.pair (.sl (.int .i64)) (.sl (.pair (.int .i64) (.pair .str (.pair (.int .i64) (.int .i64))))))))], true, [.bool, .bool], fun x => impl_IsBounded x.1⟩
theorem impl_IsBounded_eq : fnF E34 L34_0 [.v (.pair (.int .i64) (.pair (.sl (.int .i64)) (.pair (.sl (.int .i64)) (.sl (.pair (.int .i64) (.pair .str (.pair (.int .i64) (.int .i64))))))))] true [.bool, .bool] f34.ntmps f34.results.toList (codeOf f34) = fun x => impl_IsBounded x.1 := by kernel_rfl
theorem A34_ok : FnOk prog 34 A34 := by
  have h := fnOk_of_run (P := prog) (E := E34) (tysOk_of tyl_ok) E34_ok (L := L34_0) (ps := [.v (.pair (.int .i64) (.pair (.sl (.int .i64)) (.pair (.sl (.int .i64)) (.sl (.pair (.int .i64) (.pair .str (.pair (.int .i64) (.int .i64))))))))]) (own := true) (outs := [.bool, .bool]) func34 (c := codeOf f34) (by kernel_rfl) (codeOk_in (L := L34_0) (tysOk_of tyl_ok) E34_ok mixed (c := codeOf f34) (bs := []) (by kernel_rfl) allNil (by kernel_rfl))
  rw [impl_IsBounded_eq] at h
  exact h
/-! impl.HasFinitePowers -/
noncomputable def E37 : Env := ⟨ty0, fun g => ifEq g 86 (some A86) (ifEq g 34 (some A34) (none)), fun _ => none, fun _ => none, fun _ => none⟩
theorem E37_ok : FnsOk prog E37 := (oneFn A86_ok func86 (by kernel_rfl) (by kernel_rfl) (oneFn A34_ok func34 (by kernel_rfl) (by kernel_rfl) (noFns _ _)))
noncomputable def L37_0 : Nat → Option LoopD := fun _ => none
noncomputable def impl_HasFinitePowers : (Int × ((List Int) × ((List Int) × (List (Int × (ByteArray × (Int × Int))))))) → Option (Bool × Bool) := fun (a0_0, a0_1, a0_2, a0_3) =>
  Option.bind (impl_PowerAutomaton (a0_0, a0_1, a0_2, a0_3)) fun ((r0, r1, r2, r3), r4) =>
    bif (!r4) then
      some (false, false)
    else
      Option.bind (impl_IsBounded (r0, (List.take (List.length r1) (List.drop 0 r1)), (List.take (List.length r2) (List.drop 0 r2)), (List.take (List.length r3) (List.drop 0 r3)))) fun (r5, r6) =>
        some (r5, r6)
noncomputable def A37 : FnA := ⟨[.v (.pair (.int .i64) (.pair (.sl (.int .i64)) (.pair (.sl (.int .i64)) (.sl (.pair (.int .i64) (.pair .str (.pair (.int .i64) (.int .i64))))))))], true, [.bool, .bool], fun x => impl_HasFinitePowers x.1⟩
theorem impl_HasFinitePowers_eq : fnF E37 L37_0 [.v (.pair (.int .i64) (.pair (.sl (.int .i64)) (.pair (.sl (.int .i64)) (.sl (.pair (.int .i64) (.pair .str (.pair (.int .i64) (.int .i64))))))))] true [.bool, .bool] f37.ntmps f37.results.toList (codeOf f37) = fun x => impl_HasFinitePowers x.1 := by kernel_rfl
theorem A37_ok : FnOk prog 37 A37 := by
  have h := fnOk_of_run (P := prog) (E := E37) (tysOk_of tyl_ok) E37_ok (L := L37_0) (ps := [.v (.pair (.int .i64) (.pair (.sl (.int .i64)) (.pair (.sl (.int .i64)) (.sl (.pair (.int .i64) (.pair .str (.pair (.int .i64) (.int .i64))))))))]) (own := true) (outs := [.bool, .bool]) func37 (c := codeOf f37) (by kernel_rfl) (codeOk_in (L := L37_0) (tysOk_of tyl_ok) E37_ok mixed (c := codeOf f37) (bs := []) (by kernel_rfl) allNil (by kernel_rfl))
  rw [impl_HasFinitePowers_eq] at h
  exact h
/-! laws.eqIntS -/
noncomputable def E13 : Env := ⟨ty0, fun _ => none, fun _ => none, fun _ => none, fun _ => none⟩
theorem E13_ok : FnsOk prog E13 := (noFns _ _)
noncomputable def L13_0 : Nat → Option LoopD := fun _ => none
def sh13_4 : List Fm := [.cell (.val (.sl (.int .i64))), .cell (.val (.sl (.int .i64))), d, d, d, .cell (.val (.int .i64)), d, d, d, d, d, d, d, d, d, d, d, d, d, d, d, d, d, d, d, d]
def xs13_4 : List (Ex × List Fm) := [(.ret, [d, d, d, d, .cell (.val .bool), d, d, d, d, d, d, d, d, d, d, d, d, d, d, d, d, d, d, d, d, d]), (.exit 0, [d, d, d, d, d, d, d, d, d, d, d, d, d, d, d, d, d, d, d, d, d, d, d, d, d, d])]
noncomputable def laws_eqIntS_l4 : ((List Int) × (List Int) × Int × Unit) → Option (((List Int) × (List Int) × Int × Unit) ⊕ ((Bool × Unit) ⊕ (Unit))) := fun (v0, v1, v5, _) =>
  bif (decide (v5 < (((List.length v0) : Nat) : Int))) then
    if (((0 : Int) ≤ v5) ∧ (v5 < (((List.length v0) : Nat) : Int))) then
      if (((0 : Int) ≤ v5) ∧ (v5 < (((List.length v1) : Nat) : Int))) then
        bif ((List.getD v0 (Int.toNat v5) (0 : Int)) != (List.getD v1 (Int.toNat v5) (0 : Int))) then
          some (Sum.inr (Sum.inl (false, ())))
        else
          some (Sum.inl (v0, v1, (IntKind.wrap .i64 (v5 + (1 : Int))), ()))
      else
        none
    else
      none
  else
    some (Sum.inr (Sum.inr ()))
theorem laws_eqIntS_l4_eq : loopStep 26 E13 L13_0 (loopOf f13 4) sh13_4 xs13_4 = laws_eqIntS_l4 := by kernel_rfl
theorem loop13_4 {L : Nat → Option LoopD} (h : L 4 = some ⟨26, sh13_4, xs13_4, laws_eqIntS_l4⟩) : LoopOk prog L (loopOf f13 4) :=
  loopOk (tysOk_of tyl_ok) E13_ok (codeOk_in (L := L13_0) (tysOk_of tyl_ok) E13_ok mixed (c := loopOf f13 4) (bs := []) (by kernel_rfl) allNil (by kernel_rfl)) (by kernel_rfl) (by kernel_rfl) laws_eqIntS_l4_eq (by rw [show firstId (loopOf f13 4) = 4 from by kernel_rfl]; exact h)
noncomputable def L13_1 : Nat → Option LoopD := fun n => ifEq n 4 (some ⟨26, sh13_4, xs13_4, laws_eqIntS_l4⟩) (L13_0 n)
noncomputable def laws_eqIntS : (List Int) → (List Int) → Option (Bool) := fun a0 a1 =>
  bif ((((List.length a0) : Nat) : Int) != (((List.length a1) : Nat) : Int)) then
    some false
  else
    Option.bind (loopF laws_eqIntS_l4 (a0, a1, (0 : Int), ())) fun r0 =>
      (match r0 with
      | .inl (d1, _) =>
          some d1
      | .inr _ =>
          some true)
noncomputable def A13 : FnA := ⟨[.v (.sl (.int .i64)), .v (.sl (.int .i64))], true, [.bool], fun x => laws_eqIntS x.1 x.2.1⟩
theorem laws_eqIntS_eq : fnF E13 L13_1 [.v (.sl (.int .i64)), .v (.sl (.int .i64))] true [.bool] f13.ntmps f13.results.toList (codeOf f13) = fun x => laws_eqIntS x.1 x.2.1 := by kernel_rfl
theorem A13_ok : FnOk prog 13 A13 := by
  have h := fnOk_of_run (P := prog) (E := E13) (tysOk_of tyl_ok) E13_ok (L := L13_1) (ps := [.v (.sl (.int .i64)), .v (.sl (.int .i64))]) (own := true) (outs := [.bool]) func13 (c := codeOf f13) (by kernel_rfl) (codeOk_in (L := L13_1) (tysOk_of tyl_ok) E13_ok mixed (c := codeOf f13) (bs := [loopOf f13 4]) (by kernel_rfl) (allCons (loop13_4 rfl) allNil) (by kernel_rfl))
  rw [laws_eqIntS_eq] at h
  exact h
/-! laws.eqStep -/
noncomputable def E100 : Env := ⟨ty0, fun _ => none, fun _ => none, fun _ => none, fun _ => none⟩
theorem E100_ok : FnsOk prog E100 := (noFns _ _)
noncomputable def L100_0 : Nat → Option LoopD := fun _ => none
noncomputable def laws_eqStep : (Int × (ByteArray × (Int × Int))) → (Int × (ByteArray × (Int × Int))) → Option (Bool) := fun (a0_0, a0_1, a0_2, a0_3) (a1_0, a1_1, a1_2, a1_3) =>
  bif (a0_0 != a1_0) then
    some false
  else
    bif (!((ByteArray.toList a0_1) == (ByteArray.toList a1_1))) then
      some false
    else
      bif (a0_2 != a1_2) then
        some false
      else
        bif (a0_3 != a1_3) then
          some false
        else
          some true
noncomputable def A100 : FnA := ⟨[.v (.pair (.int .i64) (.pair .str (.pair (.int .i64) (.int .i64)))), .v (.pair (.int .i64) (.pair .str (.pair (.int .i64) (.int .i64))))], true, [.bool], fun x => laws_eqStep x.1 x.2.1⟩
theorem laws_eqStep_eq : fnF E100 L100_0 [.v (.pair (.int .i64) (.pair .str (.pair (.int .i64) (.int .i64)))), .v (.pair (.int .i64) (.pair .str (.pair (.int .i64) (.int .i64))))] true [.bool] f100.ntmps f100.results.toList (codeOf f100) = fun x => laws_eqStep x.1 x.2.1 := by kernel_rfl
theorem A100_ok : FnOk prog 100 A100 := by
  have h := fnOk_of_run (P := prog) (E := E100) (tysOk_of tyl_ok) E100_ok (L := L100_0) (ps := [.v (.pair (.int .i64) (.pair .str (.pair (.int .i64) (.int .i64)))), .v (.pair (.int .i64) (.pair .str (.pair (.int .i64) (.int .i64))))]) (own := true) (outs := [.bool]) func100 (c := codeOf f100) (by kernel_rfl) (codeOk_in (L := L100_0) (tysOk_of tyl_ok) E100_ok mixed (c := codeOf f100) (bs := []) (by kernel_rfl) allNil (by kernel_rfl))
  rw [laws_eqStep_eq] at h
  exact h
/-! laws.eqStepS -/
noncomputable def E54 : Env := ⟨ty0, fun g => ifEq g 100 (some A100) (none), fun _ => none, fun _ => none, fun _ => none⟩
theorem E54_ok : FnsOk prog E54 := (oneFn A100_ok func100 (by kernel_rfl) (by kernel_rfl) (noFns _ _))
noncomputable def L54_0 : Nat → Option LoopD := fun _ => none
def sh54_4 : List Fm := [.cell (.val (.sl (.pair (.int .i64) (.pair .str (.pair (.int .i64) (.int .i64)))))), .cell (.val (.sl (.pair (.int .i64) (.pair .str (.pair (.int .i64) (.int .i64)))))), d, d, d, .cell (.val (.int .i64)), d, d, d, d, d, d, d, d, d, d, d, d, d, d, d, d, d, d, d, d, d]
def xs54_4 : List (Ex × List Fm) := [(.ret, [d, d, d, d, .cell (.val .bool), d, d, d, d, d, d, d, d, d, d, d, d, d, d, d, d, d, d, d, d, d, d]), (.exit 0, [d, d, d, d, d, d, d, d, d, d, d, d, d, d, d, d, d, d, d, d, d, d, d, d, d, d, d])]
noncomputable def laws_eqStepS_l4 : ((List (Int × (ByteArray × (Int × Int)))) × (List (Int × (ByteArray × (Int × Int)))) × Int × Unit) → Option (((List (Int × (ByteArray × (Int × Int)))) × (List (Int × (ByteArray × (Int × Int)))) × Int × Unit) ⊕ ((Bool × Unit) ⊕ (Unit))) := fun (v0, v1, v5, _) =>
  bif (decide (v5 < (((List.length v0) : Nat) : Int))) then
    if (((0 : Int) ≤ v5) ∧ (v5 < (((List.length v0) : Nat) : Int))) then
      if (((0 : Int) ≤ v5) ∧ (v5 < (((List.length v1) : Nat) : Int))) then
        Option.bind (laws_eqStep (List.getD v0 (Int.toNat v5) ((0 : Int), (⟨Array.empty⟩ : ByteArray), (0 : Int), (0 : Int))) (List.getD v1 (Int.toNat v5) ((0 : Int), (⟨Array.empty⟩ : ByteArray), (0 : Int), (0 : Int)))) fun r0 =>
          bif (!r0) then
            some (Sum.inr (Sum.inl (false, ())))
          else
            some (Sum.inl (v0, v1, (IntKind.wrap .i64 (v5 + (1 : Int))), ()))
      else
        none
    else
      none
  else
    some (Sum.inr (Sum.inr ()))
theorem laws_eqStepS_l4_eq : loopStep 27 E54 L54_0 (loopOf f54 4) sh54_4 xs54_4 = laws_eqStepS_l4 := by kernel_rfl
theorem loop54_4 {L : Nat → Option LoopD} (h : L 4 = some ⟨27, sh54_4, xs54_4, laws_eqStepS_l4⟩) : LoopOk prog L (loopOf f54 4) :=
  loopOk (tysOk_of tyl_ok) E54_ok (codeOk_in (L := L54_0) (tysOk_of tyl_ok) E54_ok mixed (c := loopOf f54 4) (bs := []) (by kernel_rfl) allNil (by kernel_rfl)) (by kernel_rfl) (by kernel_rfl) laws_eqStepS_l4_eq (by rw [show firstId (loopOf f54 4) = 4 from by kernel_rfl]; exact h)
noncomputable def L54_1 : Nat → Option LoopD := fun n => ifEq n 4 (some ⟨27, sh54_4, xs54_4, laws_eqStepS_l4⟩) (L54_0 n)
noncomputable def laws_eqStepS : (List (Int × (ByteArray × (Int × Int)))) → (List (Int × (ByteArray × (Int × Int)))) → Option (Bool) := fun a0 a1 =>
  bif ((((List.length a0) : Nat) : Int) != (((List.length a1) : Nat) : Int)) then
    some false
  else
    Option.bind (loopF laws_eqStepS_l4 (a0, a1, (0 : Int), ())) fun r0 =>
      (match r0 with
      | .inl (d1, _) =>
          some d1
      | .inr _ =>
          some true)
noncomputable def A54 : FnA := ⟨[.v (.sl (.pair (.int .i64) (.pair .str (.pair (.int .i64) (.int .i64))))), .v (.sl (.pair (.int .i64) (.pair .str (.pair (.int .i64) (.int .i64)))))], true, [.bool], fun x => laws_eqStepS x.1 x.2.1⟩
theorem laws_eqStepS_eq : fnF E54 L54_1 [.v (.sl (.pair (.int .i64) (.pair .str (.pair (.int .i64) (.int .i64))))), .v (.sl (.pair (.int .i64) (.pair .str (.pair (.int .i64) (.int .i64)))))] true [.bool] f54.ntmps f54.results.toList (codeOf f54) = fun x => laws_eqStepS x.1 x.2.1 := by kernel_rfl
theorem A54_ok : FnOk prog 54 A54 := by
  have h := fnOk_of_run (P := prog) (E := E54) (tysOk_of tyl_ok) E54_ok (L := L54_1) (ps := [.v (.sl (.pair (.int .i64) (.pair .str (.pair (.int .i64) (.int .i64))))), .v (.sl (.pair (.int .i64) (.pair .str (.pair (.int .i64) (.int .i64)))))]) (own := true) (outs := [.bool]) func54 (c := codeOf f54) (by kernel_rfl) (codeOk_in (L := L54_1) (tysOk_of tyl_ok) E54_ok mixed (c := codeOf f54) (bs := [loopOf f54 4]) (by kernel_rfl) (allCons (loop54_4 rfl) allNil) (by kernel_rfl))
  rw [laws_eqStepS_eq] at h
  exact h
/-! laws.eqAutomaton -/
noncomputable def E14 : Env := ⟨ty0, fun g => ifEq g 13 (some A13) (ifEq g 54 (some A54) (none)), fun _ => none, fun _ => none, fun _ => none⟩
theorem E14_ok : FnsOk prog E14 := (oneFn A13_ok func13 (by kernel_rfl) (by kernel_rfl) (oneFn A54_ok func54 (by kernel_rfl) (by kernel_rfl) (noFns _ _)))
noncomputable def L14_0 : Nat → Option LoopD := fun _ => none
noncomputable def laws_eqAutomaton : (Int × ((List Int) × ((List Int) × (List (Int × (ByteArray × (Int × Int))))))) → (Int × ((List Int) × ((List Int) × (List (Int × (ByteArray × (Int × Int))))))) → Option (Bool) := fun (a0_0, a0_1, a0_2, a0_3) (a1_0, a1_1, a1_2, a1_3) =>
  bif (a0_0 != a1_0) then
    some false
  else
    Option.bind (laws_eqIntS a0_1 a1_1) fun r0 =>
      bif (!r0) then
        some false
      else
        Option.bind (laws_eqIntS a0_2 a1_2) fun r1 =>
          bif (!r1) then
            some false
          else
            Option.bind (laws_eqStepS a0_3 a1_3) fun r2 =>
              bif (!r2) then
                some false
              else
                some true
noncomputable def A14 : FnA := ⟨[.v (.pair (.int .i64) (.pair (.sl (.int .i64)) (.pair (.sl (.int .i64)) (.sl (.pair (.int .i64) (.pair .str (.pair (.int .i64) (.int .i64)))))))), .v (.pair (.int .i64) (.pair (.sl (.int .i64)) (.pair (.sl (.int .i64)) (.sl (.pair (.int .i64) (.pair .str (.pair (.int .i64) (.int .i64))))))))], true, [.bool], fun x => laws_eqAutomaton x.1 x.2.1⟩
theorem laws_eqAutomaton_eq : fnF E14 L14_0 [.v (.pair (.int .i64) (.pair (.sl (.int .i64)) (.pair (.sl (.int .i64)) (.sl (.pair (.int .i64) (.pair .str (.pair (.int .i64) (.int .i64)))))))), .v (.pair (.int .i64) (.pair (.sl (.int .i64)) (.pair (.sl (.int .i64)) (.sl (.pair (.int .i64) (.pair .str (.pair (.int .i64) (.int .i64))))))))] true [.bool] f14.ntmps f14.results.toList (codeOf f14) = fun x => laws_eqAutomaton x.1 x.2.1 := by kernel_rfl
theorem A14_ok : FnOk prog 14 A14 := by
  have h := fnOk_of_run (P := prog) (E := E14) (tysOk_of tyl_ok) E14_ok (L := L14_0) (ps := [.v (.pair (.int .i64) (.pair (.sl (.int .i64)) (.pair (.sl (.int .i64)) (.sl (.pair (.int .i64) (.pair .str (.pair (.int .i64) (.int .i64)))))))), .v (.pair (.int .i64) (.pair (.sl (.int .i64)) (.pair (.sl (.int .i64)) (.sl (.pair (.int .i64) (.pair .str (.pair (.int .i64) (.int .i64))))))))]) (own := true) (outs := [.bool]) func14 (c := codeOf f14) (by kernel_rfl) (codeOk_in (L := L14_0) (tysOk_of tyl_ok) E14_ok mixed (c := codeOf f14) (bs := []) (by kernel_rfl) allNil (by kernel_rfl))
  rw [laws_eqAutomaton_eq] at h
  exact h
/-! laws.FnExactHasFinitePowers -/
noncomputable def E7 : Env := ⟨ty0, fun g => ifEq g 9 (some A9) (ifEq g 11 (some A11) (ifEq g 36 (some A36) (ifEq g 37 (some A37) (ifEq g 14 (some A14) (none))))), fun _ => none, fun _ => none, fun _ => none⟩
theorem E7_ok : FnsOk prog E7 := (oneFn A9_ok func9 (by kernel_rfl) (by kernel_rfl) (oneFn A11_ok func11 (by kernel_rfl) (by kernel_rfl) (oneFn A36_ok func36 (by kernel_rfl) (by kernel_rfl) (oneFn A37_ok func37 (by kernel_rfl) (by kernel_rfl) (oneFn A14_ok func14 (by kernel_rfl) (by kernel_rfl) (noFns _ _))))))
noncomputable def L7_0 : Nat → Option LoopD := fun _ => none
noncomputable def laws_FnExactHasFinitePowers : (Int × ((List Int) × ((List Int) × (List (Int × (ByteArray × (Int × Int))))))) → Option (Bool) := fun (a0_0, a0_1, a0_2, a0_3) =>
  Option.bind (laws_szAutomaton (a0_0, a0_1, a0_2, a0_3) (1048576 : Int)) fun r0 =>
    bif (decide (r0 < (0 : Int))) then
      some true
    else
      Option.bind (laws_toAutomaton (a0_0, a0_1, a0_2, a0_3)) fun (r1, r2, r3, r4) =>
        Option.bind (spec_HasFinitePowers (r1, (List.take (List.length r2) (List.drop 0 r2)), (List.take (List.length r3) (List.drop 0 r3)), (List.take (List.length r4) (List.drop 0 r4)))) fun (r5, r6) =>
          Option.bind (laws_toAutomaton (a0_0, a0_1, a0_2, a0_3)) fun (r7, r8, r9, r10) =>
            Option.bind (impl_HasFinitePowers (r7, (List.take (List.length r8) (List.drop 0 r8)), (List.take (List.length r9) (List.drop 0 r9)), (List.take (List.length r10) (List.drop 0 r10)))) fun (r11, r12) =>
              bif (!(r11 == r5)) then
                some false
              else
                bif (!(r12 == r6)) then
                  some false
                else
                  Option.bind (laws_toAutomaton (a0_0, a0_1, a0_2, a0_3)) fun (r13, r14, r15, r16) =>
                    Option.bind (laws_eqAutomaton (r7, (List.take (List.length r8) (List.drop 0 r8)), (List.take (List.length r9) (List.drop 0 r9)), (List.take (List.length r10) (List.drop 0 r10))) (r13, (List.take (List.length r14) (List.drop 0 r14)), (List.take (List.length r15) (List.drop 0 r15)), (List.take (List.length r16) (List.drop 0 r16)))) fun r17 =>
                      bif (!r17) then
                        some false
                      else
                        some true
noncomputable def A7 : FnA := ⟨[.v (.pair (.int .i64) (.pair (.sl (.int .i64)) (.pair (.sl (.int .i64)) (.sl (.pair (.int .i64) (.pair .str (.pair (.int .i64) (.int .i64))))))))], true, [.bool], fun x => laws_FnExactHasFinitePowers x.1⟩
theorem laws_FnExactHasFinitePowers_eq : fnF E7 L7_0 [.v (.pair (.int .i64) (.pair (.sl (.int .i64)) (.pair (.sl (.int .i64)) (.sl (.pair (.int .i64) (.pair .str (.pair (.int .i64) (.int .i64))))))))] true [.bool] f7.ntmps f7.results.toList (codeOf f7) = fun x => laws_FnExactHasFinitePowers x.1 := by kernel_rfl
theorem A7_ok : FnOk prog 7 A7 := by
  have h := fnOk_of_run (P := prog) (E := E7) (tysOk_of tyl_ok) E7_ok (L := L7_0) (ps := [.v (.pair (.int .i64) (.pair (.sl (.int .i64)) (.pair (.sl (.int .i64)) (.sl (.pair (.int .i64) (.pair .str (.pair (.int .i64) (.int .i64))))))))]) (own := true) (outs := [.bool]) func7 (c := codeOf f7) (by kernel_rfl) (codeOk_in (L := L7_0) (tysOk_of tyl_ok) E7_ok mixed (c := codeOf f7) (bs := []) (by kernel_rfl) allNil (by kernel_rfl))
  rw [laws_FnExactHasFinitePowers_eq] at h
  exact h
end Go.Proofs.YtbmlleocidldpaaGreat
