/- What Go functions that the laws reach compute, and that they do: written by a program of this session. -/
import Derived.Test.YtcjlhckebkibaaaG0
import Derived.KernelRfl
set_option linter.unusedVariables false
namespace Go.Proofs.Ytcjlhckebkibaaa
open Go Go.Proofs.Ytcjlhckebkibaaa.Am Go.Proofs.Try
set_option maxRecDepth 100000
/-! spec.SplitOf -/
noncomputable def E61 : Env := ⟨ty0, fun g => ifEq g 62 (some A62) (ifEq g 68 (some A68) (ifEq g 55 (some A55) (none))), fun _ => none, fun _ => none⟩
theorem E61_ok : FnsOk prog E61 := (oneFn A62_ok func62 (by kernel_rfl) (by kernel_rfl) (oneFn A68_ok func68 (by kernel_rfl) (by kernel_rfl) (oneFn A55_ok func55 (by kernel_rfl) (by kernel_rfl) (noFns _ _))))
noncomputable def L61_0 : Nat → Option LoopD := fun _ => none
def sh61_10 : List Fm := [d, d, .box 100200 [.val (.int .i64), .val (.sl (.int .i64)), .val (.sl (.int .i64)), .val (.sl (.pair (.int .i64) (.pair .str (.pair (.int .i64) (.int .i64)))))], d, d, d, .cell (.own .str 100600 false), .cell (.val .str), .cell (.val (.int .i64)), .cell (.val (.int .i64)), d, d, d, d, d, d, d, d, d, d, d, d, d, d, d, d, d, d, d, d, d, d, d, d, d, d, d, d, d, d, d, d, d, d, d, d, d, d, d, d, d, d, d, d, d, d, d, d, d, d, d, d, d, d, d, d, d, d, d, d, d, d, d, d]
def xs61_10 : List (Ex × List Fm) := [(.exit 2, [d, d, .box 100200 [.val (.int .i64), .val (.sl (.int .i64)), .val (.sl (.int .i64)), .val (.sl (.pair (.int .i64) (.pair .str (.pair (.int .i64) (.int .i64)))))], d, d, d, .cell (.own .str 100600 false), .cell (.val .str), d, d, d, d, d, d, d, d, d, d, d, d, d, d, d, d, d, d, d, d, d, d, d, d, d, d, d, d, d, d, d, d, d, d, d, d, d, d, d, d, d, d, d, d, d, d, d, d, d, d, d, d, d, d, d, d, d, d, d, d, d, d, d, d, d, d])]
noncomputable def spec_SplitOf_l10 : ((Int × (List Int) × (List Int) × (List (Int × (ByteArray × (Int × Int)))) × Unit) × (List ByteArray) × ByteArray × Int × Int × Unit) → Option (((Int × (List Int) × (List Int) × (List (Int × (ByteArray × (Int × Int)))) × Unit) × (List ByteArray) × ByteArray × Int × Int × Unit) ⊕ (((Int × (List Int) × (List Int) × (List (Int × (ByteArray × (Int × Int)))) × Unit) × (List ByteArray) × ByteArray × Unit))) := fun ((v2_0, v2_1, v2_2, v2_3, _), v6, v7, v8, v9, _) =>
  bif (decide (v9 ≤ (((ByteArray.size v7) : Nat) : Int))) then
    if (((0 : Int) ≤ v9) ∧ (v9 ≤ (((ByteArray.size v7) : Nat) : Int))) then
      Option.bind (spec_l10Least (v2_0, v2_1, v2_2, v2_3) (ByteArray.extract v7 (Int.toNat v9) (ByteArray.size v7))) fun r0 =>
        if (((0 : Int) ≤ (IntKind.wrap .i64 ((((ByteArray.size v7) : Nat) : Int) - v9))) ∧ ((IntKind.wrap .i64 ((((ByteArray.size v7) : Nat) : Int) - v9)) < (((List.length r0) : Nat) : Int))) then
          if (((0 : Int) ≤ v9) ∧ (v9 ≤ (((ByteArray.size v7) : Nat) : Int))) then
            Option.bind (spec_l4Cost (v2_0, v2_1, v2_2, v2_3) (ByteArray.extract v7 0 (Int.toNat v9))) fun r1 =>
              bif (decide (r1 < (1000000 : Int))) then
                bif ((List.getD r0 (0 + (Int.toNat (IntKind.wrap .i64 ((((ByteArray.size v7) : Nat) : Int) - v9)))) (0 : Int)) == (IntKind.wrap .i64 (v8 - (1 : Int)))) then
                  if (((0 : Int) ≤ v9) ∧ (v9 ≤ (((ByteArray.size v7) : Nat) : Int))) then
                    if (((0 + (List.length v6)) = (List.length v6)) ∧ ((((List.length v6) + (List.length (List.take 1 (List.drop 0 [(ByteArray.extract v7 0 (Int.toNat v9))])))) * 16) ≤ 140737488355328)) then
                      if (((0 : Int) ≤ v9) ∧ (v9 ≤ (((ByteArray.size v7) : Nat) : Int))) then
                        some (Sum.inr ((v2_0, v2_1, v2_2, v2_3, ()), (List.take ((List.length v6) + (List.length (List.take 1 (List.drop 0 [(ByteArray.extract v7 0 (Int.toNat v9))])))) (List.drop 0 ((List.drop 0 v6) ++ (List.take 1 (List.drop 0 [(ByteArray.extract v7 0 (Int.toNat v9))]))))), (ByteArray.extract v7 (Int.toNat v9) (ByteArray.size v7)), ()))
                      else
                        none
                    else
                      none
                  else
                    none
                else
                  some (Sum.inl ((v2_0, v2_1, v2_2, v2_3, ()), (List.take (List.length v6) (List.drop 0 v6)), v7, v8, (IntKind.wrap .i64 (v9 + (1 : Int))), ()))
              else
                some (Sum.inl ((v2_0, v2_1, v2_2, v2_3, ()), (List.take (List.length v6) (List.drop 0 v6)), v7, v8, (IntKind.wrap .i64 (v9 + (1 : Int))), ()))
          else
            none
        else
          none
    else
      none
  else
    some (Sum.inr ((v2_0, v2_1, v2_2, v2_3, ()), (List.take (List.length v6) (List.drop 0 v6)), v7, ()))
theorem spec_SplitOf_l10_eq : loopStep E61 L61_0 (loopOf f61 10) sh61_10 xs61_10 = spec_SplitOf_l10 := by kernel_rfl
theorem loop61_10 {L : Nat → Option LoopD} (h : L 10 = some ⟨sh61_10, xs61_10, spec_SplitOf_l10⟩) : LoopOk prog L (loopOf f61 10) :=
  loopOk (tysOk_of tyl_ok) E61_ok (codeOk_in (L := L61_0) (tysOk_of tyl_ok) E61_ok mixed (c := loopOf f61 10) (bs := []) (by kernel_rfl) allNil (by kernel_rfl)) (by kernel_rfl) (by kernel_rfl) spec_SplitOf_l10_eq (by rw [show firstId (loopOf f61 10) = 10 from by kernel_rfl]; exact h)
noncomputable def L61_1 : Nat → Option LoopD := fun n => ifEq n 10 (some ⟨sh61_10, xs61_10, spec_SplitOf_l10⟩) (L61_0 n)
def sh61_5 : List Fm := [d, d, .box 100200 [.val (.int .i64), .val (.sl (.int .i64)), .val (.sl (.int .i64)), .val (.sl (.pair (.int .i64) (.pair .str (.pair (.int .i64) (.int .i64)))))], d, d, d, .cell (.own .str 100600 false), .cell (.val .str), d, d, d, d, d, d, d, d, d, d, d, d, d, d, d, d, d, d, d, d, d, d, d, d, d, d, d, d, d, d, d, d, d, d, d, d, d, d, d, d, d, d, d, d, d, d, d, d, d, d, d, d, d, d, d, d, d, d, d, d, d, d, d, d, d, d]
def xs61_5 : List (Ex × List Fm) := [(.ret, [d, d, d, d, .cell (.own .str 100400 false), .cell (.val .bool), d, d, d, d, d, d, d, d, d, d, d, d, d, d, d, d, d, d, d, d, d, d, d, d, d, d, d, d, d, d, d, d, d, d, d, d, d, d, d, d, d, d, d, d, d, d, d, d, d, d, d, d, d, d, d, d, d, d, d, d, d, d, d, d, d, d, d, d]), (.exit 0, [d, d, d, d, d, d, .cell (.own .str 100600 false), d, d, d, d, d, d, d, d, d, d, d, d, d, d, d, d, d, d, d, d, d, d, d, d, d, d, d, d, d, d, d, d, d, d, d, d, d, d, d, d, d, d, d, d, d, d, d, d, d, d, d, d, d, d, d, d, d, d, d, d, d, d, d, d, d, d, d])]
noncomputable def spec_SplitOf_l5 : ((Int × (List Int) × (List Int) × (List (Int × (ByteArray × (Int × Int)))) × Unit) × (List ByteArray) × ByteArray × Unit) → Option (((Int × (List Int) × (List Int) × (List (Int × (ByteArray × (Int × Int)))) × Unit) × (List ByteArray) × ByteArray × Unit) ⊕ (((List ByteArray) × Bool × Unit) ⊕ ((List ByteArray) × Unit))) := fun ((v2_0, v2_1, v2_2, v2_3, _), v6, v7, _) =>
  bif (!((ByteArray.toList v7) == (ByteArray.toList (⟨#[]⟩ : ByteArray)))) then
    Option.bind (spec_l10Least (v2_0, v2_1, v2_2, v2_3) v7) fun r0 =>
      if (((0 : Int) ≤ (((ByteArray.size v7) : Nat) : Int)) ∧ ((((ByteArray.size v7) : Nat) : Int) < (((List.length r0) : Nat) : Int))) then
        bif ((List.getD r0 (0 + (Int.toNat (((ByteArray.size v7) : Nat) : Int))) (0 : Int)) == (1000000 : Int)) then
          some (Sum.inr (Sum.inl ((List.take 0 (List.drop 0 [])), false, ())))
        else
          Option.bind (loopF spec_SplitOf_l10 ((v2_0, v2_1, v2_2, v2_3, ()), (List.take (List.length v6) (List.drop 0 v6)), v7, (List.getD r0 (0 + (Int.toNat (((ByteArray.size v7) : Nat) : Int))) (0 : Int)), (1 : Int), ())) fun ((r1, r2, r3, r4, _), r5, r6, _) =>
            some (Sum.inl ((r1, r2, r3, r4, ()), (List.take (List.length r5) (List.drop 0 r5)), r6, ()))
      else
        none
  else
    some (Sum.inr (Sum.inr ((List.take (List.length v6) (List.drop 0 v6)), ())))
theorem spec_SplitOf_l5_eq : loopStep E61 L61_1 (loopOf f61 5) sh61_5 xs61_5 = spec_SplitOf_l5 := by kernel_rfl
theorem loop61_5 {L : Nat → Option LoopD} (h : L 5 = some ⟨sh61_5, xs61_5, spec_SplitOf_l5⟩) : LoopOk prog L (loopOf f61 5) :=
  loopOk (tysOk_of tyl_ok) E61_ok (codeOk_in (L := L61_1) (tysOk_of tyl_ok) E61_ok mixed (c := loopOf f61 5) (bs := [loopOf f61 10]) (by kernel_rfl) (allCons (loop61_10 rfl) allNil) (by kernel_rfl)) (by kernel_rfl) (by kernel_rfl) spec_SplitOf_l5_eq (by rw [show firstId (loopOf f61 5) = 5 from by kernel_rfl]; exact h)
noncomputable def L61_2 : Nat → Option LoopD := fun n => ifEq n 5 (some ⟨sh61_5, xs61_5, spec_SplitOf_l5⟩) (L61_1 n)
noncomputable def spec_SplitOf : (Int × ((List Int) × ((List Int) × (List (Int × (ByteArray × (Int × Int))))))) → ByteArray → Option ((List ByteArray) × Bool) := fun (a0_0, a0_1, a0_2, a0_3) a1 =>
  Option.bind (spec_l4Asked (a0_0, a0_1, a0_2, a0_3) a1) fun r0 =>
    bif (!r0) then
      some ((List.take 0 (List.drop 0 [])), false)
    else
      bif (decide ((((ByteArray.size a1) : Nat) : Int) > (40 : Int))) then
        some ((List.take 0 (List.drop 0 [])), false)
      else
        Option.bind (loopF spec_SplitOf_l5 ((a0_0, a0_1, a0_2, a0_3, ()), (List.take 0 (List.drop 0 [])), a1, ())) fun r1 =>
          (match r1 with
          | .inl (d2, d3, _) =>
              some ((List.take (List.length d2) (List.drop 0 d2)), d3)
          | .inr (d4, _) =>
              some ((List.take (List.length d4) (List.drop 0 d4)), true))
noncomputable def A61 : FnA := ⟨[.v (.pair (.int .i64) (.pair (.sl (.int .i64)) (.pair (.sl (.int .i64)) (.sl (.pair (.int .i64) (.pair .str (.pair (.int .i64) (.int .i64)))))))), .v .str], true, [.sl .str, .bool], fun x => spec_SplitOf x.1 x.2.1⟩
theorem spec_SplitOf_eq : fnF E61 L61_2 [.v (.pair (.int .i64) (.pair (.sl (.int .i64)) (.pair (.sl (.int .i64)) (.sl (.pair (.int .i64) (.pair .str (.pair (.int .i64) (.int .i64)))))))), .v .str] true [.sl .str, .bool] f61.ntmps f61.results.toList (codeOf f61) = fun x => spec_SplitOf x.1 x.2.1 := by kernel_rfl
theorem A61_ok : FnOk prog 61 A61 := by
  have h := fnOk_of_run (P := prog) (E := E61) (tysOk_of tyl_ok) E61_ok (L := L61_2) (ps := [.v (.pair (.int .i64) (.pair (.sl (.int .i64)) (.pair (.sl (.int .i64)) (.sl (.pair (.int .i64) (.pair .str (.pair (.int .i64) (.int .i64)))))))), .v .str]) (own := true) (outs := [.sl .str, .bool]) func61 (c := codeOf f61) (by kernel_rfl) (codeOk_in (L := L61_2) (tysOk_of tyl_ok) E61_ok mixed (c := codeOf f61) (bs := [loopOf f61 5]) (by kernel_rfl) (allCons (loop61_5 rfl) allNil) (by kernel_rfl))
  rw [spec_SplitOf_eq] at h
  exact h
/-! spec.FactorsOf -/
noncomputable def E30 : Env := ⟨ty0, fun g => ifEq g 61 (some A61) (ifEq g 62 (some A62) (none)), fun _ => none, fun _ => none⟩
theorem E30_ok : FnsOk prog E30 := (oneFn A61_ok func61 (by kernel_rfl) (by kernel_rfl) (oneFn A62_ok func62 (by kernel_rfl) (by kernel_rfl) (noFns _ _)))
noncomputable def L30_0 : Nat → Option LoopD := fun _ => none
noncomputable def spec_FactorsOf : (Int × ((List Int) × ((List Int) × (List (Int × (ByteArray × (Int × Int))))))) → ByteArray → Option (Int) := fun (a0_0, a0_1, a0_2, a0_3) a1 =>
  Option.bind (spec_SplitOf (a0_0, a0_1, a0_2, a0_3) a1) fun (r0, r1) =>
    Option.bind (spec_l4Asked (a0_0, a0_1, a0_2, a0_3) a1) fun r2 =>
      bif (!r2) then
        some (-1 : Int)
      else
        bif (decide ((((ByteArray.size a1) : Nat) : Int) > (40 : Int))) then
          some (-1 : Int)
        else
          bif (!r1) then
            some (1000000 : Int)
          else
            some (((List.length r0) : Nat) : Int)
noncomputable def A30 : FnA := ⟨[.v (.pair (.int .i64) (.pair (.sl (.int .i64)) (.pair (.sl (.int .i64)) (.sl (.pair (.int .i64) (.pair .str (.pair (.int .i64) (.int .i64)))))))), .v .str], true, [.int .i64], fun x => spec_FactorsOf x.1 x.2.1⟩
theorem spec_FactorsOf_eq : fnF E30 L30_0 [.v (.pair (.int .i64) (.pair (.sl (.int .i64)) (.pair (.sl (.int .i64)) (.sl (.pair (.int .i64) (.pair .str (.pair (.int .i64) (.int .i64)))))))), .v .str] true [.int .i64] f30.ntmps f30.results.toList (codeOf f30) = fun x => spec_FactorsOf x.1 x.2.1 := by kernel_rfl
theorem A30_ok : FnOk prog 30 A30 := by
  have h := fnOk_of_run (P := prog) (E := E30) (tysOk_of tyl_ok) E30_ok (L := L30_0) (ps := [.v (.pair (.int .i64) (.pair (.sl (.int .i64)) (.pair (.sl (.int .i64)) (.sl (.pair (.int .i64) (.pair .str (.pair (.int .i64) (.int .i64)))))))), .v .str]) (own := true) (outs := [.int .i64]) func30 (c := codeOf f30) (by kernel_rfl) (codeOk_in (L := L30_0) (tysOk_of tyl_ok) E30_ok mixed (c := codeOf f30) (bs := []) (by kernel_rfl) allNil (by kernel_rfl))
  rw [spec_FactorsOf_eq] at h
  exact h
/-! impl.factors -/
noncomputable def E65 : Env := ⟨ty0, fun g => ifEq g 90 (some A90) (ifEq g 59 (some A59) (none)), fun _ => none, fun _ => none⟩
theorem E65_ok : FnsOk prog E65 := (oneFn A90_ok func90 (by kernel_rfl) (by kernel_rfl) (oneFn A59_ok func59 (by kernel_rfl) (by kernel_rfl) (noFns _ _)))
noncomputable def L65_0 : Nat → Option LoopD := fun _ => none
def sh65_7 : List Fm := [d, .cell (.val .str), .box 100200 [.val (.int .i64), .val (.sl (.int .i64)), .val (.sl (.int .i64)), .val (.sl (.pair (.int .i64) (.pair .str (.pair (.int .i64) (.int .i64)))))], d, d, .cell (.own (.int .i64) 100500 false), .cell (.val (.int .i64)), .cell (.val (.int .i64)), d, d, d, d, d, d, d, d, d, d, d, d, d, d, d, d, d, d, d, d, d, d, d, d, d, d, d, d, d, d, d, d, d, d, d, d, d, d, d, d, d, d, d, d, d, d, d, d, d, d, d, d]
def xs65_7 : List (Ex × List Fm) := [(.exit 2, [d, .cell (.val .str), .box 100200 [.val (.int .i64), .val (.sl (.int .i64)), .val (.sl (.int .i64)), .val (.sl (.pair (.int .i64) (.pair .str (.pair (.int .i64) (.int .i64)))))], d, d, .cell (.own (.int .i64) 100500 false), .cell (.val (.int .i64)), d, d, d, d, d, d, d, d, d, d, d, d, d, d, d, d, d, d, d, d, d, d, d, d, d, d, d, d, d, d, d, d, d, d, d, d, d, d, d, d, d, d, d, d, d, d, d, d, d, d, d, d, d])]
noncomputable def impl_factors_l7 : (ByteArray × (Int × (List Int) × (List Int) × (List (Int × (ByteArray × (Int × Int)))) × Unit) × (List Int) × Int × Int × Unit) → Option ((ByteArray × (Int × (List Int) × (List Int) × (List (Int × (ByteArray × (Int × Int)))) × Unit) × (List Int) × Int × Int × Unit) ⊕ ((ByteArray × (Int × (List Int) × (List Int) × (List (Int × (ByteArray × (Int × Int)))) × Unit) × (List Int) × Int × Unit))) := fun (v1, (v2_0, v2_1, v2_2, v2_3, _), v5, v6, v7, _) =>
  bif (decide (v7 ≤ (((ByteArray.size v1) : Nat) : Int))) then
    if (((0 : Int) ≤ v7) ∧ (v7 < (((List.length v5) : Nat) : Int))) then
      bif (decide ((List.getD v5 (0 + (Int.toNat v7)) (0 : Int)) < (1000000 : Int))) then
        if (((0 : Int) ≤ v6) ∧ ((v6 ≤ v7) ∧ (v7 ≤ (((ByteArray.size v1) : Nat) : Int)))) then
          Option.bind (impl_CostOf (v2_0, v2_1, v2_2, v2_3) (ByteArray.extract v1 (Int.toNat v6) (Int.toNat v7))) fun r0 =>
            bif (decide (r0 < (1000000 : Int))) then
              if (((0 : Int) ≤ v6) ∧ (v6 < (((List.length v5) : Nat) : Int))) then
                if (((0 : Int) ≤ v7) ∧ (v7 < (((List.length v5) : Nat) : Int))) then
                  if (((0 : Int) ≤ v6) ∧ (v6 < (((List.length v5) : Nat) : Int))) then
                    some (Sum.inl (v1, (v2_0, v2_1, v2_2, v2_3, ()), (List.take (List.length v5) (List.drop 0 (List.set v5 (0 + (Int.toNat v6)) (if ((IntKind.wrap .i64 ((List.getD v5 (0 + (Int.toNat v7)) (0 : Int)) + (1 : Int))) < (List.getD v5 (0 + (Int.toNat v6)) (0 : Int))) then (IntKind.wrap .i64 ((List.getD v5 (0 + (Int.toNat v7)) (0 : Int)) + (1 : Int))) else (List.getD v5 (0 + (Int.toNat v6)) (0 : Int)))))), v6, (IntKind.wrap .i64 (v7 + (1 : Int))), ()))
                  else
                    none
                else
                  none
              else
                none
            else
              some (Sum.inl (v1, (v2_0, v2_1, v2_2, v2_3, ()), (List.take (List.length v5) (List.drop 0 v5)), v6, (IntKind.wrap .i64 (v7 + (1 : Int))), ()))
        else
          none
      else
        some (Sum.inl (v1, (v2_0, v2_1, v2_2, v2_3, ()), (List.take (List.length v5) (List.drop 0 v5)), v6, (IntKind.wrap .i64 (v7 + (1 : Int))), ()))
    else
      none
  else
    some (Sum.inr (v1, (v2_0, v2_1, v2_2, v2_3, ()), (List.take (List.length v5) (List.drop 0 v5)), v6, ()))
theorem impl_factors_l7_eq : loopStep E65 L65_0 (loopOf f65 7) sh65_7 xs65_7 = impl_factors_l7 := by kernel_rfl
theorem loop65_7 {L : Nat → Option LoopD} (h : L 7 = some ⟨sh65_7, xs65_7, impl_factors_l7⟩) : LoopOk prog L (loopOf f65 7) :=
  loopOk (tysOk_of tyl_ok) E65_ok (codeOk_in (L := L65_0) (tysOk_of tyl_ok) E65_ok mixed (c := loopOf f65 7) (bs := []) (by kernel_rfl) allNil (by kernel_rfl)) (by kernel_rfl) (by kernel_rfl) impl_factors_l7_eq (by rw [show firstId (loopOf f65 7) = 7 from by kernel_rfl]; exact h)
noncomputable def L65_1 : Nat → Option LoopD := fun n => ifEq n 7 (some ⟨sh65_7, xs65_7, impl_factors_l7⟩) (L65_0 n)
def sh65_4 : List Fm := [d, .cell (.val .str), .box 100200 [.val (.int .i64), .val (.sl (.int .i64)), .val (.sl (.int .i64)), .val (.sl (.pair (.int .i64) (.pair .str (.pair (.int .i64) (.int .i64)))))], d, d, .cell (.own (.int .i64) 100500 false), .cell (.val (.int .i64)), d, d, d, d, d, d, d, d, d, d, d, d, d, d, d, d, d, d, d, d, d, d, d, d, d, d, d, d, d, d, d, d, d, d, d, d, d, d, d, d, d, d, d, d, d, d, d, d, d, d, d, d, d]
def xs65_4 : List (Ex × List Fm) := [(.exit 0, [d, d, d, d, d, .cell (.own (.int .i64) 100500 false), d, d, d, d, d, d, d, d, d, d, d, d, d, d, d, d, d, d, d, d, d, d, d, d, d, d, d, d, d, d, d, d, d, d, d, d, d, d, d, d, d, d, d, d, d, d, d, d, d, d, d, d, d, d])]
noncomputable def impl_factors_l4 : (ByteArray × (Int × (List Int) × (List Int) × (List (Int × (ByteArray × (Int × Int)))) × Unit) × (List Int) × Int × Unit) → Option ((ByteArray × (Int × (List Int) × (List Int) × (List (Int × (ByteArray × (Int × Int)))) × Unit) × (List Int) × Int × Unit) ⊕ (((List Int) × Unit))) := fun (v1, (v2_0, v2_1, v2_2, v2_3, _), v5, v6, _) =>
  bif (decide (v6 ≥ (0 : Int))) then
    Option.bind (loopF impl_factors_l7 (v1, (v2_0, v2_1, v2_2, v2_3, ()), (List.take (List.length v5) (List.drop 0 v5)), v6, (IntKind.wrap .i64 (v6 + (1 : Int))), ())) fun (r0, (r1, r2, r3, r4, _), r5, r6, _) =>
      some (Sum.inl (r0, (r1, r2, r3, r4, ()), (List.take (List.length r5) (List.drop 0 r5)), (IntKind.wrap .i64 (r6 - (1 : Int))), ()))
  else
    some (Sum.inr ((List.take (List.length v5) (List.drop 0 v5)), ()))
theorem impl_factors_l4_eq : loopStep E65 L65_1 (loopOf f65 4) sh65_4 xs65_4 = impl_factors_l4 := by kernel_rfl
theorem loop65_4 {L : Nat → Option LoopD} (h : L 4 = some ⟨sh65_4, xs65_4, impl_factors_l4⟩) : LoopOk prog L (loopOf f65 4) :=
  loopOk (tysOk_of tyl_ok) E65_ok (codeOk_in (L := L65_1) (tysOk_of tyl_ok) E65_ok mixed (c := loopOf f65 4) (bs := [loopOf f65 7]) (by kernel_rfl) (allCons (loop65_7 rfl) allNil) (by kernel_rfl)) (by kernel_rfl) (by kernel_rfl) impl_factors_l4_eq (by rw [show firstId (loopOf f65 4) = 4 from by kernel_rfl]; exact h)
noncomputable def L65_2 : Nat → Option LoopD := fun n => ifEq n 4 (some ⟨sh65_4, xs65_4, impl_factors_l4⟩) (L65_1 n)
noncomputable def impl_factors : (Int × ((List Int) × ((List Int) × (List (Int × (ByteArray × (Int × Int))))))) → ByteArray → Option ((List Int)) := fun (a0_0, a0_1, a0_2, a0_3) a1 =>
  Option.bind (slices_Repeat (List.take 1 (List.drop 0 [(1000000 : Int)])) (IntKind.wrap .i64 ((((ByteArray.size a1) : Nat) : Int) + (1 : Int)))) fun r0 =>
    if (((0 : Int) ≤ (((ByteArray.size a1) : Nat) : Int)) ∧ ((((ByteArray.size a1) : Nat) : Int) < (((List.length r0) : Nat) : Int))) then
      Option.bind (loopF impl_factors_l4 (a1, (a0_0, a0_1, a0_2, a0_3, ()), (List.take (List.length r0) (List.drop 0 (List.set r0 (0 + (Int.toNat (((ByteArray.size a1) : Nat) : Int))) (0 : Int)))), (IntKind.wrap .i64 ((((ByteArray.size a1) : Nat) : Int) - (1 : Int))), ())) fun (r1, _) =>
        some (List.take (List.length r1) (List.drop 0 r1))
    else
      none
noncomputable def A65 : FnA := ⟨[.v (.pair (.int .i64) (.pair (.sl (.int .i64)) (.pair (.sl (.int .i64)) (.sl (.pair (.int .i64) (.pair .str (.pair (.int .i64) (.int .i64)))))))), .v .str], true, [.sl (.int .i64)], fun x => impl_factors x.1 x.2.1⟩
theorem impl_factors_eq : fnF E65 L65_2 [.v (.pair (.int .i64) (.pair (.sl (.int .i64)) (.pair (.sl (.int .i64)) (.sl (.pair (.int .i64) (.pair .str (.pair (.int .i64) (.int .i64)))))))), .v .str] true [.sl (.int .i64)] f65.ntmps f65.results.toList (codeOf f65) = fun x => impl_factors x.1 x.2.1 := by kernel_rfl
theorem A65_ok : FnOk prog 65 A65 := by
  have h := fnOk_of_run (P := prog) (E := E65) (tysOk_of tyl_ok) E65_ok (L := L65_2) (ps := [.v (.pair (.int .i64) (.pair (.sl (.int .i64)) (.pair (.sl (.int .i64)) (.sl (.pair (.int .i64) (.pair .str (.pair (.int .i64) (.int .i64)))))))), .v .str]) (own := true) (outs := [.sl (.int .i64)]) func65 (c := codeOf f65) (by kernel_rfl) (codeOk_in (L := L65_2) (tysOk_of tyl_ok) E65_ok mixed (c := codeOf f65) (bs := [loopOf f65 4]) (by kernel_rfl) (allCons (loop65_4 rfl) allNil) (by kernel_rfl))
  rw [impl_factors_eq] at h
  exact h
/-! impl.FactorsOf -/
noncomputable def E31 : Env := ⟨ty0, fun g => ifEq g 63 (some A63) (ifEq g 64 (some A64) (ifEq g 65 (some A65) (none))), fun _ => none, fun _ => none⟩
theorem E31_ok : FnsOk prog E31 := (oneFn A63_ok func63 (by kernel_rfl) (by kernel_rfl) (oneFn A64_ok func64 (by kernel_rfl) (by kernel_rfl) (oneFn A65_ok func65 (by kernel_rfl) (by kernel_rfl) (noFns _ _))))
noncomputable def L31_0 : Nat → Option LoopD := fun _ => none
noncomputable def impl_FactorsOf : (Int × ((List Int) × ((List Int) × (List (Int × (ByteArray × (Int × Int))))))) → ByteArray → Option (Int) := fun (a0_0, a0_1, a0_2, a0_3) a1 =>
  Option.bind (impl_AutomatonValid (a0_0, a0_1, a0_2, a0_3)) fun r0 =>
    bif (!r0) then
      some (-1 : Int)
    else
      Option.bind (impl_WordValid a1) fun r1 =>
        bif (!r1) then
          some (-1 : Int)
        else
          bif (decide ((((ByteArray.size a1) : Nat) : Int) > (40 : Int))) then
            some (-1 : Int)
          else
            Option.bind (impl_factors (a0_0, a0_1, a0_2, a0_3) a1) fun r2 =>
              if (((0 : Int) ≤ (0 : Int)) ∧ ((0 : Int) < (((List.length r2) : Nat) : Int))) then
                some (List.getD r2 (0 + (Int.toNat (0 : Int))) (0 : Int))
              else
                none
noncomputable def A31 : FnA := ⟨[.v (.pair (.int .i64) (.pair (.sl (.int .i64)) (.pair (.sl (.int .i64)) (.sl (.pair (.int .i64) (.pair .str (.pair (.int .i64) (.int .i64)))))))), .v .str], true, [.int .i64], fun x => impl_FactorsOf x.1 x.2.1⟩
theorem impl_FactorsOf_eq : fnF E31 L31_0 [.v (.pair (.int .i64) (.pair (.sl (.int .i64)) (.pair (.sl (.int .i64)) (.sl (.pair (.int .i64) (.pair .str (.pair (.int .i64) (.int .i64)))))))), .v .str] true [.int .i64] f31.ntmps f31.results.toList (codeOf f31) = fun x => impl_FactorsOf x.1 x.2.1 := by kernel_rfl
theorem A31_ok : FnOk prog 31 A31 := by
  have h := fnOk_of_run (P := prog) (E := E31) (tysOk_of tyl_ok) E31_ok (L := L31_0) (ps := [.v (.pair (.int .i64) (.pair (.sl (.int .i64)) (.pair (.sl (.int .i64)) (.sl (.pair (.int .i64) (.pair .str (.pair (.int .i64) (.int .i64)))))))), .v .str]) (own := true) (outs := [.int .i64]) func31 (c := codeOf f31) (by kernel_rfl) (codeOk_in (L := L31_0) (tysOk_of tyl_ok) E31_ok mixed (c := codeOf f31) (bs := []) (by kernel_rfl) allNil (by kernel_rfl))
  rw [impl_FactorsOf_eq] at h
  exact h
/-! laws.FnExactFactorsOf -/
noncomputable def E8 : Env := ⟨ty0, fun g => ifEq g 21 (some A21) (ifEq g 23 (some A23) (ifEq g 30 (some A30) (ifEq g 31 (some A31) (ifEq g 25 (some A25) (none))))), fun _ => none, fun _ => none⟩
theorem E8_ok : FnsOk prog E8 := (oneFn A21_ok func21 (by kernel_rfl) (by kernel_rfl) (oneFn A23_ok func23 (by kernel_rfl) (by kernel_rfl) (oneFn A30_ok func30 (by kernel_rfl) (by kernel_rfl) (oneFn A31_ok func31 (by kernel_rfl) (by kernel_rfl) (oneFn A25_ok func25 (by kernel_rfl) (by kernel_rfl) (noFns _ _))))))
noncomputable def L8_0 : Nat → Option LoopD := fun _ => none
noncomputable def laws_FnExactFactorsOf : (Int × ((List Int) × ((List Int) × (List (Int × (ByteArray × (Int × Int))))))) → ByteArray → Option (Bool) := fun (a0_0, a0_1, a0_2, a0_3) a1 =>
  bif (decide ((((ByteArray.size a1) : Nat) : Int) > (1048576 : Int))) then
    some true
  else
    Option.bind (laws_szAutomaton (a0_0, a0_1, a0_2, a0_3) (1048576 : Int)) fun r0 =>
      bif (decide (r0 < (0 : Int))) then
        some true
      else
        Option.bind (laws_toAutomaton (a0_0, a0_1, a0_2, a0_3)) fun (r1, r2, r3, r4) =>
          Option.bind (spec_FactorsOf (r1, (List.take (List.length r2) (List.drop 0 r2)), (List.take (List.length r3) (List.drop 0 r3)), (List.take (List.length r4) (List.drop 0 r4))) a1) fun r5 =>
            Option.bind (laws_toAutomaton (a0_0, a0_1, a0_2, a0_3)) fun (r6, r7, r8, r9) =>
              Option.bind (impl_FactorsOf (r6, (List.take (List.length r7) (List.drop 0 r7)), (List.take (List.length r8) (List.drop 0 r8)), (List.take (List.length r9) (List.drop 0 r9))) a1) fun r10 =>
                bif (r10 != r5) then
                  some false
                else
                  Option.bind (laws_toAutomaton (a0_0, a0_1, a0_2, a0_3)) fun (r11, r12, r13, r14) =>
                    Option.bind (laws_eqAutomaton (r6, (List.take (List.length r7) (List.drop 0 r7)), (List.take (List.length r8) (List.drop 0 r8)), (List.take (List.length r9) (List.drop 0 r9))) (r11, (List.take (List.length r12) (List.drop 0 r12)), (List.take (List.length r13) (List.drop 0 r13)), (List.take (List.length r14) (List.drop 0 r14)))) fun r15 =>
                      bif (!r15) then
                        some false
                      else
                        some true
noncomputable def A8 : FnA := ⟨[.v (.pair (.int .i64) (.pair (.sl (.int .i64)) (.pair (.sl (.int .i64)) (.sl (.pair (.int .i64) (.pair .str (.pair (.int .i64) (.int .i64)))))))), .v .str], true, [.bool], fun x => laws_FnExactFactorsOf x.1 x.2.1⟩
theorem laws_FnExactFactorsOf_eq : fnF E8 L8_0 [.v (.pair (.int .i64) (.pair (.sl (.int .i64)) (.pair (.sl (.int .i64)) (.sl (.pair (.int .i64) (.pair .str (.pair (.int .i64) (.int .i64)))))))), .v .str] true [.bool] f8.ntmps f8.results.toList (codeOf f8) = fun x => laws_FnExactFactorsOf x.1 x.2.1 := by kernel_rfl
theorem A8_ok : FnOk prog 8 A8 := by
  have h := fnOk_of_run (P := prog) (E := E8) (tysOk_of tyl_ok) E8_ok (L := L8_0) (ps := [.v (.pair (.int .i64) (.pair (.sl (.int .i64)) (.pair (.sl (.int .i64)) (.sl (.pair (.int .i64) (.pair .str (.pair (.int .i64) (.int .i64)))))))), .v .str]) (own := true) (outs := [.bool]) func8 (c := codeOf f8) (by kernel_rfl) (codeOk_in (L := L8_0) (tysOk_of tyl_ok) E8_ok mixed (c := codeOf f8) (bs := []) (by kernel_rfl) allNil (by kernel_rfl))
  rw [laws_FnExactFactorsOf_eq] at h
  exact h
/-! spec.HardestWord -/
noncomputable def E32 : Env := ⟨ty0, fun g => ifEq g 66 (some A66) (ifEq g 67 (some A67) (ifEq g 54 (some A54) (ifEq g 68 (some A68) (none)))), fun _ => none, fun _ => none⟩
theorem E32_ok : FnsOk prog E32 := (oneFn A66_ok func66 (by kernel_rfl) (by kernel_rfl) (oneFn A67_ok func67 (by kernel_rfl) (by kernel_rfl) (oneFn A54_ok func54 (by kernel_rfl) (by kernel_rfl) (oneFn A68_ok func68 (by kernel_rfl) (by kernel_rfl) (noFns _ _)))))
noncomputable def L32_0 : Nat → Option LoopD := fun _ => none
def sh32_5 : List Fm := [d, d, .box 100200 [.val (.int .i64), .val (.sl (.int .i64)), .val (.sl (.int .i64)), .val (.sl (.pair (.int .i64) (.pair .str (.pair (.int .i64) (.int .i64)))))], d, d, d, .cell (.val .str), .cell (.val (.int .i64)), d, d, d, d, d, d, d, d, d, d, d, d, .cell (.val (.sl .str)), .cell (.val (.int .i64)), .cell (.val (.int .i64)), d, d, d, d, d, d, d, d, d, d, d, d, d, d, d, d, d, d, d, d, d]
def xs32_5 : List (Ex × List Fm) := [(.exit 0, [d, d, d, d, d, d, .cell (.val .str), d, d, d, d, d, d, d, d, d, d, d, d, d, d, d, d, d, d, d, d, d, d, d, d, d, d, d, d, d, d, d, d, d, d, d, d, d])]
noncomputable def spec_HardestWord_l5 : ((Int × (List Int) × (List Int) × (List (Int × (ByteArray × (Int × Int)))) × Unit) × ByteArray × Int × (List ByteArray) × Int × Int × Unit) → Option (((Int × (List Int) × (List Int) × (List (Int × (ByteArray × (Int × Int)))) × Unit) × ByteArray × Int × (List ByteArray) × Int × Int × Unit) ⊕ ((ByteArray × Unit))) := fun ((v2_0, v2_1, v2_2, v2_3, _), v6, v7, v20, v21, v22, _) =>
  bif (decide (v22 < v21)) then
    if (((0 : Int) ≤ v22) ∧ (v22 < (((List.length v20) : Nat) : Int))) then
      Option.bind (spec_l10Least (v2_0, v2_1, v2_2, v2_3) (List.getD v20 (Int.toNat v22) (⟨Array.empty⟩ : ByteArray))) fun r0 =>
        if (((0 : Int) ≤ (((ByteArray.size (List.getD v20 (Int.toNat v22) (⟨Array.empty⟩ : ByteArray))) : Nat) : Int)) ∧ ((((ByteArray.size (List.getD v20 (Int.toNat v22) (⟨Array.empty⟩ : ByteArray))) : Nat) : Int) < (((List.length r0) : Nat) : Int))) then
          bif (decide ((List.getD r0 (0 + (Int.toNat (((ByteArray.size (List.getD v20 (Int.toNat v22) (⟨Array.empty⟩ : ByteArray))) : Nat) : Int))) (0 : Int)) < (1000000 : Int))) then
            bif (decide ((List.getD r0 (0 + (Int.toNat (((ByteArray.size (List.getD v20 (Int.toNat v22) (⟨Array.empty⟩ : ByteArray))) : Nat) : Int))) (0 : Int)) > v7)) then
              some (Sum.inl ((v2_0, v2_1, v2_2, v2_3, ()), (List.getD v20 (Int.toNat v22) (⟨Array.empty⟩ : ByteArray)), (List.getD r0 (0 + (Int.toNat (((ByteArray.size (List.getD v20 (Int.toNat v22) (⟨Array.empty⟩ : ByteArray))) : Nat) : Int))) (0 : Int)), v20, v21, (IntKind.wrap .i64 (v22 + (1 : Int))), ()))
            else
              some (Sum.inl ((v2_0, v2_1, v2_2, v2_3, ()), v6, v7, v20, v21, (IntKind.wrap .i64 (v22 + (1 : Int))), ()))
          else
            some (Sum.inl ((v2_0, v2_1, v2_2, v2_3, ()), v6, v7, v20, v21, (IntKind.wrap .i64 (v22 + (1 : Int))), ()))
        else
          none
    else
      none
  else
    some (Sum.inr (v6, ()))
theorem spec_HardestWord_l5_eq : loopStep E32 L32_0 (loopOf f32 5) sh32_5 xs32_5 = spec_HardestWord_l5 := by kernel_rfl
theorem loop32_5 {L : Nat → Option LoopD} (h : L 5 = some ⟨sh32_5, xs32_5, spec_HardestWord_l5⟩) : LoopOk prog L (loopOf f32 5) :=
  loopOk (tysOk_of tyl_ok) E32_ok (codeOk_in (L := L32_0) (tysOk_of tyl_ok) E32_ok mixed (c := loopOf f32 5) (bs := []) (by kernel_rfl) allNil (by kernel_rfl)) (by kernel_rfl) (by kernel_rfl) spec_HardestWord_l5_eq (by rw [show firstId (loopOf f32 5) = 5 from by kernel_rfl]; exact h)
noncomputable def L32_1 : Nat → Option LoopD := fun n => ifEq n 5 (some ⟨sh32_5, xs32_5, spec_HardestWord_l5⟩) (L32_0 n)
noncomputable def spec_HardestWord : (Int × ((List Int) × ((List Int) × (List (Int × (ByteArray × (Int × Int))))))) → Int → Option (ByteArray × Bool) := fun (a0_0, a0_1, a0_2, a0_3) a1 =>
  Option.bind (spec_AutomatonValid (a0_0, a0_1, a0_2, a0_3)) fun r0 =>
    bif (!r0) then
      some ((⟨#[]⟩ : ByteArray), false)
    else
      Option.bind (spec_l1In a1 (0 : Int) (7 : Int)) fun r1 =>
        bif (!r1) then
          some ((⟨#[]⟩ : ByteArray), false)
        else
          Option.bind (spec_l4Words a1) fun r2 =>
            Option.bind (loopF spec_HardestWord_l5 ((a0_0, a0_1, a0_2, a0_3, ()), (⟨#[]⟩ : ByteArray), (-1 : Int), r2, (((List.length r2) : Nat) : Int), (0 : Int), ())) fun (r3, _) =>
              some (r3, true)
noncomputable def A32 : FnA := ⟨[.v (.pair (.int .i64) (.pair (.sl (.int .i64)) (.pair (.sl (.int .i64)) (.sl (.pair (.int .i64) (.pair .str (.pair (.int .i64) (.int .i64)))))))), .v (.int .i64)], true, [.str, .bool], fun x => spec_HardestWord x.1 x.2.1⟩
theorem spec_HardestWord_eq : fnF E32 L32_1 [.v (.pair (.int .i64) (.pair (.sl (.int .i64)) (.pair (.sl (.int .i64)) (.sl (.pair (.int .i64) (.pair .str (.pair (.int .i64) (.int .i64)))))))), .v (.int .i64)] true [.str, .bool] f32.ntmps f32.results.toList (codeOf f32) = fun x => spec_HardestWord x.1 x.2.1 := by kernel_rfl
theorem A32_ok : FnOk prog 32 A32 := by
  have h := fnOk_of_run (P := prog) (E := E32) (tysOk_of tyl_ok) E32_ok (L := L32_1) (ps := [.v (.pair (.int .i64) (.pair (.sl (.int .i64)) (.pair (.sl (.int .i64)) (.sl (.pair (.int .i64) (.pair .str (.pair (.int .i64) (.int .i64)))))))), .v (.int .i64)]) (own := true) (outs := [.str, .bool]) func32 (c := codeOf f32) (by kernel_rfl) (codeOk_in (L := L32_1) (tysOk_of tyl_ok) E32_ok mixed (c := codeOf f32) (bs := [loopOf f32 5]) (by kernel_rfl) (allCons (loop32_5 rfl) allNil) (by kernel_rfl))
  rw [spec_HardestWord_eq] at h
  exact h
/-! impl.HardestWord -/
noncomputable def E33 : Env := ⟨ty0, fun g => ifEq g 69 (some A69) (ifEq g 63 (some A63) (ifEq g 31 (some A31) (none))), fun _ => none, fun _ => none⟩
theorem E33_ok : FnsOk prog E33 := (oneFn A69_ok func69 (by kernel_rfl) (by kernel_rfl) (oneFn A63_ok func63 (by kernel_rfl) (by kernel_rfl) (oneFn A31_ok func31 (by kernel_rfl) (by kernel_rfl) (noFns _ _))))
noncomputable def L33_0 : Nat → Option LoopD := fun _ => none
def sh33_6 : List Fm := [d, d, .box 100200 [.val (.int .i64), .val (.sl (.int .i64)), .val (.sl (.int .i64)), .val (.sl (.pair (.int .i64) (.pair .str (.pair (.int .i64) (.int .i64)))))], d, d, d, d, d, .cell (.val .str), .cell (.val (.int .i64)), d, d, d, d, d, d, d, d, d, d, d, d, d, d, d, .cell (.val (.sl .str)), .cell (.val (.int .i64)), .cell (.val (.int .i64)), d, d, d, d, d, d, d, d, d, d, d, d, d, d, d, d, d]
def xs33_6 : List (Ex × List Fm) := [(.exit 0, [d, d, d, d, d, d, d, d, .cell (.val .str), d, d, d, d, d, d, d, d, d, d, d, d, d, d, d, d, d, d, d, d, d, d, d, d, d, d, d, d, d, d, d, d, d, d, d, d])]
noncomputable def impl_HardestWord_l6 : ((Int × (List Int) × (List Int) × (List (Int × (ByteArray × (Int × Int)))) × Unit) × ByteArray × Int × (List ByteArray) × Int × Int × Unit) → Option (((Int × (List Int) × (List Int) × (List (Int × (ByteArray × (Int × Int)))) × Unit) × ByteArray × Int × (List ByteArray) × Int × Int × Unit) ⊕ ((ByteArray × Unit))) := fun ((v2_0, v2_1, v2_2, v2_3, _), v8, v9, v25, v26, v27, _) =>
  bif (decide (v27 < v26)) then
    if (((0 : Int) ≤ v27) ∧ (v27 < (((List.length v25) : Nat) : Int))) then
      Option.bind (impl_FactorsOf (v2_0, v2_1, v2_2, v2_3) (List.getD v25 (Int.toNat v27) (⟨Array.empty⟩ : ByteArray))) fun r0 =>
        bif (decide (r0 > v9)) then
          bif (decide (r0 < (1000000 : Int))) then
            some (Sum.inl ((v2_0, v2_1, v2_2, v2_3, ()), (List.getD v25 (Int.toNat v27) (⟨Array.empty⟩ : ByteArray)), r0, v25, v26, (IntKind.wrap .i64 (v27 + (1 : Int))), ()))
          else
            some (Sum.inl ((v2_0, v2_1, v2_2, v2_3, ()), v8, v9, v25, v26, (IntKind.wrap .i64 (v27 + (1 : Int))), ()))
        else
          some (Sum.inl ((v2_0, v2_1, v2_2, v2_3, ()), v8, v9, v25, v26, (IntKind.wrap .i64 (v27 + (1 : Int))), ()))
    else
      none
  else
    some (Sum.inr (v8, ()))
theorem impl_HardestWord_l6_eq : loopStep E33 L33_0 (loopOf f33 6) sh33_6 xs33_6 = impl_HardestWord_l6 := by kernel_rfl
theorem loop33_6 {L : Nat → Option LoopD} (h : L 6 = some ⟨sh33_6, xs33_6, impl_HardestWord_l6⟩) : LoopOk prog L (loopOf f33 6) :=
  loopOk (tysOk_of tyl_ok) E33_ok (codeOk_in (L := L33_0) (tysOk_of tyl_ok) E33_ok mixed (c := loopOf f33 6) (bs := []) (by kernel_rfl) allNil (by kernel_rfl)) (by kernel_rfl) (by kernel_rfl) impl_HardestWord_l6_eq (by rw [show firstId (loopOf f33 6) = 6 from by kernel_rfl]; exact h)
noncomputable def L33_1 : Nat → Option LoopD := fun n => ifEq n 6 (some ⟨sh33_6, xs33_6, impl_HardestWord_l6⟩) (L33_0 n)
noncomputable def impl_HardestWord : (Int × ((List Int) × ((List Int) × (List (Int × (ByteArray × (Int × Int))))))) → Int → Option (ByteArray × Bool) := fun (a0_0, a0_1, a0_2, a0_3) a1 =>
  Option.bind (impl_ShortWords a1) fun (r0, r1) =>
    bif (!r1) then
      some ((⟨#[]⟩ : ByteArray), false)
    else
      Option.bind (impl_AutomatonValid (a0_0, a0_1, a0_2, a0_3)) fun r2 =>
        bif (!r2) then
          some ((⟨#[]⟩ : ByteArray), false)
        else
          Option.bind (loopF impl_HardestWord_l6 ((a0_0, a0_1, a0_2, a0_3, ()), (⟨#[]⟩ : ByteArray), (0 : Int), r0, (((List.length r0) : Nat) : Int), (0 : Int), ())) fun (r3, _) =>
            some (r3, true)
noncomputable def A33 : FnA := ⟨[.v (.pair (.int .i64) (.pair (.sl (.int .i64)) (.pair (.sl (.int .i64)) (.sl (.pair (.int .i64) (.pair .str (.pair (.int .i64) (.int .i64)))))))), .v (.int .i64)], true, [.str, .bool], fun x => impl_HardestWord x.1 x.2.1⟩
theorem impl_HardestWord_eq : fnF E33 L33_1 [.v (.pair (.int .i64) (.pair (.sl (.int .i64)) (.pair (.sl (.int .i64)) (.sl (.pair (.int .i64) (.pair .str (.pair (.int .i64) (.int .i64)))))))), .v (.int .i64)] true [.str, .bool] f33.ntmps f33.results.toList (codeOf f33) = fun x => impl_HardestWord x.1 x.2.1 := by kernel_rfl
theorem A33_ok : FnOk prog 33 A33 := by
  have h := fnOk_of_run (P := prog) (E := E33) (tysOk_of tyl_ok) E33_ok (L := L33_1) (ps := [.v (.pair (.int .i64) (.pair (.sl (.int .i64)) (.pair (.sl (.int .i64)) (.sl (.pair (.int .i64) (.pair .str (.pair (.int .i64) (.int .i64)))))))), .v (.int .i64)]) (own := true) (outs := [.str, .bool]) func33 (c := codeOf f33) (by kernel_rfl) (codeOk_in (L := L33_1) (tysOk_of tyl_ok) E33_ok mixed (c := codeOf f33) (bs := [loopOf f33 6]) (by kernel_rfl) (allCons (loop33_6 rfl) allNil) (by kernel_rfl))
  rw [impl_HardestWord_eq] at h
  exact h
/-! laws.FnExactHardestWord -/
noncomputable def E9 : Env := ⟨ty0, fun g => ifEq g 21 (some A21) (ifEq g 23 (some A23) (ifEq g 32 (some A32) (ifEq g 33 (some A33) (ifEq g 25 (some A25) (none))))), fun _ => none, fun _ => none⟩
theorem E9_ok : FnsOk prog E9 := (oneFn A21_ok func21 (by kernel_rfl) (by kernel_rfl) (oneFn A23_ok func23 (by kernel_rfl) (by kernel_rfl) (oneFn A32_ok func32 (by kernel_rfl) (by kernel_rfl) (oneFn A33_ok func33 (by kernel_rfl) (by kernel_rfl) (oneFn A25_ok func25 (by kernel_rfl) (by kernel_rfl) (noFns _ _))))))
noncomputable def L9_0 : Nat → Option LoopD := fun _ => none
noncomputable def laws_FnExactHardestWord : (Int × ((List Int) × ((List Int) × (List (Int × (ByteArray × (Int × Int))))))) → Int → Option (Bool) := fun (a0_0, a0_1, a0_2, a0_3) a1 =>
  Option.bind (laws_szAutomaton (a0_0, a0_1, a0_2, a0_3) (1048576 : Int)) fun r0 =>
    bif (decide (r0 < (0 : Int))) then
      some true
    else
      Option.bind (laws_toAutomaton (a0_0, a0_1, a0_2, a0_3)) fun (r1, r2, r3, r4) =>
        Option.bind (spec_HardestWord (r1, (List.take (List.length r2) (List.drop 0 r2)), (List.take (List.length r3) (List.drop 0 r3)), (List.take (List.length r4) (List.drop 0 r4))) a1) fun (r5, r6) =>
          Option.bind (laws_toAutomaton (a0_0, a0_1, a0_2, a0_3)) fun (r7, r8, r9, r10) =>
            Option.bind (impl_HardestWord (r7, (List.take (List.length r8) (List.drop 0 r8)), (List.take (List.length r9) (List.drop 0 r9)), (List.take (List.length r10) (List.drop 0 r10))) a1) fun (r11, r12) =>
              bif (!((ByteArray.toList r11) == (ByteArray.toList r5))) then
                some false
              else
                bif (!(r12 == r6)) then
                  some false
                else
                  Option.bind (laws_toAutomaton (a0_0, a0_1, a0_2, a0_3)) fun (r13, r14, r15, r16) =>
                    Option.bind (laws_eqAutomaton (r7, (List.take (List.length r8) (List.drop 0 r8)), (List.take (List.length r9) (List.drop 0 r9)), (List.take (List.length r10) (List.drop 0 r10))) (r13, (List.take (List.length r14) (List.drop 0 r14)), (List.take (List.length r15) (List.drop 0 r15)), (List.take (List.length r16) (List.drop 0 r16)))) fun r17 =>
                      bif (!r17) then
                        some false
                      else
                        some true
noncomputable def A9 : FnA := ⟨[.v (.pair (.int .i64) (.pair (.sl (.int .i64)) (.pair (.sl (.int .i64)) (.sl (.pair (.int .i64) (.pair .str (.pair (.int .i64) (.int .i64)))))))), .v (.int .i64)], true, [.bool], fun x => laws_FnExactHardestWord x.1 x.2.1⟩
theorem laws_FnExactHardestWord_eq : fnF E9 L9_0 [.v (.pair (.int .i64) (.pair (.sl (.int .i64)) (.pair (.sl (.int .i64)) (.sl (.pair (.int .i64) (.pair .str (.pair (.int .i64) (.int .i64)))))))), .v (.int .i64)] true [.bool] f9.ntmps f9.results.toList (codeOf f9) = fun x => laws_FnExactHardestWord x.1 x.2.1 := by kernel_rfl
theorem A9_ok : FnOk prog 9 A9 := by
  have h := fnOk_of_run (P := prog) (E := E9) (tysOk_of tyl_ok) E9_ok (L := L9_0) (ps := [.v (.pair (.int .i64) (.pair (.sl (.int .i64)) (.pair (.sl (.int .i64)) (.sl (.pair (.int .i64) (.pair .str (.pair (.int .i64) (.int .i64)))))))), .v (.int .i64)]) (own := true) (outs := [.bool]) func9 (c := codeOf f9) (by kernel_rfl) (codeOk_in (L := L9_0) (tysOk_of tyl_ok) E9_ok mixed (c := codeOf f9) (bs := []) (by kernel_rfl) allNil (by kernel_rfl))
  rw [laws_FnExactHardestWord_eq] at h
  exact h
/-! spec.MostFactors -/
noncomputable def E44 : Env := ⟨ty0, fun g => ifEq g 32 (some A32) (ifEq g 66 (some A66) (ifEq g 67 (some A67) (ifEq g 30 (some A30) (none)))), fun _ => none, fun _ => none⟩
theorem E44_ok : FnsOk prog E44 := (oneFn A32_ok func32 (by kernel_rfl) (by kernel_rfl) (oneFn A66_ok func66 (by kernel_rfl) (by kernel_rfl) (oneFn A67_ok func67 (by kernel_rfl) (by kernel_rfl) (oneFn A30_ok func30 (by kernel_rfl) (by kernel_rfl) (noFns _ _)))))
noncomputable def L44_0 : Nat → Option LoopD := fun _ => none
noncomputable def spec_MostFactors : (Int × ((List Int) × ((List Int) × (List (Int × (ByteArray × (Int × Int))))))) → Int → Option (Int) := fun (a0_0, a0_1, a0_2, a0_3) a1 =>
  Option.bind (spec_HardestWord (a0_0, a0_1, a0_2, a0_3) a1) fun (r0, r1) =>
    Option.bind (spec_AutomatonValid (a0_0, a0_1, a0_2, a0_3)) fun r2 =>
      bif (!r2) then
        some (-1 : Int)
      else
        Option.bind (spec_l1In a1 (0 : Int) (7 : Int)) fun r3 =>
          bif (!r3) then
            some (-1 : Int)
          else
            bif (!r1) then
              some (0 : Int)
            else
              Option.bind (spec_FactorsOf (a0_0, a0_1, a0_2, a0_3) r0) fun r4 =>
                some r4
noncomputable def A44 : FnA := ⟨[.v (.pair (.int .i64) (.pair (.sl (.int .i64)) (.pair (.sl (.int .i64)) (.sl (.pair (.int .i64) (.pair .str (.pair (.int .i64) (.int .i64)))))))), .v (.int .i64)], true, [.int .i64], fun x => spec_MostFactors x.1 x.2.1⟩
theorem spec_MostFactors_eq : fnF E44 L44_0 [.v (.pair (.int .i64) (.pair (.sl (.int .i64)) (.pair (.sl (.int .i64)) (.sl (.pair (.int .i64) (.pair .str (.pair (.int .i64) (.int .i64)))))))), .v (.int .i64)] true [.int .i64] f44.ntmps f44.results.toList (codeOf f44) = fun x => spec_MostFactors x.1 x.2.1 := by kernel_rfl
theorem A44_ok : FnOk prog 44 A44 := by
  have h := fnOk_of_run (P := prog) (E := E44) (tysOk_of tyl_ok) E44_ok (L := L44_0) (ps := [.v (.pair (.int .i64) (.pair (.sl (.int .i64)) (.pair (.sl (.int .i64)) (.sl (.pair (.int .i64) (.pair .str (.pair (.int .i64) (.int .i64)))))))), .v (.int .i64)]) (own := true) (outs := [.int .i64]) func44 (c := codeOf f44) (by kernel_rfl) (codeOk_in (L := L44_0) (tysOk_of tyl_ok) E44_ok mixed (c := codeOf f44) (bs := []) (by kernel_rfl) allNil (by kernel_rfl))
  rw [spec_MostFactors_eq] at h
  exact h
/-! impl.MostFactors -/
noncomputable def E45 : Env := ⟨ty0, fun g => ifEq g 33 (some A33) (ifEq g 31 (some A31) (none)), fun _ => none, fun _ => none⟩
theorem E45_ok : FnsOk prog E45 := (oneFn A33_ok func33 (by kernel_rfl) (by kernel_rfl) (oneFn A31_ok func31 (by kernel_rfl) (by kernel_rfl) (noFns _ _)))
noncomputable def L45_0 : Nat → Option LoopD := fun _ => none
noncomputable def impl_MostFactors : (Int × ((List Int) × ((List Int) × (List (Int × (ByteArray × (Int × Int))))))) → Int → Option (Int) := fun (a0_0, a0_1, a0_2, a0_3) a1 =>
  Option.bind (impl_HardestWord (a0_0, a0_1, a0_2, a0_3) a1) fun (r0, r1) =>
    bif (!r1) then
      some (-1 : Int)
    else
      Option.bind (impl_FactorsOf (a0_0, a0_1, a0_2, a0_3) r0) fun r2 =>
        some r2
noncomputable def A45 : FnA := ⟨[.v (.pair (.int .i64) (.pair (.sl (.int .i64)) (.pair (.sl (.int .i64)) (.sl (.pair (.int .i64) (.pair .str (.pair (.int .i64) (.int .i64)))))))), .v (.int .i64)], true, [.int .i64], fun x => impl_MostFactors x.1 x.2.1⟩
theorem impl_MostFactors_eq : fnF E45 L45_0 [.v (.pair (.int .i64) (.pair (.sl (.int .i64)) (.pair (.sl (.int .i64)) (.sl (.pair (.int .i64) (.pair .str (.pair (.int .i64) (.int .i64)))))))), .v (.int .i64)] true [.int .i64] f45.ntmps f45.results.toList (codeOf f45) = fun x => impl_MostFactors x.1 x.2.1 := by kernel_rfl
theorem A45_ok : FnOk prog 45 A45 := by
  have h := fnOk_of_run (P := prog) (E := E45) (tysOk_of tyl_ok) E45_ok (L := L45_0) (ps := [.v (.pair (.int .i64) (.pair (.sl (.int .i64)) (.pair (.sl (.int .i64)) (.sl (.pair (.int .i64) (.pair .str (.pair (.int .i64) (.int .i64)))))))), .v (.int .i64)]) (own := true) (outs := [.int .i64]) func45 (c := codeOf f45) (by kernel_rfl) (codeOk_in (L := L45_0) (tysOk_of tyl_ok) E45_ok mixed (c := codeOf f45) (bs := []) (by kernel_rfl) allNil (by kernel_rfl))
  rw [impl_MostFactors_eq] at h
  exact h
/-! laws.FnExactMostFactors -/
noncomputable def E13 : Env := ⟨ty0, fun g => ifEq g 21 (some A21) (ifEq g 23 (some A23) (ifEq g 44 (some A44) (ifEq g 45 (some A45) (ifEq g 25 (some A25) (none))))), fun _ => none, fun _ => none⟩
theorem E13_ok : FnsOk prog E13 := (oneFn A21_ok func21 (by kernel_rfl) (by kernel_rfl) (oneFn A23_ok func23 (by kernel_rfl) (by kernel_rfl) (oneFn A44_ok func44 (by kernel_rfl) (by kernel_rfl) (oneFn A45_ok func45 (by kernel_rfl) (by kernel_rfl) (oneFn A25_ok func25 (by kernel_rfl) (by kernel_rfl) (noFns _ _))))))
noncomputable def L13_0 : Nat → Option LoopD := fun _ => none
noncomputable def laws_FnExactMostFactors : (Int × ((List Int) × ((List Int) × (List (Int × (ByteArray × (Int × Int))))))) → Int → Option (Bool) := fun (a0_0, a0_1, a0_2, a0_3) a1 =>
  Option.bind (laws_szAutomaton (a0_0, a0_1, a0_2, a0_3) (1048576 : Int)) fun r0 =>
    bif (decide (r0 < (0 : Int))) then
      some true
    else
      Option.bind (laws_toAutomaton (a0_0, a0_1, a0_2, a0_3)) fun (r1, r2, r3, r4) =>
        Option.bind (spec_MostFactors (r1, (List.take (List.length r2) (List.drop 0 r2)), (List.take (List.length r3) (List.drop 0 r3)), (List.take (List.length r4) (List.drop 0 r4))) a1) fun r5 =>
          Option.bind (laws_toAutomaton (a0_0, a0_1, a0_2, a0_3)) fun (r6, r7, r8, r9) =>
            Option.bind (impl_MostFactors (r6, (List.take (List.length r7) (List.drop 0 r7)), (List.take (List.length r8) (List.drop 0 r8)), (List.take (List.length r9) (List.drop 0 r9))) a1) fun r10 =>
              bif (r10 != r5) then
                some false
              else
                Option.bind (laws_toAutomaton (a0_0, a0_1, a0_2, a0_3)) fun (r11, r12, r13, r14) =>
                  Option.bind (laws_eqAutomaton (r6, (List.take (List.length r7) (List.drop 0 r7)), (List.take (List.length r8) (List.drop 0 r8)), (List.take (List.length r9) (List.drop 0 r9))) (r11, (List.take (List.length r12) (List.drop 0 r12)), (List.take (List.length r13) (List.drop 0 r13)), (List.take (List.length r14) (List.drop 0 r14)))) fun r15 =>
                    bif (!r15) then
                      some false
                    else
                      some true
noncomputable def A13 : FnA := ⟨[.v (.pair (.int .i64) (.pair (.sl (.int .i64)) (.pair (.sl (.int .i64)) (.sl (.pair (.int .i64) (.pair .str (.pair (.int .i64) (.int .i64)))))))), .v (.int .i64)], true, [.bool], fun x => laws_FnExactMostFactors x.1 x.2.1⟩
theorem laws_FnExactMostFactors_eq : fnF E13 L13_0 [.v (.pair (.int .i64) (.pair (.sl (.int .i64)) (.pair (.sl (.int .i64)) (.sl (.pair (.int .i64) (.pair .str (.pair (.int .i64) (.int .i64)))))))), .v (.int .i64)] true [.bool] f13.ntmps f13.results.toList (codeOf f13) = fun x => laws_FnExactMostFactors x.1 x.2.1 := by kernel_rfl
theorem A13_ok : FnOk prog 13 A13 := by
  have h := fnOk_of_run (P := prog) (E := E13) (tysOk_of tyl_ok) E13_ok (L := L13_0) (ps := [.v (.pair (.int .i64) (.pair (.sl (.int .i64)) (.pair (.sl (.int .i64)) (.sl (.pair (.int .i64) (.pair .str (.pair (.int .i64) (.int .i64)))))))), .v (.int .i64)]) (own := true) (outs := [.bool]) func13 (c := codeOf f13) (by kernel_rfl) (codeOk_in (L := L13_0) (tysOk_of tyl_ok) E13_ok mixed (c := codeOf f13) (bs := []) (by kernel_rfl) allNil (by kernel_rfl))
  rw [laws_FnExactMostFactors_eq] at h
  exact h
/-! spec.TableOf -/
noncomputable def E40 : Env := ⟨ty0, fun g => ifEq g 53 (some A53) (ifEq g 54 (some A54) (ifEq g 55 (some A55) (none))), fun _ => none, fun _ => none⟩
theorem E40_ok : FnsOk prog E40 := (oneFn A53_ok func53 (by kernel_rfl) (by kernel_rfl) (oneFn A54_ok func54 (by kernel_rfl) (by kernel_rfl) (oneFn A55_ok func55 (by kernel_rfl) (by kernel_rfl) (noFns _ _))))
noncomputable def L40_0 : Nat → Option LoopD := fun _ => none
def sh40_5 : List Fm := [d, d, .box 100200 [.val (.int .i64), .val (.sl (.int .i64)), .val (.sl (.int .i64)), .val (.sl (.pair (.int .i64) (.pair .str (.pair (.int .i64) (.int .i64)))))], d, d, d, .cell (.own (.int .i64) 100600 false), d, d, d, d, d, d, d, d, d, .cell (.val (.sl .str)), .cell (.val (.int .i64)), .cell (.val (.int .i64)), d, d, d, d, d, d, d, d, d, d, d]
def xs40_5 : List (Ex × List Fm) := [(.exit 0, [d, d, d, d, d, d, .cell (.own (.int .i64) 100600 false), d, d, d, d, d, d, d, d, d, d, d, d, d, d, d, d, d, d, d, d, d, d, d])]
noncomputable def spec_TableOf_l5 : ((Int × (List Int) × (List Int) × (List (Int × (ByteArray × (Int × Int)))) × Unit) × (List Int) × (List ByteArray) × Int × Int × Unit) → Option (((Int × (List Int) × (List Int) × (List (Int × (ByteArray × (Int × Int)))) × Unit) × (List Int) × (List ByteArray) × Int × Int × Unit) ⊕ (((List Int) × Unit))) := fun ((v2_0, v2_1, v2_2, v2_3, _), v6, v16, v17, v18, _) =>
  bif (decide (v18 < v17)) then
    if (((0 : Int) ≤ v18) ∧ (v18 < (((List.length v16) : Nat) : Int))) then
      Option.bind (spec_l4Cost (v2_0, v2_1, v2_2, v2_3) (List.getD v16 (Int.toNat v18) (⟨Array.empty⟩ : ByteArray))) fun r0 =>
        if (((0 + (List.length v6)) = (List.length v6)) ∧ ((((List.length v6) + (List.length (List.take 1 (List.drop 0 [r0])))) * 8) ≤ 140737488355328)) then
          some (Sum.inl ((v2_0, v2_1, v2_2, v2_3, ()), (List.take ((List.length v6) + (List.length (List.take 1 (List.drop 0 [r0])))) (List.drop 0 ((List.drop 0 v6) ++ (List.take 1 (List.drop 0 [r0]))))), v16, v17, (IntKind.wrap .i64 (v18 + (1 : Int))), ()))
        else
          none
    else
      none
  else
    some (Sum.inr ((List.take (List.length v6) (List.drop 0 v6)), ()))
theorem spec_TableOf_l5_eq : loopStep E40 L40_0 (loopOf f40 5) sh40_5 xs40_5 = spec_TableOf_l5 := by kernel_rfl
theorem loop40_5 {L : Nat → Option LoopD} (h : L 5 = some ⟨sh40_5, xs40_5, spec_TableOf_l5⟩) : LoopOk prog L (loopOf f40 5) :=
  loopOk (tysOk_of tyl_ok) E40_ok (codeOk_in (L := L40_0) (tysOk_of tyl_ok) E40_ok mixed (c := loopOf f40 5) (bs := []) (by kernel_rfl) allNil (by kernel_rfl)) (by kernel_rfl) (by kernel_rfl) spec_TableOf_l5_eq (by rw [show firstId (loopOf f40 5) = 5 from by kernel_rfl]; exact h)
noncomputable def L40_1 : Nat → Option LoopD := fun n => ifEq n 5 (some ⟨sh40_5, xs40_5, spec_TableOf_l5⟩) (L40_0 n)
noncomputable def spec_TableOf : (Int × ((List Int) × ((List Int) × (List (Int × (ByteArray × (Int × Int))))))) → Int → Option ((List Int) × Bool) := fun (a0_0, a0_1, a0_2, a0_3) a1 =>
  Option.bind (spec_l11Short (a0_0, a0_1, a0_2, a0_3) a1) fun r0 =>
    bif (!r0) then
      some ((List.take 0 (List.drop 0 [])), false)
    else
      Option.bind (spec_l4Words a1) fun r1 =>
        Option.bind (loopF spec_TableOf_l5 ((a0_0, a0_1, a0_2, a0_3, ()), (List.take 0 (List.drop 0 [])), r1, (((List.length r1) : Nat) : Int), (0 : Int), ())) fun (r2, _) =>
          some ((List.take (List.length r2) (List.drop 0 r2)), true)
noncomputable def A40 : FnA := ⟨[.v (.pair (.int .i64) (.pair (.sl (.int .i64)) (.pair (.sl (.int .i64)) (.sl (.pair (.int .i64) (.pair .str (.pair (.int .i64) (.int .i64)))))))), .v (.int .i64)], true, [.sl (.int .i64), .bool], fun x => spec_TableOf x.1 x.2.1⟩
theorem spec_TableOf_eq : fnF E40 L40_1 [.v (.pair (.int .i64) (.pair (.sl (.int .i64)) (.pair (.sl (.int .i64)) (.sl (.pair (.int .i64) (.pair .str (.pair (.int .i64) (.int .i64)))))))), .v (.int .i64)] true [.sl (.int .i64), .bool] f40.ntmps f40.results.toList (codeOf f40) = fun x => spec_TableOf x.1 x.2.1 := by kernel_rfl
theorem A40_ok : FnOk prog 40 A40 := by
  have h := fnOk_of_run (P := prog) (E := E40) (tysOk_of tyl_ok) E40_ok (L := L40_1) (ps := [.v (.pair (.int .i64) (.pair (.sl (.int .i64)) (.pair (.sl (.int .i64)) (.sl (.pair (.int .i64) (.pair .str (.pair (.int .i64) (.int .i64)))))))), .v (.int .i64)]) (own := true) (outs := [.sl (.int .i64), .bool]) func40 (c := codeOf f40) (by kernel_rfl) (codeOk_in (L := L40_1) (tysOk_of tyl_ok) E40_ok mixed (c := codeOf f40) (bs := [loopOf f40 5]) (by kernel_rfl) (allCons (loop40_5 rfl) allNil) (by kernel_rfl))
  rw [spec_TableOf_eq] at h
  exact h
/-! impl.TableOf -/
noncomputable def E41 : Env := ⟨ty0, fun g => ifEq g 58 (some A58) (ifEq g 59 (some A59) (none)), fun _ => none, fun _ => none⟩
theorem E41_ok : FnsOk prog E41 := (oneFn A58_ok func58 (by kernel_rfl) (by kernel_rfl) (oneFn A59_ok func59 (by kernel_rfl) (by kernel_rfl) (noFns _ _)))
noncomputable def L41_0 : Nat → Option LoopD := fun _ => none
def sh41_6 : List Fm := [d, d, .box 100200 [.val (.int .i64), .val (.sl (.int .i64)), .val (.sl (.int .i64)), .val (.sl (.pair (.int .i64) (.pair .str (.pair (.int .i64) (.int .i64)))))], d, d, d, d, d, .cell (.own (.int .i64) 100800 false), d, d, d, d, d, d, d, d, d, d, d, d, .cell (.val (.sl .str)), .cell (.val (.int .i64)), .cell (.val (.int .i64)), d, d, d, d, d, d, d, d, d, d, d]
def xs41_6 : List (Ex × List Fm) := [(.exit 0, [d, d, d, d, d, d, d, d, .cell (.own (.int .i64) 100800 false), d, d, d, d, d, d, d, d, d, d, d, d, d, d, d, d, d, d, d, d, d, d, d, d, d, d])]
noncomputable def impl_TableOf_l6 : ((Int × (List Int) × (List Int) × (List (Int × (ByteArray × (Int × Int)))) × Unit) × (List Int) × (List ByteArray) × Int × Int × Unit) → Option (((Int × (List Int) × (List Int) × (List (Int × (ByteArray × (Int × Int)))) × Unit) × (List Int) × (List ByteArray) × Int × Int × Unit) ⊕ (((List Int) × Unit))) := fun ((v2_0, v2_1, v2_2, v2_3, _), v8, v21, v22, v23, _) =>
  bif (decide (v23 < v22)) then
    if (((0 : Int) ≤ v23) ∧ (v23 < (((List.length v21) : Nat) : Int))) then
      Option.bind (impl_CostOf (v2_0, v2_1, v2_2, v2_3) (List.getD v21 (Int.toNat v23) (⟨Array.empty⟩ : ByteArray))) fun r0 =>
        if (((0 + (List.length v8)) = (List.length v8)) ∧ ((((List.length v8) + (List.length (List.take 1 (List.drop 0 [r0])))) * 8) ≤ 140737488355328)) then
          some (Sum.inl ((v2_0, v2_1, v2_2, v2_3, ()), (List.take ((List.length v8) + (List.length (List.take 1 (List.drop 0 [r0])))) (List.drop 0 ((List.drop 0 v8) ++ (List.take 1 (List.drop 0 [r0]))))), v21, v22, (IntKind.wrap .i64 (v23 + (1 : Int))), ()))
        else
          none
    else
      none
  else
    some (Sum.inr ((List.take (List.length v8) (List.drop 0 v8)), ()))
theorem impl_TableOf_l6_eq : loopStep E41 L41_0 (loopOf f41 6) sh41_6 xs41_6 = impl_TableOf_l6 := by kernel_rfl
theorem loop41_6 {L : Nat → Option LoopD} (h : L 6 = some ⟨sh41_6, xs41_6, impl_TableOf_l6⟩) : LoopOk prog L (loopOf f41 6) :=
  loopOk (tysOk_of tyl_ok) E41_ok (codeOk_in (L := L41_0) (tysOk_of tyl_ok) E41_ok mixed (c := loopOf f41 6) (bs := []) (by kernel_rfl) allNil (by kernel_rfl)) (by kernel_rfl) (by kernel_rfl) impl_TableOf_l6_eq (by rw [show firstId (loopOf f41 6) = 6 from by kernel_rfl]; exact h)
noncomputable def L41_1 : Nat → Option LoopD := fun n => ifEq n 6 (some ⟨sh41_6, xs41_6, impl_TableOf_l6⟩) (L41_0 n)
noncomputable def impl_TableOf : (Int × ((List Int) × ((List Int) × (List (Int × (ByteArray × (Int × Int))))))) → Int → Option ((List Int) × Bool) := fun (a0_0, a0_1, a0_2, a0_3) a1 =>
  Option.bind (impl_short a1 (List.take 1 (List.drop 0 [(a0_0, a0_1, a0_2, a0_3)]))) fun (r0, r1) =>
    bif (!r1) then
      some ([], false)
    else
      Option.bind (loopF impl_TableOf_l6 ((a0_0, a0_1, a0_2, a0_3, ()), (List.take 0 (List.drop 0 [])), r0, (((List.length r0) : Nat) : Int), (0 : Int), ())) fun (r2, _) =>
        some ((List.take (List.length r2) (List.drop 0 r2)), true)
noncomputable def A41 : FnA := ⟨[.v (.pair (.int .i64) (.pair (.sl (.int .i64)) (.pair (.sl (.int .i64)) (.sl (.pair (.int .i64) (.pair .str (.pair (.int .i64) (.int .i64)))))))), .v (.int .i64)], true, [.sl (.int .i64), .bool], fun x => impl_TableOf x.1 x.2.1⟩
theorem impl_TableOf_eq : fnF E41 L41_1 [.v (.pair (.int .i64) (.pair (.sl (.int .i64)) (.pair (.sl (.int .i64)) (.sl (.pair (.int .i64) (.pair .str (.pair (.int .i64) (.int .i64)))))))), .v (.int .i64)] true [.sl (.int .i64), .bool] f41.ntmps f41.results.toList (codeOf f41) = fun x => impl_TableOf x.1 x.2.1 := by kernel_rfl
theorem A41_ok : FnOk prog 41 A41 := by
  have h := fnOk_of_run (P := prog) (E := E41) (tysOk_of tyl_ok) E41_ok (L := L41_1) (ps := [.v (.pair (.int .i64) (.pair (.sl (.int .i64)) (.pair (.sl (.int .i64)) (.sl (.pair (.int .i64) (.pair .str (.pair (.int .i64) (.int .i64)))))))), .v (.int .i64)]) (own := true) (outs := [.sl (.int .i64), .bool]) func41 (c := codeOf f41) (by kernel_rfl) (codeOk_in (L := L41_1) (tysOk_of tyl_ok) E41_ok mixed (c := codeOf f41) (bs := [loopOf f41 6]) (by kernel_rfl) (allCons (loop41_6 rfl) allNil) (by kernel_rfl))
  rw [impl_TableOf_eq] at h
  exact h
/-! laws.markIntS -/
noncomputable def E38 : Env := ⟨ty0, fun _ => none, fun _ => none, fun _ => none⟩
theorem E38_ok : FnsOk prog E38 := (noFns _ _)
noncomputable def L38_0 : Nat → Option LoopD := fun _ => none
def sh38_2 : List Fm := [.cell (.own (.int .i64) 200000 false), .cell (.val (.int .i64)), d, d, d, .cell (.val (.int .i64)), d, d, d, d, d, d, d, d, d, d, d, d, d]
def xs38_2 : List (Ex × List Fm) := [(.exit 0, [.cell (.own (.int .i64) 200000 false), .cell (.val (.int .i64)), d, d, d, d, d, d, d, d, d, d, d, d, d, d, d, d, d])]
noncomputable def laws_markIntS_l2 : ((List Int) × Int × Int × Unit) → Option (((List Int) × Int × Int × Unit) ⊕ (((List Int) × Int × Unit))) := fun (v0, v1, v5, _) =>
  bif (decide (v5 < (((List.length v0) : Nat) : Int))) then
    if (((0 : Int) ≤ v5) ∧ (v5 < (((List.length v0) : Nat) : Int))) then
      if ((List.length v0) = (List.length (List.set v0 (0 + (Int.toNat v5)) v1))) then
        some (Sum.inl ((List.set v0 (0 + (Int.toNat v5)) v1), (IntKind.wrap .i64 (v1 + (1 : Int))), (IntKind.wrap .i64 (v5 + (1 : Int))), ()))
      else
        none
    else
      none
  else
    if ((List.length v0) = (List.length v0)) then
      some (Sum.inr (v0, v1, ()))
    else
      none
theorem laws_markIntS_l2_eq : loopStep E38 L38_0 (loopOf f38 2) sh38_2 xs38_2 = laws_markIntS_l2 := by kernel_rfl
theorem loop38_2 {L : Nat → Option LoopD} (h : L 2 = some ⟨sh38_2, xs38_2, laws_markIntS_l2⟩) : LoopOk prog L (loopOf f38 2) :=
  loopOk (tysOk_of tyl_ok) E38_ok (codeOk_in (L := L38_0) (tysOk_of tyl_ok) E38_ok mixed (c := loopOf f38 2) (bs := []) (by kernel_rfl) allNil (by kernel_rfl)) (by kernel_rfl) (by kernel_rfl) laws_markIntS_l2_eq (by rw [show firstId (loopOf f38 2) = 2 from by kernel_rfl]; exact h)
noncomputable def L38_1 : Nat → Option LoopD := fun n => ifEq n 2 (some ⟨sh38_2, xs38_2, laws_markIntS_l2⟩) (L38_0 n)
noncomputable def laws_markIntS : (List Int) → Int → Option ((Int) × ((List Int) × Unit)) := fun a0 a1 =>
  if ((List.length a0) = (List.length a0)) then
    Option.bind (loopF laws_markIntS_l2 (a0, a1, (0 : Int), ())) fun (r0, r1, _) =>
      some (r1, r0, ())
  else
    none
noncomputable def A38 : FnM := ⟨[.io (.sl (.int .i64)), .v (.int .i64)], true, [.int .i64], fun x => laws_markIntS x.1 x.2.1⟩
theorem laws_markIntS_eq : fnMF E38 L38_1 [.io (.sl (.int .i64)), .v (.int .i64)] true [.int .i64] f38.ntmps f38.results.toList (codeOf f38) = fun x => laws_markIntS x.1 x.2.1 := by kernel_rfl
theorem A38_ok : FnMOk prog 38 A38 := by
  have h := fnMOk_of_run (P := prog) (E := E38) (tysOk_of tyl_ok) E38_ok (L := L38_1) (ps := [.io (.sl (.int .i64)), .v (.int .i64)]) (own := true) (outs := [.int .i64]) func38 (c := codeOf f38) (by kernel_rfl) (codeOk_in (L := L38_1) (tysOk_of tyl_ok) E38_ok mixed (c := codeOf f38) (bs := [loopOf f38 2]) (by kernel_rfl) (allCons (loop38_2 rfl) allNil) (by kernel_rfl)) (by kernel_rfl)
  rw [laws_markIntS_eq] at h
  exact h
/-! laws.markText -/
noncomputable def E95 : Env := ⟨ty0, fun _ => none, fun _ => none, fun _ => none⟩
theorem E95_ok : FnsOk prog E95 := (noFns _ _)
noncomputable def L95_0 : Nat → Option LoopD := fun _ => none
def sh95_4 : List Fm := [.cell (.val (.int .i64)), d, d, .cell (.val .str), d, d, d, d, d, d, d, d, d, d, d, d, d, d, d, d]
def xs95_4 : List (Ex × List Fm) := [(.exit 0, [d, d, d, .cell (.val .str), d, d, d, d, d, d, d, d, d, d, d, d, d, d, d, d])]
noncomputable def laws_markText_l4 : (Int × ByteArray × Unit) → Option ((Int × ByteArray × Unit) ⊕ ((ByteArray × Unit))) := fun (v0, v3, _) =>
  bif (decide (v0 > (0 : Int))) then
    if ((10 : Int) = (0 : Int)) then
      none
    else
      if (((ByteArray.size (strOfNums (List.take 1 (List.drop 0 [(IntKind.wrap .u8 (IntKind.wrap .i64 ((48 : Int) + (Int.tmod v0 (10 : Int)))))])))) + (ByteArray.size v3)) ≤ 9223372036854775807) then
        if ((10 : Int) = (0 : Int)) then
          none
        else
          some (Sum.inl ((IntKind.wrap .i64 (Int.tdiv v0 (10 : Int))), ((strOfNums (List.take 1 (List.drop 0 [(IntKind.wrap .u8 (IntKind.wrap .i64 ((48 : Int) + (Int.tmod v0 (10 : Int)))))]))) ++ v3), ()))
      else
        none
  else
    some (Sum.inr (v3, ()))
theorem laws_markText_l4_eq : loopStep E95 L95_0 (loopOf f95 4) sh95_4 xs95_4 = laws_markText_l4 := by kernel_rfl
theorem loop95_4 {L : Nat → Option LoopD} (h : L 4 = some ⟨sh95_4, xs95_4, laws_markText_l4⟩) : LoopOk prog L (loopOf f95 4) :=
  loopOk (tysOk_of tyl_ok) E95_ok (codeOk_in (L := L95_0) (tysOk_of tyl_ok) E95_ok mixed (c := loopOf f95 4) (bs := []) (by kernel_rfl) allNil (by kernel_rfl)) (by kernel_rfl) (by kernel_rfl) laws_markText_l4_eq (by rw [show firstId (loopOf f95 4) = 4 from by kernel_rfl]; exact h)
noncomputable def L95_1 : Nat → Option LoopD := fun n => ifEq n 4 (some ⟨sh95_4, xs95_4, laws_markText_l4⟩) (L95_0 n)
noncomputable def laws_markText : Int → Option (ByteArray) := fun a0 =>
  bif (decide (a0 ≤ (0 : Int))) then
    some (⟨#[(109 : UInt8), (48 : UInt8)]⟩ : ByteArray)
  else
    Option.bind (loopF laws_markText_l4 (a0, (⟨#[]⟩ : ByteArray), ())) fun (r0, _) =>
      if (((ByteArray.size (⟨#[(109 : UInt8)]⟩ : ByteArray)) + (ByteArray.size r0)) ≤ 9223372036854775807) then
        some ((⟨#[(109 : UInt8)]⟩ : ByteArray) ++ r0)
      else
        none
noncomputable def A95 : FnA := ⟨[.v (.int .i64)], true, [.str], fun x => laws_markText x.1⟩
theorem laws_markText_eq : fnF E95 L95_1 [.v (.int .i64)] true [.str] f95.ntmps f95.results.toList (codeOf f95) = fun x => laws_markText x.1 := by kernel_rfl
theorem A95_ok : FnOk prog 95 A95 := by
  have h := fnOk_of_run (P := prog) (E := E95) (tysOk_of tyl_ok) E95_ok (L := L95_1) (ps := [.v (.int .i64)]) (own := true) (outs := [.str]) func95 (c := codeOf f95) (by kernel_rfl) (codeOk_in (L := L95_1) (tysOk_of tyl_ok) E95_ok mixed (c := codeOf f95) (bs := [loopOf f95 4]) (by kernel_rfl) (allCons (loop95_4 rfl) allNil) (by kernel_rfl))
  rw [laws_markText_eq] at h
  exact h
/-! laws.markStepS -/
noncomputable def E77 : Env := ⟨ty0, fun g => ifEq g 95 (some A95) (none), fun _ => none, fun _ => none⟩
theorem E77_ok : FnsOk prog E77 := (oneFn A95_ok func95 (by kernel_rfl) (by kernel_rfl) (noFns _ _))
noncomputable def L77_0 : Nat → Option LoopD := fun _ => none
def sh77_2 : List Fm := [.cell (.own (.pair (.int .i64) (.pair .str (.pair (.int .i64) (.int .i64)))) 200000 false), .cell (.val (.int .i64)), d, d, d, .cell (.val (.int .i64)), d, d, d, d, d, d, d, d, d, d, d, d, d, d, d, d, d, d, d, d, d, d, d, d, d, d, d, d, d, d, d, d, d, d, d, d]
def xs77_2 : List (Ex × List Fm) := [(.exit 0, [.cell (.own (.pair (.int .i64) (.pair .str (.pair (.int .i64) (.int .i64)))) 200000 false), .cell (.val (.int .i64)), d, d, d, d, d, d, d, d, d, d, d, d, d, d, d, d, d, d, d, d, d, d, d, d, d, d, d, d, d, d, d, d, d, d, d, d, d, d, d, d])]
noncomputable def laws_markStepS_l2 : ((List (Int × (ByteArray × (Int × Int)))) × Int × Int × Unit) → Option (((List (Int × (ByteArray × (Int × Int)))) × Int × Int × Unit) ⊕ (((List (Int × (ByteArray × (Int × Int)))) × Int × Unit))) := fun (v0, v1, v5, _) =>
  bif (decide (v5 < (((List.length v0) : Nat) : Int))) then
    if (((0 : Int) ≤ v5) ∧ (v5 < (((List.length v0) : Nat) : Int))) then
      Option.bind (Option.some (List.set v0 (0 + (Int.toNat v5)) (v1, (List.getD v0 (0 + (Int.toNat v5)) ((0 : Int), (⟨Array.empty⟩ : ByteArray), (0 : Int), (0 : Int))).2))) fun r0 =>
        Option.bind (laws_markText (IntKind.wrap .i64 (v1 + (1 : Int)))) fun r1 =>
          if (((0 : Int) ≤ v5) ∧ (v5 < (((List.length v0) : Nat) : Int))) then
            Option.bind (Option.some (List.set r0 (0 + (Int.toNat v5)) ((List.getD r0 (0 + (Int.toNat v5)) ((0 : Int), (⟨Array.empty⟩ : ByteArray), (0 : Int), (0 : Int))).1, r1, (List.getD r0 (0 + (Int.toNat v5)) ((0 : Int), (⟨Array.empty⟩ : ByteArray), (0 : Int), (0 : Int))).2.2))) fun r2 =>
              if (((0 : Int) ≤ v5) ∧ (v5 < (((List.length v0) : Nat) : Int))) then
                Option.bind (Option.some (List.set r2 (0 + (Int.toNat v5)) ((List.getD r2 (0 + (Int.toNat v5)) ((0 : Int), (⟨Array.empty⟩ : ByteArray), (0 : Int), (0 : Int))).1, (List.getD r2 (0 + (Int.toNat v5)) ((0 : Int), (⟨Array.empty⟩ : ByteArray), (0 : Int), (0 : Int))).2.1, (IntKind.wrap .i64 ((IntKind.wrap .i64 (v1 + (1 : Int))) + (1 : Int))), (List.getD r2 (0 + (Int.toNat v5)) ((0 : Int), (⟨Array.empty⟩ : ByteArray), (0 : Int), (0 : Int))).2.2.2))) fun r3 =>
                  if (((0 : Int) ≤ v5) ∧ (v5 < (((List.length v0) : Nat) : Int))) then
                    Option.bind (Option.some (List.set r3 (0 + (Int.toNat v5)) ((List.getD r3 (0 + (Int.toNat v5)) ((0 : Int), (⟨Array.empty⟩ : ByteArray), (0 : Int), (0 : Int))).1, (List.getD r3 (0 + (Int.toNat v5)) ((0 : Int), (⟨Array.empty⟩ : ByteArray), (0 : Int), (0 : Int))).2.1, (List.getD r3 (0 + (Int.toNat v5)) ((0 : Int), (⟨Array.empty⟩ : ByteArray), (0 : Int), (0 : Int))).2.2.1, (IntKind.wrap .i64 ((IntKind.wrap .i64 ((IntKind.wrap .i64 (v1 + (1 : Int))) + (1 : Int))) + (1 : Int)))))) fun r4 =>
                      if ((List.length v0) = (List.length r4)) then
                        some (Sum.inl (r4, (IntKind.wrap .i64 ((IntKind.wrap .i64 ((IntKind.wrap .i64 ((IntKind.wrap .i64 (v1 + (1 : Int))) + (1 : Int))) + (1 : Int))) + (1 : Int))), (IntKind.wrap .i64 (v5 + (1 : Int))), ()))
                      else
                        none
                  else
                    none
              else
                none
          else
            none
    else
      none
  else
    if ((List.length v0) = (List.length v0)) then
      some (Sum.inr (v0, v1, ()))
    else
      none
theorem laws_markStepS_l2_eq : loopStep E77 L77_0 (loopOf f77 2) sh77_2 xs77_2 = laws_markStepS_l2 := by kernel_rfl
theorem loop77_2 {L : Nat → Option LoopD} (h : L 2 = some ⟨sh77_2, xs77_2, laws_markStepS_l2⟩) : LoopOk prog L (loopOf f77 2) :=
  loopOk (tysOk_of tyl_ok) E77_ok (codeOk_in (L := L77_0) (tysOk_of tyl_ok) E77_ok mixed (c := loopOf f77 2) (bs := []) (by kernel_rfl) allNil (by kernel_rfl)) (by kernel_rfl) (by kernel_rfl) laws_markStepS_l2_eq (by rw [show firstId (loopOf f77 2) = 2 from by kernel_rfl]; exact h)
noncomputable def L77_1 : Nat → Option LoopD := fun n => ifEq n 2 (some ⟨sh77_2, xs77_2, laws_markStepS_l2⟩) (L77_0 n)
noncomputable def laws_markStepS : (List (Int × (ByteArray × (Int × Int)))) → Int → Option ((Int) × ((List (Int × (ByteArray × (Int × Int)))) × Unit)) := fun a0 a1 =>
  if ((List.length a0) = (List.length a0)) then
    Option.bind (loopF laws_markStepS_l2 (a0, a1, (0 : Int), ())) fun (r0, r1, _) =>
      some (r1, r0, ())
  else
    none
noncomputable def A77 : FnM := ⟨[.io (.sl (.pair (.int .i64) (.pair .str (.pair (.int .i64) (.int .i64))))), .v (.int .i64)], true, [.int .i64], fun x => laws_markStepS x.1 x.2.1⟩
theorem laws_markStepS_eq : fnMF E77 L77_1 [.io (.sl (.pair (.int .i64) (.pair .str (.pair (.int .i64) (.int .i64))))), .v (.int .i64)] true [.int .i64] f77.ntmps f77.results.toList (codeOf f77) = fun x => laws_markStepS x.1 x.2.1 := by kernel_rfl
theorem A77_ok : FnMOk prog 77 A77 := by
  have h := fnMOk_of_run (P := prog) (E := E77) (tysOk_of tyl_ok) E77_ok (L := L77_1) (ps := [.io (.sl (.pair (.int .i64) (.pair .str (.pair (.int .i64) (.int .i64))))), .v (.int .i64)]) (own := true) (outs := [.int .i64]) func77 (c := codeOf f77) (by kernel_rfl) (codeOk_in (L := L77_1) (tysOk_of tyl_ok) E77_ok mixed (c := codeOf f77) (bs := [loopOf f77 2]) (by kernel_rfl) (allCons (loop77_2 rfl) allNil) (by kernel_rfl)) (by kernel_rfl)
  rw [laws_markStepS_eq] at h
  exact h
/-! laws.markAutomaton -/
noncomputable def E37 : Env := ⟨ty0, fun _ => none, fun g => ifEq g 38 (some A38) (ifEq g 77 (some A77) (none)), fun _ => none⟩
theorem E37_ok : FnsOk prog E37 := (oneMs A38_ok (by kernel_rfl) func38 (by kernel_rfl) (by kernel_rfl) (oneMs A77_ok (by kernel_rfl) func77 (by kernel_rfl) (by kernel_rfl) (noFns _ _)))
noncomputable def L37_0 : Nat → Option LoopD := fun _ => none
noncomputable def laws_markAutomaton : (Int × ((List Int) × ((List Int) × (List (Int × (ByteArray × (Int × Int))))))) → Int → Option ((Int) × ((Int × ((List Int) × ((List Int) × (List (Int × (ByteArray × (Int × Int))))))) × Unit)) := fun (a0_0, a0_1, a0_2, a0_3) a1 =>
  if ((List.length a0_1) = (List.length a0_1)) then
    Option.bind (laws_markIntS a0_1 a1) fun (r0, r1, _) =>
      if ((List.length a0_2) = (List.length a0_2)) then
        Option.bind (laws_markIntS a0_2 r0) fun (r2, r3, _) =>
          if ((List.length a0_3) = (List.length a0_3)) then
            Option.bind (laws_markStepS a0_3 r2) fun (r4, r5, _) =>
              some (r4, (a0_0, r1, r3, r5), ())
          else
            none
      else
        none
  else
    none
noncomputable def A37 : FnM := ⟨[.io (.pair (.int .i64) (.pair (.sl (.int .i64)) (.pair (.sl (.int .i64)) (.sl (.pair (.int .i64) (.pair .str (.pair (.int .i64) (.int .i64)))))))), .v (.int .i64)], true, [.int .i64], fun x => laws_markAutomaton x.1 x.2.1⟩
theorem laws_markAutomaton_eq : fnMF E37 L37_0 [.io (.pair (.int .i64) (.pair (.sl (.int .i64)) (.pair (.sl (.int .i64)) (.sl (.pair (.int .i64) (.pair .str (.pair (.int .i64) (.int .i64)))))))), .v (.int .i64)] true [.int .i64] f37.ntmps f37.results.toList (codeOf f37) = fun x => laws_markAutomaton x.1 x.2.1 := by kernel_rfl
theorem A37_ok : FnMOk prog 37 A37 := by
  have h := fnMOk_of_run (P := prog) (E := E37) (tysOk_of tyl_ok) E37_ok (L := L37_0) (ps := [.io (.pair (.int .i64) (.pair (.sl (.int .i64)) (.pair (.sl (.int .i64)) (.sl (.pair (.int .i64) (.pair .str (.pair (.int .i64) (.int .i64)))))))), .v (.int .i64)]) (own := true) (outs := [.int .i64]) func37 (c := codeOf f37) (by kernel_rfl) (codeOk_in (L := L37_0) (tysOk_of tyl_ok) E37_ok mixed (c := codeOf f37) (bs := []) (by kernel_rfl) allNil (by kernel_rfl)) (by kernel_rfl)
  rw [laws_markAutomaton_eq] at h
  exact h
/-! laws.heldIntS -/
noncomputable def E39 : Env := ⟨ty0, fun _ => none, fun _ => none, fun _ => none⟩
theorem E39_ok : FnsOk prog E39 := (noFns _ _)
noncomputable def L39_0 : Nat → Option LoopD := fun _ => none
def sh39_2 : List Fm := [.cell (.val (.sl (.int .i64))), .cell (.val (.int .i64)), d, d, d, .cell (.val (.int .i64)), d, d, d, d, d, d, d, d, d, d, d, d, d, d, d]
def xs39_2 : List (Ex × List Fm) := [(.ret, [d, d, d, d, .cell (.val (.int .i64)), d, d, d, d, d, d, d, d, d, d, d, d, d, d, d, d]), (.exit 0, [d, .cell (.val (.int .i64)), d, d, d, d, d, d, d, d, d, d, d, d, d, d, d, d, d, d, d])]
noncomputable def laws_heldIntS_l2 : ((List Int) × Int × Int × Unit) → Option (((List Int) × Int × Int × Unit) ⊕ ((Int × Unit) ⊕ (Int × Unit))) := fun (v0, v1, v5, _) =>
  bif (decide (v5 < (((List.length v0) : Nat) : Int))) then
    if (((0 : Int) ≤ v5) ∧ (v5 < (((List.length v0) : Nat) : Int))) then
      bif ((List.getD v0 (Int.toNat v5) (0 : Int)) != v1) then
        some (Sum.inr (Sum.inl ((-1 : Int), ())))
      else
        some (Sum.inl (v0, (IntKind.wrap .i64 (v1 + (1 : Int))), (IntKind.wrap .i64 (v5 + (1 : Int))), ()))
    else
      none
  else
    some (Sum.inr (Sum.inr (v1, ())))
theorem laws_heldIntS_l2_eq : loopStep E39 L39_0 (loopOf f39 2) sh39_2 xs39_2 = laws_heldIntS_l2 := by kernel_rfl
theorem loop39_2 {L : Nat → Option LoopD} (h : L 2 = some ⟨sh39_2, xs39_2, laws_heldIntS_l2⟩) : LoopOk prog L (loopOf f39 2) :=
  loopOk (tysOk_of tyl_ok) E39_ok (codeOk_in (L := L39_0) (tysOk_of tyl_ok) E39_ok mixed (c := loopOf f39 2) (bs := []) (by kernel_rfl) allNil (by kernel_rfl)) (by kernel_rfl) (by kernel_rfl) laws_heldIntS_l2_eq (by rw [show firstId (loopOf f39 2) = 2 from by kernel_rfl]; exact h)
noncomputable def L39_1 : Nat → Option LoopD := fun n => ifEq n 2 (some ⟨sh39_2, xs39_2, laws_heldIntS_l2⟩) (L39_0 n)
noncomputable def laws_heldIntS : (List Int) → Int → Option (Int) := fun a0 a1 =>
  Option.bind (loopF laws_heldIntS_l2 (a0, a1, (0 : Int), ())) fun r0 =>
    (match r0 with
    | .inl (d1, _) =>
        some d1
    | .inr (d2, _) =>
        some d2)
noncomputable def A39 : FnA := ⟨[.v (.sl (.int .i64)), .v (.int .i64)], true, [.int .i64], fun x => laws_heldIntS x.1 x.2.1⟩
theorem laws_heldIntS_eq : fnF E39 L39_1 [.v (.sl (.int .i64)), .v (.int .i64)] true [.int .i64] f39.ntmps f39.results.toList (codeOf f39) = fun x => laws_heldIntS x.1 x.2.1 := by kernel_rfl
theorem A39_ok : FnOk prog 39 A39 := by
  have h := fnOk_of_run (P := prog) (E := E39) (tysOk_of tyl_ok) E39_ok (L := L39_1) (ps := [.v (.sl (.int .i64)), .v (.int .i64)]) (own := true) (outs := [.int .i64]) func39 (c := codeOf f39) (by kernel_rfl) (codeOk_in (L := L39_1) (tysOk_of tyl_ok) E39_ok mixed (c := codeOf f39) (bs := [loopOf f39 2]) (by kernel_rfl) (allCons (loop39_2 rfl) allNil) (by kernel_rfl))
  rw [laws_heldIntS_eq] at h
  exact h
/-! laws.FnExactTableOf -/
noncomputable def E11 : Env := ⟨ty0, fun g => ifEq g 21 (some A21) (ifEq g 23 (some A23) (ifEq g 40 (some A40) (ifEq g 41 (some A41) (ifEq g 36 (some A36) (ifEq g 25 (some A25) (ifEq g 39 (some A39) (none))))))), fun g => ifEq g 37 (some A37) (ifEq g 38 (some A38) (none)), fun _ => none⟩
theorem E11_ok : FnsOk prog E11 := (oneFn A21_ok func21 (by kernel_rfl) (by kernel_rfl) (oneFn A23_ok func23 (by kernel_rfl) (by kernel_rfl) (oneFn A40_ok func40 (by kernel_rfl) (by kernel_rfl) (oneFn A41_ok func41 (by kernel_rfl) (by kernel_rfl) (oneFn A36_ok func36 (by kernel_rfl) (by kernel_rfl) (oneFn A25_ok func25 (by kernel_rfl) (by kernel_rfl) (oneFn A39_ok func39 (by kernel_rfl) (by kernel_rfl) (oneMs A37_ok (by kernel_rfl) func37 (by kernel_rfl) (by kernel_rfl) (oneMs A38_ok (by kernel_rfl) func38 (by kernel_rfl) (by kernel_rfl) (noFns _ _))))))))))
noncomputable def L11_0 : Nat → Option LoopD := fun _ => none
noncomputable def laws_FnExactTableOf : (Int × ((List Int) × ((List Int) × (List (Int × (ByteArray × (Int × Int))))))) → Int → Option (Bool) := fun (a0_0, a0_1, a0_2, a0_3) a1 =>
  Option.bind (laws_szAutomaton (a0_0, a0_1, a0_2, a0_3) (1048576 : Int)) fun r0 =>
    bif (decide (r0 < (0 : Int))) then
      some true
    else
      Option.bind (laws_toAutomaton (a0_0, a0_1, a0_2, a0_3)) fun (r1, r2, r3, r4) =>
        Option.bind (spec_TableOf (r1, (List.take (List.length r2) (List.drop 0 r2)), (List.take (List.length r3) (List.drop 0 r3)), (List.take (List.length r4) (List.drop 0 r4))) a1) fun (r5, r6) =>
          Option.bind (laws_toAutomaton (a0_0, a0_1, a0_2, a0_3)) fun (r7, r8, r9, r10) =>
            Option.bind (impl_TableOf (r7, (List.take (List.length r8) (List.drop 0 r8)), (List.take (List.length r9) (List.drop 0 r9)), (List.take (List.length r10) (List.drop 0 r10))) a1) fun (r11, r12) =>
              Option.bind (laws_eqIntS (List.take (List.length r11) (List.drop 0 r11)) (List.take (List.length r5) (List.drop 0 r5))) fun r13 =>
                bif (!r13) then
                  some false
                else
                  bif (!(r12 == r6)) then
                    some false
                  else
                    Option.bind (laws_toAutomaton (a0_0, a0_1, a0_2, a0_3)) fun (r14, r15, r16, r17) =>
                      Option.bind (laws_eqAutomaton (r7, (List.take (List.length r8) (List.drop 0 r8)), (List.take (List.length r9) (List.drop 0 r9)), (List.take (List.length r10) (List.drop 0 r10))) (r14, (List.take (List.length r15) (List.drop 0 r15)), (List.take (List.length r16) (List.drop 0 r16)), (List.take (List.length r17) (List.drop 0 r17)))) fun r18 =>
                        bif (!r18) then
                          some false
                        else
                          if ((List.length r8) = (List.length r8)) then
                            if ((List.length r9) = (List.length r9)) then
                              if ((List.length r10) = (List.length r10)) then
                                Option.bind (laws_markAutomaton (r7, r8, r9, r10) (1 : Int)) fun (r19, (r20, r21, r22, r23), _) =>
                                  bif (decide (r19 < (0 : Int))) then
                                    some false
                                  else
                                    Option.bind (laws_eqIntS (List.take (List.length r11) (List.drop 0 r11)) (List.take (List.length r5) (List.drop 0 r5))) fun r24 =>
                                      bif (!r24) then
                                        some false
                                      else
                                        bif (!(r12 == r6)) then
                                          some false
                                        else
                                          if ((List.length r11) = (List.length r11)) then
                                            Option.bind (laws_markIntS r11 (1 : Int)) fun (r25, r26, _) =>
                                              Option.bind (laws_heldIntS (List.take (List.length r11) (List.drop 0 r26)) (1 : Int)) fun r27 =>
                                                bif (decide (r27 < (0 : Int))) then
                                                  some false
                                                else
                                                  bif (r27 != r25) then
                                                    some false
                                                  else
                                                    Option.bind (laws_toAutomaton (a0_0, a0_1, a0_2, a0_3)) fun (r28, r29, r30, r31) =>
                                                      Option.bind (impl_TableOf (r28, (List.take (List.length r29) (List.drop 0 r29)), (List.take (List.length r30) (List.drop 0 r30)), (List.take (List.length r31) (List.drop 0 r31))) a1) fun (r32, r33) =>
                                                        Option.bind (laws_eqIntS (List.take (List.length r32) (List.drop 0 r32)) (List.take (List.length r5) (List.drop 0 r5))) fun r34 =>
                                                          bif (!r34) then
                                                            some false
                                                          else
                                                            bif (!(r33 == r6)) then
                                                              some false
                                                            else
                                                              Option.bind (laws_heldIntS (List.take (List.length r11) (List.drop 0 r26)) (1 : Int)) fun r35 =>
                                                                bif (decide (r35 < (0 : Int))) then
                                                                  some false
                                                                else
                                                                  bif (r35 != r25) then
                                                                    some false
                                                                  else
                                                                    some true
                                          else
                                            none
                              else
                                none
                            else
                              none
                          else
                            none
noncomputable def A11 : FnA := ⟨[.v (.pair (.int .i64) (.pair (.sl (.int .i64)) (.pair (.sl (.int .i64)) (.sl (.pair (.int .i64) (.pair .str (.pair (.int .i64) (.int .i64)))))))), .v (.int .i64)], true, [.bool], fun x => laws_FnExactTableOf x.1 x.2.1⟩
theorem laws_FnExactTableOf_eq : fnF E11 L11_0 [.v (.pair (.int .i64) (.pair (.sl (.int .i64)) (.pair (.sl (.int .i64)) (.sl (.pair (.int .i64) (.pair .str (.pair (.int .i64) (.int .i64)))))))), .v (.int .i64)] true [.bool] f11.ntmps f11.results.toList (codeOf f11) = fun x => laws_FnExactTableOf x.1 x.2.1 := by kernel_rfl
theorem A11_ok : FnOk prog 11 A11 := by
  have h := fnOk_of_run (P := prog) (E := E11) (tysOk_of tyl_ok) E11_ok (L := L11_0) (ps := [.v (.pair (.int .i64) (.pair (.sl (.int .i64)) (.pair (.sl (.int .i64)) (.sl (.pair (.int .i64) (.pair .str (.pair (.int .i64) (.int .i64)))))))), .v (.int .i64)]) (own := true) (outs := [.bool]) func11 (c := codeOf f11) (by kernel_rfl) (codeOk_in (L := L11_0) (tysOk_of tyl_ok) E11_ok mixed (c := codeOf f11) (bs := []) (by kernel_rfl) allNil (by kernel_rfl))
  rw [laws_FnExactTableOf_eq] at h
  exact h
/-! spec.CountsOf -/
noncomputable def E42 : Env := ⟨ty0, fun g => ifEq g 40 (some A40) (none), fun _ => none, fun _ => none⟩
theorem E42_ok : FnsOk prog E42 := (oneFn A40_ok func40 (by kernel_rfl) (by kernel_rfl) (noFns _ _))
noncomputable def L42_0 : Nat → Option LoopD := fun _ => none
def sh42_7 : List Fm := [d, d, d, d, d, d, .cell (.own (.int .i64) 100600 false), d, .cell (.val .bool), d, .cell (.val (.int .i64)), d, d, d, d, d, d, d, .cell (.own (.int .i64) 101800 false), .cell (.val (.int .i64)), .cell (.val (.int .i64)), d, d, d, d, d, d, d, d, d, d, d, d, d, d, d, d, d, d, d, d, d]
def xs42_7 : List (Ex × List Fm) := [(.exit 2, [d, d, d, d, d, d, .cell (.own (.int .i64) 100600 false), d, .cell (.val .bool), d, .cell (.val (.int .i64)), d, d, d, d, d, d, d, .cell (.own (.int .i64) 101800 false), .cell (.val (.int .i64)), .cell (.val (.int .i64)), d, d, d, d, d, d, d, d, d, d, d, d, d, d, d, d, d, d, d, d, d])]
noncomputable def spec_CountsOf_l7 : ((List Int) × Bool × Int × (List Int) × Int × Int × Unit) → Option (((List Int) × Bool × Int × (List Int) × Int × Int × Unit) ⊕ (((List Int) × Bool × Int × (List Int) × Int × Int × Unit))) := fun (v6, v8, v10, v18, v19, v20, _) =>
  bif (decide ((((List.length v6) : Nat) : Int) ≤ v10)) then
    if (((0 + (List.length v6)) = (List.length v6)) ∧ ((((List.length v6) + (List.length (List.take 1 (List.drop 0 [(0 : Int)])))) * 8) ≤ 140737488355328)) then
      some (Sum.inl ((List.take ((List.length v6) + (List.length (List.take 1 (List.drop 0 [(0 : Int)])))) (List.drop 0 ((List.drop 0 v6) ++ (List.take 1 (List.drop 0 [(0 : Int)]))))), v8, v10, (List.take (List.length v18) (List.drop 0 v18)), v19, v20, ()))
    else
      none
  else
    some (Sum.inr ((List.take (List.length v6) (List.drop 0 v6)), v8, v10, (List.take (List.length v18) (List.drop 0 v18)), v19, v20, ()))
theorem spec_CountsOf_l7_eq : loopStep E42 L42_0 (loopOf f42 7) sh42_7 xs42_7 = spec_CountsOf_l7 := by kernel_rfl
theorem loop42_7 {L : Nat → Option LoopD} (h : L 7 = some ⟨sh42_7, xs42_7, spec_CountsOf_l7⟩) : LoopOk prog L (loopOf f42 7) :=
  loopOk (tysOk_of tyl_ok) E42_ok (codeOk_in (L := L42_0) (tysOk_of tyl_ok) E42_ok mixed (c := loopOf f42 7) (bs := []) (by kernel_rfl) allNil (by kernel_rfl)) (by kernel_rfl) (by kernel_rfl) spec_CountsOf_l7_eq (by rw [show firstId (loopOf f42 7) = 7 from by kernel_rfl]; exact h)
noncomputable def L42_1 : Nat → Option LoopD := fun n => ifEq n 7 (some ⟨sh42_7, xs42_7, spec_CountsOf_l7⟩) (L42_0 n)
def sh42_4 : List Fm := [d, d, d, d, d, d, .cell (.own (.int .i64) 100600 false), d, .cell (.val .bool), d, d, d, d, d, d, d, d, d, .cell (.own (.int .i64) 101800 false), .cell (.val (.int .i64)), .cell (.val (.int .i64)), d, d, d, d, d, d, d, d, d, d, d, d, d, d, d, d, d, d, d, d, d]
def xs42_4 : List (Ex × List Fm) := [(.exit 0, [d, d, d, d, d, d, .cell (.own (.int .i64) 100600 false), d, .cell (.val .bool), d, d, d, d, d, d, d, d, d, d, d, d, d, d, d, d, d, d, d, d, d, d, d, d, d, d, d, d, d, d, d, d, d])]
noncomputable def spec_CountsOf_l4 : ((List Int) × Bool × (List Int) × Int × Int × Unit) → Option (((List Int) × Bool × (List Int) × Int × Int × Unit) ⊕ (((List Int) × Bool × Unit))) := fun (v6, v8, v18, v19, v20, _) =>
  bif (decide (v20 < v19)) then
    if (((0 : Int) ≤ v20) ∧ (v20 < (((List.length v18) : Nat) : Int))) then
      bif ((List.getD v18 (0 + (Int.toNat v20)) (0 : Int)) == (1000000 : Int)) then
        some (Sum.inl ((List.take (List.length v6) (List.drop 0 v6)), v8, (List.take (List.length v18) (List.drop 0 v18)), v19, (IntKind.wrap .i64 (v20 + (1 : Int))), ()))
      else
        Option.bind (loopF spec_CountsOf_l7 ((List.take (List.length v6) (List.drop 0 v6)), v8, (List.getD v18 (0 + (Int.toNat v20)) (0 : Int)), (List.take (List.length v18) (List.drop 0 v18)), v19, v20, ())) fun (r0, r1, r2, r3, r4, r5, _) =>
          if (((0 : Int) ≤ r2) ∧ (r2 < (((List.length r0) : Nat) : Int))) then
            if (((0 : Int) ≤ r2) ∧ (r2 < (((List.length r0) : Nat) : Int))) then
              some (Sum.inl ((List.take (List.length r0) (List.drop 0 (List.set r0 (0 + (Int.toNat r2)) (IntKind.wrap .i64 ((List.getD r0 (0 + (Int.toNat r2)) (0 : Int)) + (1 : Int)))))), r1, (List.take (List.length r3) (List.drop 0 r3)), r4, (IntKind.wrap .i64 (r5 + (1 : Int))), ()))
            else
              none
          else
            none
    else
      none
  else
    some (Sum.inr ((List.take (List.length v6) (List.drop 0 v6)), v8, ()))
theorem spec_CountsOf_l4_eq : loopStep E42 L42_1 (loopOf f42 4) sh42_4 xs42_4 = spec_CountsOf_l4 := by kernel_rfl
theorem loop42_4 {L : Nat → Option LoopD} (h : L 4 = some ⟨sh42_4, xs42_4, spec_CountsOf_l4⟩) : LoopOk prog L (loopOf f42 4) :=
  loopOk (tysOk_of tyl_ok) E42_ok (codeOk_in (L := L42_1) (tysOk_of tyl_ok) E42_ok mixed (c := loopOf f42 4) (bs := [loopOf f42 7]) (by kernel_rfl) (allCons (loop42_7 rfl) allNil) (by kernel_rfl)) (by kernel_rfl) (by kernel_rfl) spec_CountsOf_l4_eq (by rw [show firstId (loopOf f42 4) = 4 from by kernel_rfl]; exact h)
noncomputable def L42_2 : Nat → Option LoopD := fun n => ifEq n 4 (some ⟨sh42_4, xs42_4, spec_CountsOf_l4⟩) (L42_1 n)
noncomputable def spec_CountsOf : (Int × ((List Int) × ((List Int) × (List (Int × (ByteArray × (Int × Int))))))) → Int → Option ((List Int) × Bool) := fun (a0_0, a0_1, a0_2, a0_3) a1 =>
  Option.bind (spec_TableOf (a0_0, a0_1, a0_2, a0_3) a1) fun (r0, r1) =>
    Option.bind (loopF spec_CountsOf_l4 ((List.take 0 (List.drop 0 [])), r1, (List.take (List.length r0) (List.drop 0 r0)), (((List.length r0) : Nat) : Int), (0 : Int), ())) fun (r2, r3, _) =>
      some ((List.take (List.length r2) (List.drop 0 r2)), r3)
noncomputable def A42 : FnA := ⟨[.v (.pair (.int .i64) (.pair (.sl (.int .i64)) (.pair (.sl (.int .i64)) (.sl (.pair (.int .i64) (.pair .str (.pair (.int .i64) (.int .i64)))))))), .v (.int .i64)], true, [.sl (.int .i64), .bool], fun x => spec_CountsOf x.1 x.2.1⟩
theorem spec_CountsOf_eq : fnF E42 L42_2 [.v (.pair (.int .i64) (.pair (.sl (.int .i64)) (.pair (.sl (.int .i64)) (.sl (.pair (.int .i64) (.pair .str (.pair (.int .i64) (.int .i64)))))))), .v (.int .i64)] true [.sl (.int .i64), .bool] f42.ntmps f42.results.toList (codeOf f42) = fun x => spec_CountsOf x.1 x.2.1 := by kernel_rfl
theorem A42_ok : FnOk prog 42 A42 := by
  have h := fnOk_of_run (P := prog) (E := E42) (tysOk_of tyl_ok) E42_ok (L := L42_2) (ps := [.v (.pair (.int .i64) (.pair (.sl (.int .i64)) (.pair (.sl (.int .i64)) (.sl (.pair (.int .i64) (.pair .str (.pair (.int .i64) (.int .i64)))))))), .v (.int .i64)]) (own := true) (outs := [.sl (.int .i64), .bool]) func42 (c := codeOf f42) (by kernel_rfl) (codeOk_in (L := L42_2) (tysOk_of tyl_ok) E42_ok mixed (c := codeOf f42) (bs := [loopOf f42 4]) (by kernel_rfl) (allCons (loop42_4 rfl) allNil) (by kernel_rfl))
  rw [spec_CountsOf_eq] at h
  exact h
/-! impl.CountsOf -/
noncomputable def E43 : Env := ⟨ty0, fun g => ifEq g 41 (some A41) (none), fun _ => none, fun _ => none⟩
theorem E43_ok : FnsOk prog E43 := (oneFn A41_ok func41 (by kernel_rfl) (by kernel_rfl) (noFns _ _))
noncomputable def L43_0 : Nat → Option LoopD := fun _ => none
def sh43_9 : List Fm := [d, d, d, d, d, d, d, d, .cell (.own (.int .i64) 100800 false), d, .cell (.val (.int .i64)), d, d, d, d, d, d, d, d, d, .cell (.own (.int .i64) 102000 false), .cell (.val (.int .i64)), .cell (.val (.int .i64)), d, d, d, d, d, d, d, d, d, d, d, d, d, d, d, d, d, d, d, d]
def xs43_9 : List (Ex × List Fm) := [(.exit 2, [d, d, d, d, d, d, d, d, .cell (.own (.int .i64) 100800 false), d, .cell (.val (.int .i64)), d, d, d, d, d, d, d, d, d, .cell (.own (.int .i64) 102000 false), .cell (.val (.int .i64)), .cell (.val (.int .i64)), d, d, d, d, d, d, d, d, d, d, d, d, d, d, d, d, d, d, d, d])]
noncomputable def impl_CountsOf_l9 : ((List Int) × Int × (List Int) × Int × Int × Unit) → Option (((List Int) × Int × (List Int) × Int × Int × Unit) ⊕ (((List Int) × Int × (List Int) × Int × Int × Unit))) := fun (v8, v10, v20, v21, v22, _) =>
  bif (decide ((((List.length v8) : Nat) : Int) ≤ v10)) then
    if (((0 + (List.length v8)) = (List.length v8)) ∧ ((((List.length v8) + (List.length (List.take 1 (List.drop 0 [(0 : Int)])))) * 8) ≤ 140737488355328)) then
      some (Sum.inl ((List.take ((List.length v8) + (List.length (List.take 1 (List.drop 0 [(0 : Int)])))) (List.drop 0 ((List.drop 0 v8) ++ (List.take 1 (List.drop 0 [(0 : Int)]))))), v10, (List.take (List.length v20) (List.drop 0 v20)), v21, v22, ()))
    else
      none
  else
    some (Sum.inr ((List.take (List.length v8) (List.drop 0 v8)), v10, (List.take (List.length v20) (List.drop 0 v20)), v21, v22, ()))
theorem impl_CountsOf_l9_eq : loopStep E43 L43_0 (loopOf f43 9) sh43_9 xs43_9 = impl_CountsOf_l9 := by kernel_rfl
theorem loop43_9 {L : Nat → Option LoopD} (h : L 9 = some ⟨sh43_9, xs43_9, impl_CountsOf_l9⟩) : LoopOk prog L (loopOf f43 9) :=
  loopOk (tysOk_of tyl_ok) E43_ok (codeOk_in (L := L43_0) (tysOk_of tyl_ok) E43_ok mixed (c := loopOf f43 9) (bs := []) (by kernel_rfl) allNil (by kernel_rfl)) (by kernel_rfl) (by kernel_rfl) impl_CountsOf_l9_eq (by rw [show firstId (loopOf f43 9) = 9 from by kernel_rfl]; exact h)
noncomputable def L43_1 : Nat → Option LoopD := fun n => ifEq n 9 (some ⟨sh43_9, xs43_9, impl_CountsOf_l9⟩) (L43_0 n)
def sh43_6 : List Fm := [d, d, d, d, d, d, d, d, .cell (.own (.int .i64) 100800 false), d, d, d, d, d, d, d, d, d, d, d, .cell (.own (.int .i64) 102000 false), .cell (.val (.int .i64)), .cell (.val (.int .i64)), d, d, d, d, d, d, d, d, d, d, d, d, d, d, d, d, d, d, d, d]
def xs43_6 : List (Ex × List Fm) := [(.exit 0, [d, d, d, d, d, d, d, d, .cell (.own (.int .i64) 100800 false), d, d, d, d, d, d, d, d, d, d, d, d, d, d, d, d, d, d, d, d, d, d, d, d, d, d, d, d, d, d, d, d, d, d])]
noncomputable def impl_CountsOf_l6 : ((List Int) × (List Int) × Int × Int × Unit) → Option (((List Int) × (List Int) × Int × Int × Unit) ⊕ (((List Int) × Unit))) := fun (v8, v20, v21, v22, _) =>
  bif (decide (v22 < v21)) then
    if (((0 : Int) ≤ v22) ∧ (v22 < (((List.length v20) : Nat) : Int))) then
      bif ((List.getD v20 (0 + (Int.toNat v22)) (0 : Int)) == (1000000 : Int)) then
        some (Sum.inl ((List.take (List.length v8) (List.drop 0 v8)), (List.take (List.length v20) (List.drop 0 v20)), v21, (IntKind.wrap .i64 (v22 + (1 : Int))), ()))
      else
        Option.bind (loopF impl_CountsOf_l9 ((List.take (List.length v8) (List.drop 0 v8)), (List.getD v20 (0 + (Int.toNat v22)) (0 : Int)), (List.take (List.length v20) (List.drop 0 v20)), v21, v22, ())) fun (r0, r1, r2, r3, r4, _) =>
          if (((0 : Int) ≤ r1) ∧ (r1 < (((List.length r0) : Nat) : Int))) then
            if (((0 : Int) ≤ r1) ∧ (r1 < (((List.length r0) : Nat) : Int))) then
              some (Sum.inl ((List.take (List.length r0) (List.drop 0 (List.set r0 (0 + (Int.toNat r1)) (IntKind.wrap .i64 ((List.getD r0 (0 + (Int.toNat r1)) (0 : Int)) + (1 : Int)))))), (List.take (List.length r2) (List.drop 0 r2)), r3, (IntKind.wrap .i64 (r4 + (1 : Int))), ()))
            else
              none
          else
            none
    else
      none
  else
    some (Sum.inr ((List.take (List.length v8) (List.drop 0 v8)), ()))
theorem impl_CountsOf_l6_eq : loopStep E43 L43_1 (loopOf f43 6) sh43_6 xs43_6 = impl_CountsOf_l6 := by kernel_rfl
theorem loop43_6 {L : Nat → Option LoopD} (h : L 6 = some ⟨sh43_6, xs43_6, impl_CountsOf_l6⟩) : LoopOk prog L (loopOf f43 6) :=
  loopOk (tysOk_of tyl_ok) E43_ok (codeOk_in (L := L43_1) (tysOk_of tyl_ok) E43_ok mixed (c := loopOf f43 6) (bs := [loopOf f43 9]) (by kernel_rfl) (allCons (loop43_9 rfl) allNil) (by kernel_rfl)) (by kernel_rfl) (by kernel_rfl) impl_CountsOf_l6_eq (by rw [show firstId (loopOf f43 6) = 6 from by kernel_rfl]; exact h)
noncomputable def L43_2 : Nat → Option LoopD := fun n => ifEq n 6 (some ⟨sh43_6, xs43_6, impl_CountsOf_l6⟩) (L43_1 n)
noncomputable def impl_CountsOf : (Int × ((List Int) × ((List Int) × (List (Int × (ByteArray × (Int × Int))))))) → Int → Option ((List Int) × Bool) := fun (a0_0, a0_1, a0_2, a0_3) a1 =>
  Option.bind (impl_TableOf (a0_0, a0_1, a0_2, a0_3) a1) fun (r0, r1) =>
    bif (!r1) then
      some ([], false)
    else
      Option.bind (loopF impl_CountsOf_l6 ((List.take 0 (List.drop 0 [])), (List.take (List.length r0) (List.drop 0 r0)), (((List.length r0) : Nat) : Int), (0 : Int), ())) fun (r2, _) =>
        some ((List.take (List.length r2) (List.drop 0 r2)), true)
noncomputable def A43 : FnA := ⟨[.v (.pair (.int .i64) (.pair (.sl (.int .i64)) (.pair (.sl (.int .i64)) (.sl (.pair (.int .i64) (.pair .str (.pair (.int .i64) (.int .i64)))))))), .v (.int .i64)], true, [.sl (.int .i64), .bool], fun x => impl_CountsOf x.1 x.2.1⟩
theorem impl_CountsOf_eq : fnF E43 L43_2 [.v (.pair (.int .i64) (.pair (.sl (.int .i64)) (.pair (.sl (.int .i64)) (.sl (.pair (.int .i64) (.pair .str (.pair (.int .i64) (.int .i64)))))))), .v (.int .i64)] true [.sl (.int .i64), .bool] f43.ntmps f43.results.toList (codeOf f43) = fun x => impl_CountsOf x.1 x.2.1 := by kernel_rfl
theorem A43_ok : FnOk prog 43 A43 := by
  have h := fnOk_of_run (P := prog) (E := E43) (tysOk_of tyl_ok) E43_ok (L := L43_2) (ps := [.v (.pair (.int .i64) (.pair (.sl (.int .i64)) (.pair (.sl (.int .i64)) (.sl (.pair (.int .i64) (.pair .str (.pair (.int .i64) (.int .i64)))))))), .v (.int .i64)]) (own := true) (outs := [.sl (.int .i64), .bool]) func43 (c := codeOf f43) (by kernel_rfl) (codeOk_in (L := L43_2) (tysOk_of tyl_ok) E43_ok mixed (c := codeOf f43) (bs := [loopOf f43 6]) (by kernel_rfl) (allCons (loop43_6 rfl) allNil) (by kernel_rfl))
  rw [impl_CountsOf_eq] at h
  exact h
/-! laws.FnExactCountsOf -/
noncomputable def E12 : Env := ⟨ty0, fun g => ifEq g 21 (some A21) (ifEq g 23 (some A23) (ifEq g 42 (some A42) (ifEq g 43 (some A43) (ifEq g 36 (some A36) (ifEq g 25 (some A25) (ifEq g 39 (some A39) (none))))))), fun g => ifEq g 37 (some A37) (ifEq g 38 (some A38) (none)), fun _ => none⟩
theorem E12_ok : FnsOk prog E12 := (oneFn A21_ok func21 (by kernel_rfl) (by kernel_rfl) (oneFn A23_ok func23 (by kernel_rfl) (by kernel_rfl) (oneFn A42_ok func42 (by kernel_rfl) (by kernel_rfl) (oneFn A43_ok func43 (by kernel_rfl) (by kernel_rfl) (oneFn A36_ok func36 (by kernel_rfl) (by kernel_rfl) (oneFn A25_ok func25 (by kernel_rfl) (by kernel_rfl) (oneFn A39_ok func39 (by kernel_rfl) (by kernel_rfl) (oneMs A37_ok (by kernel_rfl) func37 (by kernel_rfl) (by kernel_rfl) (oneMs A38_ok (by kernel_rfl) func38 (by kernel_rfl) (by kernel_rfl) (noFns _ _))))))))))
noncomputable def L12_0 : Nat → Option LoopD := fun _ => none
noncomputable def laws_FnExactCountsOf : (Int × ((List Int) × ((List Int) × (List (Int × (ByteArray × (Int × Int))))))) → Int → Option (Bool) := fun (a0_0, a0_1, a0_2, a0_3) a1 =>
  Option.bind (laws_szAutomaton (a0_0, a0_1, a0_2, a0_3) (1048576 : Int)) fun r0 =>
    bif (decide (r0 < (0 : Int))) then
      some true
    else
      Option.bind (laws_toAutomaton (a0_0, a0_1, a0_2, a0_3)) fun (r1, r2, r3, r4) =>
        Option.bind (spec_CountsOf (r1, (List.take (List.length r2) (List.drop 0 r2)), (List.take (List.length r3) (List.drop 0 r3)), (List.take (List.length r4) (List.drop 0 r4))) a1) fun (r5, r6) =>
          Option.bind (laws_toAutomaton (a0_0, a0_1, a0_2, a0_3)) fun (r7, r8, r9, r10) =>
            Option.bind (impl_CountsOf (r7, (List.take (List.length r8) (List.drop 0 r8)), (List.take (List.length r9) (List.drop 0 r9)), (List.take (List.length r10) (List.drop 0 r10))) a1) fun (r11, r12) =>
              Option.bind (laws_eqIntS (List.take (List.length r11) (List.drop 0 r11)) (List.take (List.length r5) (List.drop 0 r5))) fun r13 =>
                bif (!r13) then
                  some false
                else
                  bif (!(r12 == r6)) then
                    some false
                  else
                    Option.bind (laws_toAutomaton (a0_0, a0_1, a0_2, a0_3)) fun (r14, r15, r16, r17) =>
                      Option.bind (laws_eqAutomaton (r7, (List.take (List.length r8) (List.drop 0 r8)), (List.take (List.length r9) (List.drop 0 r9)), (List.take (List.length r10) (List.drop 0 r10))) (r14, (List.take (List.length r15) (List.drop 0 r15)), (List.take (List.length r16) (List.drop 0 r16)), (List.take (List.length r17) (List.drop 0 r17)))) fun r18 =>
                        bif (!r18) then
                          some false
                        else
                          if ((List.length r8) = (List.length r8)) then
                            if ((List.length r9) = (List.length r9)) then
                              if ((List.length r10) = (List.length r10)) then
                                Option.bind (laws_markAutomaton (r7, r8, r9, r10) (1 : Int)) fun (r19, (r20, r21, r22, r23), _) =>
                                  bif (decide (r19 < (0 : Int))) then
                                    some false
                                  else
                                    Option.bind (laws_eqIntS (List.take (List.length r11) (List.drop 0 r11)) (List.take (List.length r5) (List.drop 0 r5))) fun r24 =>
                                      bif (!r24) then
                                        some false
                                      else
                                        bif (!(r12 == r6)) then
                                          some false
                                        else
                                          if ((List.length r11) = (List.length r11)) then
                                            Option.bind (laws_markIntS r11 (1 : Int)) fun (r25, r26, _) =>
                                              Option.bind (laws_heldIntS (List.take (List.length r11) (List.drop 0 r26)) (1 : Int)) fun r27 =>
                                                bif (decide (r27 < (0 : Int))) then
                                                  some false
                                                else
                                                  bif (r27 != r25) then
                                                    some false
                                                  else
                                                    Option.bind (laws_toAutomaton (a0_0, a0_1, a0_2, a0_3)) fun (r28, r29, r30, r31) =>
                                                      Option.bind (impl_CountsOf (r28, (List.take (List.length r29) (List.drop 0 r29)), (List.take (List.length r30) (List.drop 0 r30)), (List.take (List.length r31) (List.drop 0 r31))) a1) fun (r32, r33) =>
                                                        Option.bind (laws_eqIntS (List.take (List.length r32) (List.drop 0 r32)) (List.take (List.length r5) (List.drop 0 r5))) fun r34 =>
                                                          bif (!r34) then
                                                            some false
                                                          else
                                                            bif (!(r33 == r6)) then
                                                              some false
                                                            else
                                                              Option.bind (laws_heldIntS (List.take (List.length r11) (List.drop 0 r26)) (1 : Int)) fun r35 =>
                                                                bif (decide (r35 < (0 : Int))) then
                                                                  some false
                                                                else
                                                                  bif (r35 != r25) then
                                                                    some false
                                                                  else
                                                                    some true
                                          else
                                            none
                              else
                                none
                            else
                              none
                          else
                            none
noncomputable def A12 : FnA := ⟨[.v (.pair (.int .i64) (.pair (.sl (.int .i64)) (.pair (.sl (.int .i64)) (.sl (.pair (.int .i64) (.pair .str (.pair (.int .i64) (.int .i64)))))))), .v (.int .i64)], true, [.bool], fun x => laws_FnExactCountsOf x.1 x.2.1⟩
theorem laws_FnExactCountsOf_eq : fnF E12 L12_0 [.v (.pair (.int .i64) (.pair (.sl (.int .i64)) (.pair (.sl (.int .i64)) (.sl (.pair (.int .i64) (.pair .str (.pair (.int .i64) (.int .i64)))))))), .v (.int .i64)] true [.bool] f12.ntmps f12.results.toList (codeOf f12) = fun x => laws_FnExactCountsOf x.1 x.2.1 := by kernel_rfl
theorem A12_ok : FnOk prog 12 A12 := by
  have h := fnOk_of_run (P := prog) (E := E12) (tysOk_of tyl_ok) E12_ok (L := L12_0) (ps := [.v (.pair (.int .i64) (.pair (.sl (.int .i64)) (.pair (.sl (.int .i64)) (.sl (.pair (.int .i64) (.pair .str (.pair (.int .i64) (.int .i64)))))))), .v (.int .i64)]) (own := true) (outs := [.bool]) func12 (c := codeOf f12) (by kernel_rfl) (codeOk_in (L := L12_0) (tysOk_of tyl_ok) E12_ok mixed (c := codeOf f12) (bs := []) (by kernel_rfl) allNil (by kernel_rfl))
  rw [laws_FnExactCountsOf_eq] at h
  exact h
/-! spec.l2Min -/
noncomputable def E70 : Env := ⟨ty0, fun _ => none, fun _ => none, fun _ => none⟩
theorem E70_ok : FnsOk prog E70 := (noFns _ _)
noncomputable def L70_0 : Nat → Option LoopD := fun _ => none
def sh70_3 : List Fm := [d, d, .box 100200 [.val (.int .i64), .val (.sl (.int .i64))], .box 100300 [.val (.int .i64), .val (.sl (.int .i64))], .box 100400 [.val (.int .i64), .own (.int .i64) 100402 false], .box 100500 [.val (.int .i64), .own (.int .i64) 100502 false], d, d, d, d, d, d, .cell (.val (.int .i64)), .cell (.val (.int .i64)), d, d, d, d, d, d, d, d, d, d, d, d, d, d, d, d, d, d, d, d]
def xs70_3 : List (Ex × List Fm) := [(.exit 0, [d, d, d, d, .box 100400 [.val (.int .i64), .own (.int .i64) 100402 false], .box 100500 [.val (.int .i64), .own (.int .i64) 100502 false], d, d, d, d, d, d, d, d, d, d, d, d, d, d, d, d, d, d, d, d, d, d, d, d, d, d, d, d])]
noncomputable def spec_l2Min_l3 : ((Int × (List Int) × Unit) × (Int × (List Int) × Unit) × (Int × (List Int) × Unit) × (Int × (List Int) × Unit) × Int × Int × Unit) → Option (((Int × (List Int) × Unit) × (Int × (List Int) × Unit) × (Int × (List Int) × Unit) × (Int × (List Int) × Unit) × Int × Int × Unit) ⊕ (((Int × (List Int) × Unit) × (Int × (List Int) × Unit) × Unit))) := fun ((v2_0, v2_1, _), (v3_0, v3_1, _), (v4_0, v4_1, _), (v5_0, v5_1, _), v12, v13, _) =>
  bif (decide (v13 < v12)) then
    if (((0 : Int) ≤ v13) ∧ (v13 < (((List.length v2_1) : Nat) : Int))) then
      if (((0 : Int) ≤ v13) ∧ (v13 < (((List.length v3_1) : Nat) : Int))) then
        if (((0 + (List.length v5_1)) = (List.length v5_1)) ∧ ((((List.length v5_1) + (List.length (List.take 1 (List.drop 0 [(if ((List.getD v3_1 (Int.toNat v13) (0 : Int)) < (List.getD v2_1 (Int.toNat v13) (0 : Int))) then (List.getD v3_1 (Int.toNat v13) (0 : Int)) else (List.getD v2_1 (Int.toNat v13) (0 : Int)))])))) * 8) ≤ 140737488355328)) then
          some (Sum.inl ((v2_0, v2_1, ()), (v3_0, v3_1, ()), (v4_0, (List.take (List.length v4_1) (List.drop 0 v4_1)), ()), (v5_0, (List.take ((List.length v5_1) + (List.length (List.take 1 (List.drop 0 [(if ((List.getD v3_1 (Int.toNat v13) (0 : Int)) < (List.getD v2_1 (Int.toNat v13) (0 : Int))) then (List.getD v3_1 (Int.toNat v13) (0 : Int)) else (List.getD v2_1 (Int.toNat v13) (0 : Int)))])))) (List.drop 0 ((List.drop 0 v5_1) ++ (List.take 1 (List.drop 0 [(if ((List.getD v3_1 (Int.toNat v13) (0 : Int)) < (List.getD v2_1 (Int.toNat v13) (0 : Int))) then (List.getD v3_1 (Int.toNat v13) (0 : Int)) else (List.getD v2_1 (Int.toNat v13) (0 : Int)))]))))), ()), v12, (IntKind.wrap .i64 (v13 + (1 : Int))), ()))
        else
          none
      else
        none
    else
      none
  else
    some (Sum.inr ((v4_0, (List.take (List.length v4_1) (List.drop 0 v4_1)), ()), (v5_0, (List.take (List.length v5_1) (List.drop 0 v5_1)), ()), ()))
theorem spec_l2Min_l3_eq : loopStep E70 L70_0 (loopOf f70 3) sh70_3 xs70_3 = spec_l2Min_l3 := by kernel_rfl
theorem loop70_3 {L : Nat → Option LoopD} (h : L 3 = some ⟨sh70_3, xs70_3, spec_l2Min_l3⟩) : LoopOk prog L (loopOf f70 3) :=
  loopOk (tysOk_of tyl_ok) E70_ok (codeOk_in (L := L70_0) (tysOk_of tyl_ok) E70_ok mixed (c := loopOf f70 3) (bs := []) (by kernel_rfl) allNil (by kernel_rfl)) (by kernel_rfl) (by kernel_rfl) spec_l2Min_l3_eq (by rw [show firstId (loopOf f70 3) = 3 from by kernel_rfl]; exact h)
noncomputable def L70_1 : Nat → Option LoopD := fun n => ifEq n 3 (some ⟨sh70_3, xs70_3, spec_l2Min_l3⟩) (L70_0 n)
noncomputable def spec_l2Min : (Int × (List Int)) → (Int × (List Int)) → Option ((Int × (List Int))) := fun (a0_0, a0_1) (a1_0, a1_1) =>
  Option.bind (loopF spec_l2Min_l3 ((a0_0, a0_1, ()), (a1_0, a1_1, ()), ((0 : Int), [], ()), (a0_0, [], ()), (((List.length a0_1) : Nat) : Int), (0 : Int), ())) fun ((r0, r1, _), (r2, r3, _), _) =>
    some (r2, (List.take (List.length r3) (List.drop 0 r3)))
noncomputable def A70 : FnA := ⟨[.v (.pair (.int .i64) (.sl (.int .i64))), .v (.pair (.int .i64) (.sl (.int .i64)))], true, [.pair (.int .i64) (.sl (.int .i64))], fun x => spec_l2Min x.1 x.2.1⟩
theorem spec_l2Min_eq : fnF E70 L70_1 [.v (.pair (.int .i64) (.sl (.int .i64))), .v (.pair (.int .i64) (.sl (.int .i64)))] true [.pair (.int .i64) (.sl (.int .i64))] f70.ntmps f70.results.toList (codeOf f70) = fun x => spec_l2Min x.1 x.2.1 := by kernel_rfl
theorem A70_ok : FnOk prog 70 A70 := by
  have h := fnOk_of_run (P := prog) (E := E70) (tysOk_of tyl_ok) E70_ok (L := L70_1) (ps := [.v (.pair (.int .i64) (.sl (.int .i64))), .v (.pair (.int .i64) (.sl (.int .i64)))]) (own := true) (outs := [.pair (.int .i64) (.sl (.int .i64))]) func70 (c := codeOf f70) (by kernel_rfl) (codeOk_in (L := L70_1) (tysOk_of tyl_ok) E70_ok mixed (c := codeOf f70) (bs := [loopOf f70 3]) (by kernel_rfl) (allCons (loop70_3 rfl) allNil) (by kernel_rfl))
  rw [spec_l2Min_eq] at h
  exact h
/-! spec.LeastOf -/
noncomputable def E34 : Env := ⟨ty0, fun g => ifEq g 53 (some A53) (ifEq g 71 (some A71) (ifEq g 70 (some A70) (ifEq g 72 (some A72) (ifEq g 73 (some A73) (ifEq g 74 (some A74) (none)))))), fun _ => none, fun _ => none⟩
theorem E34_ok : FnsOk prog E34 := (oneFn A53_ok func53 (by kernel_rfl) (by kernel_rfl) (oneFn A71_ok func71 (by kernel_rfl) (by kernel_rfl) (oneFn A70_ok func70 (by kernel_rfl) (by kernel_rfl) (oneFn A72_ok func72 (by kernel_rfl) (by kernel_rfl) (oneFn A73_ok func73 (by kernel_rfl) (by kernel_rfl) (oneFn A74_ok func74 (by kernel_rfl) (by kernel_rfl) (noFns _ _)))))))
noncomputable def L34_0 : Nat → Option LoopD := fun _ => none
def sh34_7 : List Fm := [d, d, .box 100200 [.val (.int .i64), .val (.sl (.int .i64)), .val (.sl (.int .i64)), .val (.sl (.pair (.int .i64) (.pair .str (.pair (.int .i64) (.int .i64)))))], d, d, d, .cell (.own (.int .i64) 100600 false), .box 100700 [.val (.int .i64), .own (.int .i64) 100702 false], .box 100800 [.val (.int .i64), .own (.int .i64) 100802 false], d, d, d, d, d, d, d, d, d, d, d, d, d, d, d, .cell (.val (.int .i64)), .cell (.val (.int .i64)), d, d, d, d, d, d, d, d, d, d, d, d]
def xs34_7 : List (Ex × List Fm) := [(.exit 0, [d, d, d, d, d, d, .cell (.own (.int .i64) 100600 false), d, d, d, d, d, d, d, d, d, d, d, d, d, d, d, d, d, d, d, d, d, d, d, d, d, d, d, d, d, d, d])]
noncomputable def spec_LeastOf_l7 : ((Int × (List Int) × (List Int) × (List (Int × (ByteArray × (Int × Int)))) × Unit) × (List Int) × (Int × (List Int) × Unit) × (Int × (List Int) × Unit) × Int × Int × Unit) → Option (((Int × (List Int) × (List Int) × (List (Int × (ByteArray × (Int × Int)))) × Unit) × (List Int) × (Int × (List Int) × Unit) × (Int × (List Int) × Unit) × Int × Int × Unit) ⊕ (((List Int) × Unit))) := fun ((v2_0, v2_1, v2_2, v2_3, _), v6, (v7_0, v7_1, _), (v8_0, v8_1, _), v24, v25, _) =>
  bif (decide (v25 < v24)) then
    Option.bind (spec_l4Least (v2_0, v2_1, v2_2, v2_3) (v8_0, (List.take (List.length v8_1) (List.drop 0 v8_1)))) fun r0 =>
      if (((0 + (List.length v6)) = (List.length v6)) ∧ ((((List.length v6) + (List.length (List.take 1 (List.drop 0 [r0])))) * 8) ≤ 140737488355328)) then
        Option.bind (spec_l2Mul (v8_0, (List.take (List.length v8_1) (List.drop 0 v8_1))) (v7_0, (List.take (List.length v7_1) (List.drop 0 v7_1)))) fun (r1, r2) =>
          some (Sum.inl ((v2_0, v2_1, v2_2, v2_3, ()), (List.take ((List.length v6) + (List.length (List.take 1 (List.drop 0 [r0])))) (List.drop 0 ((List.drop 0 v6) ++ (List.take 1 (List.drop 0 [r0]))))), (v7_0, (List.take (List.length v7_1) (List.drop 0 v7_1)), ()), (r1, (List.take (List.length r2) (List.drop 0 r2)), ()), v24, (IntKind.wrap .i64 (v25 + (1 : Int))), ()))
      else
        none
  else
    some (Sum.inr ((List.take (List.length v6) (List.drop 0 v6)), ()))
theorem spec_LeastOf_l7_eq : loopStep E34 L34_0 (loopOf f34 7) sh34_7 xs34_7 = spec_LeastOf_l7 := by kernel_rfl
theorem loop34_7 {L : Nat → Option LoopD} (h : L 7 = some ⟨sh34_7, xs34_7, spec_LeastOf_l7⟩) : LoopOk prog L (loopOf f34 7) :=
  loopOk (tysOk_of tyl_ok) E34_ok (codeOk_in (L := L34_0) (tysOk_of tyl_ok) E34_ok mixed (c := loopOf f34 7) (bs := []) (by kernel_rfl) allNil (by kernel_rfl)) (by kernel_rfl) (by kernel_rfl) spec_LeastOf_l7_eq (by rw [show firstId (loopOf f34 7) = 7 from by kernel_rfl]; exact h)
noncomputable def L34_1 : Nat → Option LoopD := fun n => ifEq n 7 (some ⟨sh34_7, xs34_7, spec_LeastOf_l7⟩) (L34_0 n)
noncomputable def spec_LeastOf : (Int × ((List Int) × ((List Int) × (List (Int × (ByteArray × (Int × Int))))))) → Int → Option ((List Int) × Bool) := fun (a0_0, a0_1, a0_2, a0_3) a1 =>
  Option.bind (spec_l11Short (a0_0, a0_1, a0_2, a0_3) a1) fun r0 =>
    bif (!r0) then
      some ((List.take 0 (List.drop 0 [])), false)
    else
      Option.bind (spec_l3Matrix (a0_0, a0_1, a0_2, a0_3) (⟨#[(97 : UInt8)]⟩ : ByteArray)) fun (r1, r2) =>
        Option.bind (spec_l3Matrix (a0_0, a0_1, a0_2, a0_3) (⟨#[(98 : UInt8)]⟩ : ByteArray)) fun (r3, r4) =>
          Option.bind (spec_l2Min (r1, (List.take (List.length r2) (List.drop 0 r2))) (r3, (List.take (List.length r4) (List.drop 0 r4)))) fun (r5, r6) =>
            Option.bind (spec_l2Unit a0_0) fun (r7, r8) =>
              Option.bind (loopF spec_LeastOf_l7 ((a0_0, a0_1, a0_2, a0_3, ()), (List.take 0 (List.drop 0 [])), (r5, (List.take (List.length r6) (List.drop 0 r6)), ()), (r7, (List.take (List.length r8) (List.drop 0 r8)), ()), (IntKind.wrap .i64 (a1 + (1 : Int))), (0 : Int), ())) fun (r9, _) =>
                some ((List.take (List.length r9) (List.drop 0 r9)), true)
noncomputable def A34 : FnA := ⟨[.v (.pair (.int .i64) (.pair (.sl (.int .i64)) (.pair (.sl (.int .i64)) (.sl (.pair (.int .i64) (.pair .str (.pair (.int .i64) (.int .i64)))))))), .v (.int .i64)], true, [.sl (.int .i64), .bool], fun x => spec_LeastOf x.1 x.2.1⟩
theorem spec_LeastOf_eq : fnF E34 L34_1 [.v (.pair (.int .i64) (.pair (.sl (.int .i64)) (.pair (.sl (.int .i64)) (.sl (.pair (.int .i64) (.pair .str (.pair (.int .i64) (.int .i64)))))))), .v (.int .i64)] true [.sl (.int .i64), .bool] f34.ntmps f34.results.toList (codeOf f34) = fun x => spec_LeastOf x.1 x.2.1 := by kernel_rfl
theorem A34_ok : FnOk prog 34 A34 := by
  have h := fnOk_of_run (P := prog) (E := E34) (tysOk_of tyl_ok) E34_ok (L := L34_1) (ps := [.v (.pair (.int .i64) (.pair (.sl (.int .i64)) (.pair (.sl (.int .i64)) (.sl (.pair (.int .i64) (.pair .str (.pair (.int .i64) (.int .i64)))))))), .v (.int .i64)]) (own := true) (outs := [.sl (.int .i64), .bool]) func34 (c := codeOf f34) (by kernel_rfl) (codeOk_in (L := L34_1) (tysOk_of tyl_ok) E34_ok mixed (c := codeOf f34) (bs := [loopOf f34 7]) (by kernel_rfl) (allCons (loop34_7 rfl) allNil) (by kernel_rfl))
  rw [spec_LeastOf_eq] at h
  exact h
/-! impl.byLength -/
noncomputable def E75 : Env := ⟨ty0, fun g => ifEq g 58 (some A58) (ifEq g 90 (some A90) (ifEq g 59 (some A59) (none))), fun _ => none, fun _ => none⟩
theorem E75_ok : FnsOk prog E75 := (oneFn A58_ok func58 (by kernel_rfl) (by kernel_rfl) (oneFn A90_ok func90 (by kernel_rfl) (by kernel_rfl) (oneFn A59_ok func59 (by kernel_rfl) (by kernel_rfl) (noFns _ _))))
noncomputable def L75_0 : Nat → Option LoopD := fun _ => none
def sh75_6 : List Fm := [d, d, .clo [.int .i64, .int .i64] .bool, .box 100300 [.val (.int .i64), .val (.sl (.int .i64)), .val (.sl (.int .i64)), .val (.sl (.pair (.int .i64) (.pair .str (.pair (.int .i64) (.int .i64)))))], d, d, d, d, d, d, .cell (.own (.int .i64) 101000 false), d, d, d, d, d, d, d, d, d, d, d, d, d, d, d, d, .cell (.val (.sl .str)), .cell (.val (.int .i64)), .cell (.val (.int .i64)), d, d, d, d, d, d, d, d, d, d, d, d, d, d, d, d, d, d, d, d, d, d, d, d, d, d, d, d, d, d, d, d, d]
def xs75_6 : List (Ex × List Fm) := [(.exit 0, [d, d, d, d, d, d, d, d, d, d, .cell (.own (.int .i64) 101000 false), d, d, d, d, d, d, d, d, d, d, d, d, d, d, d, d, d, d, d, d, d, d, d, d, d, d, d, d, d, d, d, d, d, d, d, d, d, d, d, d, d, d, d, d, d, d, d, d, d, d, d, d])]
noncomputable def impl_byLength_l6 : (((Int × Int × Unit) → Option (Bool)) × (Int × (List Int) × (List Int) × (List (Int × (ByteArray × (Int × Int)))) × Unit) × (List Int) × (List ByteArray) × Int × Int × Unit) → Option ((((Int × Int × Unit) → Option (Bool)) × (Int × (List Int) × (List Int) × (List (Int × (ByteArray × (Int × Int)))) × Unit) × (List Int) × (List ByteArray) × Int × Int × Unit) ⊕ (((List Int) × Unit))) := fun (v2, (v3_0, v3_1, v3_2, v3_3, _), v10, v27, v28, v29, _) =>
  bif (decide (v29 < v28)) then
    if (((0 : Int) ≤ v29) ∧ (v29 < (((List.length v27) : Nat) : Int))) then
      Option.bind (impl_CostOf (v3_0, v3_1, v3_2, v3_3) (List.getD v27 (Int.toNat v29) (⟨Array.empty⟩ : ByteArray))) fun r0 =>
        bif (decide (r0 < (1000000 : Int))) then
          if (((0 : Int) ≤ (((ByteArray.size (List.getD v27 (Int.toNat v29) (⟨Array.empty⟩ : ByteArray))) : Nat) : Int)) ∧ ((((ByteArray.size (List.getD v27 (Int.toNat v29) (⟨Array.empty⟩ : ByteArray))) : Nat) : Int) < (((List.length v10) : Nat) : Int))) then
            bif ((List.getD v10 (0 + (Int.toNat (((ByteArray.size (List.getD v27 (Int.toNat v29) (⟨Array.empty⟩ : ByteArray))) : Nat) : Int))) (0 : Int)) == (1000000 : Int)) then
              if (((0 : Int) ≤ (((ByteArray.size (List.getD v27 (Int.toNat v29) (⟨Array.empty⟩ : ByteArray))) : Nat) : Int)) ∧ ((((ByteArray.size (List.getD v27 (Int.toNat v29) (⟨Array.empty⟩ : ByteArray))) : Nat) : Int) < (((List.length v10) : Nat) : Int))) then
                some (Sum.inl (v2, (v3_0, v3_1, v3_2, v3_3, ()), (List.take (List.length v10) (List.drop 0 (List.set v10 (0 + (Int.toNat (((ByteArray.size (List.getD v27 (Int.toNat v29) (⟨Array.empty⟩ : ByteArray))) : Nat) : Int))) r0))), v27, v28, (IntKind.wrap .i64 (v29 + (1 : Int))), ()))
              else
                none
            else
              if (((0 : Int) ≤ (((ByteArray.size (List.getD v27 (Int.toNat v29) (⟨Array.empty⟩ : ByteArray))) : Nat) : Int)) ∧ ((((ByteArray.size (List.getD v27 (Int.toNat v29) (⟨Array.empty⟩ : ByteArray))) : Nat) : Int) < (((List.length v10) : Nat) : Int))) then
                Option.bind (v2 (r0, (List.getD v10 (0 + (Int.toNat (((ByteArray.size (List.getD v27 (Int.toNat v29) (⟨Array.empty⟩ : ByteArray))) : Nat) : Int))) (0 : Int)), ())) fun r1 =>
                  bif r1 then
                    if (((0 : Int) ≤ (((ByteArray.size (List.getD v27 (Int.toNat v29) (⟨Array.empty⟩ : ByteArray))) : Nat) : Int)) ∧ ((((ByteArray.size (List.getD v27 (Int.toNat v29) (⟨Array.empty⟩ : ByteArray))) : Nat) : Int) < (((List.length v10) : Nat) : Int))) then
                      some (Sum.inl (v2, (v3_0, v3_1, v3_2, v3_3, ()), (List.take (List.length v10) (List.drop 0 (List.set v10 (0 + (Int.toNat (((ByteArray.size (List.getD v27 (Int.toNat v29) (⟨Array.empty⟩ : ByteArray))) : Nat) : Int))) r0))), v27, v28, (IntKind.wrap .i64 (v29 + (1 : Int))), ()))
                    else
                      none
                  else
                    some (Sum.inl (v2, (v3_0, v3_1, v3_2, v3_3, ()), (List.take (List.length v10) (List.drop 0 v10)), v27, v28, (IntKind.wrap .i64 (v29 + (1 : Int))), ()))
              else
                none
          else
            none
        else
          some (Sum.inl (v2, (v3_0, v3_1, v3_2, v3_3, ()), (List.take (List.length v10) (List.drop 0 v10)), v27, v28, (IntKind.wrap .i64 (v29 + (1 : Int))), ()))
    else
      none
  else
    some (Sum.inr ((List.take (List.length v10) (List.drop 0 v10)), ()))
theorem impl_byLength_l6_eq : loopStep E75 L75_0 (loopOf f75 6) sh75_6 xs75_6 = impl_byLength_l6 := by kernel_rfl
theorem loop75_6 {L : Nat → Option LoopD} (h : L 6 = some ⟨sh75_6, xs75_6, impl_byLength_l6⟩) : LoopOk prog L (loopOf f75 6) :=
  loopOk (tysOk_of tyl_ok) E75_ok (codeOk_in (L := L75_0) (tysOk_of tyl_ok) E75_ok mixed (c := loopOf f75 6) (bs := []) (by kernel_rfl) allNil (by kernel_rfl)) (by kernel_rfl) (by kernel_rfl) impl_byLength_l6_eq (by rw [show firstId (loopOf f75 6) = 6 from by kernel_rfl]; exact h)
noncomputable def L75_1 : Nat → Option LoopD := fun n => ifEq n 6 (some ⟨sh75_6, xs75_6, impl_byLength_l6⟩) (L75_0 n)
noncomputable def impl_byLength : (Int × ((List Int) × ((List Int) × (List (Int × (ByteArray × (Int × Int))))))) → Int → ((Int × Int × Unit) → Option (Bool)) → Option ((List Int) × Bool) := fun (a0_0, a0_1, a0_2, a0_3) a1 a2 =>
  Option.bind (impl_short a1 (List.take 1 (List.drop 0 [(a0_0, a0_1, a0_2, a0_3)]))) fun (r0, r1) =>
    bif (!r1) then
      some ([], false)
    else
      Option.bind (slices_Repeat (List.take 1 (List.drop 0 [(1000000 : Int)])) (IntKind.wrap .i64 (a1 + (1 : Int)))) fun r2 =>
        Option.bind (loopF impl_byLength_l6 (a2, (a0_0, a0_1, a0_2, a0_3, ()), (List.take (List.length r2) (List.drop 0 r2)), r0, (((List.length r0) : Nat) : Int), (0 : Int), ())) fun (r3, _) =>
          some ((List.take (List.length r3) (List.drop 0 r3)), true)
noncomputable def A75 : FnA := ⟨[.v (.pair (.int .i64) (.pair (.sl (.int .i64)) (.pair (.sl (.int .i64)) (.sl (.pair (.int .i64) (.pair .str (.pair (.int .i64) (.int .i64)))))))), .v (.int .i64), .clo [.int .i64, .int .i64] .bool], true, [.sl (.int .i64), .bool], fun x => impl_byLength x.1 x.2.1 x.2.2.1⟩
theorem impl_byLength_eq : fnF E75 L75_1 [.v (.pair (.int .i64) (.pair (.sl (.int .i64)) (.pair (.sl (.int .i64)) (.sl (.pair (.int .i64) (.pair .str (.pair (.int .i64) (.int .i64)))))))), .v (.int .i64), .clo [.int .i64, .int .i64] .bool] true [.sl (.int .i64), .bool] f75.ntmps f75.results.toList (codeOf f75) = fun x => impl_byLength x.1 x.2.1 x.2.2.1 := by kernel_rfl
theorem A75_ok : FnOk prog 75 A75 := by
  have h := fnOk_of_run (P := prog) (E := E75) (tysOk_of tyl_ok) E75_ok (L := L75_1) (ps := [.v (.pair (.int .i64) (.pair (.sl (.int .i64)) (.pair (.sl (.int .i64)) (.sl (.pair (.int .i64) (.pair .str (.pair (.int .i64) (.int .i64)))))))), .v (.int .i64), .clo [.int .i64, .int .i64] .bool]) (own := true) (outs := [.sl (.int .i64), .bool]) func75 (c := codeOf f75) (by kernel_rfl) (codeOk_in (L := L75_1) (tysOk_of tyl_ok) E75_ok mixed (c := codeOf f75) (bs := [loopOf f75 6]) (by kernel_rfl) (allCons (loop75_6 rfl) allNil) (by kernel_rfl))
  rw [impl_byLength_eq] at h
  exact h
/-! impl.LeastOf$1 -/
noncomputable def E76 : Env := ⟨ty0, fun _ => none, fun _ => none, fun _ => none⟩
theorem E76_ok : FnsOk prog E76 := (noFns _ _)
noncomputable def L76_0 : Nat → Option LoopD := fun _ => none
noncomputable def impl_LeastOf_1 : Int → Int → Option (Bool) := fun a0 a1 =>
  some (decide (a0 < a1))
noncomputable def A76 : FnA := ⟨[.v (.int .i64), .v (.int .i64)], true, [.bool], fun x => impl_LeastOf_1 x.1 x.2.1⟩
theorem impl_LeastOf_1_eq : fnF E76 L76_0 [.v (.int .i64), .v (.int .i64)] true [.bool] f76.ntmps f76.results.toList (codeOf f76) = fun x => impl_LeastOf_1 x.1 x.2.1 := by kernel_rfl
theorem A76_ok : FnOk prog 76 A76 := by
  have h := fnOk_of_run (P := prog) (E := E76) (tysOk_of tyl_ok) E76_ok (L := L76_0) (ps := [.v (.int .i64), .v (.int .i64)]) (own := true) (outs := [.bool]) func76 (c := codeOf f76) (by kernel_rfl) (codeOk_in (L := L76_0) (tysOk_of tyl_ok) E76_ok mixed (c := codeOf f76) (bs := []) (by kernel_rfl) allNil (by kernel_rfl))
  rw [impl_LeastOf_1_eq] at h
  exact h
/-! impl.LeastOf -/
noncomputable def E35 : Env := ⟨ty0, fun g => ifEq g 75 (some A75) (ifEq g 76 (some A76) (none)), fun _ => none, fun _ => none⟩
theorem E35_ok : FnsOk prog E35 := (oneFn A75_ok func75 (by kernel_rfl) (by kernel_rfl) (oneFn A76_ok func76 (by kernel_rfl) (by kernel_rfl) (noFns _ _)))
noncomputable def L35_0 : Nat → Option LoopD := fun _ => none
noncomputable def impl_LeastOf : (Int × ((List Int) × ((List Int) × (List (Int × (ByteArray × (Int × Int))))))) → Int → Option ((List Int) × Bool) := fun (a0_0, a0_1, a0_2, a0_3) a1 =>
  Option.bind (impl_byLength (a0_0, a0_1, a0_2, a0_3) a1 (fun y0 => (impl_LeastOf_1 y0.1 y0.2.1))) fun (r1, r2) =>
    some ((List.take (List.length r1) (List.drop 0 r1)), r2)
noncomputable def A35 : FnA := ⟨[.v (.pair (.int .i64) (.pair (.sl (.int .i64)) (.pair (.sl (.int .i64)) (.sl (.pair (.int .i64) (.pair .str (.pair (.int .i64) (.int .i64)))))))), .v (.int .i64)], true, [.sl (.int .i64), .bool], fun x => impl_LeastOf x.1 x.2.1⟩
theorem impl_LeastOf_eq : fnF E35 L35_0 [.v (.pair (.int .i64) (.pair (.sl (.int .i64)) (.pair (.sl (.int .i64)) (.sl (.pair (.int .i64) (.pair .str (.pair (.int .i64) (.int .i64)))))))), .v (.int .i64)] true [.sl (.int .i64), .bool] f35.ntmps f35.results.toList (codeOf f35) = fun x => impl_LeastOf x.1 x.2.1 := by kernel_rfl
theorem A35_ok : FnOk prog 35 A35 := by
  have h := fnOk_of_run (P := prog) (E := E35) (tysOk_of tyl_ok) E35_ok (L := L35_0) (ps := [.v (.pair (.int .i64) (.pair (.sl (.int .i64)) (.pair (.sl (.int .i64)) (.sl (.pair (.int .i64) (.pair .str (.pair (.int .i64) (.int .i64)))))))), .v (.int .i64)]) (own := true) (outs := [.sl (.int .i64), .bool]) func35 (c := codeOf f35) (by kernel_rfl) (codeOk_in (L := L35_0) (tysOk_of tyl_ok) E35_ok mixed (c := codeOf f35) (bs := []) (by kernel_rfl) allNil (by kernel_rfl))
  rw [impl_LeastOf_eq] at h
  exact h
/-! laws.FnExactLeastOf -/
noncomputable def E10 : Env := ⟨ty0, fun g => ifEq g 21 (some A21) (ifEq g 23 (some A23) (ifEq g 34 (some A34) (ifEq g 35 (some A35) (ifEq g 36 (some A36) (ifEq g 25 (some A25) (ifEq g 39 (some A39) (none))))))), fun g => ifEq g 37 (some A37) (ifEq g 38 (some A38) (none)), fun _ => none⟩
theorem E10_ok : FnsOk prog E10 := (oneFn A21_ok func21 (by kernel_rfl) (by kernel_rfl) (oneFn A23_ok func23 (by kernel_rfl) (by kernel_rfl) (oneFn A34_ok func34 (by kernel_rfl) (by kernel_rfl) (oneFn A35_ok func35 (by kernel_rfl) (by kernel_rfl) (oneFn A36_ok func36 (by kernel_rfl) (by kernel_rfl) (oneFn A25_ok func25 (by kernel_rfl) (by kernel_rfl) (oneFn A39_ok func39 (by kernel_rfl) (by kernel_rfl) (oneMs A37_ok (by kernel_rfl) func37 (by kernel_rfl) (by kernel_rfl) (oneMs A38_ok (by kernel_rfl) func38 (by kernel_rfl) (by kernel_rfl) (noFns _ _))))))))))
noncomputable def L10_0 : Nat → Option LoopD := fun _ => none
noncomputable def laws_FnExactLeastOf : (Int × ((List Int) × ((List Int) × (List (Int × (ByteArray × (Int × Int))))))) → Int → Option (Bool) := fun (a0_0, a0_1, a0_2, a0_3) a1 =>
  Option.bind (laws_szAutomaton (a0_0, a0_1, a0_2, a0_3) (1048576 : Int)) fun r0 =>
    bif (decide (r0 < (0 : Int))) then
      some true
    else
      Option.bind (laws_toAutomaton (a0_0, a0_1, a0_2, a0_3)) fun (r1, r2, r3, r4) =>
        Option.bind (spec_LeastOf (r1, (List.take (List.length r2) (List.drop 0 r2)), (List.take (List.length r3) (List.drop 0 r3)), (List.take (List.length r4) (List.drop 0 r4))) a1) fun (r5, r6) =>
          Option.bind (laws_toAutomaton (a0_0, a0_1, a0_2, a0_3)) fun (r7, r8, r9, r10) =>
            Option.bind (impl_LeastOf (r7, (List.take (List.length r8) (List.drop 0 r8)), (List.take (List.length r9) (List.drop 0 r9)), (List.take (List.length r10) (List.drop 0 r10))) a1) fun (r11, r12) =>
              Option.bind (laws_eqIntS (List.take (List.length r11) (List.drop 0 r11)) (List.take (List.length r5) (List.drop 0 r5))) fun r13 =>
                bif (!r13) then
                  some false
                else
                  bif (!(r12 == r6)) then
                    some false
                  else
                    Option.bind (laws_toAutomaton (a0_0, a0_1, a0_2, a0_3)) fun (r14, r15, r16, r17) =>
                      Option.bind (laws_eqAutomaton (r7, (List.take (List.length r8) (List.drop 0 r8)), (List.take (List.length r9) (List.drop 0 r9)), (List.take (List.length r10) (List.drop 0 r10))) (r14, (List.take (List.length r15) (List.drop 0 r15)), (List.take (List.length r16) (List.drop 0 r16)), (List.take (List.length r17) (List.drop 0 r17)))) fun r18 =>
                        bif (!r18) then
                          some false
                        else
                          if ((List.length r8) = (List.length r8)) then
                            if ((List.length r9) = (List.length r9)) then
                              if ((List.length r10) = (List.length r10)) then
                                Option.bind (laws_markAutomaton (r7, r8, r9, r10) (1 : Int)) fun (r19, (r20, r21, r22, r23), _) =>
                                  bif (decide (r19 < (0 : Int))) then
                                    some false
                                  else
                                    Option.bind (laws_eqIntS (List.take (List.length r11) (List.drop 0 r11)) (List.take (List.length r5) (List.drop 0 r5))) fun r24 =>
                                      bif (!r24) then
                                        some false
                                      else
                                        bif (!(r12 == r6)) then
                                          some false
                                        else
                                          if ((List.length r11) = (List.length r11)) then
                                            Option.bind (laws_markIntS r11 (1 : Int)) fun (r25, r26, _) =>
                                              Option.bind (laws_heldIntS (List.take (List.length r11) (List.drop 0 r26)) (1 : Int)) fun r27 =>
                                                bif (decide (r27 < (0 : Int))) then
                                                  some false
                                                else
                                                  bif (r27 != r25) then
                                                    some false
                                                  else
                                                    Option.bind (laws_toAutomaton (a0_0, a0_1, a0_2, a0_3)) fun (r28, r29, r30, r31) =>
                                                      Option.bind (impl_LeastOf (r28, (List.take (List.length r29) (List.drop 0 r29)), (List.take (List.length r30) (List.drop 0 r30)), (List.take (List.length r31) (List.drop 0 r31))) a1) fun (r32, r33) =>
                                                        Option.bind (laws_eqIntS (List.take (List.length r32) (List.drop 0 r32)) (List.take (List.length r5) (List.drop 0 r5))) fun r34 =>
                                                          bif (!r34) then
                                                            some false
                                                          else
                                                            bif (!(r33 == r6)) then
                                                              some false
                                                            else
                                                              Option.bind (laws_heldIntS (List.take (List.length r11) (List.drop 0 r26)) (1 : Int)) fun r35 =>
                                                                bif (decide (r35 < (0 : Int))) then
                                                                  some false
                                                                else
                                                                  bif (r35 != r25) then
                                                                    some false
                                                                  else
                                                                    some true
                                          else
                                            none
                              else
                                none
                            else
                              none
                          else
                            none
noncomputable def A10 : FnA := ⟨[.v (.pair (.int .i64) (.pair (.sl (.int .i64)) (.pair (.sl (.int .i64)) (.sl (.pair (.int .i64) (.pair .str (.pair (.int .i64) (.int .i64)))))))), .v (.int .i64)], true, [.bool], fun x => laws_FnExactLeastOf x.1 x.2.1⟩
theorem laws_FnExactLeastOf_eq : fnF E10 L10_0 [.v (.pair (.int .i64) (.pair (.sl (.int .i64)) (.pair (.sl (.int .i64)) (.sl (.pair (.int .i64) (.pair .str (.pair (.int .i64) (.int .i64)))))))), .v (.int .i64)] true [.bool] f10.ntmps f10.results.toList (codeOf f10) = fun x => laws_FnExactLeastOf x.1 x.2.1 := by kernel_rfl
theorem A10_ok : FnOk prog 10 A10 := by
  have h := fnOk_of_run (P := prog) (E := E10) (tysOk_of tyl_ok) E10_ok (L := L10_0) (ps := [.v (.pair (.int .i64) (.pair (.sl (.int .i64)) (.pair (.sl (.int .i64)) (.sl (.pair (.int .i64) (.pair .str (.pair (.int .i64) (.int .i64)))))))), .v (.int .i64)]) (own := true) (outs := [.bool]) func10 (c := codeOf f10) (by kernel_rfl) (codeOk_in (L := L10_0) (tysOk_of tyl_ok) E10_ok mixed (c := codeOf f10) (bs := []) (by kernel_rfl) allNil (by kernel_rfl))
  rw [laws_FnExactLeastOf_eq] at h
  exact h
end Go.Proofs.Ytcjlhckebkibaaa
