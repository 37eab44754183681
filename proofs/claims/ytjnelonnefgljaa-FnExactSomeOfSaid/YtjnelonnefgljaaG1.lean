/- What Go functions that the laws reach compute, and that they do: written by a program of this session. -/
import Derived.Test.YtjnelonnefgljaaG0
import Derived.KernelRfl
set_option linter.unusedVariables false
namespace Go.Proofs.Ytjnelonnefgljaa
open Go Go.Proofs.Ytjnelonnefgljaa.Am Go.Proofs.Try
set_option maxRecDepth 100000
/-! impl.readParts -/
noncomputable def R57 (impl_readParts_rec : ByteArray → Option ((List (ByteArray × PT)) × ByteArray)) : FnA := ⟨[.v .str], true, [.sl (.pair .str .pt), .str], fun x => impl_readParts_rec x.1⟩
noncomputable def E57 (impl_readParts_rec : ByteArray → Option ((List (ByteArray × PT)) × ByteArray)) : Env := ⟨ty0, fun g => ifEq g 57 (some (R57 impl_readParts_rec)) (ifEq g 80 (some A80) (none)), fun _ => none, fun _ => none, fun _ => none⟩
theorem E57_ok (impl_readParts_rec : ByteArray → Option ((List (ByteArray × PT)) × ByteArray)) (hrec : FnOk prog 57 (R57 impl_readParts_rec)) : FnsOk prog (E57 impl_readParts_rec) := (oneFn hrec func57 (by kernel_rfl) (by kernel_rfl) (oneFn A80_ok func80 (by kernel_rfl) (by kernel_rfl) (noFns _ _)))
noncomputable def L57_0 (impl_readParts_rec : ByteArray → Option ((List (ByteArray × PT)) × ByteArray)) : Nat → Option LoopD := fun _ => none
def sh57_2 : List Fm := [.cell (.val .str), d, d, d, .cell (.own (.pair .str .pt) 100400 false), d, d, d, d, d, d, d, d, d, d, d, d, d, d, d, d, d, d, d, d, d, d, d, d, d, d, d, d, d, d, d, d, d, d, d, d, d, d, d, d, d, d, d, d]
def xs57_2 : List (Ex × List Fm) := [(.ret, [d, d, .cell (.own (.pair .str .pt) 100200 false), .cell (.val .str), d, d, d, d, d, d, d, d, d, d, d, d, d, d, d, d, d, d, d, d, d, d, d, d, d, d, d, d, d, d, d, d, d, d, d, d, d, d, d, d, d, d, d, d, d]), (.exit 0, [.cell (.val .str), d, d, d, .cell (.own (.pair .str .pt) 100400 false), d, d, d, d, d, d, d, d, d, d, d, d, d, d, d, d, d, d, d, d, d, d, d, d, d, d, d, d, d, d, d, d, d, d, d, d, d, d, d, d, d, d, d, d])]
noncomputable def impl_readParts_l2 (impl_readParts_rec : ByteArray → Option ((List (ByteArray × PT)) × ByteArray)) : (ByteArray × (List (ByteArray × PT)) × Unit) → Option ((ByteArray × (List (ByteArray × PT)) × Unit) ⊕ (((List (ByteArray × PT)) × ByteArray × Unit) ⊕ (ByteArray × (List (ByteArray × PT)) × Unit))) := fun (v0, v4, _) =>
  bif (!((ByteArray.toList v0) == (ByteArray.toList (⟨#[]⟩ : ByteArray)))) then
    if (((0 : Int) ≤ (0 : Int)) ∧ ((0 : Int) < (((ByteArray.size v0) : Nat) : Int))) then
      bif ((((UInt8.toNat (Array.getD (ByteArray.data v0) (Int.toNat (0 : Int)) (0 : UInt8))) : Nat) : Int) == (97 : Int)) then
        bif ((((UInt8.toNat (Array.getD (ByteArray.data v0) (Int.toNat (0 : Int)) (0 : UInt8))) : Nat) : Int) == (97 : Int)) then
          if (((0 : Int) ≤ (1 : Int)) ∧ ((1 : Int) ≤ (((ByteArray.size v0) : Nat) : Int))) then
            if (((0 + (List.length v4)) = (List.length v4)) ∧ ((((List.length v4) + (List.length (List.take 1 (List.drop 0 [((ByteArray.extract v0 0 (Int.toNat (1 : Int))), (PT.mk []))])))) * 40) ≤ 140737488355328)) then
              if (((0 : Int) ≤ (1 : Int)) ∧ ((1 : Int) ≤ (((ByteArray.size v0) : Nat) : Int))) then
                some (Sum.inl ((ByteArray.extract v0 (Int.toNat (1 : Int)) (ByteArray.size v0)), (List.take ((List.length v4) + (List.length (List.take 1 (List.drop 0 [((ByteArray.extract v0 0 (Int.toNat (1 : Int))), (PT.mk []))])))) (List.drop 0 ((List.drop 0 v4) ++ (List.take 1 (List.drop 0 [((ByteArray.extract v0 0 (Int.toNat (1 : Int))), (PT.mk []))]))))), ()))
              else
                none
            else
              none
          else
            none
        else
          bif ((((UInt8.toNat (Array.getD (ByteArray.data v0) (Int.toNat (0 : Int)) (0 : UInt8))) : Nat) : Int) == (40 : Int)) then
            if (((0 : Int) ≤ (1 : Int)) ∧ ((1 : Int) ≤ (((ByteArray.size v0) : Nat) : Int))) then
              Option.bind (impl_readParts_rec (ByteArray.extract v0 (Int.toNat (1 : Int)) (ByteArray.size v0))) fun (r0, r1) =>
                bif (decide ((((List.length r0) : Nat) : Int) > (0 : Int))) then
                  Option.bind (strings_HasPrefix r1 (⟨#[(41 : UInt8), (35 : UInt8)]⟩ : ByteArray)) fun r2 =>
                    bif r2 then
                      if (((0 + (List.length v4)) = (List.length v4)) ∧ ((((List.length v4) + (List.length (List.take 1 (List.drop 0 [((⟨Array.empty⟩ : ByteArray), (PT.mk (List.take (List.length r0) (List.drop 0 r0))))])))) * 40) ≤ 140737488355328)) then
                        if (((0 : Int) ≤ (2 : Int)) ∧ ((2 : Int) ≤ (((ByteArray.size r1) : Nat) : Int))) then
                          some (Sum.inl ((ByteArray.extract r1 (Int.toNat (2 : Int)) (ByteArray.size r1)), (List.take ((List.length v4) + (List.length (List.take 1 (List.drop 0 [((⟨Array.empty⟩ : ByteArray), (PT.mk (List.take (List.length r0) (List.drop 0 r0))))])))) (List.drop 0 ((List.drop 0 v4) ++ (List.take 1 (List.drop 0 [((⟨Array.empty⟩ : ByteArray), (PT.mk (List.take (List.length r0) (List.drop 0 r0))))]))))), ()))
                        else
                          none
                      else
                        none
                    else
                      some (Sum.inr (Sum.inl ((List.take (List.length v4) (List.drop 0 v4)), v0, ())))
                else
                  some (Sum.inr (Sum.inl ((List.take (List.length v4) (List.drop 0 v4)), v0, ())))
            else
              none
          else
            some (Sum.inr (Sum.inl ((List.take (List.length v4) (List.drop 0 v4)), v0, ())))
      else
        bif ((((UInt8.toNat (Array.getD (ByteArray.data v0) (Int.toNat (0 : Int)) (0 : UInt8))) : Nat) : Int) == (98 : Int)) then
          if (((0 : Int) ≤ (1 : Int)) ∧ ((1 : Int) ≤ (((ByteArray.size v0) : Nat) : Int))) then
            if (((0 + (List.length v4)) = (List.length v4)) ∧ ((((List.length v4) + (List.length (List.take 1 (List.drop 0 [((ByteArray.extract v0 0 (Int.toNat (1 : Int))), (PT.mk []))])))) * 40) ≤ 140737488355328)) then
              if (((0 : Int) ≤ (1 : Int)) ∧ ((1 : Int) ≤ (((ByteArray.size v0) : Nat) : Int))) then
                some (Sum.inl ((ByteArray.extract v0 (Int.toNat (1 : Int)) (ByteArray.size v0)), (List.take ((List.length v4) + (List.length (List.take 1 (List.drop 0 [((ByteArray.extract v0 0 (Int.toNat (1 : Int))), (PT.mk []))])))) (List.drop 0 ((List.drop 0 v4) ++ (List.take 1 (List.drop 0 [((ByteArray.extract v0 0 (Int.toNat (1 : Int))), (PT.mk []))]))))), ()))
              else
                none
            else
              none
          else
            none
        else
          bif ((((UInt8.toNat (Array.getD (ByteArray.data v0) (Int.toNat (0 : Int)) (0 : UInt8))) : Nat) : Int) == (40 : Int)) then
            if (((0 : Int) ≤ (1 : Int)) ∧ ((1 : Int) ≤ (((ByteArray.size v0) : Nat) : Int))) then
              Option.bind (impl_readParts_rec (ByteArray.extract v0 (Int.toNat (1 : Int)) (ByteArray.size v0))) fun (r3, r4) =>
                bif (decide ((((List.length r3) : Nat) : Int) > (0 : Int))) then
                  Option.bind (strings_HasPrefix r4 (⟨#[(41 : UInt8), (35 : UInt8)]⟩ : ByteArray)) fun r5 =>
                    bif r5 then
                      if (((0 + (List.length v4)) = (List.length v4)) ∧ ((((List.length v4) + (List.length (List.take 1 (List.drop 0 [((⟨Array.empty⟩ : ByteArray), (PT.mk (List.take (List.length r3) (List.drop 0 r3))))])))) * 40) ≤ 140737488355328)) then
                        if (((0 : Int) ≤ (2 : Int)) ∧ ((2 : Int) ≤ (((ByteArray.size r4) : Nat) : Int))) then
                          some (Sum.inl ((ByteArray.extract r4 (Int.toNat (2 : Int)) (ByteArray.size r4)), (List.take ((List.length v4) + (List.length (List.take 1 (List.drop 0 [((⟨Array.empty⟩ : ByteArray), (PT.mk (List.take (List.length r3) (List.drop 0 r3))))])))) (List.drop 0 ((List.drop 0 v4) ++ (List.take 1 (List.drop 0 [((⟨Array.empty⟩ : ByteArray), (PT.mk (List.take (List.length r3) (List.drop 0 r3))))]))))), ()))
                        else
                          none
                      else
                        none
                    else
                      some (Sum.inr (Sum.inl ((List.take (List.length v4) (List.drop 0 v4)), v0, ())))
                else
                  some (Sum.inr (Sum.inl ((List.take (List.length v4) (List.drop 0 v4)), v0, ())))
            else
              none
          else
            some (Sum.inr (Sum.inl ((List.take (List.length v4) (List.drop 0 v4)), v0, ())))
    else
      none
  else
    some (Sum.inr (Sum.inr (v0, (List.take (List.length v4) (List.drop 0 v4)), ())))
theorem impl_readParts_l2_eq (impl_readParts_rec : ByteArray → Option ((List (ByteArray × PT)) × ByteArray)) : loopStep 49 (E57 impl_readParts_rec) (L57_0 impl_readParts_rec) (loopOf f57 2) sh57_2 xs57_2 = (impl_readParts_l2 impl_readParts_rec) := by kernel_rfl
theorem loop57_2 (impl_readParts_rec : ByteArray → Option ((List (ByteArray × PT)) × ByteArray)) (hrec : FnOk prog 57 (R57 impl_readParts_rec)) {L : Nat → Option LoopD} (h : L 2 = some ⟨49, sh57_2, xs57_2, (impl_readParts_l2 impl_readParts_rec)⟩) : LoopOk prog L (loopOf f57 2) :=
  loopOk (tysOk_of tyl_ok) (E57_ok impl_readParts_rec hrec) (codeOk_in (L := (L57_0 impl_readParts_rec)) (tysOk_of tyl_ok) (E57_ok impl_readParts_rec hrec) mixed (c := loopOf f57 2) (bs := []) (by kernel_rfl) allNil (by kernel_rfl)) (by kernel_rfl) (by kernel_rfl) (impl_readParts_l2_eq impl_readParts_rec) (by rw [show firstId (loopOf f57 2) = 2 from by kernel_rfl]; exact h)
noncomputable def L57_1 (impl_readParts_rec : ByteArray → Option ((List (ByteArray × PT)) × ByteArray)) : Nat → Option LoopD := fun n => ifEq n 2 (some ⟨49, sh57_2, xs57_2, (impl_readParts_l2 impl_readParts_rec)⟩) ((L57_0 impl_readParts_rec) n)
noncomputable def impl_readParts_step (impl_readParts_rec : ByteArray → Option ((List (ByteArray × PT)) × ByteArray)) : ByteArray → Option ((List (ByteArray × PT)) × ByteArray) := fun a0 =>
  Option.bind (loopF (impl_readParts_l2 impl_readParts_rec) (a0, (List.take 0 (List.drop 0 [])), ())) fun r0 =>
    (match r0 with
    | .inl (d1, d2, _) =>
        some ((List.take (List.length d1) (List.drop 0 d1)), d2)
    | .inr (d3, d4, _) =>
        some ((List.take (List.length d4) (List.drop 0 d4)), d3))
theorem impl_readParts_step_eq (impl_readParts_rec : ByteArray → Option ((List (ByteArray × PT)) × ByteArray)) : fnF (E57 impl_readParts_rec) (L57_1 impl_readParts_rec) [.v .str] true [.sl (.pair .str .pt), .str] f57.ntmps f57.results.toList (codeOf f57) = fun x => (impl_readParts_step impl_readParts_rec) x.1 := by kernel_rfl
theorem impl_readParts_step_ok (impl_readParts_rec : ByteArray → Option ((List (ByteArray × PT)) × ByteArray)) (hrec : FnOk prog 57 (R57 impl_readParts_rec)) : FnOk prog 57 ⟨[.v .str], true, [.sl (.pair .str .pt), .str], fun x => (impl_readParts_step impl_readParts_rec) x.1⟩ := by
  have h := fnOk_of_run (P := prog) (E := (E57 impl_readParts_rec)) (tysOk_of tyl_ok) (E57_ok impl_readParts_rec hrec) (L := (L57_1 impl_readParts_rec)) (ps := [.v .str]) (own := true) (outs := [.sl (.pair .str .pt), .str]) func57 (c := codeOf f57) (by kernel_rfl) (codeOk_in (L := (L57_1 impl_readParts_rec)) (tysOk_of tyl_ok) (E57_ok impl_readParts_rec hrec) mixed (c := codeOf f57) (bs := [loopOf f57 2]) (by kernel_rfl) (allCons (loop57_2 impl_readParts_rec hrec rfl) allNil) (by kernel_rfl))
  rw [(impl_readParts_step_eq impl_readParts_rec)] at h
  exact h
/-- so many calls within each other -/
noncomputable def impl_readParts_fuel : Nat → ByteArray → Option ((List (ByteArray × PT)) × ByteArray)
  | 0 => fun _ => none
  | n + 1 => impl_readParts_step (impl_readParts_fuel n)
theorem impl_readParts_fuel_ok : ∀ n, FnOk prog 57 (R57 (impl_readParts_fuel n))
  | 0 => fun xs r h => by cases h
  | n + 1 => impl_readParts_step_ok (impl_readParts_fuel n) (impl_readParts_fuel_ok n)
noncomputable def impl_readParts : ByteArray → Option ((List (ByteArray × PT)) × ByteArray) := impl_readParts_fuel 200
noncomputable def A57 : FnA := R57 impl_readParts
theorem A57_ok : FnOk prog 57 A57 := impl_readParts_fuel_ok 200
/-! impl.parts -/
noncomputable def E36 : Env := ⟨ty0, fun g => ifEq g 57 (some A57) (none), fun _ => none, fun _ => none, fun _ => none⟩
theorem E36_ok : FnsOk prog E36 := (oneFn A57_ok func57 (by kernel_rfl) (by kernel_rfl) (noFns _ _))
noncomputable def L36_0 : Nat → Option LoopD := fun _ => none
noncomputable def impl_parts : ByteArray → Option ((List (ByteArray × PT)) × Bool) := fun a0 =>
  bif (decide ((((ByteArray.size a0) : Nat) : Int) > (120 : Int))) then
    some ([], false)
  else
    Option.bind (impl_readParts a0) fun (r0, r1) =>
      bif (decide ((((List.length r0) : Nat) : Int) > (0 : Int))) then
        some ((List.take (List.length r0) (List.drop 0 r0)), ((ByteArray.toList r1) == (ByteArray.toList (⟨#[]⟩ : ByteArray))))
      else
        some ((List.take (List.length r0) (List.drop 0 r0)), false)
noncomputable def A36 : FnA := ⟨[.v .str], true, [.sl (.pair .str .pt), .bool], fun x => impl_parts x.1⟩
theorem impl_parts_eq : fnF E36 L36_0 [.v .str] true [.sl (.pair .str .pt), .bool] f36.ntmps f36.results.toList (codeOf f36) = fun x => impl_parts x.1 := by kernel_rfl
theorem A36_ok : FnOk prog 36 A36 := by
  have h := fnOk_of_run (P := prog) (E := E36) (tysOk_of tyl_ok) E36_ok (L := L36_0) (ps := [.v .str]) (own := true) (outs := [.sl (.pair .str .pt), .bool]) func36 (c := codeOf f36) (by kernel_rfl) (codeOk_in (L := L36_0) (tysOk_of tyl_ok) E36_ok mixed (c := codeOf f36) (bs := []) (by kernel_rfl) allNil (by kernel_rfl))
  rw [impl_parts_eq] at h
  exact h
/-! impl.filled -/
noncomputable def E46 : Env := ⟨ty0, fun _ => none, fun _ => none, fun _ => none, fun _ => none⟩
theorem E46_ok : FnsOk prog E46 := (noFns _ _)
noncomputable def L46_0 : Nat → Option LoopD := fun _ => none
def sh46_6 : List Fm := [.cell (.val (.int .i64)), .clo [.int .i64, .int .i64] (.int .i64), d, d, .box 100400 [.val (.int .i64), .own (.int .i64) 100402 false], .box 100500 [.val (.int .i64), .own (.int .i64) 100502 false], .cell (.val (.int .i64)), d, d, d, .cell (.val (.int .i64)), .cell (.val (.int .i64)), d, d, .cell (.val (.int .i64)), .cell (.val (.int .i64)), d, d, d, d, d, d, d, d, d, d, d, d, d, d]
def xs46_6 : List (Ex × List Fm) := [(.exit 2, [.cell (.val (.int .i64)), .clo [.int .i64, .int .i64] (.int .i64), d, d, .box 100400 [.val (.int .i64), .own (.int .i64) 100402 false], .box 100500 [.val (.int .i64), .own (.int .i64) 100502 false], d, d, d, d, .cell (.val (.int .i64)), .cell (.val (.int .i64)), d, d, d, d, d, d, d, d, d, d, d, d, d, d, d, d, d, d])]
noncomputable def impl_filled_l6 : (Int × ((Int × Int × Unit) → Option (Int)) × (Int × (List Int) × Unit) × (Int × (List Int) × Unit) × Int × Int × Int × Int × Int × Unit) → Option ((Int × ((Int × Int × Unit) → Option (Int)) × (Int × (List Int) × Unit) × (Int × (List Int) × Unit) × Int × Int × Int × Int × Int × Unit) ⊕ ((Int × ((Int × Int × Unit) → Option (Int)) × (Int × (List Int) × Unit) × (Int × (List Int) × Unit) × Int × Int × Unit))) := fun (v0, v1, (v4_0, v4_1, _), (v5_0, v5_1, _), v6, v10, v11, v14, v15, _) =>
  bif (decide (v15 < v14)) then
    Option.bind (v1 (v6, v15, ())) fun r0 =>
      if (((0 + (List.length v5_1)) = (List.length v5_1)) ∧ ((((List.length v5_1) + (List.length (List.take 1 (List.drop 0 [r0])))) * 8) ≤ 140737488355328)) then
        some (Sum.inl (v0, v1, (v4_0, (List.take (List.length v4_1) (List.drop 0 v4_1)), ()), (v5_0, (List.take ((List.length v5_1) + (List.length (List.take 1 (List.drop 0 [r0])))) (List.drop 0 ((List.drop 0 v5_1) ++ (List.take 1 (List.drop 0 [r0]))))), ()), v6, v10, v11, v14, (IntKind.wrap .i64 (v15 + (1 : Int))), ()))
      else
        none
  else
    some (Sum.inr (v0, v1, (v4_0, (List.take (List.length v4_1) (List.drop 0 v4_1)), ()), (v5_0, (List.take (List.length v5_1) (List.drop 0 v5_1)), ()), v10, v11, ()))
theorem impl_filled_l6_eq : loopStep 30 E46 L46_0 (loopOf f46 6) sh46_6 xs46_6 = impl_filled_l6 := by kernel_rfl
theorem loop46_6 {L : Nat → Option LoopD} (h : L 6 = some ⟨30, sh46_6, xs46_6, impl_filled_l6⟩) : LoopOk prog L (loopOf f46 6) :=
  loopOk (tysOk_of tyl_ok) E46_ok (codeOk_in (L := L46_0) (tysOk_of tyl_ok) E46_ok mixed (c := loopOf f46 6) (bs := []) (by kernel_rfl) allNil (by kernel_rfl)) (by kernel_rfl) (by kernel_rfl) impl_filled_l6_eq (by rw [show firstId (loopOf f46 6) = 6 from by kernel_rfl]; exact h)
noncomputable def L46_1 : Nat → Option LoopD := fun n => ifEq n 6 (some ⟨30, sh46_6, xs46_6, impl_filled_l6⟩) (L46_0 n)
def sh46_3 : List Fm := [.cell (.val (.int .i64)), .clo [.int .i64, .int .i64] (.int .i64), d, d, .box 100400 [.val (.int .i64), .own (.int .i64) 100402 false], .box 100500 [.val (.int .i64), .own (.int .i64) 100502 false], d, d, d, d, .cell (.val (.int .i64)), .cell (.val (.int .i64)), d, d, d, d, d, d, d, d, d, d, d, d, d, d, d, d, d, d]
def xs46_3 : List (Ex × List Fm) := [(.exit 0, [d, d, d, d, .box 100400 [.val (.int .i64), .own (.int .i64) 100402 false], .box 100500 [.val (.int .i64), .own (.int .i64) 100502 false], d, d, d, d, d, d, d, d, d, d, d, d, d, d, d, d, d, d, d, d, d, d, d, d])]
noncomputable def impl_filled_l3 : (Int × ((Int × Int × Unit) → Option (Int)) × (Int × (List Int) × Unit) × (Int × (List Int) × Unit) × Int × Int × Unit) → Option ((Int × ((Int × Int × Unit) → Option (Int)) × (Int × (List Int) × Unit) × (Int × (List Int) × Unit) × Int × Int × Unit) ⊕ (((Int × (List Int) × Unit) × (Int × (List Int) × Unit) × Unit))) := fun (v0, v1, (v4_0, v4_1, _), (v5_0, v5_1, _), v10, v11, _) =>
  bif (decide (v11 < v10)) then
    Option.bind (loopF impl_filled_l6 (v0, v1, (v4_0, (List.take (List.length v4_1) (List.drop 0 v4_1)), ()), (v5_0, (List.take (List.length v5_1) (List.drop 0 v5_1)), ()), v11, v10, v11, v0, (0 : Int), ())) fun (r0, r1, (r2, r3, _), (r4, r5, _), r6, r7, _) =>
      some (Sum.inl (r0, r1, (r2, (List.take (List.length r3) (List.drop 0 r3)), ()), (r4, (List.take (List.length r5) (List.drop 0 r5)), ()), r6, (IntKind.wrap .i64 (r7 + (1 : Int))), ()))
  else
    some (Sum.inr ((v4_0, (List.take (List.length v4_1) (List.drop 0 v4_1)), ()), (v5_0, (List.take (List.length v5_1) (List.drop 0 v5_1)), ()), ()))
theorem impl_filled_l3_eq : loopStep 30 E46 L46_1 (loopOf f46 3) sh46_3 xs46_3 = impl_filled_l3 := by kernel_rfl
theorem loop46_3 {L : Nat → Option LoopD} (h : L 3 = some ⟨30, sh46_3, xs46_3, impl_filled_l3⟩) : LoopOk prog L (loopOf f46 3) :=
  loopOk (tysOk_of tyl_ok) E46_ok (codeOk_in (L := L46_1) (tysOk_of tyl_ok) E46_ok mixed (c := loopOf f46 3) (bs := [loopOf f46 6]) (by kernel_rfl) (allCons (loop46_6 rfl) allNil) (by kernel_rfl)) (by kernel_rfl) (by kernel_rfl) impl_filled_l3_eq (by rw [show firstId (loopOf f46 3) = 3 from by kernel_rfl]; exact h)
noncomputable def L46_2 : Nat → Option LoopD := fun n => ifEq n 3 (some ⟨30, sh46_3, xs46_3, impl_filled_l3⟩) (L46_1 n)
noncomputable def impl_filled : Int → ((Int × Int × Unit) → Option (Int)) → Option ((Int × (List Int))) := fun a0 a1 =>
  Option.bind (loopF impl_filled_l3 (a0, a1, ((0 : Int), [], ()), (a0, [], ()), a0, (0 : Int), ())) fun ((r0, r1, _), (r2, r3, _), _) =>
    some (r2, (List.take (List.length r3) (List.drop 0 r3)))
noncomputable def A46 : FnA := ⟨[.v (.int .i64), .clo [.int .i64, .int .i64] (.int .i64)], true, [.pair (.int .i64) (.sl (.int .i64))], fun x => impl_filled x.1 x.2.1⟩
theorem impl_filled_eq : fnF E46 L46_2 [.v (.int .i64), .clo [.int .i64, .int .i64] (.int .i64)] true [.pair (.int .i64) (.sl (.int .i64))] f46.ntmps f46.results.toList (codeOf f46) = fun x => impl_filled x.1 x.2.1 := by kernel_rfl
theorem A46_ok : FnOk prog 46 A46 := by
  have h := fnOk_of_run (P := prog) (E := E46) (tysOk_of tyl_ok) E46_ok (L := L46_2) (ps := [.v (.int .i64), .clo [.int .i64, .int .i64] (.int .i64)]) (own := true) (outs := [.pair (.int .i64) (.sl (.int .i64))]) func46 (c := codeOf f46) (by kernel_rfl) (codeOk_in (L := L46_2) (tysOk_of tyl_ok) E46_ok mixed (c := codeOf f46) (bs := [loopOf f46 3]) (by kernel_rfl) (allCons (loop46_3 rfl) allNil) (by kernel_rfl))
  rw [impl_filled_eq] at h
  exact h
/-! impl.StepMatrix$1 -/
noncomputable def E89 : Env := ⟨ty0, fun _ => none, fun _ => none, fun _ => none, fun _ => none⟩
theorem E89_ok : FnsOk prog E89 := (noFns _ _)
noncomputable def L89_0 : Nat → Option LoopD := fun _ => none
noncomputable def impl_StepMatrix_1 : Int → Int → Option (Int) := fun a0 a1 =>
  some (1000000 : Int)
noncomputable def A89 : FnA := ⟨[.v (.int .i64), .v (.int .i64)], true, [.int .i64], fun x => impl_StepMatrix_1 x.1 x.2.1⟩
theorem impl_StepMatrix_1_eq : fnF E89 L89_0 [.v (.int .i64), .v (.int .i64)] true [.int .i64] f89.ntmps f89.results.toList (codeOf f89) = fun x => impl_StepMatrix_1 x.1 x.2.1 := by kernel_rfl
theorem A89_ok : FnOk prog 89 A89 := by
  have h := fnOk_of_run (P := prog) (E := E89) (tysOk_of tyl_ok) E89_ok (L := L89_0) (ps := [.v (.int .i64), .v (.int .i64)]) (own := true) (outs := [.int .i64]) func89 (c := codeOf f89) (by kernel_rfl) (codeOk_in (L := L89_0) (tysOk_of tyl_ok) E89_ok mixed (c := codeOf f89) (bs := []) (by kernel_rfl) allNil (by kernel_rfl))
  rw [impl_StepMatrix_1_eq] at h
  exact h
/-! impl.StepMatrix -/
noncomputable def E84 : Env := ⟨ty0, fun g => ifEq g 33 (some A33) (ifEq g 46 (some A46) (ifEq g 89 (some A89) (none))), fun _ => none, fun _ => none, fun _ => none⟩
theorem E84_ok : FnsOk prog E84 := (oneFn A33_ok func33 (by kernel_rfl) (by kernel_rfl) (oneFn A46_ok func46 (by kernel_rfl) (by kernel_rfl) (oneFn A89_ok func89 (by kernel_rfl) (by kernel_rfl) (noFns _ _))))
noncomputable def L84_0 : Nat → Option LoopD := fun _ => none
def sh84_5 : List Fm := [d, .cell (.val .str), d, d, .box 100400 [.val (.int .i64), .own (.int .i64) 100402 false], d, .box 100600 [.val (.int .i64), .own (.int .i64) 100602 false], d, d, d, d, d, d, d, d, d, d, d, d, d, d, d, d, d, d, .cell (.val (.sl (.pair (.int .i64) (.pair .str (.pair (.int .i64) (.int .i64)))))), .cell (.val (.int .i64)), .cell (.val (.int .i64)), d, d, d, d, d, d, d, d, d, d, d, d, d, d, d, d, d, d, d, d, d, d]
def xs84_5 : List (Ex × List Fm) := [(.exit 0, [d, d, d, d, .box 100400 [.val (.int .i64), .own (.int .i64) 100402 false], d, .box 100600 [.val (.int .i64), .own (.int .i64) 100602 false], d, d, d, d, d, d, d, d, d, d, d, d, d, d, d, d, d, d, d, d, d, d, d, d, d, d, d, d, d, d, d, d, d, d, d, d, d, d, d, d, d, d, d])]
noncomputable def impl_StepMatrix_l5 : (ByteArray × (Int × (List Int) × Unit) × (Int × (List Int) × Unit) × (List (Int × (ByteArray × (Int × Int)))) × Int × Int × Unit) → Option ((ByteArray × (Int × (List Int) × Unit) × (Int × (List Int) × Unit) × (List (Int × (ByteArray × (Int × Int)))) × Int × Int × Unit) ⊕ (((Int × (List Int) × Unit) × (Int × (List Int) × Unit) × Unit))) := fun (v1, (v4_0, v4_1, _), (v6_0, v6_1, _), v25, v26, v27, _) =>
  bif (decide (v27 < v26)) then
    if (((0 : Int) ≤ v27) ∧ (v27 < (((List.length v25) : Nat) : Int))) then
      bif ((ByteArray.toList (List.getD v25 (Int.toNat v27) ((0 : Int), (⟨Array.empty⟩ : ByteArray), (0 : Int), (0 : Int))).2.1) == (ByteArray.toList v1)) then
        if (((0 : Int) ≤ (IntKind.wrap .i64 ((IntKind.wrap .i64 ((List.getD v25 (Int.toNat v27) ((0 : Int), (⟨Array.empty⟩ : ByteArray), (0 : Int), (0 : Int))).1 * v6_0)) + (List.getD v25 (Int.toNat v27) ((0 : Int), (⟨Array.empty⟩ : ByteArray), (0 : Int), (0 : Int))).2.2.1))) ∧ ((IntKind.wrap .i64 ((IntKind.wrap .i64 ((List.getD v25 (Int.toNat v27) ((0 : Int), (⟨Array.empty⟩ : ByteArray), (0 : Int), (0 : Int))).1 * v6_0)) + (List.getD v25 (Int.toNat v27) ((0 : Int), (⟨Array.empty⟩ : ByteArray), (0 : Int), (0 : Int))).2.2.1)) < (((List.length v6_1) : Nat) : Int))) then
          some (Sum.inl (v1, (v4_0, (List.take (List.length v4_1) (List.drop 0 v4_1)), ()), (v6_0, (List.take (List.length v6_1) (List.drop 0 (List.set v6_1 (0 + (Int.toNat (IntKind.wrap .i64 ((IntKind.wrap .i64 ((List.getD v25 (Int.toNat v27) ((0 : Int), (⟨Array.empty⟩ : ByteArray), (0 : Int), (0 : Int))).1 * v6_0)) + (List.getD v25 (Int.toNat v27) ((0 : Int), (⟨Array.empty⟩ : ByteArray), (0 : Int), (0 : Int))).2.2.1)))) (List.getD v25 (Int.toNat v27) ((0 : Int), (⟨Array.empty⟩ : ByteArray), (0 : Int), (0 : Int))).2.2.2))), ()), v25, v26, (IntKind.wrap .i64 (v27 + (1 : Int))), ()))
        else
          none
      else
        some (Sum.inl (v1, (v4_0, (List.take (List.length v4_1) (List.drop 0 v4_1)), ()), (v6_0, (List.take (List.length v6_1) (List.drop 0 v6_1)), ()), v25, v26, (IntKind.wrap .i64 (v27 + (1 : Int))), ()))
    else
      none
  else
    some (Sum.inr ((v4_0, (List.take (List.length v4_1) (List.drop 0 v4_1)), ()), (v6_0, (List.take (List.length v6_1) (List.drop 0 v6_1)), ()), ()))
theorem impl_StepMatrix_l5_eq : loopStep 50 E84 L84_0 (loopOf f84 5) sh84_5 xs84_5 = impl_StepMatrix_l5 := by kernel_rfl
theorem loop84_5 {L : Nat → Option LoopD} (h : L 5 = some ⟨50, sh84_5, xs84_5, impl_StepMatrix_l5⟩) : LoopOk prog L (loopOf f84 5) :=
  loopOk (tysOk_of tyl_ok) E84_ok (codeOk_in (L := L84_0) (tysOk_of tyl_ok) E84_ok mixed (c := loopOf f84 5) (bs := []) (by kernel_rfl) allNil (by kernel_rfl)) (by kernel_rfl) (by kernel_rfl) impl_StepMatrix_l5_eq (by rw [show firstId (loopOf f84 5) = 5 from by kernel_rfl]; exact h)
noncomputable def L84_1 : Nat → Option LoopD := fun n => ifEq n 5 (some ⟨50, sh84_5, xs84_5, impl_StepMatrix_l5⟩) (L84_0 n)
noncomputable def impl_StepMatrix : (Int × ((List Int) × ((List Int) × (List (Int × (ByteArray × (Int × Int))))))) → ByteArray → Option ((Int × (List Int)) × Bool) := fun (a0_0, a0_1, a0_2, a0_3) a1 =>
  Option.bind (impl_AutomatonValid (a0_0, a0_1, a0_2, a0_3)) fun r0 =>
    bif (!r0) then
      some (((0 : Int), []), false)
    else
      bif (!((ByteArray.toList a1) == (ByteArray.toList (⟨#[(97 : UInt8)]⟩ : ByteArray)))) then
        bif (!((ByteArray.toList a1) == (ByteArray.toList (⟨#[(98 : UInt8)]⟩ : ByteArray)))) then
          some (((0 : Int), []), false)
        else
          Option.bind (impl_filled a0_0 (fun y1 => (impl_StepMatrix_1 y1.1 y1.2.1))) fun (r2, r3) =>
            Option.bind (loopF impl_StepMatrix_l5 (a1, ((0 : Int), [], ()), (r2, (List.take (List.length r3) (List.drop 0 r3)), ()), a0_3, (((List.length a0_3) : Nat) : Int), (0 : Int), ())) fun ((r4, r5, _), (r6, r7, _), _) =>
              some ((r6, (List.take (List.length r7) (List.drop 0 r7))), true)
      else
        Option.bind (impl_filled a0_0 (fun y8 => (impl_StepMatrix_1 y8.1 y8.2.1))) fun (r9, r10) =>
          Option.bind (loopF impl_StepMatrix_l5 (a1, ((0 : Int), [], ()), (r9, (List.take (List.length r10) (List.drop 0 r10)), ()), a0_3, (((List.length a0_3) : Nat) : Int), (0 : Int), ())) fun ((r11, r12, _), (r13, r14, _), _) =>
            some ((r13, (List.take (List.length r14) (List.drop 0 r14))), true)
noncomputable def A84 : FnA := ⟨[.v (.pair (.int .i64) (.pair (.sl (.int .i64)) (.pair (.sl (.int .i64)) (.sl (.pair (.int .i64) (.pair .str (.pair (.int .i64) (.int .i64)))))))), .v .str], true, [.pair (.int .i64) (.sl (.int .i64)), .bool], fun x => impl_StepMatrix x.1 x.2.1⟩
theorem impl_StepMatrix_eq : fnF E84 L84_1 [.v (.pair (.int .i64) (.pair (.sl (.int .i64)) (.pair (.sl (.int .i64)) (.sl (.pair (.int .i64) (.pair .str (.pair (.int .i64) (.int .i64)))))))), .v .str] true [.pair (.int .i64) (.sl (.int .i64)), .bool] f84.ntmps f84.results.toList (codeOf f84) = fun x => impl_StepMatrix x.1 x.2.1 := by kernel_rfl
theorem A84_ok : FnOk prog 84 A84 := by
  have h := fnOk_of_run (P := prog) (E := E84) (tysOk_of tyl_ok) E84_ok (L := L84_1) (ps := [.v (.pair (.int .i64) (.pair (.sl (.int .i64)) (.pair (.sl (.int .i64)) (.sl (.pair (.int .i64) (.pair .str (.pair (.int .i64) (.int .i64)))))))), .v .str]) (own := true) (outs := [.pair (.int .i64) (.sl (.int .i64)), .bool]) func84 (c := codeOf f84) (by kernel_rfl) (codeOk_in (L := L84_1) (tysOk_of tyl_ok) E84_ok mixed (c := codeOf f84) (bs := [loopOf f84 5]) (by kernel_rfl) (allCons (loop84_5 rfl) allNil) (by kernel_rfl))
  rw [impl_StepMatrix_eq] at h
  exact h
/-! slices.IndexFunc[[]int,int] -/
noncomputable def E79 : Env := ⟨ty0, fun _ => none, fun _ => none, fun _ => none, fun _ => none⟩
theorem E79_ok : FnsOk prog E79 := (noFns _ _)
noncomputable def L79_0 : Nat → Option LoopD := fun _ => none
def sh79_2 : List Fm := [.cell (.val (.sl (.int .i64))), .clo [.int .i64] .bool, d, d, d, d, d, .cell (.val (.int .i64)), .cell (.val (.int .i64)), d, d, d, d, d, d, d, d, d, d]
def xs79_2 : List (Ex × List Fm) := [(.ret, [d, d, d, d, .cell (.val (.int .i64)), d, d, d, d, d, d, d, d, d, d, d, d, d, d]), (.exit 0, [d, d, d, d, d, d, d, d, d, d, d, d, d, d, d, d, d, d, d])]
noncomputable def slices_IndexFunc_l2 : ((List Int) × ((Int × Unit) → Option (Bool)) × Int × Int × Unit) → Option (((List Int) × ((Int × Unit) → Option (Bool)) × Int × Int × Unit) ⊕ ((Int × Unit) ⊕ (Unit))) := fun (v0, v1, v7, v8, _) =>
  bif (decide (v8 < v7)) then
    if (((0 : Int) ≤ v8) ∧ (v8 < (((List.length v0) : Nat) : Int))) then
      Option.bind (v1 ((List.getD v0 (Int.toNat v8) (0 : Int)), ())) fun r0 =>
        bif r0 then
          some (Sum.inr (Sum.inl (v8, ())))
        else
          some (Sum.inl (v0, v1, v7, (IntKind.wrap .i64 (v8 + (1 : Int))), ()))
    else
      none
  else
    some (Sum.inr (Sum.inr ()))
theorem slices_IndexFunc_l2_eq : loopStep 19 E79 L79_0 (loopOf f79 2) sh79_2 xs79_2 = slices_IndexFunc_l2 := by kernel_rfl
theorem loop79_2 {L : Nat → Option LoopD} (h : L 2 = some ⟨19, sh79_2, xs79_2, slices_IndexFunc_l2⟩) : LoopOk prog L (loopOf f79 2) :=
  loopOk (tysOk_of tyl_ok) E79_ok (codeOk_in (L := L79_0) (tysOk_of tyl_ok) E79_ok mixed (c := loopOf f79 2) (bs := []) (by kernel_rfl) allNil (by kernel_rfl)) (by kernel_rfl) (by kernel_rfl) slices_IndexFunc_l2_eq (by rw [show firstId (loopOf f79 2) = 2 from by kernel_rfl]; exact h)
noncomputable def L79_1 : Nat → Option LoopD := fun n => ifEq n 2 (some ⟨19, sh79_2, xs79_2, slices_IndexFunc_l2⟩) (L79_0 n)
noncomputable def slices_IndexFunc : (List Int) → ((Int × Unit) → Option (Bool)) → Option (Int) := fun a0 a1 =>
  Option.bind (loopF slices_IndexFunc_l2 (a0, a1, (((List.length a0) : Nat) : Int), (0 : Int), ())) fun r0 =>
    (match r0 with
    | .inl (d1, _) =>
        some d1
    | .inr _ =>
        some (-1 : Int))
noncomputable def A79 : FnA := ⟨[.v (.sl (.int .i64)), .clo [.int .i64] .bool], true, [.int .i64], fun x => slices_IndexFunc x.1 x.2.1⟩
theorem slices_IndexFunc_eq : fnF E79 L79_1 [.v (.sl (.int .i64)), .clo [.int .i64] .bool] true [.int .i64] f79.ntmps f79.results.toList (codeOf f79) = fun x => slices_IndexFunc x.1 x.2.1 := by kernel_rfl
theorem A79_ok : FnOk prog 79 A79 := by
  have h := fnOk_of_run (P := prog) (E := E79) (tysOk_of tyl_ok) E79_ok (L := L79_1) (ps := [.v (.sl (.int .i64)), .clo [.int .i64] .bool]) (own := true) (outs := [.int .i64]) func79 (c := codeOf f79) (by kernel_rfl) (codeOk_in (L := L79_1) (tysOk_of tyl_ok) E79_ok mixed (c := codeOf f79) (bs := [loopOf f79 2]) (by kernel_rfl) (allCons (loop79_2 rfl) allNil) (by kernel_rfl))
  rw [slices_IndexFunc_eq] at h
  exact h
/-! slices.ContainsFunc[[]int,int] -/
noncomputable def E55 : Env := ⟨ty0, fun g => ifEq g 79 (some A79) (none), fun _ => none, fun _ => none, fun _ => none⟩
theorem E55_ok : FnsOk prog E55 := (oneFn A79_ok func79 (by kernel_rfl) (by kernel_rfl) (noFns _ _))
noncomputable def L55_0 : Nat → Option LoopD := fun _ => none
noncomputable def slices_ContainsFunc : (List Int) → ((Int × Unit) → Option (Bool)) → Option (Bool) := fun a0 a1 =>
  Option.bind (slices_IndexFunc a0 a1) fun r0 =>
    some (decide (r0 ≥ (0 : Int)))
noncomputable def A55 : FnA := ⟨[.v (.sl (.int .i64)), .clo [.int .i64] .bool], true, [.bool], fun x => slices_ContainsFunc x.1 x.2.1⟩
theorem slices_ContainsFunc_eq : fnF E55 L55_0 [.v (.sl (.int .i64)), .clo [.int .i64] .bool] true [.bool] f55.ntmps f55.results.toList (codeOf f55) = fun x => slices_ContainsFunc x.1 x.2.1 := by kernel_rfl
theorem A55_ok : FnOk prog 55 A55 := by
  have h := fnOk_of_run (P := prog) (E := E55) (tysOk_of tyl_ok) E55_ok (L := L55_0) (ps := [.v (.sl (.int .i64)), .clo [.int .i64] .bool]) (own := true) (outs := [.bool]) func55 (c := codeOf f55) (by kernel_rfl) (codeOk_in (L := L55_0) (tysOk_of tyl_ok) E55_ok mixed (c := codeOf f55) (bs := []) (by kernel_rfl) allNil (by kernel_rfl))
  rw [slices_ContainsFunc_eq] at h
  exact h
/-! impl.CostValid -/
noncomputable def E78 : Env := ⟨ty0, fun _ => none, fun _ => none, fun _ => none, fun _ => none⟩
theorem E78_ok : FnsOk prog E78 := (noFns _ _)
noncomputable def L78_0 : Nat → Option LoopD := fun _ => none
noncomputable def impl_CostValid : Int → Option (Bool) := fun a0 =>
  bif (decide (a0 ≥ (0 : Int))) then
    some (decide (a0 ≤ (1000000 : Int)))
  else
    some false
noncomputable def A78 : FnA := ⟨[.v (.int .i64)], true, [.bool], fun x => impl_CostValid x.1⟩
theorem impl_CostValid_eq : fnF E78 L78_0 [.v (.int .i64)] true [.bool] f78.ntmps f78.results.toList (codeOf f78) = fun x => impl_CostValid x.1 := by kernel_rfl
theorem A78_ok : FnOk prog 78 A78 := by
  have h := fnOk_of_run (P := prog) (E := E78) (tysOk_of tyl_ok) E78_ok (L := L78_0) (ps := [.v (.int .i64)]) (own := true) (outs := [.bool]) func78 (c := codeOf f78) (by kernel_rfl) (codeOk_in (L := L78_0) (tysOk_of tyl_ok) E78_ok mixed (c := codeOf f78) (bs := []) (by kernel_rfl) allNil (by kernel_rfl))
  rw [impl_CostValid_eq] at h
  exact h
/-! impl.MatrixValid$1 -/
noncomputable def E77 : Env := ⟨ty0, fun g => ifEq g 78 (some A78) (none), fun _ => none, fun _ => none, fun _ => none⟩
theorem E77_ok : FnsOk prog E77 := (oneFn A78_ok func78 (by kernel_rfl) (by kernel_rfl) (noFns _ _))
noncomputable def L77_0 : Nat → Option LoopD := fun _ => none
noncomputable def impl_MatrixValid_1 : Int → Option (Bool) := fun a0 =>
  Option.bind (impl_CostValid a0) fun r0 =>
    some (!r0)
noncomputable def A77 : FnA := ⟨[.v (.int .i64)], true, [.bool], fun x => impl_MatrixValid_1 x.1⟩
theorem impl_MatrixValid_1_eq : fnF E77 L77_0 [.v (.int .i64)] true [.bool] f77.ntmps f77.results.toList (codeOf f77) = fun x => impl_MatrixValid_1 x.1 := by kernel_rfl
theorem A77_ok : FnOk prog 77 A77 := by
  have h := fnOk_of_run (P := prog) (E := E77) (tysOk_of tyl_ok) E77_ok (L := L77_0) (ps := [.v (.int .i64)]) (own := true) (outs := [.bool]) func77 (c := codeOf f77) (by kernel_rfl) (codeOk_in (L := L77_0) (tysOk_of tyl_ok) E77_ok mixed (c := codeOf f77) (bs := []) (by kernel_rfl) allNil (by kernel_rfl))
  rw [impl_MatrixValid_1_eq] at h
  exact h
/-! impl.MatrixValid -/
noncomputable def E54 : Env := ⟨ty0, fun g => ifEq g 55 (some A55) (ifEq g 77 (some A77) (none)), fun _ => none, fun _ => none, fun _ => none⟩
theorem E54_ok : FnsOk prog E54 := (oneFn A55_ok func55 (by kernel_rfl) (by kernel_rfl) (oneFn A77_ok func77 (by kernel_rfl) (by kernel_rfl) (noFns _ _)))
noncomputable def L54_0 : Nat → Option LoopD := fun _ => none
noncomputable def impl_MatrixValid : (Int × (List Int)) → Option (Bool) := fun (a0_0, a0_1) =>
  bif (decide (a0_0 < (1 : Int))) then
    some false
  else
    bif (decide (a0_0 > (4 : Int))) then
      some false
    else
      bif ((((List.length a0_1) : Nat) : Int) != (IntKind.wrap .i64 (a0_0 * a0_0))) then
        some false
      else
        Option.bind (slices_ContainsFunc a0_1 (fun y0 => (impl_MatrixValid_1 y0.1))) fun r1 =>
          some (!r1)
noncomputable def A54 : FnA := ⟨[.v (.pair (.int .i64) (.sl (.int .i64)))], true, [.bool], fun x => impl_MatrixValid x.1⟩
theorem impl_MatrixValid_eq : fnF E54 L54_0 [.v (.pair (.int .i64) (.sl (.int .i64)))] true [.bool] f54.ntmps f54.results.toList (codeOf f54) = fun x => impl_MatrixValid x.1 := by kernel_rfl
theorem A54_ok : FnOk prog 54 A54 := by
  have h := fnOk_of_run (P := prog) (E := E54) (tysOk_of tyl_ok) E54_ok (L := L54_0) (ps := [.v (.pair (.int .i64) (.sl (.int .i64)))]) (own := true) (outs := [.bool]) func54 (c := codeOf f54) (by kernel_rfl) (codeOk_in (L := L54_0) (tysOk_of tyl_ok) E54_ok mixed (c := codeOf f54) (bs := []) (by kernel_rfl) allNil (by kernel_rfl))
  rw [impl_MatrixValid_eq] at h
  exact h
/-! (impl.Matrix).at -/
noncomputable def E35 : Env := ⟨ty0, fun _ => none, fun _ => none, fun _ => none, fun _ => none⟩
theorem E35_ok : FnsOk prog E35 := (noFns _ _)
noncomputable def L35_0 : Nat → Option LoopD := fun _ => none
noncomputable def impl_Matrix_at : (Int × (List Int)) → Int → Int → Option (Int) := fun (a0_0, a0_1) a1 a2 =>
  if (((0 : Int) ≤ (IntKind.wrap .i64 ((IntKind.wrap .i64 (a1 * a0_0)) + a2))) ∧ ((IntKind.wrap .i64 ((IntKind.wrap .i64 (a1 * a0_0)) + a2)) < (((List.length a0_1) : Nat) : Int))) then
    some (List.getD a0_1 (Int.toNat (IntKind.wrap .i64 ((IntKind.wrap .i64 (a1 * a0_0)) + a2))) (0 : Int))
  else
    none
noncomputable def A35 : FnA := ⟨[.v (.pair (.int .i64) (.sl (.int .i64))), .v (.int .i64), .v (.int .i64)], true, [.int .i64], fun x => impl_Matrix_at x.1 x.2.1 x.2.2.1⟩
theorem impl_Matrix_at_eq : fnF E35 L35_0 [.v (.pair (.int .i64) (.sl (.int .i64))), .v (.int .i64), .v (.int .i64)] true [.int .i64] f35.ntmps f35.results.toList (codeOf f35) = fun x => impl_Matrix_at x.1 x.2.1 x.2.2.1 := by kernel_rfl
theorem A35_ok : FnOk prog 35 A35 := by
  have h := fnOk_of_run (P := prog) (E := E35) (tysOk_of tyl_ok) E35_ok (L := L35_0) (ps := [.v (.pair (.int .i64) (.sl (.int .i64))), .v (.int .i64), .v (.int .i64)]) (own := true) (outs := [.int .i64]) func35 (c := codeOf f35) (by kernel_rfl) (codeOk_in (L := L35_0) (tysOk_of tyl_ok) E35_ok mixed (c := codeOf f35) (bs := []) (by kernel_rfl) allNil (by kernel_rfl))
  rw [impl_Matrix_at_eq] at h
  exact h
/-! impl.GradesOf$1 -/
noncomputable def E90 : Env := ⟨ty0, fun g => ifEq g 35 (some A35) (none), fun _ => none, fun _ => none, fun _ => none⟩
theorem E90_ok : FnsOk prog E90 := (oneFn A35_ok func35 (by kernel_rfl) (by kernel_rfl) (noFns _ _))
noncomputable def L90_0 : Nat → Option LoopD := fun _ => none
noncomputable def impl_GradesOf_1 : Int → Int → (Int × (List Int)) → Option (Int) := fun a0 a1 (a2_0, a2_1) =>
  Option.bind (impl_Matrix_at (a2_0, a2_1) a0 a1) fun r0 =>
    bif (r0 == (0 : Int)) then
      some (0 : Int)
    else
      bif (r0 == (1000000 : Int)) then
        some (3 : Int)
      else
        some (1 : Int)
noncomputable def A90 : FnA := ⟨[.v (.int .i64), .v (.int .i64), .cap (.pair (.int .i64) (.sl (.int .i64)))], true, [.int .i64], fun x => impl_GradesOf_1 x.1 x.2.1 x.2.2.1⟩
theorem impl_GradesOf_1_eq : fnF E90 L90_0 [.v (.int .i64), .v (.int .i64), .cap (.pair (.int .i64) (.sl (.int .i64)))] true [.int .i64] f90.ntmps f90.results.toList (codeOf f90) = fun x => impl_GradesOf_1 x.1 x.2.1 x.2.2.1 := by kernel_rfl
theorem A90_ok : FnOk prog 90 A90 := by
  have h := fnOk_of_run (P := prog) (E := E90) (tysOk_of tyl_ok) E90_ok (L := L90_0) (ps := [.v (.int .i64), .v (.int .i64), .cap (.pair (.int .i64) (.sl (.int .i64)))]) (own := true) (outs := [.int .i64]) func90 (c := codeOf f90) (by kernel_rfl) (codeOk_in (L := L90_0) (tysOk_of tyl_ok) E90_ok mixed (c := codeOf f90) (bs := []) (by kernel_rfl) allNil (by kernel_rfl))
  rw [impl_GradesOf_1_eq] at h
  exact h
/-! impl.GradesOf -/
noncomputable def E85 : Env := ⟨ty0, fun g => ifEq g 54 (some A54) (ifEq g 46 (some A46) (ifEq g 90 (some A90) (none))), fun _ => none, fun _ => none, fun _ => none⟩
theorem E85_ok : FnsOk prog E85 := (oneFn A54_ok func54 (by kernel_rfl) (by kernel_rfl) (oneFn A46_ok func46 (by kernel_rfl) (by kernel_rfl) (oneFn A90_ok func90 (by kernel_rfl) (by kernel_rfl) (noFns _ _))))
noncomputable def L85_0 : Nat → Option LoopD := fun _ => none
noncomputable def impl_GradesOf : (Int × (List Int)) → Option ((Int × (List Int)) × Bool) := fun (a0_0, a0_1) =>
  Option.bind (impl_MatrixValid (a0_0, a0_1)) fun r0 =>
    bif (!r0) then
      some (((0 : Int), []), false)
    else
      Option.bind (impl_filled a0_0 (fun y1 => (impl_GradesOf_1 y1.1 y1.2.1 (a0_0, a0_1)))) fun (r2, r3) =>
        some ((r2, (List.take (List.length r3) (List.drop 0 r3))), true)
noncomputable def A85 : FnA := ⟨[.v (.pair (.int .i64) (.sl (.int .i64)))], true, [.pair (.int .i64) (.sl (.int .i64)), .bool], fun x => impl_GradesOf x.1⟩
theorem impl_GradesOf_eq : fnF E85 L85_0 [.v (.pair (.int .i64) (.sl (.int .i64)))] true [.pair (.int .i64) (.sl (.int .i64)), .bool] f85.ntmps f85.results.toList (codeOf f85) = fun x => impl_GradesOf x.1 := by kernel_rfl
theorem A85_ok : FnOk prog 85 A85 := by
  have h := fnOk_of_run (P := prog) (E := E85) (tysOk_of tyl_ok) E85_ok (L := L85_0) (ps := [.v (.pair (.int .i64) (.sl (.int .i64)))]) (own := true) (outs := [.pair (.int .i64) (.sl (.int .i64)), .bool]) func85 (c := codeOf f85) (by kernel_rfl) (codeOk_in (L := L85_0) (tysOk_of tyl_ok) E85_ok mixed (c := codeOf f85) (bs := []) (by kernel_rfl) allNil (by kernel_rfl))
  rw [impl_GradesOf_eq] at h
  exact h
/-! impl.GradesValid$1 -/
noncomputable def E56 : Env := ⟨ty0, fun _ => none, fun _ => none, fun _ => none, fun _ => none⟩
theorem E56_ok : FnsOk prog E56 := (noFns _ _)
noncomputable def L56_0 : Nat → Option LoopD := fun _ => none
noncomputable def impl_GradesValid_1 : Int → Option (Bool) := fun a0 =>
  some (decide (a0 > (3 : Int)))
noncomputable def A56 : FnA := ⟨[.v (.int .i64)], true, [.bool], fun x => impl_GradesValid_1 x.1⟩
theorem impl_GradesValid_1_eq : fnF E56 L56_0 [.v (.int .i64)] true [.bool] f56.ntmps f56.results.toList (codeOf f56) = fun x => impl_GradesValid_1 x.1 := by kernel_rfl
theorem A56_ok : FnOk prog 56 A56 := by
  have h := fnOk_of_run (P := prog) (E := E56) (tysOk_of tyl_ok) E56_ok (L := L56_0) (ps := [.v (.int .i64)]) (own := true) (outs := [.bool]) func56 (c := codeOf f56) (by kernel_rfl) (codeOk_in (L := L56_0) (tysOk_of tyl_ok) E56_ok mixed (c := codeOf f56) (bs := []) (by kernel_rfl) allNil (by kernel_rfl))
  rw [impl_GradesValid_1_eq] at h
  exact h
/-! impl.GradesValid -/
noncomputable def E34 : Env := ⟨ty0, fun g => ifEq g 54 (some A54) (ifEq g 55 (some A55) (ifEq g 56 (some A56) (none))), fun _ => none, fun _ => none, fun _ => none⟩
theorem E34_ok : FnsOk prog E34 := (oneFn A54_ok func54 (by kernel_rfl) (by kernel_rfl) (oneFn A55_ok func55 (by kernel_rfl) (by kernel_rfl) (oneFn A56_ok func56 (by kernel_rfl) (by kernel_rfl) (noFns _ _))))
noncomputable def L34_0 : Nat → Option LoopD := fun _ => none
noncomputable def impl_GradesValid : (Int × (List Int)) → Option (Bool) := fun (a0_0, a0_1) =>
  Option.bind (impl_MatrixValid (a0_0, a0_1)) fun r0 =>
    bif r0 then
      Option.bind (slices_ContainsFunc a0_1 (fun y1 => (impl_GradesValid_1 y1.1))) fun r2 =>
        some (!r2)
    else
      some false
noncomputable def A34 : FnA := ⟨[.v (.pair (.int .i64) (.sl (.int .i64)))], true, [.bool], fun x => impl_GradesValid x.1⟩
theorem impl_GradesValid_eq : fnF E34 L34_0 [.v (.pair (.int .i64) (.sl (.int .i64)))] true [.bool] f34.ntmps f34.results.toList (codeOf f34) = fun x => impl_GradesValid x.1 := by kernel_rfl
theorem A34_ok : FnOk prog 34 A34 := by
  have h := fnOk_of_run (P := prog) (E := E34) (tysOk_of tyl_ok) E34_ok (L := L34_0) (ps := [.v (.pair (.int .i64) (.sl (.int .i64)))]) (own := true) (outs := [.bool]) func34 (c := codeOf f34) (by kernel_rfl) (codeOk_in (L := L34_0) (tysOk_of tyl_ok) E34_ok mixed (c := codeOf f34) (bs := []) (by kernel_rfl) allNil (by kernel_rfl))
  rw [impl_GradesValid_eq] at h
  exact h
/-! impl.MulGrades$1 -/
noncomputable def E51 : Env := ⟨ty0, fun g => ifEq g 35 (some A35) (none), fun _ => none, fun _ => none, fun _ => none⟩
theorem E51_ok : FnsOk prog E51 := (oneFn A35_ok func35 (by kernel_rfl) (by kernel_rfl) (noFns _ _))
noncomputable def L51_0 : Nat → Option LoopD := fun _ => none
def sh51_3 : List Fm := [.cell (.val (.int .i64)), .cell (.val (.int .i64)), .fp (.pair (.int .i64) (.sl (.int .i64))), .fp (.pair (.int .i64) (.sl (.int .i64))), d, d, d, .cell (.val (.int .i64)), d, d, .cell (.val (.int .i64)), .cell (.val (.int .i64)), d, d, d, d, d, d, d, d, d, d, d, d, d, d, d]
def xs51_3 : List (Ex × List Fm) := [(.exit 0, [d, d, d, d, d, d, d, .cell (.val (.int .i64)), d, d, d, d, d, d, d, d, d, d, d, d, d, d, d, d, d, d, d])]
noncomputable def impl_MulGrades_1_l3 : (Int × Int × (Int × (List Int)) × (Int × (List Int)) × Int × Int × Int × Unit) → Option ((Int × Int × (Int × (List Int)) × (Int × (List Int)) × Int × Int × Int × Unit) ⊕ ((Int × Unit))) := fun (v0, v1, (v2_0, v2_1), (v3_0, v3_1), v7, v10, v11, _) =>
  bif (decide (v11 < v10)) then
    Option.bind (impl_Matrix_at (v2_0, v2_1) v0 v11) fun r0 =>
      Option.bind (impl_Matrix_at (v3_0, v3_1) v11 v1) fun r1 =>
        some (Sum.inl (v0, v1, (v2_0, v2_1), (v3_0, v3_1), (if ((if (r1 > r0) then r1 else r0) < v7) then (if (r1 > r0) then r1 else r0) else v7), v10, (IntKind.wrap .i64 (v11 + (1 : Int))), ()))
  else
    some (Sum.inr (v7, ()))
theorem impl_MulGrades_1_l3_eq : loopStep 27 E51 L51_0 (loopOf f51 3) sh51_3 xs51_3 = impl_MulGrades_1_l3 := by kernel_rfl
theorem loop51_3 {L : Nat → Option LoopD} (h : L 3 = some ⟨27, sh51_3, xs51_3, impl_MulGrades_1_l3⟩) : LoopOk prog L (loopOf f51 3) :=
  loopOk (tysOk_of tyl_ok) E51_ok (codeOk_in (L := L51_0) (tysOk_of tyl_ok) E51_ok mixed (c := loopOf f51 3) (bs := []) (by kernel_rfl) allNil (by kernel_rfl)) (by kernel_rfl) (by kernel_rfl) impl_MulGrades_1_l3_eq (by rw [show firstId (loopOf f51 3) = 3 from by kernel_rfl]; exact h)
noncomputable def L51_1 : Nat → Option LoopD := fun n => ifEq n 3 (some ⟨27, sh51_3, xs51_3, impl_MulGrades_1_l3⟩) (L51_0 n)
noncomputable def impl_MulGrades_1 : Int → Int → (Int × (List Int)) → (Int × (List Int)) → Option (Int) := fun a0 a1 (a2_0, a2_1) (a3_0, a3_1) =>
  Option.bind (loopF impl_MulGrades_1_l3 (a0, a1, (a2_0, a2_1), (a3_0, a3_1), (3 : Int), a2_0, (0 : Int), ())) fun (r0, _) =>
    some r0
noncomputable def A51 : FnA := ⟨[.v (.int .i64), .v (.int .i64), .cap (.pair (.int .i64) (.sl (.int .i64))), .cap (.pair (.int .i64) (.sl (.int .i64)))], true, [.int .i64], fun x => impl_MulGrades_1 x.1 x.2.1 x.2.2.1 x.2.2.2.1⟩
theorem impl_MulGrades_1_eq : fnF E51 L51_1 [.v (.int .i64), .v (.int .i64), .cap (.pair (.int .i64) (.sl (.int .i64))), .cap (.pair (.int .i64) (.sl (.int .i64)))] true [.int .i64] f51.ntmps f51.results.toList (codeOf f51) = fun x => impl_MulGrades_1 x.1 x.2.1 x.2.2.1 x.2.2.2.1 := by kernel_rfl
theorem A51_ok : FnOk prog 51 A51 := by
  have h := fnOk_of_run (P := prog) (E := E51) (tysOk_of tyl_ok) E51_ok (L := L51_1) (ps := [.v (.int .i64), .v (.int .i64), .cap (.pair (.int .i64) (.sl (.int .i64))), .cap (.pair (.int .i64) (.sl (.int .i64)))]) (own := true) (outs := [.int .i64]) func51 (c := codeOf f51) (by kernel_rfl) (codeOk_in (L := L51_1) (tysOk_of tyl_ok) E51_ok mixed (c := codeOf f51) (bs := [loopOf f51 3]) (by kernel_rfl) (allCons (loop51_3 rfl) allNil) (by kernel_rfl))
  rw [impl_MulGrades_1_eq] at h
  exact h
/-! impl.MulGrades -/
noncomputable def E32 : Env := ⟨ty0, fun g => ifEq g 34 (some A34) (ifEq g 46 (some A46) (ifEq g 51 (some A51) (none))), fun _ => none, fun _ => none, fun _ => none⟩
theorem E32_ok : FnsOk prog E32 := (oneFn A34_ok func34 (by kernel_rfl) (by kernel_rfl) (oneFn A46_ok func46 (by kernel_rfl) (by kernel_rfl) (oneFn A51_ok func51 (by kernel_rfl) (by kernel_rfl) (noFns _ _))))
noncomputable def L32_0 : Nat → Option LoopD := fun _ => none
noncomputable def impl_MulGrades : (Int × (List Int)) → (Int × (List Int)) → Option ((Int × (List Int)) × Bool) := fun (a0_0, a0_1) (a1_0, a1_1) =>
  Option.bind (impl_GradesValid (a0_0, a0_1)) fun r0 =>
    bif (!r0) then
      some (((0 : Int), []), false)
    else
      Option.bind (impl_GradesValid (a1_0, a1_1)) fun r1 =>
        bif (!r1) then
          some (((0 : Int), []), false)
        else
          bif (a0_0 != a1_0) then
            some (((0 : Int), []), false)
          else
            Option.bind (impl_filled a0_0 (fun y2 => (impl_MulGrades_1 y2.1 y2.2.1 (a0_0, a0_1) (a1_0, a1_1)))) fun (r3, r4) =>
              some ((r3, (List.take (List.length r4) (List.drop 0 r4))), true)
noncomputable def A32 : FnA := ⟨[.v (.pair (.int .i64) (.sl (.int .i64))), .v (.pair (.int .i64) (.sl (.int .i64)))], true, [.pair (.int .i64) (.sl (.int .i64)), .bool], fun x => impl_MulGrades x.1 x.2.1⟩
theorem impl_MulGrades_eq : fnF E32 L32_0 [.v (.pair (.int .i64) (.sl (.int .i64))), .v (.pair (.int .i64) (.sl (.int .i64)))] true [.pair (.int .i64) (.sl (.int .i64)), .bool] f32.ntmps f32.results.toList (codeOf f32) = fun x => impl_MulGrades x.1 x.2.1 := by kernel_rfl
theorem A32_ok : FnOk prog 32 A32 := by
  have h := fnOk_of_run (P := prog) (E := E32) (tysOk_of tyl_ok) E32_ok (L := L32_0) (ps := [.v (.pair (.int .i64) (.sl (.int .i64))), .v (.pair (.int .i64) (.sl (.int .i64)))]) (own := true) (outs := [.pair (.int .i64) (.sl (.int .i64)), .bool]) func32 (c := codeOf f32) (by kernel_rfl) (codeOk_in (L := L32_0) (tysOk_of tyl_ok) E32_ok mixed (c := codeOf f32) (bs := []) (by kernel_rfl) allNil (by kernel_rfl))
  rw [impl_MulGrades_eq] at h
  exact h
/-! slices.Equal[[]int,int] -/
noncomputable def E73 : Env := ⟨ty0, fun _ => none, fun _ => none, fun _ => none, fun _ => none⟩
theorem E73_ok : FnsOk prog E73 := (noFns _ _)
noncomputable def L73_0 : Nat → Option LoopD := fun _ => none
def sh73_4 : List Fm := [.cell (.val (.sl (.int .i64))), .cell (.val (.sl (.int .i64))), d, d, d, d, d, d, d, d, d, d, .cell (.val (.int .i64)), .cell (.val (.int .i64)), d, d, d, d, d, d, d, d, d, d, d, d]
def xs73_4 : List (Ex × List Fm) := [(.ret, [d, d, d, d, .cell (.val .bool), d, d, d, d, d, d, d, d, d, d, d, d, d, d, d, d, d, d, d, d, d]), (.exit 0, [d, d, d, d, d, d, d, d, d, d, d, d, d, d, d, d, d, d, d, d, d, d, d, d, d, d])]
noncomputable def slices_Equal_l4 : ((List Int) × (List Int) × Int × Int × Unit) → Option (((List Int) × (List Int) × Int × Int × Unit) ⊕ ((Bool × Unit) ⊕ (Unit))) := fun (v0, v1, v12, v13, _) =>
  bif (decide (v13 < v12)) then
    if (((0 : Int) ≤ v13) ∧ (v13 < (((List.length v0) : Nat) : Int))) then
      if (((0 : Int) ≤ v13) ∧ (v13 < (((List.length v1) : Nat) : Int))) then
        bif ((List.getD v0 (Int.toNat v13) (0 : Int)) != (List.getD v1 (Int.toNat v13) (0 : Int))) then
          some (Sum.inr (Sum.inl (false, ())))
        else
          some (Sum.inl (v0, v1, v12, (IntKind.wrap .i64 (v13 + (1 : Int))), ()))
      else
        none
    else
      none
  else
    some (Sum.inr (Sum.inr ()))
theorem slices_Equal_l4_eq : loopStep 26 E73 L73_0 (loopOf f73 4) sh73_4 xs73_4 = slices_Equal_l4 := by kernel_rfl
theorem loop73_4 {L : Nat → Option LoopD} (h : L 4 = some ⟨26, sh73_4, xs73_4, slices_Equal_l4⟩) : LoopOk prog L (loopOf f73 4) :=
  loopOk (tysOk_of tyl_ok) E73_ok (codeOk_in (L := L73_0) (tysOk_of tyl_ok) E73_ok mixed (c := loopOf f73 4) (bs := []) (by kernel_rfl) allNil (by kernel_rfl)) (by kernel_rfl) (by kernel_rfl) slices_Equal_l4_eq (by rw [show firstId (loopOf f73 4) = 4 from by kernel_rfl]; exact h)
noncomputable def L73_1 : Nat → Option LoopD := fun n => ifEq n 4 (some ⟨26, sh73_4, xs73_4, slices_Equal_l4⟩) (L73_0 n)
noncomputable def slices_Equal : (List Int) → (List Int) → Option (Bool) := fun a0 a1 =>
  bif ((((List.length a0) : Nat) : Int) != (((List.length a1) : Nat) : Int)) then
    some false
  else
    Option.bind (loopF slices_Equal_l4 (a0, a1, (((List.length a0) : Nat) : Int), (0 : Int), ())) fun r0 =>
      (match r0 with
      | .inl (d1, _) =>
          some d1
      | .inr _ =>
          some true)
noncomputable def A73 : FnA := ⟨[.v (.sl (.int .i64)), .v (.sl (.int .i64))], true, [.bool], fun x => slices_Equal x.1 x.2.1⟩
theorem slices_Equal_eq : fnF E73 L73_1 [.v (.sl (.int .i64)), .v (.sl (.int .i64))] true [.bool] f73.ntmps f73.results.toList (codeOf f73) = fun x => slices_Equal x.1 x.2.1 := by kernel_rfl
theorem A73_ok : FnOk prog 73 A73 := by
  have h := fnOk_of_run (P := prog) (E := E73) (tysOk_of tyl_ok) E73_ok (L := L73_1) (ps := [.v (.sl (.int .i64)), .v (.sl (.int .i64))]) (own := true) (outs := [.bool]) func73 (c := codeOf f73) (by kernel_rfl) (codeOk_in (L := L73_1) (tysOk_of tyl_ok) E73_ok mixed (c := codeOf f73) (bs := [loopOf f73 4]) (by kernel_rfl) (allCons (loop73_4 rfl) allNil) (by kernel_rfl))
  rw [slices_Equal_eq] at h
  exact h
/-! impl.SameMatrix -/
noncomputable def E50 : Env := ⟨ty0, fun g => ifEq g 73 (some A73) (none), fun _ => none, fun _ => none, fun _ => none⟩
theorem E50_ok : FnsOk prog E50 := (oneFn A73_ok func73 (by kernel_rfl) (by kernel_rfl) (noFns _ _))
noncomputable def L50_0 : Nat → Option LoopD := fun _ => none
noncomputable def impl_SameMatrix : (Int × (List Int)) → (Int × (List Int)) → Option (Bool) := fun (a0_0, a0_1) (a1_0, a1_1) =>
  bif (a0_0 == a1_0) then
    Option.bind (slices_Equal a0_1 a1_1) fun r0 =>
      some r0
  else
    some false
noncomputable def A50 : FnA := ⟨[.v (.pair (.int .i64) (.sl (.int .i64))), .v (.pair (.int .i64) (.sl (.int .i64)))], true, [.bool], fun x => impl_SameMatrix x.1 x.2.1⟩
theorem impl_SameMatrix_eq : fnF E50 L50_0 [.v (.pair (.int .i64) (.sl (.int .i64))), .v (.pair (.int .i64) (.sl (.int .i64)))] true [.bool] f50.ntmps f50.results.toList (codeOf f50) = fun x => impl_SameMatrix x.1 x.2.1 := by kernel_rfl
theorem A50_ok : FnOk prog 50 A50 := by
  have h := fnOk_of_run (P := prog) (E := E50) (tysOk_of tyl_ok) E50_ok (L := L50_0) (ps := [.v (.pair (.int .i64) (.sl (.int .i64))), .v (.pair (.int .i64) (.sl (.int .i64)))]) (own := true) (outs := [.bool]) func50 (c := codeOf f50) (by kernel_rfl) (codeOk_in (L := L50_0) (tysOk_of tyl_ok) E50_ok mixed (c := codeOf f50) (bs := []) (by kernel_rfl) allNil (by kernel_rfl))
  rw [impl_SameMatrix_eq] at h
  exact h
/-! impl.IsIdempotent -/
noncomputable def E45 : Env := ⟨ty0, fun g => ifEq g 32 (some A32) (ifEq g 50 (some A50) (none)), fun _ => none, fun _ => none, fun _ => none⟩
theorem E45_ok : FnsOk prog E45 := (oneFn A32_ok func32 (by kernel_rfl) (by kernel_rfl) (oneFn A50_ok func50 (by kernel_rfl) (by kernel_rfl) (noFns _ _)))
noncomputable def L45_0 : Nat → Option LoopD := fun _ => none
noncomputable def impl_IsIdempotent : (Int × (List Int)) → Option (Bool) := fun (a0_0, a0_1) =>
  Option.bind (impl_MulGrades (a0_0, a0_1) (a0_0, a0_1)) fun ((r0, r1), r2) =>
    bif r2 then
      Option.bind (impl_SameMatrix (r0, (List.take (List.length r1) (List.drop 0 r1))) (a0_0, a0_1)) fun r3 =>
        some r3
    else
      some false
noncomputable def A45 : FnA := ⟨[.v (.pair (.int .i64) (.sl (.int .i64)))], true, [.bool], fun x => impl_IsIdempotent x.1⟩
theorem impl_IsIdempotent_eq : fnF E45 L45_0 [.v (.pair (.int .i64) (.sl (.int .i64)))] true [.bool] f45.ntmps f45.results.toList (codeOf f45) = fun x => impl_IsIdempotent x.1 := by kernel_rfl
theorem A45_ok : FnOk prog 45 A45 := by
  have h := fnOk_of_run (P := prog) (E := E45) (tysOk_of tyl_ok) E45_ok (L := L45_0) (ps := [.v (.pair (.int .i64) (.sl (.int .i64)))]) (own := true) (outs := [.bool]) func45 (c := codeOf f45) (by kernel_rfl) (codeOk_in (L := L45_0) (tysOk_of tyl_ok) E45_ok mixed (c := codeOf f45) (bs := []) (by kernel_rfl) allNil (by kernel_rfl))
  rw [impl_IsIdempotent_eq] at h
  exact h
/-! impl.Stabilise$1 -/
noncomputable def E47 : Env := ⟨ty0, fun g => ifEq g 35 (some A35) (none), fun _ => none, fun _ => none, fun _ => none⟩
theorem E47_ok : FnsOk prog E47 := (oneFn A35_ok func35 (by kernel_rfl) (by kernel_rfl) (noFns _ _))
noncomputable def L47_0 : Nat → Option LoopD := fun _ => none
def sh47_3 : List Fm := [.cell (.val (.int .i64)), .cell (.val (.int .i64)), .fp (.pair (.int .i64) (.sl (.int .i64))), d, d, d, .cell (.val (.int .i64)), d, d, d, .cell (.val (.int .i64)), .cell (.val (.int .i64)), d, d, d, d, d, d, d, d, d, d, d, d, d, d, d, d, d, d, d, d, d, d]
def xs47_3 : List (Ex × List Fm) := [(.exit 0, [d, d, d, d, d, d, .cell (.val (.int .i64)), d, d, d, d, d, d, d, d, d, d, d, d, d, d, d, d, d, d, d, d, d, d, d, d, d, d, d])]
noncomputable def impl_Stabilise_1_l3 : (Int × Int × (Int × (List Int)) × Int × Int × Int × Unit) → Option ((Int × Int × (Int × (List Int)) × Int × Int × Int × Unit) ⊕ ((Int × Unit))) := fun (v0, v1, (v2_0, v2_1), v6, v10, v11, _) =>
  bif (decide (v11 < v10)) then
    Option.bind (impl_Matrix_at (v2_0, v2_1) v11 v11) fun r0 =>
      bif (r0 == (1 : Int)) then
        Option.bind (impl_Matrix_at (v2_0, v2_1) v0 v11) fun r1 =>
          Option.bind (impl_Matrix_at (v2_0, v2_1) v11 v1) fun r2 =>
            some (Sum.inl (v0, v1, (v2_0, v2_1), (if ((if (r2 > (if ((2 : Int) > r1) then (2 : Int) else r1)) then r2 else (if ((2 : Int) > r1) then (2 : Int) else r1)) < v6) then (if (r2 > (if ((2 : Int) > r1) then (2 : Int) else r1)) then r2 else (if ((2 : Int) > r1) then (2 : Int) else r1)) else v6), v10, (IntKind.wrap .i64 (v11 + (1 : Int))), ()))
      else
        Option.bind (impl_Matrix_at (v2_0, v2_1) v0 v11) fun r3 =>
          Option.bind (impl_Matrix_at (v2_0, v2_1) v11 v1) fun r4 =>
            some (Sum.inl (v0, v1, (v2_0, v2_1), (if ((if (r4 > (if (r0 > r3) then r0 else r3)) then r4 else (if (r0 > r3) then r0 else r3)) < v6) then (if (r4 > (if (r0 > r3) then r0 else r3)) then r4 else (if (r0 > r3) then r0 else r3)) else v6), v10, (IntKind.wrap .i64 (v11 + (1 : Int))), ()))
  else
    some (Sum.inr (v6, ()))
theorem impl_Stabilise_1_l3_eq : loopStep 34 E47 L47_0 (loopOf f47 3) sh47_3 xs47_3 = impl_Stabilise_1_l3 := by kernel_rfl
theorem loop47_3 {L : Nat → Option LoopD} (h : L 3 = some ⟨34, sh47_3, xs47_3, impl_Stabilise_1_l3⟩) : LoopOk prog L (loopOf f47 3) :=
  loopOk (tysOk_of tyl_ok) E47_ok (codeOk_in (L := L47_0) (tysOk_of tyl_ok) E47_ok mixed (c := loopOf f47 3) (bs := []) (by kernel_rfl) allNil (by kernel_rfl)) (by kernel_rfl) (by kernel_rfl) impl_Stabilise_1_l3_eq (by rw [show firstId (loopOf f47 3) = 3 from by kernel_rfl]; exact h)
noncomputable def L47_1 : Nat → Option LoopD := fun n => ifEq n 3 (some ⟨34, sh47_3, xs47_3, impl_Stabilise_1_l3⟩) (L47_0 n)
noncomputable def impl_Stabilise_1 : Int → Int → (Int × (List Int)) → Option (Int) := fun a0 a1 (a2_0, a2_1) =>
  Option.bind (loopF impl_Stabilise_1_l3 (a0, a1, (a2_0, a2_1), (3 : Int), a2_0, (0 : Int), ())) fun (r0, _) =>
    some r0
noncomputable def A47 : FnA := ⟨[.v (.int .i64), .v (.int .i64), .cap (.pair (.int .i64) (.sl (.int .i64)))], true, [.int .i64], fun x => impl_Stabilise_1 x.1 x.2.1 x.2.2.1⟩
theorem impl_Stabilise_1_eq : fnF E47 L47_1 [.v (.int .i64), .v (.int .i64), .cap (.pair (.int .i64) (.sl (.int .i64)))] true [.int .i64] f47.ntmps f47.results.toList (codeOf f47) = fun x => impl_Stabilise_1 x.1 x.2.1 x.2.2.1 := by kernel_rfl
theorem A47_ok : FnOk prog 47 A47 := by
  have h := fnOk_of_run (P := prog) (E := E47) (tysOk_of tyl_ok) E47_ok (L := L47_1) (ps := [.v (.int .i64), .v (.int .i64), .cap (.pair (.int .i64) (.sl (.int .i64)))]) (own := true) (outs := [.int .i64]) func47 (c := codeOf f47) (by kernel_rfl) (codeOk_in (L := L47_1) (tysOk_of tyl_ok) E47_ok mixed (c := codeOf f47) (bs := [loopOf f47 3]) (by kernel_rfl) (allCons (loop47_3 rfl) allNil) (by kernel_rfl))
  rw [impl_Stabilise_1_eq] at h
  exact h
/-! impl.Stabilise -/
noncomputable def E30 : Env := ⟨ty0, fun g => ifEq g 45 (some A45) (ifEq g 46 (some A46) (ifEq g 47 (some A47) (none))), fun _ => none, fun _ => none, fun _ => none⟩
theorem E30_ok : FnsOk prog E30 := (oneFn A45_ok func45 (by kernel_rfl) (by kernel_rfl) (oneFn A46_ok func46 (by kernel_rfl) (by kernel_rfl) (oneFn A47_ok func47 (by kernel_rfl) (by kernel_rfl) (noFns _ _))))
noncomputable def L30_0 : Nat → Option LoopD := fun _ => none
noncomputable def impl_Stabilise : (Int × (List Int)) → Option ((Int × (List Int)) × Bool) := fun (a0_0, a0_1) =>
  Option.bind (impl_IsIdempotent (a0_0, a0_1)) fun r0 =>
    bif (!r0) then
      some (((0 : Int), []), false)
    else
      Option.bind (impl_filled a0_0 (fun y1 => (impl_Stabilise_1 y1.1 y1.2.1 (a0_0, a0_1)))) fun (r2, r3) =>
        some ((r2, (List.take (List.length r3) (List.drop 0 r3))), true)
noncomputable def A30 : FnA := ⟨[.v (.pair (.int .i64) (.sl (.int .i64)))], true, [.pair (.int .i64) (.sl (.int .i64)), .bool], fun x => impl_Stabilise x.1⟩
theorem impl_Stabilise_eq : fnF E30 L30_0 [.v (.pair (.int .i64) (.sl (.int .i64)))] true [.pair (.int .i64) (.sl (.int .i64)), .bool] f30.ntmps f30.results.toList (codeOf f30) = fun x => impl_Stabilise x.1 := by kernel_rfl
theorem A30_ok : FnOk prog 30 A30 := by
  have h := fnOk_of_run (P := prog) (E := E30) (tysOk_of tyl_ok) E30_ok (L := L30_0) (ps := [.v (.pair (.int .i64) (.sl (.int .i64)))]) (own := true) (outs := [.pair (.int .i64) (.sl (.int .i64)), .bool]) func30 (c := codeOf f30) (by kernel_rfl) (codeOk_in (L := L30_0) (tysOk_of tyl_ok) E30_ok mixed (c := codeOf f30) (bs := []) (by kernel_rfl) allNil (by kernel_rfl))
  rw [impl_Stabilise_eq] at h
  exact h
/-! impl.value -/
noncomputable def R71 (impl_value_rec : (Int × ((List Int) × ((List Int) × (List (Int × (ByteArray × (Int × Int))))))) → (List (ByteArray × PT)) → Option ((Int × (List Int)) × Bool)) : FnA := ⟨[.v (.pair (.int .i64) (.pair (.sl (.int .i64)) (.pair (.sl (.int .i64)) (.sl (.pair (.int .i64) (.pair .str (.pair (.int .i64) (.int .i64)))))))), .v (.sl (.pair .str .pt))], true, [.pair (.int .i64) (.sl (.int .i64)), .bool], fun x => impl_value_rec x.1 x.2.1⟩
noncomputable def E71 (impl_value_rec : (Int × ((List Int) × ((List Int) × (List (Int × (ByteArray × (Int × Int))))))) → (List (ByteArray × PT)) → Option ((Int × (List Int)) × Bool)) : Env := ⟨ty0, fun g => ifEq g 84 (some A84) (ifEq g 85 (some A85) (ifEq g 71 (some (R71 impl_value_rec)) (ifEq g 30 (some A30) (ifEq g 32 (some A32) (none))))), fun _ => none, fun _ => none, fun _ => none⟩
theorem E71_ok (impl_value_rec : (Int × ((List Int) × ((List Int) × (List (Int × (ByteArray × (Int × Int))))))) → (List (ByteArray × PT)) → Option ((Int × (List Int)) × Bool)) (hrec : FnOk prog 71 (R71 impl_value_rec)) : FnsOk prog (E71 impl_value_rec) := (oneFn A84_ok func84 (by kernel_rfl) (by kernel_rfl) (oneFn A85_ok func85 (by kernel_rfl) (by kernel_rfl) (oneFn hrec func71 (by kernel_rfl) (by kernel_rfl) (oneFn A30_ok func30 (by kernel_rfl) (by kernel_rfl) (oneFn A32_ok func32 (by kernel_rfl) (by kernel_rfl) (noFns _ _))))))
noncomputable def L71_0 (impl_value_rec : (Int × ((List Int) × ((List Int) × (List (Int × (ByteArray × (Int × Int))))))) → (List (ByteArray × PT)) → Option ((Int × (List Int)) × Bool)) : Nat → Option LoopD := fun _ => none
def sh71_3 : List Fm := [d, d, .box 100200 [.val (.int .i64), .val (.sl (.int .i64)), .val (.sl (.int .i64)), .val (.sl (.pair (.int .i64) (.pair .str (.pair (.int .i64) (.int .i64)))))], d, .box 100400 [.val (.int .i64), .own (.int .i64) 100402 false], d, .box 100600 [.val (.int .i64), .own (.int .i64) 100602 false], d, d, d, d, d, d, .cell (.val (.sl (.pair .str .pt))), .cell (.val (.int .i64)), .cell (.val (.int .i64)), d, d, d, d, d, d, d, d, d, d, d, d, d, d, d, d, d, d, d, d, d, d, d, d, d, d, d, d, d, d, d, d, d, d, d, d, d, d, d, d, d, d, d, d, d, d]
def xs71_3 : List (Ex × List Fm) := [(.ret, [d, d, d, d, .box 100400 [.val (.int .i64), .own (.int .i64) 100402 false], .cell (.val .bool), d, d, d, d, d, d, d, d, d, d, d, d, d, d, d, d, d, d, d, d, d, d, d, d, d, d, d, d, d, d, d, d, d, d, d, d, d, d, d, d, d, d, d, d, d, d, d, d, d, d, d, d, d, d, d, d]), (.exit 0, [d, d, d, d, .box 100400 [.val (.int .i64), .own (.int .i64) 100402 false], d, .box 100600 [.val (.int .i64), .own (.int .i64) 100602 false], d, d, d, d, d, d, d, d, d, d, d, d, d, d, d, d, d, d, d, d, d, d, d, d, d, d, d, d, d, d, d, d, d, d, d, d, d, d, d, d, d, d, d, d, d, d, d, d, d, d, d, d, d, d, d])]
noncomputable def impl_value_l3 (impl_value_rec : (Int × ((List Int) × ((List Int) × (List (Int × (ByteArray × (Int × Int))))))) → (List (ByteArray × PT)) → Option ((Int × (List Int)) × Bool)) : ((Int × (List Int) × (List Int) × (List (Int × (ByteArray × (Int × Int)))) × Unit) × (Int × (List Int) × Unit) × (Int × (List Int) × Unit) × (List (ByteArray × PT)) × Int × Int × Unit) → Option (((Int × (List Int) × (List Int) × (List (Int × (ByteArray × (Int × Int)))) × Unit) × (Int × (List Int) × Unit) × (Int × (List Int) × Unit) × (List (ByteArray × PT)) × Int × Int × Unit) ⊕ (((Int × (List Int) × Unit) × Bool × Unit) ⊕ ((Int × (List Int) × Unit) × (Int × (List Int) × Unit) × Unit))) := fun ((v2_0, v2_1, v2_2, v2_3, _), (v4_0, v4_1, _), (v6_0, v6_1, _), v13, v14, v15, _) =>
  bif (decide (v15 < v14)) then
    if (((0 : Int) ≤ v15) ∧ (v15 < (((List.length v13) : Nat) : Int))) then
      bif (!((ByteArray.toList (List.getD v13 (Int.toNat v15) ((⟨Array.empty⟩ : ByteArray), (PT.mk []))).1) == (ByteArray.toList (⟨#[]⟩ : ByteArray)))) then
        Option.bind (impl_StepMatrix (v2_0, v2_1, v2_2, v2_3) (List.getD v13 (Int.toNat v15) ((⟨Array.empty⟩ : ByteArray), (PT.mk []))).1) fun ((r0, r1), r2) =>
          Option.bind (impl_GradesOf (r0, (List.take (List.length r1) (List.drop 0 r1)))) fun ((r3, r4), r5) =>
            bif (decide (v15 > (0 : Int))) then
              Option.bind (impl_MulGrades (v6_0, (List.take (List.length v6_1) (List.drop 0 v6_1))) (r3, (List.take (List.length r4) (List.drop 0 r4)))) fun ((r6, r7), r8) =>
                some (Sum.inl ((v2_0, v2_1, v2_2, v2_3, ()), (v4_0, (List.take (List.length v4_1) (List.drop 0 v4_1)), ()), (r6, (List.take (List.length r7) (List.drop 0 r7)), ()), v13, v14, (IntKind.wrap .i64 (v15 + (1 : Int))), ()))
            else
              some (Sum.inl ((v2_0, v2_1, v2_2, v2_3, ()), (v4_0, (List.take (List.length v4_1) (List.drop 0 v4_1)), ()), (r3, (List.take (List.length r4) (List.drop 0 r4)), ()), v13, v14, (IntKind.wrap .i64 (v15 + (1 : Int))), ()))
      else
        Option.bind (impl_value_rec (v2_0, v2_1, v2_2, v2_3) (PT.l (List.getD v13 (Int.toNat v15) ((⟨Array.empty⟩ : ByteArray), (PT.mk []))).2)) fun ((r9, r10), r11) =>
          bif r11 then
            Option.bind (impl_Stabilise (r9, (List.take (List.length r10) (List.drop 0 r10)))) fun ((r12, r13), r14) =>
              bif (!r14) then
                some (Sum.inr (Sum.inl (((0 : Int), [], ()), false, ())))
              else
                bif (decide (v15 > (0 : Int))) then
                  Option.bind (impl_MulGrades (v6_0, (List.take (List.length v6_1) (List.drop 0 v6_1))) (r12, (List.take (List.length r13) (List.drop 0 r13)))) fun ((r15, r16), r17) =>
                    some (Sum.inl ((v2_0, v2_1, v2_2, v2_3, ()), (v4_0, (List.take (List.length v4_1) (List.drop 0 v4_1)), ()), (r15, (List.take (List.length r16) (List.drop 0 r16)), ()), v13, v14, (IntKind.wrap .i64 (v15 + (1 : Int))), ()))
                else
                  some (Sum.inl ((v2_0, v2_1, v2_2, v2_3, ()), (v4_0, (List.take (List.length v4_1) (List.drop 0 v4_1)), ()), (r12, (List.take (List.length r13) (List.drop 0 r13)), ()), v13, v14, (IntKind.wrap .i64 (v15 + (1 : Int))), ()))
          else
            bif (!r11) then
              some (Sum.inr (Sum.inl (((0 : Int), [], ()), false, ())))
            else
              bif (decide (v15 > (0 : Int))) then
                Option.bind (impl_MulGrades (v6_0, (List.take (List.length v6_1) (List.drop 0 v6_1))) (r9, (List.take (List.length r10) (List.drop 0 r10)))) fun ((r18, r19), r20) =>
                  some (Sum.inl ((v2_0, v2_1, v2_2, v2_3, ()), (v4_0, (List.take (List.length v4_1) (List.drop 0 v4_1)), ()), (r18, (List.take (List.length r19) (List.drop 0 r19)), ()), v13, v14, (IntKind.wrap .i64 (v15 + (1 : Int))), ()))
              else
                some (Sum.inl ((v2_0, v2_1, v2_2, v2_3, ()), (v4_0, (List.take (List.length v4_1) (List.drop 0 v4_1)), ()), (r9, (List.take (List.length r10) (List.drop 0 r10)), ()), v13, v14, (IntKind.wrap .i64 (v15 + (1 : Int))), ()))
    else
      none
  else
    some (Sum.inr (Sum.inr ((v4_0, (List.take (List.length v4_1) (List.drop 0 v4_1)), ()), (v6_0, (List.take (List.length v6_1) (List.drop 0 v6_1)), ()), ())))
theorem impl_value_l3_eq (impl_value_rec : (Int × ((List Int) × ((List Int) × (List (Int × (ByteArray × (Int × Int))))))) → (List (ByteArray × PT)) → Option ((Int × (List Int)) × Bool)) : loopStep 62 (E71 impl_value_rec) (L71_0 impl_value_rec) (loopOf f71 3) sh71_3 xs71_3 = (impl_value_l3 impl_value_rec) := by kernel_rfl
theorem loop71_3 (impl_value_rec : (Int × ((List Int) × ((List Int) × (List (Int × (ByteArray × (Int × Int))))))) → (List (ByteArray × PT)) → Option ((Int × (List Int)) × Bool)) (hrec : FnOk prog 71 (R71 impl_value_rec)) {L : Nat → Option LoopD} (h : L 3 = some ⟨62, sh71_3, xs71_3, (impl_value_l3 impl_value_rec)⟩) : LoopOk prog L (loopOf f71 3) :=
  loopOk (tysOk_of tyl_ok) (E71_ok impl_value_rec hrec) (codeOk_in (L := (L71_0 impl_value_rec)) (tysOk_of tyl_ok) (E71_ok impl_value_rec hrec) mixed (c := loopOf f71 3) (bs := []) (by kernel_rfl) allNil (by kernel_rfl)) (by kernel_rfl) (by kernel_rfl) (impl_value_l3_eq impl_value_rec) (by rw [show firstId (loopOf f71 3) = 3 from by kernel_rfl]; exact h)
noncomputable def L71_1 (impl_value_rec : (Int × ((List Int) × ((List Int) × (List (Int × (ByteArray × (Int × Int))))))) → (List (ByteArray × PT)) → Option ((Int × (List Int)) × Bool)) : Nat → Option LoopD := fun n => ifEq n 3 (some ⟨62, sh71_3, xs71_3, (impl_value_l3 impl_value_rec)⟩) ((L71_0 impl_value_rec) n)
noncomputable def impl_value_step (impl_value_rec : (Int × ((List Int) × ((List Int) × (List (Int × (ByteArray × (Int × Int))))))) → (List (ByteArray × PT)) → Option ((Int × (List Int)) × Bool)) : (Int × ((List Int) × ((List Int) × (List (Int × (ByteArray × (Int × Int))))))) → (List (ByteArray × PT)) → Option ((Int × (List Int)) × Bool) := fun (a0_0, a0_1, a0_2, a0_3) a1 =>
  Option.bind (loopF (impl_value_l3 impl_value_rec) ((a0_0, a0_1, a0_2, a0_3, ()), ((0 : Int), [], ()), ((0 : Int), [], ()), a1, (((List.length a1) : Nat) : Int), (0 : Int), ())) fun r0 =>
    (match r0 with
    | .inl ((d1, d2, _), d3, _) =>
        some ((d1, (List.take (List.length d2) (List.drop 0 d2))), d3)
    | .inr ((d4, d5, _), (d6, d7, _), _) =>
        some ((d6, (List.take (List.length d7) (List.drop 0 d7))), true))
theorem impl_value_step_eq (impl_value_rec : (Int × ((List Int) × ((List Int) × (List (Int × (ByteArray × (Int × Int))))))) → (List (ByteArray × PT)) → Option ((Int × (List Int)) × Bool)) : fnF (E71 impl_value_rec) (L71_1 impl_value_rec) [.v (.pair (.int .i64) (.pair (.sl (.int .i64)) (.pair (.sl (.int .i64)) (.sl (.pair (.int .i64) (.pair .str (.pair (.int .i64) (.int .i64)))))))), .v (.sl (.pair .str .pt))] true [.pair (.int .i64) (.sl (.int .i64)), .bool] f71.ntmps f71.results.toList (codeOf f71) = fun x => (impl_value_step impl_value_rec) x.1 x.2.1 := by kernel_rfl
theorem impl_value_step_ok (impl_value_rec : (Int × ((List Int) × ((List Int) × (List (Int × (ByteArray × (Int × Int))))))) → (List (ByteArray × PT)) → Option ((Int × (List Int)) × Bool)) (hrec : FnOk prog 71 (R71 impl_value_rec)) : FnOk prog 71 ⟨[.v (.pair (.int .i64) (.pair (.sl (.int .i64)) (.pair (.sl (.int .i64)) (.sl (.pair (.int .i64) (.pair .str (.pair (.int .i64) (.int .i64)))))))), .v (.sl (.pair .str .pt))], true, [.pair (.int .i64) (.sl (.int .i64)), .bool], fun x => (impl_value_step impl_value_rec) x.1 x.2.1⟩ := by
  have h := fnOk_of_run (P := prog) (E := (E71 impl_value_rec)) (tysOk_of tyl_ok) (E71_ok impl_value_rec hrec) (L := (L71_1 impl_value_rec)) (ps := [.v (.pair (.int .i64) (.pair (.sl (.int .i64)) (.pair (.sl (.int .i64)) (.sl (.pair (.int .i64) (.pair .str (.pair (.int .i64) (.int .i64)))))))), .v (.sl (.pair .str .pt))]) (own := true) (outs := [.pair (.int .i64) (.sl (.int .i64)), .bool]) func71 (c := codeOf f71) (by kernel_rfl) (codeOk_in (L := (L71_1 impl_value_rec)) (tysOk_of tyl_ok) (E71_ok impl_value_rec hrec) mixed (c := codeOf f71) (bs := [loopOf f71 3]) (by kernel_rfl) (allCons (loop71_3 impl_value_rec hrec rfl) allNil) (by kernel_rfl))
  rw [(impl_value_step_eq impl_value_rec)] at h
  exact h
/-- so many calls within each other -/
noncomputable def impl_value_fuel : Nat → (Int × ((List Int) × ((List Int) × (List (Int × (ByteArray × (Int × Int))))))) → (List (ByteArray × PT)) → Option ((Int × (List Int)) × Bool)
  | 0 => fun _ _ => none
  | n + 1 => impl_value_step (impl_value_fuel n)
theorem impl_value_fuel_ok : ∀ n, FnOk prog 71 (R71 (impl_value_fuel n))
  | 0 => fun xs r h => by cases h
  | n + 1 => impl_value_step_ok (impl_value_fuel n) (impl_value_fuel_ok n)
noncomputable def impl_value : (Int × ((List Int) × ((List Int) × (List (Int × (ByteArray × (Int × Int))))))) → (List (ByteArray × PT)) → Option ((Int × (List Int)) × Bool) := impl_value_fuel 200
noncomputable def A71 : FnA := R71 impl_value
theorem A71_ok : FnOk prog 71 A71 := impl_value_fuel_ok 200
/-! impl.ValueOf -/
noncomputable def E44 : Env := ⟨ty0, fun g => ifEq g 36 (some A36) (ifEq g 33 (some A33) (ifEq g 71 (some A71) (none))), fun _ => none, fun _ => none, fun _ => none⟩
theorem E44_ok : FnsOk prog E44 := (oneFn A36_ok func36 (by kernel_rfl) (by kernel_rfl) (oneFn A33_ok func33 (by kernel_rfl) (by kernel_rfl) (oneFn A71_ok func71 (by kernel_rfl) (by kernel_rfl) (noFns _ _))))
noncomputable def L44_0 : Nat → Option LoopD := fun _ => none
noncomputable def impl_ValueOf : (Int × ((List Int) × ((List Int) × (List (Int × (ByteArray × (Int × Int))))))) → ByteArray → Option ((Int × (List Int)) × Bool) := fun (a0_0, a0_1, a0_2, a0_3) a1 =>
  Option.bind (impl_parts a1) fun (r0, r1) =>
    bif (!r1) then
      some (((0 : Int), []), false)
    else
      Option.bind (impl_AutomatonValid (a0_0, a0_1, a0_2, a0_3)) fun r2 =>
        bif (!r2) then
          some (((0 : Int), []), false)
        else
          Option.bind (impl_value (a0_0, a0_1, a0_2, a0_3) (List.take (List.length r0) (List.drop 0 r0))) fun ((r3, r4), r5) =>
            some ((r3, (List.take (List.length r4) (List.drop 0 r4))), r5)
noncomputable def A44 : FnA := ⟨[.v (.pair (.int .i64) (.pair (.sl (.int .i64)) (.pair (.sl (.int .i64)) (.sl (.pair (.int .i64) (.pair .str (.pair (.int .i64) (.int .i64)))))))), .v .str], true, [.pair (.int .i64) (.sl (.int .i64)), .bool], fun x => impl_ValueOf x.1 x.2.1⟩
theorem impl_ValueOf_eq : fnF E44 L44_0 [.v (.pair (.int .i64) (.pair (.sl (.int .i64)) (.pair (.sl (.int .i64)) (.sl (.pair (.int .i64) (.pair .str (.pair (.int .i64) (.int .i64)))))))), .v .str] true [.pair (.int .i64) (.sl (.int .i64)), .bool] f44.ntmps f44.results.toList (codeOf f44) = fun x => impl_ValueOf x.1 x.2.1 := by kernel_rfl
theorem A44_ok : FnOk prog 44 A44 := by
  have h := fnOk_of_run (P := prog) (E := E44) (tysOk_of tyl_ok) E44_ok (L := L44_0) (ps := [.v (.pair (.int .i64) (.pair (.sl (.int .i64)) (.pair (.sl (.int .i64)) (.sl (.pair (.int .i64) (.pair .str (.pair (.int .i64) (.int .i64)))))))), .v .str]) (own := true) (outs := [.pair (.int .i64) (.sl (.int .i64)), .bool]) func44 (c := codeOf f44) (by kernel_rfl) (codeOk_in (L := L44_0) (tysOk_of tyl_ok) E44_ok mixed (c := codeOf f44) (bs := []) (by kernel_rfl) allNil (by kernel_rfl))
  rw [impl_ValueOf_eq] at h
  exact h
/-! slices.IndexFunc[[]impl.Element,impl.Element] -/
noncomputable def E72 : Env := ⟨ty0, fun _ => none, fun _ => none, fun _ => none, fun _ => none⟩
theorem E72_ok : FnsOk prog E72 := (noFns _ _)
noncomputable def L72_0 : Nat → Option LoopD := fun _ => none
def sh72_2 : List Fm := [.cell (.val (.sl (.pair (.pair (.int .i64) (.sl (.int .i64))) .str))), .clo [.pair (.pair (.int .i64) (.sl (.int .i64))) .str] .bool, d, d, d, d, d, .cell (.val (.int .i64)), .cell (.val (.int .i64)), d, d, d, d, d, d, d, d, d, d]
def xs72_2 : List (Ex × List Fm) := [(.ret, [d, d, d, d, .cell (.val (.int .i64)), d, d, d, d, d, d, d, d, d, d, d, d, d, d]), (.exit 0, [d, d, d, d, d, d, d, d, d, d, d, d, d, d, d, d, d, d, d])]
noncomputable def slices_IndexFunc_Element_l2 : ((List ((Int × (List Int)) × ByteArray)) × ((((Int × (List Int)) × ByteArray) × Unit) → Option (Bool)) × Int × Int × Unit) → Option (((List ((Int × (List Int)) × ByteArray)) × ((((Int × (List Int)) × ByteArray) × Unit) → Option (Bool)) × Int × Int × Unit) ⊕ ((Int × Unit) ⊕ (Unit))) := fun (v0, v1, v7, v8, _) =>
  bif (decide (v8 < v7)) then
    if (((0 : Int) ≤ v8) ∧ (v8 < (((List.length v0) : Nat) : Int))) then
      Option.bind (v1 ((List.getD v0 (Int.toNat v8) (((0 : Int), []), (⟨Array.empty⟩ : ByteArray))), ())) fun r0 =>
        bif r0 then
          some (Sum.inr (Sum.inl (v8, ())))
        else
          some (Sum.inl (v0, v1, v7, (IntKind.wrap .i64 (v8 + (1 : Int))), ()))
    else
      none
  else
    some (Sum.inr (Sum.inr ()))
theorem slices_IndexFunc_Element_l2_eq : loopStep 19 E72 L72_0 (loopOf f72 2) sh72_2 xs72_2 = slices_IndexFunc_Element_l2 := by kernel_rfl
theorem loop72_2 {L : Nat → Option LoopD} (h : L 2 = some ⟨19, sh72_2, xs72_2, slices_IndexFunc_Element_l2⟩) : LoopOk prog L (loopOf f72 2) :=
  loopOk (tysOk_of tyl_ok) E72_ok (codeOk_in (L := L72_0) (tysOk_of tyl_ok) E72_ok mixed (c := loopOf f72 2) (bs := []) (by kernel_rfl) allNil (by kernel_rfl)) (by kernel_rfl) (by kernel_rfl) slices_IndexFunc_Element_l2_eq (by rw [show firstId (loopOf f72 2) = 2 from by kernel_rfl]; exact h)
noncomputable def L72_1 : Nat → Option LoopD := fun n => ifEq n 2 (some ⟨19, sh72_2, xs72_2, slices_IndexFunc_Element_l2⟩) (L72_0 n)
noncomputable def slices_IndexFunc_Element : (List ((Int × (List Int)) × ByteArray)) → ((((Int × (List Int)) × ByteArray) × Unit) → Option (Bool)) → Option (Int) := fun a0 a1 =>
  Option.bind (loopF slices_IndexFunc_Element_l2 (a0, a1, (((List.length a0) : Nat) : Int), (0 : Int), ())) fun r0 =>
    (match r0 with
    | .inl (d1, _) =>
        some d1
    | .inr _ =>
        some (-1 : Int))
noncomputable def A72 : FnA := ⟨[.v (.sl (.pair (.pair (.int .i64) (.sl (.int .i64))) .str)), .clo [.pair (.pair (.int .i64) (.sl (.int .i64))) .str] .bool], true, [.int .i64], fun x => slices_IndexFunc_Element x.1 x.2.1⟩
theorem slices_IndexFunc_Element_eq : fnF E72 L72_1 [.v (.sl (.pair (.pair (.int .i64) (.sl (.int .i64))) .str)), .clo [.pair (.pair (.int .i64) (.sl (.int .i64))) .str] .bool] true [.int .i64] f72.ntmps f72.results.toList (codeOf f72) = fun x => slices_IndexFunc_Element x.1 x.2.1 := by kernel_rfl
theorem A72_ok : FnOk prog 72 A72 := by
  have h := fnOk_of_run (P := prog) (E := E72) (tysOk_of tyl_ok) E72_ok (L := L72_1) (ps := [.v (.sl (.pair (.pair (.int .i64) (.sl (.int .i64))) .str)), .clo [.pair (.pair (.int .i64) (.sl (.int .i64))) .str] .bool]) (own := true) (outs := [.int .i64]) func72 (c := codeOf f72) (by kernel_rfl) (codeOk_in (L := L72_1) (tysOk_of tyl_ok) E72_ok mixed (c := codeOf f72) (bs := [loopOf f72 2]) (by kernel_rfl) (allCons (loop72_2 rfl) allNil) (by kernel_rfl))
  rw [slices_IndexFunc_Element_eq] at h
  exact h
/-! slices.ContainsFunc[[]impl.Element,impl.Element] -/
noncomputable def E48 : Env := ⟨ty0, fun g => ifEq g 72 (some A72) (none), fun _ => none, fun _ => none, fun _ => none⟩
theorem E48_ok : FnsOk prog E48 := (oneFn A72_ok func72 (by kernel_rfl) (by kernel_rfl) (noFns _ _))
noncomputable def L48_0 : Nat → Option LoopD := fun _ => none
noncomputable def slices_ContainsFunc_Element : (List ((Int × (List Int)) × ByteArray)) → ((((Int × (List Int)) × ByteArray) × Unit) → Option (Bool)) → Option (Bool) := fun a0 a1 =>
  Option.bind (slices_IndexFunc_Element a0 a1) fun r0 =>
    some (decide (r0 ≥ (0 : Int)))
noncomputable def A48 : FnA := ⟨[.v (.sl (.pair (.pair (.int .i64) (.sl (.int .i64))) .str)), .clo [.pair (.pair (.int .i64) (.sl (.int .i64))) .str] .bool], true, [.bool], fun x => slices_ContainsFunc_Element x.1 x.2.1⟩
theorem slices_ContainsFunc_Element_eq : fnF E48 L48_0 [.v (.sl (.pair (.pair (.int .i64) (.sl (.int .i64))) .str)), .clo [.pair (.pair (.int .i64) (.sl (.int .i64))) .str] .bool] true [.bool] f48.ntmps f48.results.toList (codeOf f48) = fun x => slices_ContainsFunc_Element x.1 x.2.1 := by kernel_rfl
theorem A48_ok : FnOk prog 48 A48 := by
  have h := fnOk_of_run (P := prog) (E := E48) (tysOk_of tyl_ok) E48_ok (L := L48_0) (ps := [.v (.sl (.pair (.pair (.int .i64) (.sl (.int .i64))) .str)), .clo [.pair (.pair (.int .i64) (.sl (.int .i64))) .str] .bool]) (own := true) (outs := [.bool]) func48 (c := codeOf f48) (by kernel_rfl) (codeOk_in (L := L48_0) (tysOk_of tyl_ok) E48_ok mixed (c := codeOf f48) (bs := []) (by kernel_rfl) allNil (by kernel_rfl))
  rw [slices_ContainsFunc_Element_eq] at h
  exact h
/-! (*impl.found).put$1 -/
noncomputable def E49 : Env := ⟨ty0, fun g => ifEq g 50 (some A50) (none), fun _ => none, fun _ => none, fun _ => none⟩
theorem E49_ok : FnsOk prog E49 := (oneFn A50_ok func50 (by kernel_rfl) (by kernel_rfl) (noFns _ _))
noncomputable def L49_0 : Nat → Option LoopD := fun _ => none
noncomputable def impl_found_put_1 : ((Int × (List Int)) × ByteArray) → (Int × (List Int)) → Option (Bool) := fun ((a0_0, a0_1), a0_2) (a1_0, a1_1) =>
  Option.bind (impl_SameMatrix (a0_0, a0_1) (a1_0, a1_1)) fun r0 =>
    some r0
noncomputable def A49 : FnA := ⟨[.v (.pair (.pair (.int .i64) (.sl (.int .i64))) .str), .cap (.pair (.int .i64) (.sl (.int .i64)))], true, [.bool], fun x => impl_found_put_1 x.1 x.2.1⟩
theorem impl_found_put_1_eq : fnF E49 L49_0 [.v (.pair (.pair (.int .i64) (.sl (.int .i64))) .str), .cap (.pair (.int .i64) (.sl (.int .i64)))] true [.bool] f49.ntmps f49.results.toList (codeOf f49) = fun x => impl_found_put_1 x.1 x.2.1 := by kernel_rfl
theorem A49_ok : FnOk prog 49 A49 := by
  have h := fnOk_of_run (P := prog) (E := E49) (tysOk_of tyl_ok) E49_ok (L := L49_0) (ps := [.v (.pair (.pair (.int .i64) (.sl (.int .i64))) .str), .cap (.pair (.int .i64) (.sl (.int .i64)))]) (own := true) (outs := [.bool]) func49 (c := codeOf f49) (by kernel_rfl) (codeOk_in (L := L49_0) (tysOk_of tyl_ok) E49_ok mixed (c := codeOf f49) (bs := []) (by kernel_rfl) allNil (by kernel_rfl))
  rw [impl_found_put_1_eq] at h
  exact h
/-! impl.ElementsOf -/
noncomputable def E16_at5_at32 : Env := ⟨ty0, fun g => ifEq g 33 (some A33) (ifEq g 44 (some A44) (ifEq g 48 (some A48) (ifEq g 49 (some A49) (ifEq g 30 (some A30) (ifEq g 32 (some A32) (none)))))), fun _ => none, fun _ => none, fun _ => none⟩
theorem E16_at5_at32_ok : FnsOk prog E16_at5_at32 := (oneFn A33_ok func33 (by kernel_rfl) (by kernel_rfl) (oneFn A44_ok func44 (by kernel_rfl) (by kernel_rfl) (oneFn A48_ok func48 (by kernel_rfl) (by kernel_rfl) (oneFn A49_ok func49 (by kernel_rfl) (by kernel_rfl) (oneFn A30_ok func30 (by kernel_rfl) (by kernel_rfl) (oneFn A32_ok func32 (by kernel_rfl) (by kernel_rfl) (noFns _ _)))))))
noncomputable def L16_at5_at32_0 : Nat → Option LoopD := fun _ => none
def shi16_at5_at32 : List Fm := [.box 100000 [.own (.pair (.pair (.int .i64) (.sl (.int .i64))) .str) 100001 false, .val .bool], .agg [.val (.int .i64), .own (.int .i64) 100102 false], .cell (.val .str), d, d, d, d, d, d, d, d, d, d, d, d, d, d, d, d, d, d, d, d, d, d, d, d, d, d, d, d, d, d, d, d, d, d, d, d, .fnv 29, .box 104000 [.val (.int .i64), .val (.sl (.int .i64)), .val (.sl (.int .i64)), .val (.sl (.pair (.int .i64) (.pair .str (.pair (.int .i64) (.int .i64)))))], d, d, d, .ali 100000 0, d, d, d, d, d, d, d, d, d, d, .cell (.own .str 105500 false), .cell (.val (.int .i64)), .cell (.val (.int .i64)), d, d, d, d, d, d, d, d, d, d, d, d, d, d, d, d, d, d, d, d, d, d, d, d, d, d, d, d, d, d, d, d, d, d, d, d, d, d, d, d, d, d, d, d, d, d, d, d, d, d]
def sho16_at5_at32 : List Fm := [d, .fnv 29, .box 100200 [.val (.int .i64), .val (.sl (.int .i64)), .val (.sl (.int .i64)), .val (.sl (.pair (.int .i64) (.pair .str (.pair (.int .i64) (.int .i64)))))], d, d, d, .box 100600 [.own (.pair (.pair (.int .i64) (.sl (.int .i64))) .str) 100601 false, .val .bool], d, d, d, d, d, d, d, d, d, d, .cell (.own .str 101700 false), .cell (.val (.int .i64)), .cell (.val (.int .i64)), d, d, d, d, d, d, d, d, d, d, d, d, d, d, d, d, d, d, d, d, d, d, d, d, d, d, d, d, d, d, d, d, d, d, d, d, d, d, d, d, d, d, d, d, d, d, d, d, d, d]
noncomputable def impl_ElementsOf_at5_at32 : (((List ((Int × (List Int)) × ByteArray)) × Bool × Unit) × (Int × (List Int) × Unit) × ByteArray × (Int × (List Int) × (List Int) × (List (Int × (ByteArray × (Int × Int)))) × Unit) × (List ByteArray) × Int × Int × Unit) → Option ((Int × (List Int) × (List Int) × (List (Int × (ByteArray × (Int × Int)))) × Unit) × ((List ((Int × (List Int)) × ByteArray)) × Bool × Unit) × (List ByteArray) × Int × Int × Unit) := fun ((v0_0, v0_1, _), (v1_0, v1_1, _), v2, (v40_0, v40_1, v40_2, v40_3, _), v55, v56, v57, _) =>
  Option.bind (slices_ContainsFunc_Element (List.take (List.length v0_0) (List.drop 0 v0_0)) (fun y0 => (impl_found_put_1 y0.1 (v1_0, (List.take (List.length v1_1) (List.drop 0 v1_1)))))) fun r1 =>
    bif r1 then
      some ((v40_0, v40_1, v40_2, v40_3, ()), ((List.take (List.length v0_0) (List.drop 0 v0_0)), v0_1, ()), (List.take (List.length v55) (List.drop 0 v55)), v56, v57, ())
    else
      bif (decide ((((List.length v0_0) : Nat) : Int) ≥ (120 : Int))) then
        some ((v40_0, v40_1, v40_2, v40_3, ()), ((List.take (List.length v0_0) (List.drop 0 v0_0)), false, ()), (List.take (List.length v55) (List.drop 0 v55)), v56, v57, ())
      else
        bif (decide ((((ByteArray.size v2) : Nat) : Int) > (120 : Int))) then
          some ((v40_0, v40_1, v40_2, v40_3, ()), ((List.take (List.length v0_0) (List.drop 0 v0_0)), false, ()), (List.take (List.length v55) (List.drop 0 v55)), v56, v57, ())
        else
          if (((0 + (List.length v0_0)) = (List.length v0_0)) ∧ ((((List.length v0_0) + (List.length (List.take 1 (List.drop 0 [((v1_0, (List.take (List.length v1_1) (List.drop 0 v1_1))), v2)])))) * 48) ≤ 140737488355328)) then
            some ((v40_0, v40_1, v40_2, v40_3, ()), ((List.take ((List.length v0_0) + (List.length (List.take 1 (List.drop 0 [((v1_0, (List.take (List.length v1_1) (List.drop 0 v1_1))), v2)])))) (List.drop 0 ((List.drop 0 v0_0) ++ (List.take 1 (List.drop 0 [((v1_0, (List.take (List.length v1_1) (List.drop 0 v1_1))), v2)]))))), v0_1, ()), (List.take (List.length v55) (List.drop 0 v55)), v56, v57, ())
          else
            none
theorem impl_ElementsOf_at5_at32_eq : inlStep f31.ntmps 62 32 E16_at5_at32 L16_at5_at32_0 f31.results.toList (codeOf f31) shi16_at5_at32 sho16_at5_at32 = impl_ElementsOf_at5_at32 := by kernel_rfl
noncomputable def I16_at5_at32 : CallD := ⟨f31.ntmps, shi16_at5_at32, 62, sho16_at5_at32, impl_ElementsOf_at5_at32⟩
theorem I16_at5_at32_ok : InlOk prog 32 31 I16_at5_at32 := inlOk_of (tysOk_of tyl_ok) E16_at5_at32_ok (L := L16_at5_at32_0) func31 (by kernel_rfl) (c := codeOf f31) (by kernel_rfl) (codeOk_in (L := L16_at5_at32_0) (tysOk_of tyl_ok) E16_at5_at32_ok mixed (c := codeOf f31) (bs := []) (by kernel_rfl) allNil (by kernel_rfl)) (by kernel_rfl) (by kernel_rfl) impl_ElementsOf_at5_at32_eq
noncomputable def E16_at5_at52_at31 : Env := ⟨ty0, fun g => ifEq g 33 (some A33) (ifEq g 44 (some A44) (ifEq g 48 (some A48) (ifEq g 49 (some A49) (ifEq g 30 (some A30) (ifEq g 32 (some A32) (none)))))), fun _ => none, fun _ => none, fun _ => none⟩
theorem E16_at5_at52_at31_ok : FnsOk prog E16_at5_at52_at31 := (oneFn A33_ok func33 (by kernel_rfl) (by kernel_rfl) (oneFn A44_ok func44 (by kernel_rfl) (by kernel_rfl) (oneFn A48_ok func48 (by kernel_rfl) (by kernel_rfl) (oneFn A49_ok func49 (by kernel_rfl) (by kernel_rfl) (oneFn A30_ok func30 (by kernel_rfl) (by kernel_rfl) (oneFn A32_ok func32 (by kernel_rfl) (by kernel_rfl) (noFns _ _)))))))
noncomputable def L16_at5_at52_at31_0 : Nat → Option LoopD := fun _ => none
def shi16_at5_at52_at31 : List Fm := [.box 100000 [.own (.pair (.pair (.int .i64) (.sl (.int .i64))) .str) 100001 false, .val .bool], .agg [.val (.int .i64), .own (.int .i64) 100102 false], .cell (.val .str), d, d, d, d, d, d, d, d, d, d, d, d, d, d, d, d, d, d, d, d, d, d, d, d, d, d, d, d, d, d, d, d, d, d, d, .ali 100000 0, .cell (.val (.int .i64)), d, d, .box 104200 [.val (.int .i64), .val (.sl (.int .i64)), .val .str], d, d, d, d, d, d, d, d, d, d, d, d, d, d, d, d, d, d, d, d, d, d, d, d, d, d, d, d, d, d, d, d, d, d, d, d, d, d, d, d, d, d, d, d, d, d, d, d, d, d, d, d, d, d, d, d, d, d, d, d, d, d, d, d, d, d, d, d, d, d, d, d, d, d, d, d, d, d, .fnv 29, d, d, d, d, .ali 100000 0, d, d, d, d, .cell (.val (.int .i64)), d, d, d, d, d, d, d, d, d, d, d, d, d, d, d, d, d, d, d, d, d, d, d, d, d, d, d, d, d, d, d, d, d, d, d, d, d, d, d, d, d, d, d, d, d, d, d, d, d, d, d, d, d, d, d, d, d, d]
def sho16_at5_at52_at31 : List Fm := [.box 100000 [.own (.pair (.pair (.int .i64) (.sl (.int .i64))) .str) 100001 false, .val .bool], .cell (.val (.int .i64)), d, d, .box 100400 [.val (.int .i64), .val (.sl (.int .i64)), .val .str], d, d, d, d, d, d, d, d, d, d, d, d, d, d, d, d, d, d, d, d, d, d, d, d, d, d, d, d, d, d, d, d, d, d, d, d, d, d, d, d, d, d, d, d, d, d, d, d, d, d, d, d, d, d, d, d, d, d, d, d, d, d, d, d, d, d, d, d, d, d, d, d, d, d, d, d, d, d, .fnv 29, d, d, d, d, .ali 100000 0, d, d, d, d, .cell (.val (.int .i64)), d, d, d, d, d, d, d, d, d, d, d, d, d, d, d, d, d, d, d, d, d, d, d, d, d, d, d, d, d, d, d, d, d, d, d, d, d, d, d, d, d, d, d, d, d, d, d, d, d, d, d, d, d, d, d, d, d, d]
noncomputable def impl_ElementsOf_at5_at52_at31 : (((List ((Int × (List Int)) × ByteArray)) × Bool × Unit) × (Int × (List Int) × Unit) × ByteArray × Int × (Int × (List Int) × ByteArray × Unit) × Int × Unit) → Option (((List ((Int × (List Int)) × ByteArray)) × Bool × Unit) × Int × (Int × (List Int) × ByteArray × Unit) × Int × Unit) := fun ((v0_0, v0_1, _), (v1_0, v1_1, _), v2, v39, (v42_0, v42_1, v42_2, _), v131, _) =>
  Option.bind (slices_ContainsFunc_Element (List.take (List.length v0_0) (List.drop 0 v0_0)) (fun y0 => (impl_found_put_1 y0.1 (v1_0, (List.take (List.length v1_1) (List.drop 0 v1_1)))))) fun r1 =>
    bif r1 then
      some (((List.take (List.length v0_0) (List.drop 0 v0_0)), v0_1, ()), v39, (v42_0, v42_1, v42_2, ()), v131, ())
    else
      bif (decide ((((List.length v0_0) : Nat) : Int) ≥ (120 : Int))) then
        some (((List.take (List.length v0_0) (List.drop 0 v0_0)), false, ()), v39, (v42_0, v42_1, v42_2, ()), v131, ())
      else
        bif (decide ((((ByteArray.size v2) : Nat) : Int) > (120 : Int))) then
          some (((List.take (List.length v0_0) (List.drop 0 v0_0)), false, ()), v39, (v42_0, v42_1, v42_2, ()), v131, ())
        else
          if (((0 + (List.length v0_0)) = (List.length v0_0)) ∧ ((((List.length v0_0) + (List.length (List.take 1 (List.drop 0 [((v1_0, (List.take (List.length v1_1) (List.drop 0 v1_1))), v2)])))) * 48) ≤ 140737488355328)) then
            some (((List.take ((List.length v0_0) + (List.length (List.take 1 (List.drop 0 [((v1_0, (List.take (List.length v1_1) (List.drop 0 v1_1))), v2)])))) (List.drop 0 ((List.drop 0 v0_0) ++ (List.take 1 (List.drop 0 [((v1_0, (List.take (List.length v1_1) (List.drop 0 v1_1))), v2)]))))), v0_1, ()), v39, (v42_0, v42_1, v42_2, ()), v131, ())
          else
            none
theorem impl_ElementsOf_at5_at52_at31_eq : inlStep f31.ntmps 82 31 E16_at5_at52_at31 L16_at5_at52_at31_0 f31.results.toList (codeOf f31) shi16_at5_at52_at31 sho16_at5_at52_at31 = impl_ElementsOf_at5_at52_at31 := by kernel_rfl
noncomputable def I16_at5_at52_at31 : CallD := ⟨f31.ntmps, shi16_at5_at52_at31, 82, sho16_at5_at52_at31, impl_ElementsOf_at5_at52_at31⟩
theorem I16_at5_at52_at31_ok : InlOk prog 31 31 I16_at5_at52_at31 := inlOk_of (tysOk_of tyl_ok) E16_at5_at52_at31_ok (L := L16_at5_at52_at31_0) func31 (by kernel_rfl) (c := codeOf f31) (by kernel_rfl) (codeOk_in (L := L16_at5_at52_at31_0) (tysOk_of tyl_ok) E16_at5_at52_at31_ok mixed (c := codeOf f31) (bs := []) (by kernel_rfl) allNil (by kernel_rfl)) (by kernel_rfl) (by kernel_rfl) impl_ElementsOf_at5_at52_at31_eq
noncomputable def E16_at5_at52_at65 : Env := ⟨ty0, fun g => ifEq g 33 (some A33) (ifEq g 44 (some A44) (ifEq g 48 (some A48) (ifEq g 49 (some A49) (ifEq g 30 (some A30) (ifEq g 32 (some A32) (none)))))), fun _ => none, fun _ => none, fun _ => none⟩
theorem E16_at5_at52_at65_ok : FnsOk prog E16_at5_at52_at65 := (oneFn A33_ok func33 (by kernel_rfl) (by kernel_rfl) (oneFn A44_ok func44 (by kernel_rfl) (by kernel_rfl) (oneFn A48_ok func48 (by kernel_rfl) (by kernel_rfl) (oneFn A49_ok func49 (by kernel_rfl) (by kernel_rfl) (oneFn A30_ok func30 (by kernel_rfl) (by kernel_rfl) (oneFn A32_ok func32 (by kernel_rfl) (by kernel_rfl) (noFns _ _)))))))
noncomputable def L16_at5_at52_at65_0 : Nat → Option LoopD := fun _ => none
def shi16_at5_at52_at65 : List Fm := [.box 100000 [.own (.pair (.pair (.int .i64) (.sl (.int .i64))) .str) 100001 false, .val .bool], .cell (.val (.pair (.int .i64) (.sl (.int .i64)))), .cell (.val .str), d, d, d, d, d, d, d, d, d, d, d, d, d, d, d, d, d, d, d, d, d, d, d, d, d, d, d, d, d, d, d, d, d, d, d, .ali 100000 0, .cell (.val (.int .i64)), d, d, .box 104200 [.val (.int .i64), .val (.sl (.int .i64)), .val .str], d, d, .cell (.val (.int .i64)), .box 104600 [.val (.int .i64), .val (.sl (.int .i64)), .val .str], .box 104700 [.val (.int .i64), .val (.sl (.int .i64))], d, d, d, d, d, d, d, d, d, d, d, d, d, d, d, d, d, d, d, d, d, d, d, d, d, d, d, d, d, d, d, d, d, d, d, d, d, d, d, d, d, d, d, d, d, d, d, d, d, d, d, d, d, d, d, d, d, d, d, d, d, d, d, d, d, d, d, d, d, d, d, d, d, .fnv 29, d, d, d, d, .ali 100000 0, d, d, d, d, .cell (.val (.int .i64)), d, d, d, d, d, d, d, d, d, d, d, d, d, d, d, d, d, d, d, d, d, d, d, d, d, d, d, d, d, d, d, d, d, d, d, d, d, d, d, d, d, d, d, d, d, d, d, d, d, d, d, d, d, d, d, d, d, d]
def sho16_at5_at52_at65 : List Fm := [.box 100000 [.own (.pair (.pair (.int .i64) (.sl (.int .i64))) .str) 100001 false, .val .bool], .cell (.val (.int .i64)), d, d, .box 100400 [.val (.int .i64), .val (.sl (.int .i64)), .val .str], d, d, .cell (.val (.int .i64)), .box 100800 [.val (.int .i64), .val (.sl (.int .i64)), .val .str], .box 100900 [.val (.int .i64), .val (.sl (.int .i64))], d, d, d, d, d, d, d, d, d, d, d, d, d, d, d, d, d, d, d, d, d, d, d, d, d, d, d, d, d, d, d, d, d, d, d, d, d, d, d, d, d, d, d, d, d, d, d, d, d, d, d, d, d, d, d, d, d, d, d, d, d, d, d, d, d, d, d, d, d, d, d, d, d, .fnv 29, d, d, d, d, .ali 100000 0, d, d, d, d, .cell (.val (.int .i64)), d, d, d, d, d, d, d, d, d, d, d, d, d, d, d, d, d, d, d, d, d, d, d, d, d, d, d, d, d, d, d, d, d, d, d, d, d, d, d, d, d, d, d, d, d, d, d, d, d, d, d, d, d, d, d, d, d, d]
noncomputable def impl_ElementsOf_at5_at52_at65 : (((List ((Int × (List Int)) × ByteArray)) × Bool × Unit) × (Int × (List Int)) × ByteArray × Int × (Int × (List Int) × ByteArray × Unit) × Int × (Int × (List Int) × ByteArray × Unit) × (Int × (List Int) × Unit) × Int × Unit) → Option (((List ((Int × (List Int)) × ByteArray)) × Bool × Unit) × Int × (Int × (List Int) × ByteArray × Unit) × Int × (Int × (List Int) × ByteArray × Unit) × (Int × (List Int) × Unit) × Int × Unit) := fun ((v0_0, v0_1, _), (v1_0, v1_1), v2, v39, (v42_0, v42_1, v42_2, _), v45, (v46_0, v46_1, v46_2, _), (v47_0, v47_1, _), v131, _) =>
  Option.bind (slices_ContainsFunc_Element (List.take (List.length v0_0) (List.drop 0 v0_0)) (fun y0 => (impl_found_put_1 y0.1 (v1_0, v1_1)))) fun r1 =>
    bif r1 then
      some (((List.take (List.length v0_0) (List.drop 0 v0_0)), v0_1, ()), v39, (v42_0, v42_1, v42_2, ()), v45, (v46_0, v46_1, v46_2, ()), (v47_0, v47_1, ()), v131, ())
    else
      bif (decide ((((List.length v0_0) : Nat) : Int) ≥ (120 : Int))) then
        some (((List.take (List.length v0_0) (List.drop 0 v0_0)), false, ()), v39, (v42_0, v42_1, v42_2, ()), v45, (v46_0, v46_1, v46_2, ()), (v47_0, v47_1, ()), v131, ())
      else
        bif (decide ((((ByteArray.size v2) : Nat) : Int) > (120 : Int))) then
          some (((List.take (List.length v0_0) (List.drop 0 v0_0)), false, ()), v39, (v42_0, v42_1, v42_2, ()), v45, (v46_0, v46_1, v46_2, ()), (v47_0, v47_1, ()), v131, ())
        else
          if (((0 + (List.length v0_0)) = (List.length v0_0)) ∧ ((((List.length v0_0) + (List.length (List.take 1 (List.drop 0 [((v1_0, v1_1), v2)])))) * 48) ≤ 140737488355328)) then
            some (((List.take ((List.length v0_0) + (List.length (List.take 1 (List.drop 0 [((v1_0, v1_1), v2)])))) (List.drop 0 ((List.drop 0 v0_0) ++ (List.take 1 (List.drop 0 [((v1_0, v1_1), v2)]))))), v0_1, ()), v39, (v42_0, v42_1, v42_2, ()), v45, (v46_0, v46_1, v46_2, ()), (v47_0, v47_1, ()), v131, ())
          else
            none
theorem impl_ElementsOf_at5_at52_at65_eq : inlStep f31.ntmps 82 65 E16_at5_at52_at65 L16_at5_at52_at65_0 f31.results.toList (codeOf f31) shi16_at5_at52_at65 sho16_at5_at52_at65 = impl_ElementsOf_at5_at52_at65 := by kernel_rfl
noncomputable def I16_at5_at52_at65 : CallD := ⟨f31.ntmps, shi16_at5_at52_at65, 82, sho16_at5_at52_at65, impl_ElementsOf_at5_at52_at65⟩
theorem I16_at5_at52_at65_ok : InlOk prog 65 31 I16_at5_at52_at65 := inlOk_of (tysOk_of tyl_ok) E16_at5_at52_at65_ok (L := L16_at5_at52_at65_0) func31 (by kernel_rfl) (c := codeOf f31) (by kernel_rfl) (codeOk_in (L := L16_at5_at52_at65_0) (tysOk_of tyl_ok) E16_at5_at52_at65_ok mixed (c := codeOf f31) (bs := []) (by kernel_rfl) allNil (by kernel_rfl)) (by kernel_rfl) (by kernel_rfl) impl_ElementsOf_at5_at52_at65_eq
noncomputable def E16_at5_at52_at81 : Env := ⟨ty0, fun g => ifEq g 33 (some A33) (ifEq g 44 (some A44) (ifEq g 48 (some A48) (ifEq g 49 (some A49) (ifEq g 30 (some A30) (ifEq g 32 (some A32) (none)))))), fun _ => none, fun _ => none, fun _ => none⟩
theorem E16_at5_at52_at81_ok : FnsOk prog E16_at5_at52_at81 := (oneFn A33_ok func33 (by kernel_rfl) (by kernel_rfl) (oneFn A44_ok func44 (by kernel_rfl) (by kernel_rfl) (oneFn A48_ok func48 (by kernel_rfl) (by kernel_rfl) (oneFn A49_ok func49 (by kernel_rfl) (by kernel_rfl) (oneFn A30_ok func30 (by kernel_rfl) (by kernel_rfl) (oneFn A32_ok func32 (by kernel_rfl) (by kernel_rfl) (noFns _ _)))))))
noncomputable def L16_at5_at52_at81_0 : Nat → Option LoopD := fun _ => none
def shi16_at5_at52_at81 : List Fm := [.box 100000 [.own (.pair (.pair (.int .i64) (.sl (.int .i64))) .str) 100001 false, .val .bool], .agg [.val (.int .i64), .own (.int .i64) 100102 false], .cell (.val .str), d, d, d, d, d, d, d, d, d, d, d, d, d, d, d, d, d, d, d, d, d, d, d, d, d, d, d, d, d, d, d, d, d, d, d, .ali 100000 0, .cell (.val (.int .i64)), d, d, .box 104200 [.val (.int .i64), .val (.sl (.int .i64)), .val .str], d, d, .cell (.val (.int .i64)), d, d, d, d, d, d, d, d, d, d, d, d, d, d, d, d, d, d, d, d, d, d, d, d, d, d, d, d, d, d, d, d, d, d, d, d, d, d, d, d, d, d, d, d, d, d, d, d, d, d, d, d, d, d, d, d, d, d, d, d, d, d, d, d, d, d, d, d, d, d, d, d, d, d, d, .fnv 29, d, d, d, d, .ali 100000 0, d, d, d, d, .cell (.val (.int .i64)), d, d, d, d, d, d, d, d, d, d, d, d, d, d, d, d, d, d, d, d, d, d, d, d, d, d, d, d, d, d, d, d, d, d, d, d, d, d, d, d, d, d, d, d, d, d, d, d, d, d, d, d, d, d, d, d, d, d]
def sho16_at5_at52_at81 : List Fm := [.box 100000 [.own (.pair (.pair (.int .i64) (.sl (.int .i64))) .str) 100001 false, .val .bool], .cell (.val (.int .i64)), d, d, .box 100400 [.val (.int .i64), .val (.sl (.int .i64)), .val .str], d, d, .cell (.val (.int .i64)), d, d, d, d, d, d, d, d, d, d, d, d, d, d, d, d, d, d, d, d, d, d, d, d, d, d, d, d, d, d, d, d, d, d, d, d, d, d, d, d, d, d, d, d, d, d, d, d, d, d, d, d, d, d, d, d, d, d, d, d, d, d, d, d, d, d, d, d, d, d, d, d, d, d, d, .fnv 29, d, d, d, d, .ali 100000 0, d, d, d, d, .cell (.val (.int .i64)), d, d, d, d, d, d, d, d, d, d, d, d, d, d, d, d, d, d, d, d, d, d, d, d, d, d, d, d, d, d, d, d, d, d, d, d, d, d, d, d, d, d, d, d, d, d, d, d, d, d, d, d, d, d, d, d, d, d]
noncomputable def impl_ElementsOf_at5_at52_at81 : (((List ((Int × (List Int)) × ByteArray)) × Bool × Unit) × (Int × (List Int) × Unit) × ByteArray × Int × (Int × (List Int) × ByteArray × Unit) × Int × Int × Unit) → Option (((List ((Int × (List Int)) × ByteArray)) × Bool × Unit) × Int × (Int × (List Int) × ByteArray × Unit) × Int × Int × Unit) := fun ((v0_0, v0_1, _), (v1_0, v1_1, _), v2, v39, (v42_0, v42_1, v42_2, _), v45, v131, _) =>
  Option.bind (slices_ContainsFunc_Element (List.take (List.length v0_0) (List.drop 0 v0_0)) (fun y0 => (impl_found_put_1 y0.1 (v1_0, (List.take (List.length v1_1) (List.drop 0 v1_1)))))) fun r1 =>
    bif r1 then
      some (((List.take (List.length v0_0) (List.drop 0 v0_0)), v0_1, ()), v39, (v42_0, v42_1, v42_2, ()), v45, v131, ())
    else
      bif (decide ((((List.length v0_0) : Nat) : Int) ≥ (120 : Int))) then
        some (((List.take (List.length v0_0) (List.drop 0 v0_0)), false, ()), v39, (v42_0, v42_1, v42_2, ()), v45, v131, ())
      else
        bif (decide ((((ByteArray.size v2) : Nat) : Int) > (120 : Int))) then
          some (((List.take (List.length v0_0) (List.drop 0 v0_0)), false, ()), v39, (v42_0, v42_1, v42_2, ()), v45, v131, ())
        else
          if (((0 + (List.length v0_0)) = (List.length v0_0)) ∧ ((((List.length v0_0) + (List.length (List.take 1 (List.drop 0 [((v1_0, (List.take (List.length v1_1) (List.drop 0 v1_1))), v2)])))) * 48) ≤ 140737488355328)) then
            some (((List.take ((List.length v0_0) + (List.length (List.take 1 (List.drop 0 [((v1_0, (List.take (List.length v1_1) (List.drop 0 v1_1))), v2)])))) (List.drop 0 ((List.drop 0 v0_0) ++ (List.take 1 (List.drop 0 [((v1_0, (List.take (List.length v1_1) (List.drop 0 v1_1))), v2)]))))), v0_1, ()), v39, (v42_0, v42_1, v42_2, ()), v45, v131, ())
          else
            none
theorem impl_ElementsOf_at5_at52_at81_eq : inlStep f31.ntmps 82 81 E16_at5_at52_at81 L16_at5_at52_at81_0 f31.results.toList (codeOf f31) shi16_at5_at52_at81 sho16_at5_at52_at81 = impl_ElementsOf_at5_at52_at81 := by kernel_rfl
noncomputable def I16_at5_at52_at81 : CallD := ⟨f31.ntmps, shi16_at5_at52_at81, 82, sho16_at5_at52_at81, impl_ElementsOf_at5_at52_at81⟩
theorem I16_at5_at52_at81_ok : InlOk prog 81 31 I16_at5_at52_at81 := inlOk_of (tysOk_of tyl_ok) E16_at5_at52_at81_ok (L := L16_at5_at52_at81_0) func31 (by kernel_rfl) (c := codeOf f31) (by kernel_rfl) (codeOk_in (L := L16_at5_at52_at81_0) (tysOk_of tyl_ok) E16_at5_at52_at81_ok mixed (c := codeOf f31) (bs := []) (by kernel_rfl) allNil (by kernel_rfl)) (by kernel_rfl) (by kernel_rfl) impl_ElementsOf_at5_at52_at81_eq
noncomputable def E16_at5_at52 : Env := ⟨ty0, fun g => ifEq g 33 (some A33) (ifEq g 44 (some A44) (ifEq g 48 (some A48) (ifEq g 49 (some A49) (ifEq g 30 (some A30) (ifEq g 32 (some A32) (none)))))), fun _ => none, fun _ => none, fun d => ifI (Nat.beq d 31) (some (31, I16_at5_at52_at31)) (ifI (Nat.beq d 65) (some (31, I16_at5_at52_at65)) (ifI (Nat.beq d 81) (some (31, I16_at5_at52_at81)) (none)))⟩
theorem E16_at5_at52_ok : FnsOk prog E16_at5_at52 := (oneIl (d0 := 31) (g0 := 31) I16_at5_at52_at31_ok (oneIl (d0 := 65) (g0 := 31) I16_at5_at52_at65_ok (oneIl (d0 := 81) (g0 := 31) I16_at5_at52_at81_ok (oneFn A33_ok func33 (by kernel_rfl) (by kernel_rfl) (oneFn A44_ok func44 (by kernel_rfl) (by kernel_rfl) (oneFn A48_ok func48 (by kernel_rfl) (by kernel_rfl) (oneFn A49_ok func49 (by kernel_rfl) (by kernel_rfl) (oneFn A30_ok func30 (by kernel_rfl) (by kernel_rfl) (oneFn A32_ok func32 (by kernel_rfl) (by kernel_rfl) (noFns _ _))))))))))
noncomputable def L16_at5_at52_0 : Nat → Option LoopD := fun _ => none
def sh16_at5_at52_5 : List Fm := [.box 100000 [.own (.pair (.pair (.int .i64) (.sl (.int .i64))) .str) 100001 false, .val .bool], .cell (.val (.int .i64)), d, d, .box 100400 [.val (.int .i64), .val (.sl (.int .i64)), .val .str], d, d, .cell (.val (.int .i64)), d, d, d, d, d, d, d, d, d, d, d, d, d, d, d, d, d, d, d, d, d, d, d, d, d, d, d, d, d, d, d, d, d, d, d, d, d, d, d, d, d, d, d, d, d, d, d, d, d, d, d, d, d, d, d, d, d, d, d, d, d, d, d, d, d, d, d, d, d, d, d, d, d, d, d, .fnv 29, d, d, d, d, .ali 100000 0, d, d, d, d, .cell (.val (.int .i64)), d, d, d, d, d, d, d, d, d, d, d, d, d, d, d, d, d, d, d, d, d, d, d, d, d, d, d, d, d, d, d, d, d, d, d, d, d, d, d, d, d, d, d, d, d, d, d, d, d, d, d, d, d, d, d, d, d, d]
def xs16_at5_at52_5 : List (Ex × List Fm) := [(.exit 0, [d, d, d, d, d, d, d, d, d, d, d, d, d, d, d, d, d, d, d, d, d, d, d, d, d, d, d, d, d, d, d, d, d, d, d, d, d, d, d, d, d, d, d, d, d, d, d, d, d, d, d, d, d, d, d, d, d, d, d, d, d, d, d, d, d, d, d, d, d, d, d, d, d, d, d, d, d, d, d, d, d, d, d, .fnv 29, d, d, d, d, .box 108800 [.own (.pair (.pair (.int .i64) (.sl (.int .i64))) .str) 108801 false, .val .bool], d, d, d, d, .cell (.val (.int .i64)), d, d, d, d, d, d, d, d, d, d, d, d, d, d, d, d, d, d, d, d, d, d, d, d, d, d, d, d, d, d, d, d, d, d, d, d, d, d, d, d, d, d, d, d, d, d, d, d, d, d, d, d, d, d, d, d, d, d])]
noncomputable def impl_ElementsOf_at5_at52_l5 : (((List ((Int × (List Int)) × ByteArray)) × Bool × Unit) × Int × (Int × (List Int) × ByteArray × Unit) × Int × Int × Unit) → Option ((((List ((Int × (List Int)) × ByteArray)) × Bool × Unit) × Int × (Int × (List Int) × ByteArray × Unit) × Int × Int × Unit) ⊕ ((((List ((Int × (List Int)) × ByteArray)) × Bool × Unit) × Int × Unit))) := fun ((v0_0, v0_1, _), v1, (v4_0, v4_1, v4_2, _), v7, v93, _) =>
  bif (decide (v7 ≤ v1)) then
    bif v0_1 then
      if (((0 : Int) ≤ v7) ∧ (v7 < (((List.length v0_0) : Nat) : Int))) then
        Option.bind (impl_MulGrades (v4_0, v4_1) ((List.getD v0_0 (0 + (Int.toNat v7)) (((0 : Int), []), (⟨Array.empty⟩ : ByteArray))).1.1, (List.getD v0_0 (0 + (Int.toNat v7)) (((0 : Int), []), (⟨Array.empty⟩ : ByteArray))).1.2)) fun ((r0, r1), r2) =>
          if (((ByteArray.size v4_2) + (ByteArray.size (List.getD v0_0 (0 + (Int.toNat v7)) (((0 : Int), []), (⟨Array.empty⟩ : ByteArray))).2)) ≤ 9223372036854775807) then
            Option.bind (impl_ElementsOf_at5_at52_at65 (((List.take (List.length v0_0) (List.drop 0 v0_0)), v0_1, ()), (r0, (List.take (List.length r1) (List.drop 0 r1))), (v4_2 ++ (List.getD v0_0 (0 + (Int.toNat v7)) (((0 : Int), []), (⟨Array.empty⟩ : ByteArray))).2), v1, (v4_0, v4_1, v4_2, ()), v7, ((List.getD v0_0 (0 + (Int.toNat v7)) (((0 : Int), []), (⟨Array.empty⟩ : ByteArray))).1.1, (List.getD v0_0 (0 + (Int.toNat v7)) (((0 : Int), []), (⟨Array.empty⟩ : ByteArray))).1.2, (List.getD v0_0 (0 + (Int.toNat v7)) (((0 : Int), []), (⟨Array.empty⟩ : ByteArray))).2, ()), (r0, (List.take (List.length r1) (List.drop 0 r1)), ()), v93, ())) fun ((r3, r4, _), r5, (r6, r7, r8, _), r9, (r10, r11, r12, _), (r13, r14, _), r15, _) =>
              Option.bind (impl_MulGrades (r10, r11) (r6, r7)) fun ((r16, r17), r18) =>
                if (((ByteArray.size r12) + (ByteArray.size r8)) ≤ 9223372036854775807) then
                  Option.bind (impl_ElementsOf_at5_at52_at81 (((List.take (List.length r3) (List.drop 0 r3)), r4, ()), (r16, (List.take (List.length r17) (List.drop 0 r17)), ()), (r12 ++ r8), r5, (r6, r7, r8, ()), r9, r15, ())) fun ((r19, r20, _), r21, (r22, r23, r24, _), r25, r26, _) =>
                    some (Sum.inl (((List.take (List.length r19) (List.drop 0 r19)), r20, ()), r21, (r22, r23, r24, ()), (IntKind.wrap .i64 (r25 + (1 : Int))), r26, ()))
                else
                  none
          else
            none
      else
        none
    else
      some (Sum.inr (((List.take (List.length v0_0) (List.drop 0 v0_0)), v0_1, ()), v93, ()))
  else
    some (Sum.inr (((List.take (List.length v0_0) (List.drop 0 v0_0)), v0_1, ()), v93, ()))
theorem impl_ElementsOf_at5_at52_l5_eq : loopStep 82 E16_at5_at52 L16_at5_at52_0 (loopOf f29 5) sh16_at5_at52_5 xs16_at5_at52_5 = impl_ElementsOf_at5_at52_l5 := by kernel_rfl
theorem loop16_at5_at52_5 {L : Nat → Option LoopD} (h : L 5 = some ⟨82, sh16_at5_at52_5, xs16_at5_at52_5, impl_ElementsOf_at5_at52_l5⟩) : LoopOk prog L (loopOf f29 5) :=
  loopOk (tysOk_of tyl_ok) E16_at5_at52_ok (codeOk_in (L := L16_at5_at52_0) (tysOk_of tyl_ok) E16_at5_at52_ok mixed (c := loopOf f29 5) (bs := []) (by kernel_rfl) allNil (by kernel_rfl)) (by kernel_rfl) (by kernel_rfl) impl_ElementsOf_at5_at52_l5_eq (by rw [show firstId (loopOf f29 5) = 5 from by kernel_rfl]; exact h)
noncomputable def L16_at5_at52_1 : Nat → Option LoopD := fun n => ifEq n 5 (some ⟨82, sh16_at5_at52_5, xs16_at5_at52_5, impl_ElementsOf_at5_at52_l5⟩) (L16_at5_at52_0 n)
def shi16_at5_at52 : List Fm := [.box 100000 [.own (.pair (.pair (.int .i64) (.sl (.int .i64))) .str) 100001 false, .val .bool], .cell (.val (.int .i64)), d, d, d, d, d, d, d, d, d, d, d, d, d, d, d, d, d, d, d, d, d, d, d, d, d, d, d, d, d, d, d, d, d, d, d, d, d, d, d, d, d, d, d, d, d, d, d, d, d, d, d, d, d, d, d, d, d, d, d, d, d, d, d, d, d, d, d, d, d, d, d, d, d, d, d, d, d, d, d, d, d, .fnv 29, d, d, d, d, .ali 100000 0, d, d, d, d, .cell (.val (.int .i64)), d, d, d, d, d, d, d, d, d, d, d, d, d, d, d, d, d, d, d, d, d, d, d, d, d, d, d, d, d, d, d, d, d, d, d, d, d, d, d, d, d, d, d, d, d, d, d, d, d, d, d, d, d, d, d, d, d, d]
def sho16_at5_at52 : List Fm := [d, .fnv 29, d, d, d, d, .box 100600 [.own (.pair (.pair (.int .i64) (.sl (.int .i64))) .str) 100601 false, .val .bool], d, d, d, d, .cell (.val (.int .i64)), d, d, d, d, d, d, d, d, d, d, d, d, d, d, d, d, d, d, d, d, d, d, d, d, d, d, d, d, d, d, d, d, d, d, d, d, d, d, d, d, d, d, d, d, d, d, d, d, d, d, d, d, d, d, d, d, d, d]
noncomputable def impl_ElementsOf_at5_at52 : (((List ((Int × (List Int)) × ByteArray)) × Bool × Unit) × Int × Int × Unit) → Option (((List ((Int × (List Int)) × ByteArray)) × Bool × Unit) × Int × Unit) := fun ((v0_0, v0_1, _), v1, v93, _) =>
  if (((0 : Int) ≤ v1) ∧ (v1 < (((List.length v0_0) : Nat) : Int))) then
    Option.bind (impl_Stabilise ((List.getD v0_0 (0 + (Int.toNat v1)) (((0 : Int), []), (⟨Array.empty⟩ : ByteArray))).1.1, (List.getD v0_0 (0 + (Int.toNat v1)) (((0 : Int), []), (⟨Array.empty⟩ : ByteArray))).1.2)) fun ((r0, r1), r2) =>
      bif r2 then
        if (((ByteArray.size (⟨#[(40 : UInt8)]⟩ : ByteArray)) + (ByteArray.size (List.getD v0_0 (0 + (Int.toNat v1)) (((0 : Int), []), (⟨Array.empty⟩ : ByteArray))).2)) ≤ 9223372036854775807) then
          if (((ByteArray.size ((⟨#[(40 : UInt8)]⟩ : ByteArray) ++ (List.getD v0_0 (0 + (Int.toNat v1)) (((0 : Int), []), (⟨Array.empty⟩ : ByteArray))).2)) + (ByteArray.size (⟨#[(41 : UInt8), (35 : UInt8)]⟩ : ByteArray))) ≤ 9223372036854775807) then
            Option.bind (impl_ElementsOf_at5_at52_at31 (((List.take (List.length v0_0) (List.drop 0 v0_0)), v0_1, ()), (r0, (List.take (List.length r1) (List.drop 0 r1)), ()), (((⟨#[(40 : UInt8)]⟩ : ByteArray) ++ (List.getD v0_0 (0 + (Int.toNat v1)) (((0 : Int), []), (⟨Array.empty⟩ : ByteArray))).2) ++ (⟨#[(41 : UInt8), (35 : UInt8)]⟩ : ByteArray)), v1, ((List.getD v0_0 (0 + (Int.toNat v1)) (((0 : Int), []), (⟨Array.empty⟩ : ByteArray))).1.1, (List.getD v0_0 (0 + (Int.toNat v1)) (((0 : Int), []), (⟨Array.empty⟩ : ByteArray))).1.2, (List.getD v0_0 (0 + (Int.toNat v1)) (((0 : Int), []), (⟨Array.empty⟩ : ByteArray))).2, ()), v93, ())) fun ((r3, r4, _), r5, (r6, r7, r8, _), r9, _) =>
              Option.bind (loopF impl_ElementsOf_at5_at52_l5 (((List.take (List.length r3) (List.drop 0 r3)), r4, ()), r5, (r6, r7, r8, ()), (0 : Int), r9, ())) fun ((r10, r11, _), r12, _) =>
                some (((List.take (List.length r10) (List.drop 0 r10)), r11, ()), r12, ())
          else
            none
        else
          none
      else
        Option.bind (loopF impl_ElementsOf_at5_at52_l5 (((List.take (List.length v0_0) (List.drop 0 v0_0)), v0_1, ()), v1, ((List.getD v0_0 (0 + (Int.toNat v1)) (((0 : Int), []), (⟨Array.empty⟩ : ByteArray))).1.1, (List.getD v0_0 (0 + (Int.toNat v1)) (((0 : Int), []), (⟨Array.empty⟩ : ByteArray))).1.2, (List.getD v0_0 (0 + (Int.toNat v1)) (((0 : Int), []), (⟨Array.empty⟩ : ByteArray))).2, ()), (0 : Int), v93, ())) fun ((r13, r14, _), r15, _) =>
          some (((List.take (List.length r13) (List.drop 0 r13)), r14, ()), r15, ())
  else
    none
theorem impl_ElementsOf_at5_at52_eq : inlStep f29.ntmps 62 52 E16_at5_at52 L16_at5_at52_1 f29.results.toList (codeOf f29) shi16_at5_at52 sho16_at5_at52 = impl_ElementsOf_at5_at52 := by kernel_rfl
noncomputable def I16_at5_at52 : CallD := ⟨f29.ntmps, shi16_at5_at52, 62, sho16_at5_at52, impl_ElementsOf_at5_at52⟩
theorem I16_at5_at52_ok : InlOk prog 52 29 I16_at5_at52 := inlOk_of (tysOk_of tyl_ok) E16_at5_at52_ok (L := L16_at5_at52_1) func29 (by kernel_rfl) (c := codeOf f29) (by kernel_rfl) (codeOk_in (L := L16_at5_at52_1) (tysOk_of tyl_ok) E16_at5_at52_ok mixed (c := codeOf f29) (bs := [loopOf f29 5]) (by kernel_rfl) (allCons (loop16_at5_at52_5 rfl) allNil) (by kernel_rfl)) (by kernel_rfl) (by kernel_rfl) impl_ElementsOf_at5_at52_eq
noncomputable def E16_at5 : Env := ⟨ty0, fun g => ifEq g 33 (some A33) (ifEq g 44 (some A44) (ifEq g 48 (some A48) (ifEq g 49 (some A49) (ifEq g 30 (some A30) (ifEq g 32 (some A32) (none)))))), fun _ => none, fun _ => none, fun d => ifI (Nat.beq d 32) (some (31, I16_at5_at32)) (ifI (Nat.beq d 52) (some (29, I16_at5_at52)) (none))⟩
theorem E16_at5_ok : FnsOk prog E16_at5 := (oneIl (d0 := 32) (g0 := 31) I16_at5_at32_ok (oneIl (d0 := 52) (g0 := 29) I16_at5_at52_ok (oneFn A33_ok func33 (by kernel_rfl) (by kernel_rfl) (oneFn A44_ok func44 (by kernel_rfl) (by kernel_rfl) (oneFn A48_ok func48 (by kernel_rfl) (by kernel_rfl) (oneFn A49_ok func49 (by kernel_rfl) (by kernel_rfl) (oneFn A30_ok func30 (by kernel_rfl) (by kernel_rfl) (oneFn A32_ok func32 (by kernel_rfl) (by kernel_rfl) (noFns _ _)))))))))
noncomputable def L16_at5_0 : Nat → Option LoopD := fun _ => none
def sh16_at5_5 : List Fm := [d, .fnv 29, .box 100200 [.val (.int .i64), .val (.sl (.int .i64)), .val (.sl (.int .i64)), .val (.sl (.pair (.int .i64) (.pair .str (.pair (.int .i64) (.int .i64)))))], d, d, d, .box 100600 [.own (.pair (.pair (.int .i64) (.sl (.int .i64))) .str) 100601 false, .val .bool], d, d, d, d, d, d, d, d, d, d, .cell (.own .str 101700 false), .cell (.val (.int .i64)), .cell (.val (.int .i64)), d, d, d, d, d, d, d, d, d, d, d, d, d, d, d, d, d, d, d, d, d, d, d, d, d, d, d, d, d, d, d, d, d, d, d, d, d, d, d, d, d, d, d, d, d, d, d, d, d, d]
def xs16_at5_5 : List (Ex × List Fm) := [(.exit 0, [d, .fnv 29, d, d, d, d, .box 100600 [.own (.pair (.pair (.int .i64) (.sl (.int .i64))) .str) 100601 false, .val .bool], d, d, d, d, d, d, d, d, d, d, d, d, d, d, d, d, d, d, d, d, d, d, d, d, d, d, d, d, d, d, d, d, d, d, d, d, d, d, d, d, d, d, d, d, d, d, d, d, d, d, d, d, d, d, d, d, d, d, d, d, d, d, d])]
noncomputable def impl_ElementsOf_at5_l5 : ((Int × (List Int) × (List Int) × (List (Int × (ByteArray × (Int × Int)))) × Unit) × ((List ((Int × (List Int)) × ByteArray)) × Bool × Unit) × (List ByteArray) × Int × Int × Unit) → Option (((Int × (List Int) × (List Int) × (List (Int × (ByteArray × (Int × Int)))) × Unit) × ((List ((Int × (List Int)) × ByteArray)) × Bool × Unit) × (List ByteArray) × Int × Int × Unit) ⊕ ((((List ((Int × (List Int)) × ByteArray)) × Bool × Unit) × Unit))) := fun ((v2_0, v2_1, v2_2, v2_3, _), (v6_0, v6_1, _), v17, v18, v19, _) =>
  bif (decide (v19 < v18)) then
    if (((0 : Int) ≤ v19) ∧ (v19 < (((List.length v17) : Nat) : Int))) then
      Option.bind (impl_ValueOf (v2_0, v2_1, v2_2, v2_3) (List.getD v17 (0 + (Int.toNat v19)) (⟨Array.empty⟩ : ByteArray))) fun ((r0, r1), r2) =>
        Option.bind (impl_ElementsOf_at5_at32 (((List.take (List.length v6_0) (List.drop 0 v6_0)), v6_1, ()), (r0, (List.take (List.length r1) (List.drop 0 r1)), ()), (List.getD v17 (0 + (Int.toNat v19)) (⟨Array.empty⟩ : ByteArray)), (v2_0, v2_1, v2_2, v2_3, ()), (List.take (List.length v17) (List.drop 0 v17)), v18, v19, ())) fun ((r3, r4, r5, r6, _), (r7, r8, _), r9, r10, r11, _) =>
          some (Sum.inl ((r3, r4, r5, r6, ()), ((List.take (List.length r7) (List.drop 0 r7)), r8, ()), (List.take (List.length r9) (List.drop 0 r9)), r10, (IntKind.wrap .i64 (r11 + (1 : Int))), ()))
    else
      none
  else
    some (Sum.inr (((List.take (List.length v6_0) (List.drop 0 v6_0)), v6_1, ()), ()))
theorem impl_ElementsOf_at5_l5_eq : loopStep 62 E16_at5 L16_at5_0 (loopOf f28 5) sh16_at5_5 xs16_at5_5 = impl_ElementsOf_at5_l5 := by kernel_rfl
theorem loop16_at5_5 {L : Nat → Option LoopD} (h : L 5 = some ⟨62, sh16_at5_5, xs16_at5_5, impl_ElementsOf_at5_l5⟩) : LoopOk prog L (loopOf f28 5) :=
  loopOk (tysOk_of tyl_ok) E16_at5_ok (codeOk_in (L := L16_at5_0) (tysOk_of tyl_ok) E16_at5_ok mixed (c := loopOf f28 5) (bs := []) (by kernel_rfl) allNil (by kernel_rfl)) (by kernel_rfl) (by kernel_rfl) impl_ElementsOf_at5_l5_eq (by rw [show firstId (loopOf f28 5) = 5 from by kernel_rfl]; exact h)
noncomputable def L16_at5_1 : Nat → Option LoopD := fun n => ifEq n 5 (some ⟨62, sh16_at5_5, xs16_at5_5, impl_ElementsOf_at5_l5⟩) (L16_at5_0 n)
def sh16_at5_11 : List Fm := [d, .fnv 29, d, d, d, d, .box 100600 [.own (.pair (.pair (.int .i64) (.sl (.int .i64))) .str) 100601 false, .val .bool], d, d, d, d, .cell (.val (.int .i64)), d, d, d, d, d, d, d, d, d, d, d, d, d, d, d, d, d, d, d, d, d, d, d, d, d, d, d, d, d, d, d, d, d, d, d, d, d, d, d, d, d, d, d, d, d, d, d, d, d, d, d, d, d, d, d, d, d, d]
def xs16_at5_11 : List (Ex × List Fm) := [(.exit 2, [d, d, d, d, d, d, .box 100600 [.own (.pair (.pair (.int .i64) (.sl (.int .i64))) .str) 100601 false, .val .bool], d, d, d, d, d, d, d, d, d, d, d, d, d, d, d, d, d, d, d, d, d, d, d, d, d, d, d, d, d, d, d, d, d, d, d, d, d, d, d, d, d, d, d, d, d, d, d, d, d, d, d, d, d, d, d, d, d, d, d, d, d, d, d])]
noncomputable def impl_ElementsOf_at5_l11 : (((List ((Int × (List Int)) × ByteArray)) × Bool × Unit) × Int × Unit) → Option ((((List ((Int × (List Int)) × ByteArray)) × Bool × Unit) × Int × Unit) ⊕ ((((List ((Int × (List Int)) × ByteArray)) × Bool × Unit) × Unit))) := fun ((v6_0, v6_1, _), v11, _) =>
  bif (decide (v11 < (((List.length v6_0) : Nat) : Int))) then
    bif v6_1 then
      Option.bind (impl_ElementsOf_at5_at52 (((List.take (List.length v6_0) (List.drop 0 v6_0)), v6_1, ()), v11, v11, ())) fun ((r0, r1, _), r2, _) =>
        some (Sum.inl (((List.take (List.length r0) (List.drop 0 r0)), r1, ()), (IntKind.wrap .i64 (r2 + (1 : Int))), ()))
    else
      some (Sum.inr (((List.take (List.length v6_0) (List.drop 0 v6_0)), v6_1, ()), ()))
  else
    some (Sum.inr (((List.take (List.length v6_0) (List.drop 0 v6_0)), v6_1, ()), ()))
theorem impl_ElementsOf_at5_l11_eq : loopStep 62 E16_at5 L16_at5_1 (loopOf f28 11) sh16_at5_11 xs16_at5_11 = impl_ElementsOf_at5_l11 := by kernel_rfl
theorem loop16_at5_11 {L : Nat → Option LoopD} (h : L 11 = some ⟨62, sh16_at5_11, xs16_at5_11, impl_ElementsOf_at5_l11⟩) : LoopOk prog L (loopOf f28 11) :=
  loopOk (tysOk_of tyl_ok) E16_at5_ok (codeOk_in (L := L16_at5_1) (tysOk_of tyl_ok) E16_at5_ok mixed (c := loopOf f28 11) (bs := []) (by kernel_rfl) allNil (by kernel_rfl)) (by kernel_rfl) (by kernel_rfl) impl_ElementsOf_at5_l11_eq (by rw [show firstId (loopOf f28 11) = 11 from by kernel_rfl]; exact h)
noncomputable def L16_at5_2 : Nat → Option LoopD := fun n => ifEq n 11 (some ⟨62, sh16_at5_11, xs16_at5_11, impl_ElementsOf_at5_l11⟩) (L16_at5_1 n)
def shi16_at5 : List Fm := [.cell (.val (.pair (.int .i64) (.pair (.sl (.int .i64)) (.pair (.sl (.int .i64)) (.sl (.pair (.int .i64) (.pair .str (.pair (.int .i64) (.int .i64))))))))), .fnv 29, d, d, d, d, d, d, d, d, d, d, d, d, d, d, d, d, d, d, d, d, d, d, d, d, d, d, d, d, d, d, d, d, d, d, d, d, d, d, d, d, d, d, d, d, d, d, d, d, d, d, d, d, d, d, d, d, d, d, d, d, d, d, d, d, d, d, d, d]
def sho16_at5 : List Fm := [d, d, d, d, d, .tup [.own (.pair (.pair (.int .i64) (.sl (.int .i64))) .str) 100501 false, .val .bool], d, d]
noncomputable def impl_ElementsOf_at5 : ((Int × ((List Int) × ((List Int) × (List (Int × (ByteArray × (Int × Int))))))) × Unit) → Option (((List ((Int × (List Int)) × ByteArray)) × Bool × Unit) × Unit) := fun ((v0_0, v0_1, v0_2, v0_3), _) =>
  Option.bind (impl_AutomatonValid (v0_0, v0_1, v0_2, v0_3)) fun r0 =>
    bif (!r0) then
      some (([], false, ()), ())
    else
      Option.bind (loopF impl_ElementsOf_at5_l5 ((v0_0, v0_1, v0_2, v0_3, ()), ([], true, ()), (List.take 2 (List.drop 0 [(⟨#[(97 : UInt8)]⟩ : ByteArray), (⟨#[(98 : UInt8)]⟩ : ByteArray)])), ((2 : Nat) : Int), (0 : Int), ())) fun ((r1, r2, _), _) =>
        Option.bind (loopF impl_ElementsOf_at5_l11 (((List.take (List.length r1) (List.drop 0 r1)), r2, ()), (0 : Int), ())) fun ((r3, r4, _), _) =>
          bif (!r4) then
            some (([], false, ()), ())
          else
            some (((List.take (List.length r3) (List.drop 0 r3)), true, ()), ())
theorem impl_ElementsOf_at5_eq : inlStep f28.ntmps 8 5 E16_at5 L16_at5_2 f28.results.toList (codeOf f28) shi16_at5 sho16_at5 = impl_ElementsOf_at5 := by kernel_rfl
noncomputable def I16_at5 : CallD := ⟨f28.ntmps, shi16_at5, 8, sho16_at5, impl_ElementsOf_at5⟩
theorem I16_at5_ok : InlOk prog 5 28 I16_at5 := inlOk_of (tysOk_of tyl_ok) E16_at5_ok (L := L16_at5_2) func28 (by kernel_rfl) (c := codeOf f28) (by kernel_rfl) (codeOk_in (L := L16_at5_2) (tysOk_of tyl_ok) E16_at5_ok mixed (c := codeOf f28) (bs := [loopOf f28 5, loopOf f28 11]) (by kernel_rfl) (allCons (loop16_at5_5 rfl) (allCons (loop16_at5_11 rfl) allNil)) (by kernel_rfl)) (by kernel_rfl) (by kernel_rfl) impl_ElementsOf_at5_eq
noncomputable def E16 : Env := ⟨ty0, fun g => ifEq g 33 (some A33) (ifEq g 44 (some A44) (ifEq g 48 (some A48) (ifEq g 49 (some A49) (ifEq g 30 (some A30) (ifEq g 32 (some A32) (none)))))), fun _ => none, fun _ => none, fun d => ifI (Nat.beq d 5) (some (28, I16_at5)) (none)⟩
theorem E16_ok : FnsOk prog E16 := (oneIl (d0 := 5) (g0 := 28) I16_at5_ok (oneFn A33_ok func33 (by kernel_rfl) (by kernel_rfl) (oneFn A44_ok func44 (by kernel_rfl) (by kernel_rfl) (oneFn A48_ok func48 (by kernel_rfl) (by kernel_rfl) (oneFn A49_ok func49 (by kernel_rfl) (by kernel_rfl) (oneFn A30_ok func30 (by kernel_rfl) (by kernel_rfl) (oneFn A32_ok func32 (by kernel_rfl) (by kernel_rfl) (noFns _ _))))))))
noncomputable def L16_0 : Nat → Option LoopD := fun _ => none
noncomputable def impl_ElementsOf : (Int × ((List Int) × ((List Int) × (List (Int × (ByteArray × (Int × Int))))))) → Option ((List ((Int × (List Int)) × ByteArray)) × Bool) := fun (a0_0, a0_1, a0_2, a0_3) =>
  Option.bind (impl_ElementsOf_at5 ((a0_0, a0_1, a0_2, a0_3), ())) fun ((r0, r1, _), _) =>
    some ((List.take (List.length r0) (List.drop 0 r0)), r1)
noncomputable def A16 : FnA := ⟨[.v (.pair (.int .i64) (.pair (.sl (.int .i64)) (.pair (.sl (.int .i64)) (.sl (.pair (.int .i64) (.pair .str (.pair (.int .i64) (.int .i64))))))))], true, [.sl (.pair (.pair (.int .i64) (.sl (.int .i64))) .str), .bool], fun x => impl_ElementsOf x.1⟩
theorem impl_ElementsOf_eq : fnF E16 L16_0 [.v (.pair (.int .i64) (.pair (.sl (.int .i64)) (.pair (.sl (.int .i64)) (.sl (.pair (.int .i64) (.pair .str (.pair (.int .i64) (.int .i64))))))))] true [.sl (.pair (.pair (.int .i64) (.sl (.int .i64))) .str), .bool] f16.ntmps f16.results.toList (codeOf f16) = fun x => impl_ElementsOf x.1 := by kernel_rfl
theorem A16_ok : FnOk prog 16 A16 := by
  have h := fnOk_of_run (P := prog) (E := E16) (tysOk_of tyl_ok) E16_ok (L := L16_0) (ps := [.v (.pair (.int .i64) (.pair (.sl (.int .i64)) (.pair (.sl (.int .i64)) (.sl (.pair (.int .i64) (.pair .str (.pair (.int .i64) (.int .i64))))))))]) (own := true) (outs := [.sl (.pair (.pair (.int .i64) (.sl (.int .i64))) .str), .bool]) func16 (c := codeOf f16) (by kernel_rfl) (codeOk_in (L := L16_0) (tysOk_of tyl_ok) E16_ok mixed (c := codeOf f16) (bs := []) (by kernel_rfl) allNil (by kernel_rfl))
  rw [impl_ElementsOf_eq] at h
  exact h
/-! impl.GradeBetween -/
noncomputable def E17 : Env := ⟨ty0, fun g => ifEq g 33 (some A33) (ifEq g 34 (some A34) (ifEq g 35 (some A35) (none))), fun _ => none, fun _ => none, fun _ => none⟩
theorem E17_ok : FnsOk prog E17 := (oneFn A33_ok func33 (by kernel_rfl) (by kernel_rfl) (oneFn A34_ok func34 (by kernel_rfl) (by kernel_rfl) (oneFn A35_ok func35 (by kernel_rfl) (by kernel_rfl) (noFns _ _))))
noncomputable def L17_0 : Nat → Option LoopD := fun _ => none
def sh17_8 : List Fm := [d, d, .box 100200 [.val (.int .i64), .val (.sl (.int .i64)), .val (.sl (.int .i64)), .val (.sl (.pair (.int .i64) (.pair .str (.pair (.int .i64) (.int .i64)))))], .box 100300 [.val (.int .i64), .val (.sl (.int .i64))], d, .cell (.val (.int .i64)), d, .cell (.val (.int .i64)), d, d, d, d, d, d, d, d, d, d, d, d, d, d, d, d, d, d, .cell (.val (.sl (.int .i64))), .cell (.val (.int .i64)), .cell (.val (.int .i64)), d, d, d, d, .cell (.val (.sl (.int .i64))), .cell (.val (.int .i64)), .cell (.val (.int .i64)), d, d, d, d, d, d, d, d, d, d, d, d]
def xs17_8 : List (Ex × List Fm) := [(.exit 2, [d, d, .box 100200 [.val (.int .i64), .val (.sl (.int .i64)), .val (.sl (.int .i64)), .val (.sl (.pair (.int .i64) (.pair .str (.pair (.int .i64) (.int .i64)))))], .box 100300 [.val (.int .i64), .val (.sl (.int .i64))], d, .cell (.val (.int .i64)), d, d, d, d, d, d, d, d, d, d, d, d, d, d, d, d, d, d, d, d, .cell (.val (.sl (.int .i64))), .cell (.val (.int .i64)), .cell (.val (.int .i64)), d, d, d, d, d, d, d, d, d, d, d, d, d, d, d, d, d, d, d])]
noncomputable def impl_GradeBetween_l8 : ((Int × (List Int) × (List Int) × (List (Int × (ByteArray × (Int × Int)))) × Unit) × (Int × (List Int) × Unit) × Int × Int × (List Int) × Int × Int × (List Int) × Int × Int × Unit) → Option (((Int × (List Int) × (List Int) × (List (Int × (ByteArray × (Int × Int)))) × Unit) × (Int × (List Int) × Unit) × Int × Int × (List Int) × Int × Int × (List Int) × Int × Int × Unit) ⊕ (((Int × (List Int) × (List Int) × (List (Int × (ByteArray × (Int × Int)))) × Unit) × (Int × (List Int) × Unit) × Int × (List Int) × Int × Int × Unit))) := fun ((v2_0, v2_1, v2_2, v2_3, _), (v3_0, v3_1, _), v5, v7, v26, v27, v28, v33, v34, v35, _) =>
  bif (decide (v35 < v34)) then
    if (((0 : Int) ≤ v35) ∧ (v35 < (((List.length v33) : Nat) : Int))) then
      Option.bind (impl_Matrix_at (v3_0, v3_1) v7 (List.getD v33 (Int.toNat v35) (0 : Int))) fun r0 =>
        some (Sum.inl ((v2_0, v2_1, v2_2, v2_3, ()), (v3_0, v3_1, ()), (if (r0 < v5) then r0 else v5), v7, v26, v27, v28, v33, v34, (IntKind.wrap .i64 (v35 + (1 : Int))), ()))
    else
      none
  else
    some (Sum.inr ((v2_0, v2_1, v2_2, v2_3, ()), (v3_0, v3_1, ()), v5, v26, v27, v28, ()))
theorem impl_GradeBetween_l8_eq : loopStep 48 E17 L17_0 (loopOf f17 8) sh17_8 xs17_8 = impl_GradeBetween_l8 := by kernel_rfl
theorem loop17_8 {L : Nat → Option LoopD} (h : L 8 = some ⟨48, sh17_8, xs17_8, impl_GradeBetween_l8⟩) : LoopOk prog L (loopOf f17 8) :=
  loopOk (tysOk_of tyl_ok) E17_ok (codeOk_in (L := L17_0) (tysOk_of tyl_ok) E17_ok mixed (c := loopOf f17 8) (bs := []) (by kernel_rfl) allNil (by kernel_rfl)) (by kernel_rfl) (by kernel_rfl) impl_GradeBetween_l8_eq (by rw [show firstId (loopOf f17 8) = 8 from by kernel_rfl]; exact h)
noncomputable def L17_1 : Nat → Option LoopD := fun n => ifEq n 8 (some ⟨48, sh17_8, xs17_8, impl_GradeBetween_l8⟩) (L17_0 n)
def sh17_5 : List Fm := [d, d, .box 100200 [.val (.int .i64), .val (.sl (.int .i64)), .val (.sl (.int .i64)), .val (.sl (.pair (.int .i64) (.pair .str (.pair (.int .i64) (.int .i64)))))], .box 100300 [.val (.int .i64), .val (.sl (.int .i64))], d, .cell (.val (.int .i64)), d, d, d, d, d, d, d, d, d, d, d, d, d, d, d, d, d, d, d, d, .cell (.val (.sl (.int .i64))), .cell (.val (.int .i64)), .cell (.val (.int .i64)), d, d, d, d, d, d, d, d, d, d, d, d, d, d, d, d, d, d, d]
def xs17_5 : List (Ex × List Fm) := [(.exit 0, [d, d, d, d, d, .cell (.val (.int .i64)), d, d, d, d, d, d, d, d, d, d, d, d, d, d, d, d, d, d, d, d, d, d, d, d, d, d, d, d, d, d, d, d, d, d, d, d, d, d, d, d, d, d])]
noncomputable def impl_GradeBetween_l5 : ((Int × (List Int) × (List Int) × (List (Int × (ByteArray × (Int × Int)))) × Unit) × (Int × (List Int) × Unit) × Int × (List Int) × Int × Int × Unit) → Option (((Int × (List Int) × (List Int) × (List (Int × (ByteArray × (Int × Int)))) × Unit) × (Int × (List Int) × Unit) × Int × (List Int) × Int × Int × Unit) ⊕ ((Int × Unit))) := fun ((v2_0, v2_1, v2_2, v2_3, _), (v3_0, v3_1, _), v5, v26, v27, v28, _) =>
  bif (decide (v28 < v27)) then
    if (((0 : Int) ≤ v28) ∧ (v28 < (((List.length v26) : Nat) : Int))) then
      Option.bind (loopF impl_GradeBetween_l8 ((v2_0, v2_1, v2_2, v2_3, ()), (v3_0, v3_1, ()), v5, (List.getD v26 (Int.toNat v28) (0 : Int)), v26, v27, v28, v2_2, (((List.length v2_2) : Nat) : Int), (0 : Int), ())) fun ((r0, r1, r2, r3, _), (r4, r5, _), r6, r7, r8, r9, _) =>
        some (Sum.inl ((r0, r1, r2, r3, ()), (r4, r5, ()), r6, r7, r8, (IntKind.wrap .i64 (r9 + (1 : Int))), ()))
    else
      none
  else
    some (Sum.inr (v5, ()))
theorem impl_GradeBetween_l5_eq : loopStep 48 E17 L17_1 (loopOf f17 5) sh17_5 xs17_5 = impl_GradeBetween_l5 := by kernel_rfl
theorem loop17_5 {L : Nat → Option LoopD} (h : L 5 = some ⟨48, sh17_5, xs17_5, impl_GradeBetween_l5⟩) : LoopOk prog L (loopOf f17 5) :=
  loopOk (tysOk_of tyl_ok) E17_ok (codeOk_in (L := L17_1) (tysOk_of tyl_ok) E17_ok mixed (c := loopOf f17 5) (bs := [loopOf f17 8]) (by kernel_rfl) (allCons (loop17_8 rfl) allNil) (by kernel_rfl)) (by kernel_rfl) (by kernel_rfl) impl_GradeBetween_l5_eq (by rw [show firstId (loopOf f17 5) = 5 from by kernel_rfl]; exact h)
noncomputable def L17_2 : Nat → Option LoopD := fun n => ifEq n 5 (some ⟨48, sh17_5, xs17_5, impl_GradeBetween_l5⟩) (L17_1 n)
noncomputable def impl_GradeBetween : (Int × ((List Int) × ((List Int) × (List (Int × (ByteArray × (Int × Int))))))) → (Int × (List Int)) → Option (Int) := fun (a0_0, a0_1, a0_2, a0_3) (a1_0, a1_1) =>
  Option.bind (impl_AutomatonValid (a0_0, a0_1, a0_2, a0_3)) fun r0 =>
    bif (!r0) then
      some (-1 : Int)
    else
      Option.bind (impl_GradesValid (a1_0, a1_1)) fun r1 =>
        bif (!r1) then
          some (-1 : Int)
        else
          bif (a1_0 != a0_0) then
            some (-1 : Int)
          else
            Option.bind (loopF impl_GradeBetween_l5 ((a0_0, a0_1, a0_2, a0_3, ()), (a1_0, a1_1, ()), (3 : Int), a0_1, (((List.length a0_1) : Nat) : Int), (0 : Int), ())) fun (r2, _) =>
              some r2
noncomputable def A17 : FnA := ⟨[.v (.pair (.int .i64) (.pair (.sl (.int .i64)) (.pair (.sl (.int .i64)) (.sl (.pair (.int .i64) (.pair .str (.pair (.int .i64) (.int .i64)))))))), .v (.pair (.int .i64) (.sl (.int .i64)))], true, [.int .i64], fun x => impl_GradeBetween x.1 x.2.1⟩
theorem impl_GradeBetween_eq : fnF E17 L17_2 [.v (.pair (.int .i64) (.pair (.sl (.int .i64)) (.pair (.sl (.int .i64)) (.sl (.pair (.int .i64) (.pair .str (.pair (.int .i64) (.int .i64)))))))), .v (.pair (.int .i64) (.sl (.int .i64)))] true [.int .i64] f17.ntmps f17.results.toList (codeOf f17) = fun x => impl_GradeBetween x.1 x.2.1 := by kernel_rfl
theorem A17_ok : FnOk prog 17 A17 := by
  have h := fnOk_of_run (P := prog) (E := E17) (tysOk_of tyl_ok) E17_ok (L := L17_2) (ps := [.v (.pair (.int .i64) (.pair (.sl (.int .i64)) (.pair (.sl (.int .i64)) (.sl (.pair (.int .i64) (.pair .str (.pair (.int .i64) (.int .i64)))))))), .v (.pair (.int .i64) (.sl (.int .i64)))]) (own := true) (outs := [.int .i64]) func17 (c := codeOf f17) (by kernel_rfl) (codeOk_in (L := L17_2) (tysOk_of tyl_ok) E17_ok mixed (c := codeOf f17) (bs := [loopOf f17 5]) (by kernel_rfl) (allCons (loop17_5 rfl) allNil) (by kernel_rfl))
  rw [impl_GradeBetween_eq] at h
  exact h
/-! impl.AddCost -/
noncomputable def E58 : Env := ⟨ty0, fun g => ifEq g 78 (some A78) (none), fun _ => none, fun _ => none, fun _ => none⟩
theorem E58_ok : FnsOk prog E58 := (oneFn A78_ok func78 (by kernel_rfl) (by kernel_rfl) (noFns _ _))
noncomputable def L58_0 : Nat → Option LoopD := fun _ => none
noncomputable def impl_AddCost : Int → Int → Option (Int) := fun a0 a1 =>
  Option.bind (impl_CostValid a0) fun r0 =>
    bif (!r0) then
      some (-1 : Int)
    else
      Option.bind (impl_CostValid a1) fun r1 =>
        bif (!r1) then
          some (-1 : Int)
        else
          some (if ((1000000 : Int) < (IntKind.wrap .i64 (a0 + a1))) then (1000000 : Int) else (IntKind.wrap .i64 (a0 + a1)))
noncomputable def A58 : FnA := ⟨[.v (.int .i64), .v (.int .i64)], true, [.int .i64], fun x => impl_AddCost x.1 x.2.1⟩
theorem impl_AddCost_eq : fnF E58 L58_0 [.v (.int .i64), .v (.int .i64)] true [.int .i64] f58.ntmps f58.results.toList (codeOf f58) = fun x => impl_AddCost x.1 x.2.1 := by kernel_rfl
theorem A58_ok : FnOk prog 58 A58 := by
  have h := fnOk_of_run (P := prog) (E := E58) (tysOk_of tyl_ok) E58_ok (L := L58_0) (ps := [.v (.int .i64), .v (.int .i64)]) (own := true) (outs := [.int .i64]) func58 (c := codeOf f58) (by kernel_rfl) (codeOk_in (L := L58_0) (tysOk_of tyl_ok) E58_ok mixed (c := codeOf f58) (bs := []) (by kernel_rfl) allNil (by kernel_rfl))
  rw [impl_AddCost_eq] at h
  exact h
/-! impl.times -/
noncomputable def E81 : Env := ⟨ty0, fun _ => none, fun _ => none, fun _ => none, fun _ => none⟩
theorem E81_ok : FnsOk prog E81 := (noFns _ _)
noncomputable def L81_0 : Nat → Option LoopD := fun _ => none
noncomputable def impl_times : Int → Int → Option (Int) := fun a0 a1 =>
  if (a1 = (0 : Int)) then
    none
  else
    bif (decide (a0 > (IntKind.wrap .i64 (Int.tdiv (1000000 : Int) a1)))) then
      some (1000000 : Int)
    else
      some (IntKind.wrap .i64 (a0 * a1))
noncomputable def A81 : FnA := ⟨[.v (.int .i64), .v (.int .i64)], true, [.int .i64], fun x => impl_times x.1 x.2.1⟩
theorem impl_times_eq : fnF E81 L81_0 [.v (.int .i64), .v (.int .i64)] true [.int .i64] f81.ntmps f81.results.toList (codeOf f81) = fun x => impl_times x.1 x.2.1 := by kernel_rfl
theorem A81_ok : FnOk prog 81 A81 := by
  have h := fnOk_of_run (P := prog) (E := E81) (tysOk_of tyl_ok) E81_ok (L := L81_0) (ps := [.v (.int .i64), .v (.int .i64)]) (own := true) (outs := [.int .i64]) func81 (c := codeOf f81) (by kernel_rfl) (codeOk_in (L := L81_0) (tysOk_of tyl_ok) E81_ok mixed (c := codeOf f81) (bs := []) (by kernel_rfl) allNil (by kernel_rfl))
  rw [impl_times_eq] at h
  exact h
/-! impl.TimesCost -/
noncomputable def E59 : Env := ⟨ty0, fun g => ifEq g 78 (some A78) (ifEq g 81 (some A81) (none)), fun _ => none, fun _ => none, fun _ => none⟩
theorem E59_ok : FnsOk prog E59 := (oneFn A78_ok func78 (by kernel_rfl) (by kernel_rfl) (oneFn A81_ok func81 (by kernel_rfl) (by kernel_rfl) (noFns _ _)))
noncomputable def L59_0 : Nat → Option LoopD := fun _ => none
noncomputable def impl_TimesCost : Int → Int → Option (Int) := fun a0 a1 =>
  bif (decide (a0 < (0 : Int))) then
    some (-1 : Int)
  else
    Option.bind (impl_CostValid a1) fun r0 =>
      bif (!r0) then
        some (-1 : Int)
      else
        bif (a1 == (0 : Int)) then
          some (0 : Int)
        else
          Option.bind (impl_times a0 a1) fun r1 =>
            some r1
noncomputable def A59 : FnA := ⟨[.v (.int .i64), .v (.int .i64)], true, [.int .i64], fun x => impl_TimesCost x.1 x.2.1⟩
theorem impl_TimesCost_eq : fnF E59 L59_0 [.v (.int .i64), .v (.int .i64)] true [.int .i64] f59.ntmps f59.results.toList (codeOf f59) = fun x => impl_TimesCost x.1 x.2.1 := by kernel_rfl
theorem A59_ok : FnOk prog 59 A59 := by
  have h := fnOk_of_run (P := prog) (E := E59) (tysOk_of tyl_ok) E59_ok (L := L59_0) (ps := [.v (.int .i64), .v (.int .i64)]) (own := true) (outs := [.int .i64]) func59 (c := codeOf f59) (by kernel_rfl) (codeOk_in (L := L59_0) (tysOk_of tyl_ok) E59_ok mixed (c := codeOf f59) (bs := []) (by kernel_rfl) allNil (by kernel_rfl))
  rw [impl_TimesCost_eq] at h
  exact h
/-! impl.bound -/
noncomputable def R37 (impl_bound_rec : (List (ByteArray × PT)) → Option (Int)) : FnA := ⟨[.v (.sl (.pair .str .pt))], true, [.int .i64], fun x => impl_bound_rec x.1⟩
noncomputable def E37 (impl_bound_rec : (List (ByteArray × PT)) → Option (Int)) : Env := ⟨ty0, fun g => ifEq g 58 (some A58) (ifEq g 37 (some (R37 impl_bound_rec)) (ifEq g 59 (some A59) (none))), fun _ => none, fun _ => none, fun _ => none⟩
theorem E37_ok (impl_bound_rec : (List (ByteArray × PT)) → Option (Int)) (hrec : FnOk prog 37 (R37 impl_bound_rec)) : FnsOk prog (E37 impl_bound_rec) := (oneFn A58_ok func58 (by kernel_rfl) (by kernel_rfl) (oneFn hrec func37 (by kernel_rfl) (by kernel_rfl) (oneFn A59_ok func59 (by kernel_rfl) (by kernel_rfl) (noFns _ _))))
noncomputable def L37_0 (impl_bound_rec : (List (ByteArray × PT)) → Option (Int)) : Nat → Option LoopD := fun _ => none
def sh37_3 : List Fm := [d, d, d, .cell (.val (.int .i64)), d, d, .cell (.val (.sl (.pair .str .pt))), .cell (.val (.int .i64)), .cell (.val (.int .i64)), d, d, d, d, d, d, d, d, d, d, d, d, d, d, d, d]
def xs37_3 : List (Ex × List Fm) := [(.exit 0, [d, d, d, .cell (.val (.int .i64)), d, d, d, d, d, d, d, d, d, d, d, d, d, d, d, d, d, d, d, d, d])]
noncomputable def impl_bound_l3 (impl_bound_rec : (List (ByteArray × PT)) → Option (Int)) : (Int × (List (ByteArray × PT)) × Int × Int × Unit) → Option ((Int × (List (ByteArray × PT)) × Int × Int × Unit) ⊕ ((Int × Unit))) := fun (v3, v6, v7, v8, _) =>
  bif (decide (v8 < v7)) then
    if (((0 : Int) ≤ v8) ∧ (v8 < (((List.length v6) : Nat) : Int))) then
      bif (!((ByteArray.toList (List.getD v6 (Int.toNat v8) ((⟨Array.empty⟩ : ByteArray), (PT.mk []))).1) == (ByteArray.toList (⟨#[]⟩ : ByteArray)))) then
        Option.bind (impl_AddCost v3 (3 : Int)) fun r0 =>
          some (Sum.inl (r0, v6, v7, (IntKind.wrap .i64 (v8 + (1 : Int))), ()))
      else
        Option.bind (impl_bound_rec (PT.l (List.getD v6 (Int.toNat v8) ((⟨Array.empty⟩ : ByteArray), (PT.mk []))).2)) fun r1 =>
          Option.bind (impl_TimesCost (2 : Int) r1) fun r2 =>
            Option.bind (impl_AddCost v3 r2) fun r3 =>
              some (Sum.inl (r3, v6, v7, (IntKind.wrap .i64 (v8 + (1 : Int))), ()))
    else
      none
  else
    some (Sum.inr (v3, ()))
theorem impl_bound_l3_eq (impl_bound_rec : (List (ByteArray × PT)) → Option (Int)) : loopStep 25 (E37 impl_bound_rec) (L37_0 impl_bound_rec) (loopOf f37 3) sh37_3 xs37_3 = (impl_bound_l3 impl_bound_rec) := by kernel_rfl
theorem loop37_3 (impl_bound_rec : (List (ByteArray × PT)) → Option (Int)) (hrec : FnOk prog 37 (R37 impl_bound_rec)) {L : Nat → Option LoopD} (h : L 3 = some ⟨25, sh37_3, xs37_3, (impl_bound_l3 impl_bound_rec)⟩) : LoopOk prog L (loopOf f37 3) :=
  loopOk (tysOk_of tyl_ok) (E37_ok impl_bound_rec hrec) (codeOk_in (L := (L37_0 impl_bound_rec)) (tysOk_of tyl_ok) (E37_ok impl_bound_rec hrec) mixed (c := loopOf f37 3) (bs := []) (by kernel_rfl) allNil (by kernel_rfl)) (by kernel_rfl) (by kernel_rfl) (impl_bound_l3_eq impl_bound_rec) (by rw [show firstId (loopOf f37 3) = 3 from by kernel_rfl]; exact h)
noncomputable def L37_1 (impl_bound_rec : (List (ByteArray × PT)) → Option (Int)) : Nat → Option LoopD := fun n => ifEq n 3 (some ⟨25, sh37_3, xs37_3, (impl_bound_l3 impl_bound_rec)⟩) ((L37_0 impl_bound_rec) n)
noncomputable def impl_bound_step (impl_bound_rec : (List (ByteArray × PT)) → Option (Int)) : (List (ByteArray × PT)) → Option (Int) := fun a0 =>
  Option.bind (loopF (impl_bound_l3 impl_bound_rec) ((0 : Int), a0, (((List.length a0) : Nat) : Int), (0 : Int), ())) fun (r0, _) =>
    some r0
theorem impl_bound_step_eq (impl_bound_rec : (List (ByteArray × PT)) → Option (Int)) : fnF (E37 impl_bound_rec) (L37_1 impl_bound_rec) [.v (.sl (.pair .str .pt))] true [.int .i64] f37.ntmps f37.results.toList (codeOf f37) = fun x => (impl_bound_step impl_bound_rec) x.1 := by kernel_rfl
theorem impl_bound_step_ok (impl_bound_rec : (List (ByteArray × PT)) → Option (Int)) (hrec : FnOk prog 37 (R37 impl_bound_rec)) : FnOk prog 37 ⟨[.v (.sl (.pair .str .pt))], true, [.int .i64], fun x => (impl_bound_step impl_bound_rec) x.1⟩ := by
  have h := fnOk_of_run (P := prog) (E := (E37 impl_bound_rec)) (tysOk_of tyl_ok) (E37_ok impl_bound_rec hrec) (L := (L37_1 impl_bound_rec)) (ps := [.v (.sl (.pair .str .pt))]) (own := true) (outs := [.int .i64]) func37 (c := codeOf f37) (by kernel_rfl) (codeOk_in (L := (L37_1 impl_bound_rec)) (tysOk_of tyl_ok) (E37_ok impl_bound_rec hrec) mixed (c := codeOf f37) (bs := [loopOf f37 3]) (by kernel_rfl) (allCons (loop37_3 impl_bound_rec hrec rfl) allNil) (by kernel_rfl))
  rw [(impl_bound_step_eq impl_bound_rec)] at h
  exact h
/-- so many calls within each other -/
noncomputable def impl_bound_fuel : Nat → (List (ByteArray × PT)) → Option (Int)
  | 0 => fun _ => none
  | n + 1 => impl_bound_step (impl_bound_fuel n)
theorem impl_bound_fuel_ok : ∀ n, FnOk prog 37 (R37 (impl_bound_fuel n))
  | 0 => fun xs r h => by cases h
  | n + 1 => impl_bound_step_ok (impl_bound_fuel n) (impl_bound_fuel_ok n)
noncomputable def impl_bound : (List (ByteArray × PT)) → Option (Int) := impl_bound_fuel 200
noncomputable def A37 : FnA := R37 impl_bound
theorem A37_ok : FnOk prog 37 A37 := impl_bound_fuel_ok 200
/-! impl.BoundOf -/
noncomputable def E18 : Env := ⟨ty0, fun g => ifEq g 36 (some A36) (ifEq g 37 (some A37) (none)), fun _ => none, fun _ => none, fun _ => none⟩
theorem E18_ok : FnsOk prog E18 := (oneFn A36_ok func36 (by kernel_rfl) (by kernel_rfl) (oneFn A37_ok func37 (by kernel_rfl) (by kernel_rfl) (noFns _ _)))
noncomputable def L18_0 : Nat → Option LoopD := fun _ => none
noncomputable def impl_BoundOf : ByteArray → Option (Int) := fun a0 =>
  Option.bind (impl_parts a0) fun (r0, r1) =>
    bif (!r1) then
      some (-1 : Int)
    else
      Option.bind (impl_bound (List.take (List.length r0) (List.drop 0 r0))) fun r2 =>
        some r2
noncomputable def A18 : FnA := ⟨[.v .str], true, [.int .i64], fun x => impl_BoundOf x.1⟩
theorem impl_BoundOf_eq : fnF E18 L18_0 [.v .str] true [.int .i64] f18.ntmps f18.results.toList (codeOf f18) = fun x => impl_BoundOf x.1 := by kernel_rfl
theorem A18_ok : FnOk prog 18 A18 := by
  have h := fnOk_of_run (P := prog) (E := E18) (tysOk_of tyl_ok) E18_ok (L := L18_0) (ps := [.v .str]) (own := true) (outs := [.int .i64]) func18 (c := codeOf f18) (by kernel_rfl) (codeOk_in (L := L18_0) (tysOk_of tyl_ok) E18_ok mixed (c := codeOf f18) (bs := []) (by kernel_rfl) allNil (by kernel_rfl))
  rw [impl_BoundOf_eq] at h
  exact h
/-! impl.SomeOf -/
noncomputable def E7 : Env := ⟨ty0, fun g => ifEq g 16 (some A16) (ifEq g 17 (some A17) (ifEq g 18 (some A18) (none))), fun _ => none, fun _ => none, fun _ => none⟩
theorem E7_ok : FnsOk prog E7 := (oneFn A16_ok func16 (by kernel_rfl) (by kernel_rfl) (oneFn A17_ok func17 (by kernel_rfl) (by kernel_rfl) (oneFn A18_ok func18 (by kernel_rfl) (by kernel_rfl) (noFns _ _))))
noncomputable def L7_0 : Nat → Option LoopD := fun _ => none
def sh7_6 : List Fm := [d, .box 100100 [.val (.int .i64), .val (.sl (.int .i64)), .val (.sl (.int .i64)), .val (.sl (.pair (.int .i64) (.pair .str (.pair (.int .i64) (.int .i64)))))], d, d, d, .cell (.val (.int .i64)), d, d, d, d, d, d, d, d, d, .cell (.own (.pair (.pair (.int .i64) (.sl (.int .i64))) .str) 101500 false), .cell (.val (.int .i64)), .cell (.val (.int .i64)), d, d, d, d, d, d, d, d, d, d, d, d, d, d, d]
def xs7_6 : List (Ex × List Fm) := [(.exit 0, [d, d, d, d, d, .cell (.val (.int .i64)), d, d, d, d, d, d, d, d, d, d, d, d, d, d, d, d, d, d, d, d, d, d, d, d, d, d, d])]
noncomputable def impl_SomeOf_l6 : ((Int × (List Int) × (List Int) × (List (Int × (ByteArray × (Int × Int)))) × Unit) × Int × (List ((Int × (List Int)) × ByteArray)) × Int × Int × Unit) → Option (((Int × (List Int) × (List Int) × (List (Int × (ByteArray × (Int × Int)))) × Unit) × Int × (List ((Int × (List Int)) × ByteArray)) × Int × Int × Unit) ⊕ ((Int × Unit))) := fun ((v1_0, v1_1, v1_2, v1_3, _), v5, v15, v16, v17, _) =>
  bif (decide (v17 < v16)) then
    if (((0 : Int) ≤ v17) ∧ (v17 < (((List.length v15) : Nat) : Int))) then
      Option.bind (impl_GradeBetween (v1_0, v1_1, v1_2, v1_3) ((List.getD v15 (0 + (Int.toNat v17)) (((0 : Int), []), (⟨Array.empty⟩ : ByteArray))).1.1, (List.getD v15 (0 + (Int.toNat v17)) (((0 : Int), []), (⟨Array.empty⟩ : ByteArray))).1.2)) fun r0 =>
        bif (r0 == (1 : Int)) then
          Option.bind (impl_BoundOf (List.getD v15 (0 + (Int.toNat v17)) (((0 : Int), []), (⟨Array.empty⟩ : ByteArray))).2) fun r1 =>
            some (Sum.inl ((v1_0, v1_1, v1_2, v1_3, ()), (if (r1 > v5) then r1 else v5), (List.take (List.length v15) (List.drop 0 v15)), v16, (IntKind.wrap .i64 (v17 + (1 : Int))), ()))
        else
          some (Sum.inl ((v1_0, v1_1, v1_2, v1_3, ()), v5, (List.take (List.length v15) (List.drop 0 v15)), v16, (IntKind.wrap .i64 (v17 + (1 : Int))), ()))
    else
      none
  else
    some (Sum.inr (v5, ()))
theorem impl_SomeOf_l6_eq : loopStep 33 E7 L7_0 (loopOf f7 6) sh7_6 xs7_6 = impl_SomeOf_l6 := by kernel_rfl
theorem loop7_6 {L : Nat → Option LoopD} (h : L 6 = some ⟨33, sh7_6, xs7_6, impl_SomeOf_l6⟩) : LoopOk prog L (loopOf f7 6) :=
  loopOk (tysOk_of tyl_ok) E7_ok (codeOk_in (L := L7_0) (tysOk_of tyl_ok) E7_ok mixed (c := loopOf f7 6) (bs := []) (by kernel_rfl) allNil (by kernel_rfl)) (by kernel_rfl) (by kernel_rfl) impl_SomeOf_l6_eq (by rw [show firstId (loopOf f7 6) = 6 from by kernel_rfl]; exact h)
noncomputable def L7_1 : Nat → Option LoopD := fun n => ifEq n 6 (some ⟨33, sh7_6, xs7_6, impl_SomeOf_l6⟩) (L7_0 n)
noncomputable def impl_SomeOf : (Int × ((List Int) × ((List Int) × (List (Int × (ByteArray × (Int × Int))))))) → Option (Int) := fun (a0_0, a0_1, a0_2, a0_3) =>
  Option.bind (impl_ElementsOf (a0_0, a0_1, a0_2, a0_3)) fun (r0, r1) =>
    bif (!r1) then
      some (-1 : Int)
    else
      Option.bind (loopF impl_SomeOf_l6 ((a0_0, a0_1, a0_2, a0_3, ()), (0 : Int), (List.take (List.length r0) (List.drop 0 r0)), (((List.length r0) : Nat) : Int), (0 : Int), ())) fun (r2, _) =>
        some r2
noncomputable def A7 : FnA := ⟨[.v (.pair (.int .i64) (.pair (.sl (.int .i64)) (.pair (.sl (.int .i64)) (.sl (.pair (.int .i64) (.pair .str (.pair (.int .i64) (.int .i64))))))))], true, [.int .i64], fun x => impl_SomeOf x.1⟩
theorem impl_SomeOf_eq : fnF E7 L7_1 [.v (.pair (.int .i64) (.pair (.sl (.int .i64)) (.pair (.sl (.int .i64)) (.sl (.pair (.int .i64) (.pair .str (.pair (.int .i64) (.int .i64))))))))] true [.int .i64] f7.ntmps f7.results.toList (codeOf f7) = fun x => impl_SomeOf x.1 := by kernel_rfl
theorem A7_ok : FnOk prog 7 A7 := by
  have h := fnOk_of_run (P := prog) (E := E7) (tysOk_of tyl_ok) E7_ok (L := L7_1) (ps := [.v (.pair (.int .i64) (.pair (.sl (.int .i64)) (.pair (.sl (.int .i64)) (.sl (.pair (.int .i64) (.pair .str (.pair (.int .i64) (.int .i64))))))))]) (own := true) (outs := [.int .i64]) func7 (c := codeOf f7) (by kernel_rfl) (codeOk_in (L := L7_1) (tysOk_of tyl_ok) E7_ok mixed (c := codeOf f7) (bs := [loopOf f7 6]) (by kernel_rfl) (allCons (loop7_6 rfl) allNil) (by kernel_rfl))
  rw [impl_SomeOf_eq] at h
  exact h
/-! laws.eqIntS -/
noncomputable def E19 : Env := ⟨ty0, fun _ => none, fun _ => none, fun _ => none, fun _ => none⟩
theorem E19_ok : FnsOk prog E19 := (noFns _ _)
noncomputable def L19_0 : Nat → Option LoopD := fun _ => none
def sh19_4 : List Fm := [.cell (.val (.sl (.int .i64))), .cell (.val (.sl (.int .i64))), d, d, d, .cell (.val (.int .i64)), d, d, d, d, d, d, d, d, d, d, d, d, d, d, d, d, d, d, d, d]
def xs19_4 : List (Ex × List Fm) := [(.ret, [d, d, d, d, .cell (.val .bool), d, d, d, d, d, d, d, d, d, d, d, d, d, d, d, d, d, d, d, d, d]), (.exit 0, [d, d, d, d, d, d, d, d, d, d, d, d, d, d, d, d, d, d, d, d, d, d, d, d, d, d])]
noncomputable def laws_eqIntS_l4 : ((List Int) × (List Int) × Int × Unit) → Option (((List Int) × (List Int) × Int × Unit) ⊕ ((Bool × Unit) ⊕ (Unit))) := fun (v0, v1, v5, _) =>
  bif (decide (v5 < (((List.length v0) : Nat) : Int))) then
    if (((0 : Int) ≤ v5) ∧ (v5 < (((List.length v0) : Nat) : Int))) then
      if (((0 : Int) ≤ v5) ∧ (v5 < (((List.length v1) : Nat) : Int))) then
        bif ((List.getD v0 (Int.toNat v5) (0 : Int)) != (List.getD v1 (Int.toNat v5) (0 : Int))) then
          some (Sum.inr (Sum.inl (false, ())))
        else
          some (Sum.inl (v0, v1, (IntKind.wrap .i64 (v5 + (1 : Int))), ()))
      else
        none
    else
      none
  else
    some (Sum.inr (Sum.inr ()))
theorem laws_eqIntS_l4_eq : loopStep 26 E19 L19_0 (loopOf f19 4) sh19_4 xs19_4 = laws_eqIntS_l4 := by kernel_rfl
theorem loop19_4 {L : Nat → Option LoopD} (h : L 4 = some ⟨26, sh19_4, xs19_4, laws_eqIntS_l4⟩) : LoopOk prog L (loopOf f19 4) :=
  loopOk (tysOk_of tyl_ok) E19_ok (codeOk_in (L := L19_0) (tysOk_of tyl_ok) E19_ok mixed (c := loopOf f19 4) (bs := []) (by kernel_rfl) allNil (by kernel_rfl)) (by kernel_rfl) (by kernel_rfl) laws_eqIntS_l4_eq (by rw [show firstId (loopOf f19 4) = 4 from by kernel_rfl]; exact h)
noncomputable def L19_1 : Nat → Option LoopD := fun n => ifEq n 4 (some ⟨26, sh19_4, xs19_4, laws_eqIntS_l4⟩) (L19_0 n)
noncomputable def laws_eqIntS : (List Int) → (List Int) → Option (Bool) := fun a0 a1 =>
  bif ((((List.length a0) : Nat) : Int) != (((List.length a1) : Nat) : Int)) then
    some false
  else
    Option.bind (loopF laws_eqIntS_l4 (a0, a1, (0 : Int), ())) fun r0 =>
      (match r0 with
      | .inl (d1, _) =>
          some d1
      | .inr _ =>
          some true)
noncomputable def A19 : FnA := ⟨[.v (.sl (.int .i64)), .v (.sl (.int .i64))], true, [.bool], fun x => laws_eqIntS x.1 x.2.1⟩
theorem laws_eqIntS_eq : fnF E19 L19_1 [.v (.sl (.int .i64)), .v (.sl (.int .i64))] true [.bool] f19.ntmps f19.results.toList (codeOf f19) = fun x => laws_eqIntS x.1 x.2.1 := by kernel_rfl
theorem A19_ok : FnOk prog 19 A19 := by
  have h := fnOk_of_run (P := prog) (E := E19) (tysOk_of tyl_ok) E19_ok (L := L19_1) (ps := [.v (.sl (.int .i64)), .v (.sl (.int .i64))]) (own := true) (outs := [.bool]) func19 (c := codeOf f19) (by kernel_rfl) (codeOk_in (L := L19_1) (tysOk_of tyl_ok) E19_ok mixed (c := codeOf f19) (bs := [loopOf f19 4]) (by kernel_rfl) (allCons (loop19_4 rfl) allNil) (by kernel_rfl))
  rw [laws_eqIntS_eq] at h
  exact h
/-! laws.eqStep -/
noncomputable def E38 : Env := ⟨ty0, fun _ => none, fun _ => none, fun _ => none, fun _ => none⟩
theorem E38_ok : FnsOk prog E38 := (noFns _ _)
noncomputable def L38_0 : Nat → Option LoopD := fun _ => none
noncomputable def laws_eqStep : (Int × (ByteArray × (Int × Int))) → (Int × (ByteArray × (Int × Int))) → Option (Bool) := fun (a0_0, a0_1, a0_2, a0_3) (a1_0, a1_1, a1_2, a1_3) =>
  bif (a0_0 != a1_0) then
    some false
  else
    bif (!((ByteArray.toList a0_1) == (ByteArray.toList a1_1))) then
      some false
    else
      bif (a0_2 != a1_2) then
        some false
      else
        bif (a0_3 != a1_3) then
          some false
        else
          some true
noncomputable def A38 : FnA := ⟨[.v (.pair (.int .i64) (.pair .str (.pair (.int .i64) (.int .i64)))), .v (.pair (.int .i64) (.pair .str (.pair (.int .i64) (.int .i64))))], true, [.bool], fun x => laws_eqStep x.1 x.2.1⟩
theorem laws_eqStep_eq : fnF E38 L38_0 [.v (.pair (.int .i64) (.pair .str (.pair (.int .i64) (.int .i64)))), .v (.pair (.int .i64) (.pair .str (.pair (.int .i64) (.int .i64))))] true [.bool] f38.ntmps f38.results.toList (codeOf f38) = fun x => laws_eqStep x.1 x.2.1 := by kernel_rfl
theorem A38_ok : FnOk prog 38 A38 := by
  have h := fnOk_of_run (P := prog) (E := E38) (tysOk_of tyl_ok) E38_ok (L := L38_0) (ps := [.v (.pair (.int .i64) (.pair .str (.pair (.int .i64) (.int .i64)))), .v (.pair (.int .i64) (.pair .str (.pair (.int .i64) (.int .i64))))]) (own := true) (outs := [.bool]) func38 (c := codeOf f38) (by kernel_rfl) (codeOk_in (L := L38_0) (tysOk_of tyl_ok) E38_ok mixed (c := codeOf f38) (bs := []) (by kernel_rfl) allNil (by kernel_rfl))
  rw [laws_eqStep_eq] at h
  exact h
/-! laws.eqStepS -/
noncomputable def E20 : Env := ⟨ty0, fun g => ifEq g 38 (some A38) (none), fun _ => none, fun _ => none, fun _ => none⟩
theorem E20_ok : FnsOk prog E20 := (oneFn A38_ok func38 (by kernel_rfl) (by kernel_rfl) (noFns _ _))
noncomputable def L20_0 : Nat → Option LoopD := fun _ => none
def sh20_4 : List Fm := [.cell (.val (.sl (.pair (.int .i64) (.pair .str (.pair (.int .i64) (.int .i64)))))), .cell (.val (.sl (.pair (.int .i64) (.pair .str (.pair (.int .i64) (.int .i64)))))), d, d, d, .cell (.val (.int .i64)), d, d, d, d, d, d, d, d, d, d, d, d, d, d, d, d, d, d, d, d, d]
def xs20_4 : List (Ex × List Fm) := [(.ret, [d, d, d, d, .cell (.val .bool), d, d, d, d, d, d, d, d, d, d, d, d, d, d, d, d, d, d, d, d, d, d]), (.exit 0, [d, d, d, d, d, d, d, d, d, d, d, d, d, d, d, d, d, d, d, d, d, d, d, d, d, d, d])]
noncomputable def laws_eqStepS_l4 : ((List (Int × (ByteArray × (Int × Int)))) × (List (Int × (ByteArray × (Int × Int)))) × Int × Unit) → Option (((List (Int × (ByteArray × (Int × Int)))) × (List (Int × (ByteArray × (Int × Int)))) × Int × Unit) ⊕ ((Bool × Unit) ⊕ (Unit))) := fun (v0, v1, v5, _) =>
  bif (decide (v5 < (((List.length v0) : Nat) : Int))) then
    if (((0 : Int) ≤ v5) ∧ (v5 < (((List.length v0) : Nat) : Int))) then
      if (((0 : Int) ≤ v5) ∧ (v5 < (((List.length v1) : Nat) : Int))) then
        Option.bind (laws_eqStep (List.getD v0 (Int.toNat v5) ((0 : Int), (⟨Array.empty⟩ : ByteArray), (0 : Int), (0 : Int))) (List.getD v1 (Int.toNat v5) ((0 : Int), (⟨Array.empty⟩ : ByteArray), (0 : Int), (0 : Int)))) fun r0 =>
          bif (!r0) then
            some (Sum.inr (Sum.inl (false, ())))
          else
            some (Sum.inl (v0, v1, (IntKind.wrap .i64 (v5 + (1 : Int))), ()))
      else
        none
    else
      none
  else
    some (Sum.inr (Sum.inr ()))
theorem laws_eqStepS_l4_eq : loopStep 27 E20 L20_0 (loopOf f20 4) sh20_4 xs20_4 = laws_eqStepS_l4 := by kernel_rfl
theorem loop20_4 {L : Nat → Option LoopD} (h : L 4 = some ⟨27, sh20_4, xs20_4, laws_eqStepS_l4⟩) : LoopOk prog L (loopOf f20 4) :=
  loopOk (tysOk_of tyl_ok) E20_ok (codeOk_in (L := L20_0) (tysOk_of tyl_ok) E20_ok mixed (c := loopOf f20 4) (bs := []) (by kernel_rfl) allNil (by kernel_rfl)) (by kernel_rfl) (by kernel_rfl) laws_eqStepS_l4_eq (by rw [show firstId (loopOf f20 4) = 4 from by kernel_rfl]; exact h)
noncomputable def L20_1 : Nat → Option LoopD := fun n => ifEq n 4 (some ⟨27, sh20_4, xs20_4, laws_eqStepS_l4⟩) (L20_0 n)
noncomputable def laws_eqStepS : (List (Int × (ByteArray × (Int × Int)))) → (List (Int × (ByteArray × (Int × Int)))) → Option (Bool) := fun a0 a1 =>
  bif ((((List.length a0) : Nat) : Int) != (((List.length a1) : Nat) : Int)) then
    some false
  else
    Option.bind (loopF laws_eqStepS_l4 (a0, a1, (0 : Int), ())) fun r0 =>
      (match r0 with
      | .inl (d1, _) =>
          some d1
      | .inr _ =>
          some true)
noncomputable def A20 : FnA := ⟨[.v (.sl (.pair (.int .i64) (.pair .str (.pair (.int .i64) (.int .i64))))), .v (.sl (.pair (.int .i64) (.pair .str (.pair (.int .i64) (.int .i64)))))], true, [.bool], fun x => laws_eqStepS x.1 x.2.1⟩
theorem laws_eqStepS_eq : fnF E20 L20_1 [.v (.sl (.pair (.int .i64) (.pair .str (.pair (.int .i64) (.int .i64))))), .v (.sl (.pair (.int .i64) (.pair .str (.pair (.int .i64) (.int .i64)))))] true [.bool] f20.ntmps f20.results.toList (codeOf f20) = fun x => laws_eqStepS x.1 x.2.1 := by kernel_rfl
theorem A20_ok : FnOk prog 20 A20 := by
  have h := fnOk_of_run (P := prog) (E := E20) (tysOk_of tyl_ok) E20_ok (L := L20_1) (ps := [.v (.sl (.pair (.int .i64) (.pair .str (.pair (.int .i64) (.int .i64))))), .v (.sl (.pair (.int .i64) (.pair .str (.pair (.int .i64) (.int .i64)))))]) (own := true) (outs := [.bool]) func20 (c := codeOf f20) (by kernel_rfl) (codeOk_in (L := L20_1) (tysOk_of tyl_ok) E20_ok mixed (c := codeOf f20) (bs := [loopOf f20 4]) (by kernel_rfl) (allCons (loop20_4 rfl) allNil) (by kernel_rfl))
  rw [laws_eqStepS_eq] at h
  exact h
/-! laws.eqAutomaton -/
noncomputable def E8 : Env := ⟨ty0, fun g => ifEq g 19 (some A19) (ifEq g 20 (some A20) (none)), fun _ => none, fun _ => none, fun _ => none⟩
theorem E8_ok : FnsOk prog E8 := (oneFn A19_ok func19 (by kernel_rfl) (by kernel_rfl) (oneFn A20_ok func20 (by kernel_rfl) (by kernel_rfl) (noFns _ _)))
noncomputable def L8_0 : Nat → Option LoopD := fun _ => none
noncomputable def laws_eqAutomaton : (Int × ((List Int) × ((List Int) × (List (Int × (ByteArray × (Int × Int))))))) → (Int × ((List Int) × ((List Int) × (List (Int × (ByteArray × (Int × Int))))))) → Option (Bool) := fun (a0_0, a0_1, a0_2, a0_3) (a1_0, a1_1, a1_2, a1_3) =>
  bif (a0_0 != a1_0) then
    some false
  else
    Option.bind (laws_eqIntS a0_1 a1_1) fun r0 =>
      bif (!r0) then
        some false
      else
        Option.bind (laws_eqIntS a0_2 a1_2) fun r1 =>
          bif (!r1) then
            some false
          else
            Option.bind (laws_eqStepS a0_3 a1_3) fun r2 =>
              bif (!r2) then
                some false
              else
                some true
noncomputable def A8 : FnA := ⟨[.v (.pair (.int .i64) (.pair (.sl (.int .i64)) (.pair (.sl (.int .i64)) (.sl (.pair (.int .i64) (.pair .str (.pair (.int .i64) (.int .i64)))))))), .v (.pair (.int .i64) (.pair (.sl (.int .i64)) (.pair (.sl (.int .i64)) (.sl (.pair (.int .i64) (.pair .str (.pair (.int .i64) (.int .i64))))))))], true, [.bool], fun x => laws_eqAutomaton x.1 x.2.1⟩
theorem laws_eqAutomaton_eq : fnF E8 L8_0 [.v (.pair (.int .i64) (.pair (.sl (.int .i64)) (.pair (.sl (.int .i64)) (.sl (.pair (.int .i64) (.pair .str (.pair (.int .i64) (.int .i64)))))))), .v (.pair (.int .i64) (.pair (.sl (.int .i64)) (.pair (.sl (.int .i64)) (.sl (.pair (.int .i64) (.pair .str (.pair (.int .i64) (.int .i64))))))))] true [.bool] f8.ntmps f8.results.toList (codeOf f8) = fun x => laws_eqAutomaton x.1 x.2.1 := by kernel_rfl
theorem A8_ok : FnOk prog 8 A8 := by
  have h := fnOk_of_run (P := prog) (E := E8) (tysOk_of tyl_ok) E8_ok (L := L8_0) (ps := [.v (.pair (.int .i64) (.pair (.sl (.int .i64)) (.pair (.sl (.int .i64)) (.sl (.pair (.int .i64) (.pair .str (.pair (.int .i64) (.int .i64)))))))), .v (.pair (.int .i64) (.pair (.sl (.int .i64)) (.pair (.sl (.int .i64)) (.sl (.pair (.int .i64) (.pair .str (.pair (.int .i64) (.int .i64))))))))]) (own := true) (outs := [.bool]) func8 (c := codeOf f8) (by kernel_rfl) (codeOk_in (L := L8_0) (tysOk_of tyl_ok) E8_ok mixed (c := codeOf f8) (bs := []) (by kernel_rfl) allNil (by kernel_rfl))
  rw [laws_eqAutomaton_eq] at h
  exact h
/-! laws.FnExactSomeOf -/
noncomputable def E3 : Env := ⟨ty0, fun g => ifEq g 4 (some A4) (ifEq g 6 (some A6) (ifEq g 5 (some A5) (ifEq g 7 (some A7) (ifEq g 8 (some A8) (none))))), fun _ => none, fun _ => none, fun _ => none⟩
theorem E3_ok : FnsOk prog E3 := (oneFn A4_ok func4 (by kernel_rfl) (by kernel_rfl) (oneFn A6_ok func6 (by kernel_rfl) (by kernel_rfl) (oneFn A5_ok func5 (by kernel_rfl) (by kernel_rfl) (oneFn A7_ok func7 (by kernel_rfl) (by kernel_rfl) (oneFn A8_ok func8 (by kernel_rfl) (by kernel_rfl) (noFns _ _))))))
noncomputable def L3_0 : Nat → Option LoopD := fun _ => none
noncomputable def laws_FnExactSomeOf : (Int × ((List Int) × ((List Int) × (List (Int × (ByteArray × (Int × Int))))))) → Option (Bool) := fun (a0_0, a0_1, a0_2, a0_3) =>
  Option.bind (laws_szAutomaton (a0_0, a0_1, a0_2, a0_3) (1048576 : Int)) fun r0 =>
    bif (decide (r0 < (0 : Int))) then
      some true
    else
      Option.bind (laws_toAutomaton (a0_0, a0_1, a0_2, a0_3)) fun (r1, r2, r3, r4) =>
        Option.bind (spec_SomeOf (r1, (List.take (List.length r2) (List.drop 0 r2)), (List.take (List.length r3) (List.drop 0 r3)), (List.take (List.length r4) (List.drop 0 r4)))) fun r5 =>
          Option.bind (laws_toAutomaton (a0_0, a0_1, a0_2, a0_3)) fun (r6, r7, r8, r9) =>
            Option.bind (impl_SomeOf (r6, (List.take (List.length r7) (List.drop 0 r7)), (List.take (List.length r8) (List.drop 0 r8)), (List.take (List.length r9) (List.drop 0 r9)))) fun r10 =>
              bif (r10 != r5) then
                some false
              else
                Option.bind (laws_toAutomaton (a0_0, a0_1, a0_2, a0_3)) fun (r11, r12, r13, r14) =>
                  Option.bind (laws_eqAutomaton (r6, (List.take (List.length r7) (List.drop 0 r7)), (List.take (List.length r8) (List.drop 0 r8)), (List.take (List.length r9) (List.drop 0 r9))) (r11, (List.take (List.length r12) (List.drop 0 r12)), (List.take (List.length r13) (List.drop 0 r13)), (List.take (List.length r14) (List.drop 0 r14)))) fun r15 =>
                    bif (!r15) then
                      some false
                    else
                      some true
noncomputable def A3 : FnA := ⟨[.v (.pair (.int .i64) (.pair (.sl (.int .i64)) (.pair (.sl (.int .i64)) (.sl (.pair (.int .i64) (.pair .str (.pair (.int .i64) (.int .i64))))))))], true, [.bool], fun x => laws_FnExactSomeOf x.1⟩
theorem laws_FnExactSomeOf_eq : fnF E3 L3_0 [.v (.pair (.int .i64) (.pair (.sl (.int .i64)) (.pair (.sl (.int .i64)) (.sl (.pair (.int .i64) (.pair .str (.pair (.int .i64) (.int .i64))))))))] true [.bool] f3.ntmps f3.results.toList (codeOf f3) = fun x => laws_FnExactSomeOf x.1 := by kernel_rfl
theorem A3_ok : FnOk prog 3 A3 := by
  have h := fnOk_of_run (P := prog) (E := E3) (tysOk_of tyl_ok) E3_ok (L := L3_0) (ps := [.v (.pair (.int .i64) (.pair (.sl (.int .i64)) (.pair (.sl (.int .i64)) (.sl (.pair (.int .i64) (.pair .str (.pair (.int .i64) (.int .i64))))))))]) (own := true) (outs := [.bool]) func3 (c := codeOf f3) (by kernel_rfl) (codeOk_in (L := L3_0) (tysOk_of tyl_ok) E3_ok mixed (c := codeOf f3) (bs := []) (by kernel_rfl) allNil (by kernel_rfl))
  rw [laws_FnExactSomeOf_eq] at h
  exact h
end Go.Proofs.Ytjnelonnefgljaa
