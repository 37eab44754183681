/- What Go functions that the laws reach compute, and that they do: written by a program of this session. -/
import Derived.Test.YtbmlleocidldpaaG0
import Derived.Test.YtbmlleocidldpaaSort
import Derived.KernelRfl
set_option linter.unusedVariables false
namespace Go.Proofs.Ytbmlleocidldpaa
open Go Go.Proofs.Ytbmlleocidldpaa.Am Go.Proofs.Try
set_option maxRecDepth 100000
/-! laws.szIntS -/
noncomputable def E54 : Env := ⟨ty0, fun _ => none, fun _ => none, fun _ => none, fun _ => none⟩
theorem E54_ok : FnsOk prog E54 := (noFns _ _)
noncomputable def L54_0 : Nat → Option LoopD := fun _ => none
noncomputable def laws_szIntS : (List Int) → Int → Option (Int) := fun a0 a1 =>
  bif (decide ((IntKind.wrap .i64 (a1 - (((List.length a0) : Nat) : Int))) < (0 : Int))) then
    some (-1 : Int)
  else
    some (IntKind.wrap .i64 (a1 - (((List.length a0) : Nat) : Int)))
noncomputable def A54 : FnA := ⟨[.v (.sl (.int .i64)), .v (.int .i64)], true, [.int .i64], fun x => laws_szIntS x.1 x.2.1⟩
theorem laws_szIntS_eq : fnF E54 L54_0 [.v (.sl (.int .i64)), .v (.int .i64)] true [.int .i64] f54.ntmps f54.results.toList (codeOf f54) = fun x => laws_szIntS x.1 x.2.1 := by kernel_rfl
theorem A54_ok : FnOk prog 54 A54 := by
  have h := fnOk_of_run (P := prog) (E := E54) (tysOk_of tyl_ok) E54_ok (L := L54_0) (ps := [.v (.sl (.int .i64)), .v (.int .i64)]) (own := true) (outs := [.int .i64]) func54 (c := codeOf f54) (by kernel_rfl) (codeOk_in (L := L54_0) (tysOk_of tyl_ok) E54_ok mixed (c := codeOf f54) (bs := []) (by kernel_rfl) allNil (by kernel_rfl))
  rw [laws_szIntS_eq] at h
  exact h
/-! laws.szStep -/
noncomputable def E109 : Env := ⟨ty0, fun _ => none, fun _ => none, fun _ => none, fun _ => none⟩
theorem E109_ok : FnsOk prog E109 := (noFns _ _)
noncomputable def L109_0 : Nat → Option LoopD := fun _ => none
noncomputable def laws_szStep : (Int × (ByteArray × (Int × Int))) → Int → Option (Int) := fun (a0_0, a0_1, a0_2, a0_3) a1 =>
  bif (decide ((IntKind.wrap .i64 (a1 - (((ByteArray.size a0_1) : Nat) : Int))) < (0 : Int))) then
    some (-1 : Int)
  else
    some (IntKind.wrap .i64 (a1 - (((ByteArray.size a0_1) : Nat) : Int)))
noncomputable def A109 : FnA := ⟨[.v (.pair (.int .i64) (.pair .str (.pair (.int .i64) (.int .i64)))), .v (.int .i64)], true, [.int .i64], fun x => laws_szStep x.1 x.2.1⟩
theorem laws_szStep_eq : fnF E109 L109_0 [.v (.pair (.int .i64) (.pair .str (.pair (.int .i64) (.int .i64)))), .v (.int .i64)] true [.int .i64] f109.ntmps f109.results.toList (codeOf f109) = fun x => laws_szStep x.1 x.2.1 := by kernel_rfl
theorem A109_ok : FnOk prog 109 A109 := by
  have h := fnOk_of_run (P := prog) (E := E109) (tysOk_of tyl_ok) E109_ok (L := L109_0) (ps := [.v (.pair (.int .i64) (.pair .str (.pair (.int .i64) (.int .i64)))), .v (.int .i64)]) (own := true) (outs := [.int .i64]) func109 (c := codeOf f109) (by kernel_rfl) (codeOk_in (L := L109_0) (tysOk_of tyl_ok) E109_ok mixed (c := codeOf f109) (bs := []) (by kernel_rfl) allNil (by kernel_rfl))
  rw [laws_szStep_eq] at h
  exact h
/-! laws.szStepS -/
noncomputable def E55 : Env := ⟨ty0, fun g => ifEq g 109 (some A109) (none), fun _ => none, fun _ => none, fun _ => none⟩
theorem E55_ok : FnsOk prog E55 := (oneFn A109_ok func109 (by kernel_rfl) (by kernel_rfl) (noFns _ _))
noncomputable def L55_0 : Nat → Option LoopD := fun _ => none
def sh55_5 : List Fm := [.cell (.val (.sl (.pair (.int .i64) (.pair .str (.pair (.int .i64) (.int .i64)))))), .cell (.val (.int .i64)), d, d, d, .cell (.val (.int .i64)), d, d, d, d, d, d, d, d, d, d, d, d, d, d, d, d, d, d, d, d, d]
def xs55_5 : List (Ex × List Fm) := [(.ret, [d, d, d, d, .cell (.val (.int .i64)), d, d, d, d, d, d, d, d, d, d, d, d, d, d, d, d, d, d, d, d, d, d]), (.exit 0, [d, .cell (.val (.int .i64)), d, d, d, d, d, d, d, d, d, d, d, d, d, d, d, d, d, d, d, d, d, d, d, d, d])]
noncomputable def laws_szStepS_l5 : ((List (Int × (ByteArray × (Int × Int)))) × Int × Int × Unit) → Option (((List (Int × (ByteArray × (Int × Int)))) × Int × Int × Unit) ⊕ ((Int × Unit) ⊕ (Int × Unit))) := fun (v0, v1, v5, _) =>
  bif (decide (v5 < (((List.length v0) : Nat) : Int))) then
    if (((0 : Int) ≤ v5) ∧ (v5 < (((List.length v0) : Nat) : Int))) then
      Option.bind (laws_szStep (List.getD v0 (Int.toNat v5) ((0 : Int), (⟨Array.empty⟩ : ByteArray), (0 : Int), (0 : Int))) v1) fun r0 =>
        bif (decide (r0 < (0 : Int))) then
          some (Sum.inr (Sum.inl ((-1 : Int), ())))
        else
          some (Sum.inl (v0, r0, (IntKind.wrap .i64 (v5 + (1 : Int))), ()))
    else
      none
  else
    some (Sum.inr (Sum.inr (v1, ())))
theorem laws_szStepS_l5_eq : loopStep 27 E55 L55_0 (loopOf f55 5) sh55_5 xs55_5 = laws_szStepS_l5 := by kernel_rfl
theorem loop55_5 {L : Nat → Option LoopD} (h : L 5 = some ⟨27, sh55_5, xs55_5, laws_szStepS_l5⟩) : LoopOk prog L (loopOf f55 5) :=
  loopOk (tysOk_of tyl_ok) E55_ok (codeOk_in (L := L55_0) (tysOk_of tyl_ok) E55_ok mixed (c := loopOf f55 5) (bs := []) (by kernel_rfl) allNil (by kernel_rfl)) (by kernel_rfl) (by kernel_rfl) laws_szStepS_l5_eq (by rw [show firstId (loopOf f55 5) = 5 from by kernel_rfl]; exact h)
noncomputable def L55_1 : Nat → Option LoopD := fun n => ifEq n 5 (some ⟨27, sh55_5, xs55_5, laws_szStepS_l5⟩) (L55_0 n)
noncomputable def laws_szStepS : (List (Int × (ByteArray × (Int × Int)))) → Int → Option (Int) := fun a0 a1 =>
  bif (decide ((IntKind.wrap .i64 (a1 - (((List.length a0) : Nat) : Int))) < (0 : Int))) then
    some (-1 : Int)
  else
    Option.bind (loopF laws_szStepS_l5 (a0, (IntKind.wrap .i64 (a1 - (((List.length a0) : Nat) : Int))), (0 : Int), ())) fun r0 =>
      (match r0 with
      | .inl (d1, _) =>
          some d1
      | .inr (d2, _) =>
          some d2)
noncomputable def A55 : FnA := ⟨[.v (.sl (.pair (.int .i64) (.pair .str (.pair (.int .i64) (.int .i64))))), .v (.int .i64)], true, [.int .i64], fun x => laws_szStepS x.1 x.2.1⟩
theorem laws_szStepS_eq : fnF E55 L55_1 [.v (.sl (.pair (.int .i64) (.pair .str (.pair (.int .i64) (.int .i64))))), .v (.int .i64)] true [.int .i64] f55.ntmps f55.results.toList (codeOf f55) = fun x => laws_szStepS x.1 x.2.1 := by kernel_rfl
theorem A55_ok : FnOk prog 55 A55 := by
  have h := fnOk_of_run (P := prog) (E := E55) (tysOk_of tyl_ok) E55_ok (L := L55_1) (ps := [.v (.sl (.pair (.int .i64) (.pair .str (.pair (.int .i64) (.int .i64))))), .v (.int .i64)]) (own := true) (outs := [.int .i64]) func55 (c := codeOf f55) (by kernel_rfl) (codeOk_in (L := L55_1) (tysOk_of tyl_ok) E55_ok mixed (c := codeOf f55) (bs := [loopOf f55 5]) (by kernel_rfl) (allCons (loop55_5 rfl) allNil) (by kernel_rfl))
  rw [laws_szStepS_eq] at h
  exact h
/-! laws.szAutomaton -/
noncomputable def E15 : Env := ⟨ty0, fun g => ifEq g 54 (some A54) (ifEq g 55 (some A55) (none)), fun _ => none, fun _ => none, fun _ => none⟩
theorem E15_ok : FnsOk prog E15 := (oneFn A54_ok func54 (by kernel_rfl) (by kernel_rfl) (oneFn A55_ok func55 (by kernel_rfl) (by kernel_rfl) (noFns _ _)))
noncomputable def L15_0 : Nat → Option LoopD := fun _ => none
noncomputable def laws_szAutomaton : (Int × ((List Int) × ((List Int) × (List (Int × (ByteArray × (Int × Int))))))) → Int → Option (Int) := fun (a0_0, a0_1, a0_2, a0_3) a1 =>
  Option.bind (laws_szIntS a0_1 a1) fun r0 =>
    bif (decide (r0 < (0 : Int))) then
      some (-1 : Int)
    else
      Option.bind (laws_szIntS a0_2 r0) fun r1 =>
        bif (decide (r1 < (0 : Int))) then
          some (-1 : Int)
        else
          Option.bind (laws_szStepS a0_3 r1) fun r2 =>
            bif (decide (r2 < (0 : Int))) then
              some (-1 : Int)
            else
              some r2
noncomputable def A15 : FnA := ⟨[.v (.pair (.int .i64) (.pair (.sl (.int .i64)) (.pair (.sl (.int .i64)) (.sl (.pair (.int .i64) (.pair .str (.pair (.int .i64) (.int .i64)))))))), .v (.int .i64)], true, [.int .i64], fun x => laws_szAutomaton x.1 x.2.1⟩
theorem laws_szAutomaton_eq : fnF E15 L15_0 [.v (.pair (.int .i64) (.pair (.sl (.int .i64)) (.pair (.sl (.int .i64)) (.sl (.pair (.int .i64) (.pair .str (.pair (.int .i64) (.int .i64)))))))), .v (.int .i64)] true [.int .i64] f15.ntmps f15.results.toList (codeOf f15) = fun x => laws_szAutomaton x.1 x.2.1 := by kernel_rfl
theorem A15_ok : FnOk prog 15 A15 := by
  have h := fnOk_of_run (P := prog) (E := E15) (tysOk_of tyl_ok) E15_ok (L := L15_0) (ps := [.v (.pair (.int .i64) (.pair (.sl (.int .i64)) (.pair (.sl (.int .i64)) (.sl (.pair (.int .i64) (.pair .str (.pair (.int .i64) (.int .i64)))))))), .v (.int .i64)]) (own := true) (outs := [.int .i64]) func15 (c := codeOf f15) (by kernel_rfl) (codeOk_in (L := L15_0) (tysOk_of tyl_ok) E15_ok mixed (c := codeOf f15) (bs := []) (by kernel_rfl) allNil (by kernel_rfl))
  rw [laws_szAutomaton_eq] at h
  exact h
/-! laws.toIntS -/
noncomputable def E61 : Env := ⟨ty0, fun _ => none, fun _ => none, fun _ => none, fun _ => none⟩
theorem E61_ok : FnsOk prog E61 := (noFns _ _)
noncomputable def L61_0 : Nat → Option LoopD := fun _ => none
def sh61_3 : List Fm := [.cell (.val (.sl (.int .i64))), d, d, .cell (.own (.int .i64) 100300 false), .cell (.val (.int .i64)), d, d, d, d, d, d, d, d, d, d, d, d, d, d, d, d, d]
def xs61_3 : List (Ex × List Fm) := [(.exit 0, [d, d, d, .cell (.own (.int .i64) 100300 false), d, d, d, d, d, d, d, d, d, d, d, d, d, d, d, d, d, d])]
noncomputable def laws_toIntS_l3 : ((List Int) × (List Int) × Int × Unit) → Option (((List Int) × (List Int) × Int × Unit) ⊕ (((List Int) × Unit))) := fun (v0, v3, v4, _) =>
  bif (decide (v4 < (((List.length v0) : Nat) : Int))) then
    if (((0 : Int) ≤ v4) ∧ (v4 < (((List.length v0) : Nat) : Int))) then
      if (((0 : Int) ≤ v4) ∧ (v4 < (((List.length v3) : Nat) : Int))) then
        some (Sum.inl (v0, (List.take (List.length v3) (List.drop 0 (List.set v3 (0 + (Int.toNat v4)) (List.getD v0 (Int.toNat v4) (0 : Int))))), (IntKind.wrap .i64 (v4 + (1 : Int))), ()))
      else
        none
    else
      none
  else
    some (Sum.inr ((List.take (List.length v3) (List.drop 0 v3)), ()))
theorem laws_toIntS_l3_eq : loopStep 22 E61 L61_0 (loopOf f61 3) sh61_3 xs61_3 = laws_toIntS_l3 := by kernel_rfl
theorem loop61_3 {L : Nat → Option LoopD} (h : L 3 = some ⟨22, sh61_3, xs61_3, laws_toIntS_l3⟩) : LoopOk prog L (loopOf f61 3) :=
  loopOk (tysOk_of tyl_ok) E61_ok (codeOk_in (L := L61_0) (tysOk_of tyl_ok) E61_ok mixed (c := loopOf f61 3) (bs := []) (by kernel_rfl) allNil (by kernel_rfl)) (by kernel_rfl) (by kernel_rfl) laws_toIntS_l3_eq (by rw [show firstId (loopOf f61 3) = 3 from by kernel_rfl]; exact h)
noncomputable def L61_1 : Nat → Option LoopD := fun n => ifEq n 3 (some ⟨22, sh61_3, xs61_3, laws_toIntS_l3⟩) (L61_0 n)
noncomputable def laws_toIntS : (List Int) → Option ((List Int)) := fun a0 =>
  if (((0 : Int) ≤ (((List.length a0) : Nat) : Int)) ∧ (((((List.length a0) : Nat) : Int) = (((List.length a0) : Nat) : Int)) ∧ (((((List.length a0) : Nat) : Int) * ((8 : Nat) : Int)) ≤ (140737488355328 : Int)))) then
    Option.bind (loopF laws_toIntS_l3 (a0, (List.take (Int.toNat (((List.length a0) : Nat) : Int)) (List.drop 0 (List.replicate (Int.toNat (((List.length a0) : Nat) : Int)) (0 : Int)))), (0 : Int), ())) fun (r0, _) =>
      some (List.take (List.length r0) (List.drop 0 r0))
  else
    none
noncomputable def A61 : FnA := ⟨[.v (.sl (.int .i64))], true, [.sl (.int .i64)], fun x => laws_toIntS x.1⟩
theorem laws_toIntS_eq : fnF E61 L61_1 [.v (.sl (.int .i64))] true [.sl (.int .i64)] f61.ntmps f61.results.toList (codeOf f61) = fun x => laws_toIntS x.1 := by kernel_rfl
theorem A61_ok : FnOk prog 61 A61 := by
  have h := fnOk_of_run (P := prog) (E := E61) (tysOk_of tyl_ok) E61_ok (L := L61_1) (ps := [.v (.sl (.int .i64))]) (own := true) (outs := [.sl (.int .i64)]) func61 (c := codeOf f61) (by kernel_rfl) (codeOk_in (L := L61_1) (tysOk_of tyl_ok) E61_ok mixed (c := codeOf f61) (bs := [loopOf f61 3]) (by kernel_rfl) (allCons (loop61_3 rfl) allNil) (by kernel_rfl))
  rw [laws_toIntS_eq] at h
  exact h
/-! laws.toStep -/
noncomputable def E113 : Env := ⟨ty0, fun _ => none, fun _ => none, fun _ => none, fun _ => none⟩
theorem E113_ok : FnsOk prog E113 := (noFns _ _)
noncomputable def L113_0 : Nat → Option LoopD := fun _ => none
noncomputable def laws_toStep : (Int × (ByteArray × (Int × Int))) → Option ((Int × (ByteArray × (Int × Int)))) := fun (a0_0, a0_1, a0_2, a0_3) =>
  some (a0_0, a0_1, a0_2, a0_3)
noncomputable def A113 : FnA := ⟨[.v (.pair (.int .i64) (.pair .str (.pair (.int .i64) (.int .i64))))], true, [.pair (.int .i64) (.pair .str (.pair (.int .i64) (.int .i64)))], fun x => laws_toStep x.1⟩
theorem laws_toStep_eq : fnF E113 L113_0 [.v (.pair (.int .i64) (.pair .str (.pair (.int .i64) (.int .i64))))] true [.pair (.int .i64) (.pair .str (.pair (.int .i64) (.int .i64)))] f113.ntmps f113.results.toList (codeOf f113) = fun x => laws_toStep x.1 := by kernel_rfl
theorem A113_ok : FnOk prog 113 A113 := by
  have h := fnOk_of_run (P := prog) (E := E113) (tysOk_of tyl_ok) E113_ok (L := L113_0) (ps := [.v (.pair (.int .i64) (.pair .str (.pair (.int .i64) (.int .i64))))]) (own := true) (outs := [.pair (.int .i64) (.pair .str (.pair (.int .i64) (.int .i64)))]) func113 (c := codeOf f113) (by kernel_rfl) (codeOk_in (L := L113_0) (tysOk_of tyl_ok) E113_ok mixed (c := codeOf f113) (bs := []) (by kernel_rfl) allNil (by kernel_rfl))
  rw [laws_toStep_eq] at h
  exact h
/-! laws.toStepS -/
noncomputable def E62 : Env := ⟨ty0, fun g => ifEq g 113 (some A113) (none), fun _ => none, fun _ => none, fun _ => none⟩
theorem E62_ok : FnsOk prog E62 := (oneFn A113_ok func113 (by kernel_rfl) (by kernel_rfl) (noFns _ _))
noncomputable def L62_0 : Nat → Option LoopD := fun _ => none
def sh62_3 : List Fm := [.cell (.val (.sl (.pair (.int .i64) (.pair .str (.pair (.int .i64) (.int .i64)))))), d, d, .cell (.own (.pair (.int .i64) (.pair .str (.pair (.int .i64) (.int .i64)))) 100300 false), .cell (.val (.int .i64)), d, d, d, d, d, d, d, d, d, d, d, d, d, d, d, d, d, d]
def xs62_3 : List (Ex × List Fm) := [(.exit 0, [d, d, d, .cell (.own (.pair (.int .i64) (.pair .str (.pair (.int .i64) (.int .i64)))) 100300 false), d, d, d, d, d, d, d, d, d, d, d, d, d, d, d, d, d, d, d])]
noncomputable def laws_toStepS_l3 : ((List (Int × (ByteArray × (Int × Int)))) × (List (Int × (ByteArray × (Int × Int)))) × Int × Unit) → Option (((List (Int × (ByteArray × (Int × Int)))) × (List (Int × (ByteArray × (Int × Int)))) × Int × Unit) ⊕ (((List (Int × (ByteArray × (Int × Int)))) × Unit))) := fun (v0, v3, v4, _) =>
  bif (decide (v4 < (((List.length v0) : Nat) : Int))) then
    if (((0 : Int) ≤ v4) ∧ (v4 < (((List.length v0) : Nat) : Int))) then
      Option.bind (laws_toStep (List.getD v0 (Int.toNat v4) ((0 : Int), (⟨Array.empty⟩ : ByteArray), (0 : Int), (0 : Int)))) fun (r0, r1, r2, r3) =>
        if (((0 : Int) ≤ v4) ∧ (v4 < (((List.length v3) : Nat) : Int))) then
          some (Sum.inl (v0, (List.take (List.length v3) (List.drop 0 (List.set v3 (0 + (Int.toNat v4)) (r0, r1, r2, r3)))), (IntKind.wrap .i64 (v4 + (1 : Int))), ()))
        else
          none
    else
      none
  else
    some (Sum.inr ((List.take (List.length v3) (List.drop 0 v3)), ()))
theorem laws_toStepS_l3_eq : loopStep 23 E62 L62_0 (loopOf f62 3) sh62_3 xs62_3 = laws_toStepS_l3 := by kernel_rfl
theorem loop62_3 {L : Nat → Option LoopD} (h : L 3 = some ⟨23, sh62_3, xs62_3, laws_toStepS_l3⟩) : LoopOk prog L (loopOf f62 3) :=
  loopOk (tysOk_of tyl_ok) E62_ok (codeOk_in (L := L62_0) (tysOk_of tyl_ok) E62_ok mixed (c := loopOf f62 3) (bs := []) (by kernel_rfl) allNil (by kernel_rfl)) (by kernel_rfl) (by kernel_rfl) laws_toStepS_l3_eq (by rw [show firstId (loopOf f62 3) = 3 from by kernel_rfl]; exact h)
noncomputable def L62_1 : Nat → Option LoopD := fun n => ifEq n 3 (some ⟨23, sh62_3, xs62_3, laws_toStepS_l3⟩) (L62_0 n)
noncomputable def laws_toStepS : (List (Int × (ByteArray × (Int × Int)))) → Option ((List (Int × (ByteArray × (Int × Int))))) := fun a0 =>
  if (((0 : Int) ≤ (((List.length a0) : Nat) : Int)) ∧ (((((List.length a0) : Nat) : Int) = (((List.length a0) : Nat) : Int)) ∧ (((((List.length a0) : Nat) : Int) * ((40 : Nat) : Int)) ≤ (140737488355328 : Int)))) then
    Option.bind (loopF laws_toStepS_l3 (a0, (List.take (Int.toNat (((List.length a0) : Nat) : Int)) (List.drop 0 (List.replicate (Int.toNat (((List.length a0) : Nat) : Int)) ((0 : Int), (⟨Array.empty⟩ : ByteArray), (0 : Int), (0 : Int))))), (0 : Int), ())) fun (r0, _) =>
      some (List.take (List.length r0) (List.drop 0 r0))
  else
    none
noncomputable def A62 : FnA := ⟨[.v (.sl (.pair (.int .i64) (.pair .str (.pair (.int .i64) (.int .i64)))))], true, [.sl (.pair (.int .i64) (.pair .str (.pair (.int .i64) (.int .i64))))], fun x => laws_toStepS x.1⟩
theorem laws_toStepS_eq : fnF E62 L62_1 [.v (.sl (.pair (.int .i64) (.pair .str (.pair (.int .i64) (.int .i64)))))] true [.sl (.pair (.int .i64) (.pair .str (.pair (.int .i64) (.int .i64))))] f62.ntmps f62.results.toList (codeOf f62) = fun x => laws_toStepS x.1 := by kernel_rfl
theorem A62_ok : FnOk prog 62 A62 := by
  have h := fnOk_of_run (P := prog) (E := E62) (tysOk_of tyl_ok) E62_ok (L := L62_1) (ps := [.v (.sl (.pair (.int .i64) (.pair .str (.pair (.int .i64) (.int .i64)))))]) (own := true) (outs := [.sl (.pair (.int .i64) (.pair .str (.pair (.int .i64) (.int .i64))))]) func62 (c := codeOf f62) (by kernel_rfl) (codeOk_in (L := L62_1) (tysOk_of tyl_ok) E62_ok mixed (c := codeOf f62) (bs := [loopOf f62 3]) (by kernel_rfl) (allCons (loop62_3 rfl) allNil) (by kernel_rfl))
  rw [laws_toStepS_eq] at h
  exact h
/-! laws.toAutomaton -/
noncomputable def E17 : Env := ⟨ty0, fun g => ifEq g 61 (some A61) (ifEq g 62 (some A62) (none)), fun _ => none, fun _ => none, fun _ => none⟩
theorem E17_ok : FnsOk prog E17 := (oneFn A61_ok func61 (by kernel_rfl) (by kernel_rfl) (oneFn A62_ok func62 (by kernel_rfl) (by kernel_rfl) (noFns _ _)))
noncomputable def L17_0 : Nat → Option LoopD := fun _ => none
noncomputable def laws_toAutomaton : (Int × ((List Int) × ((List Int) × (List (Int × (ByteArray × (Int × Int))))))) → Option ((Int × ((List Int) × ((List Int) × (List (Int × (ByteArray × (Int × Int)))))))) := fun (a0_0, a0_1, a0_2, a0_3) =>
  Option.bind (laws_toIntS a0_1) fun r0 =>
    Option.bind (laws_toIntS a0_2) fun r1 =>
      Option.bind (laws_toStepS a0_3) fun r2 =>
        some (a0_0, (List.take (List.length r0) (List.drop 0 r0)), (List.take (List.length r1) (List.drop 0 r1)), (List.take (List.length r2) (List.drop 0 r2)))
noncomputable def A17 : FnA := ⟨[.v (.pair (.int .i64) (.pair (.sl (.int .i64)) (.pair (.sl (.int .i64)) (.sl (.pair (.int .i64) (.pair .str (.pair (.int .i64) (.int .i64))))))))], true, [.pair (.int .i64) (.pair (.sl (.int .i64)) (.pair (.sl (.int .i64)) (.sl (.pair (.int .i64) (.pair .str (.pair (.int .i64) (.int .i64)))))))], fun x => laws_toAutomaton x.1⟩
theorem laws_toAutomaton_eq : fnF E17 L17_0 [.v (.pair (.int .i64) (.pair (.sl (.int .i64)) (.pair (.sl (.int .i64)) (.sl (.pair (.int .i64) (.pair .str (.pair (.int .i64) (.int .i64))))))))] true [.pair (.int .i64) (.pair (.sl (.int .i64)) (.pair (.sl (.int .i64)) (.sl (.pair (.int .i64) (.pair .str (.pair (.int .i64) (.int .i64)))))))] f17.ntmps f17.results.toList (codeOf f17) = fun x => laws_toAutomaton x.1 := by kernel_rfl
theorem A17_ok : FnOk prog 17 A17 := by
  have h := fnOk_of_run (P := prog) (E := E17) (tysOk_of tyl_ok) E17_ok (L := L17_0) (ps := [.v (.pair (.int .i64) (.pair (.sl (.int .i64)) (.pair (.sl (.int .i64)) (.sl (.pair (.int .i64) (.pair .str (.pair (.int .i64) (.int .i64))))))))]) (own := true) (outs := [.pair (.int .i64) (.pair (.sl (.int .i64)) (.pair (.sl (.int .i64)) (.sl (.pair (.int .i64) (.pair .str (.pair (.int .i64) (.int .i64)))))))]) func17 (c := codeOf f17) (by kernel_rfl) (codeOk_in (L := L17_0) (tysOk_of tyl_ok) E17_ok mixed (c := codeOf f17) (bs := []) (by kernel_rfl) allNil (by kernel_rfl))
  rw [laws_toAutomaton_eq] at h
  exact h
/-! spec.l13OwnAutomaton -/
noncomputable def E56 : Env := ⟨ty0, fun _ => none, fun _ => none, fun _ => none, fun _ => none⟩
theorem E56_ok : FnsOk prog E56 := (noFns _ _)
noncomputable def L56_0 : Nat → Option LoopD := fun _ => none
noncomputable def spec_l13OwnAutomaton : (Int × ((List Int) × ((List Int) × (List (Int × (ByteArray × (Int × Int))))))) → Option ((Int × ((List Int) × ((List Int) × (List (Int × (ByteArray × (Int × Int)))))))) := fun (a0_0, a0_1, a0_2, a0_3) =>
  if (((0 + 0) = (List.length ([] : List Unit))) ∧ (((0 + (List.length a0_1)) * 8) ≤ 140737488355328)) then
    if (((0 + 0) = (List.length ([] : List Unit))) ∧ (((0 + (List.length a0_2)) * 8) ≤ 140737488355328)) then
      if (((0 + 0) = (List.length ([] : List Unit))) ∧ (((0 + (List.length a0_3)) * 40) ≤ 140737488355328)) then
        some (a0_0, (List.take (0 + (List.length a0_1)) (List.drop 0 ((List.drop 0 []) ++ a0_1))), (List.take (0 + (List.length a0_2)) (List.drop 0 ((List.drop 0 []) ++ a0_2))), (List.take (0 + (List.length a0_3)) (List.drop 0 ((List.drop 0 []) ++ a0_3))))
      else
        none
    else
      none
  else
    none
noncomputable def A56 : FnA := ⟨[.v (.pair (.int .i64) (.pair (.sl (.int .i64)) (.pair (.sl (.int .i64)) (.sl (.pair (.int .i64) (.pair .str (.pair (.int .i64) (.int .i64))))))))], true, [.pair (.int .i64) (.pair (.sl (.int .i64)) (.pair (.sl (.int .i64)) (.sl (.pair (.int .i64) (.pair .str (.pair (.int .i64) (.int .i64)))))))], fun x => spec_l13OwnAutomaton x.1⟩
theorem spec_l13OwnAutomaton_eq : fnF E56 L56_0 [.v (.pair (.int .i64) (.pair (.sl (.int .i64)) (.pair (.sl (.int .i64)) (.sl (.pair (.int .i64) (.pair .str (.pair (.int .i64) (.int .i64))))))))] true [.pair (.int .i64) (.pair (.sl (.int .i64)) (.pair (.sl (.int .i64)) (.sl (.pair (.int .i64) (.pair .str (.pair (.int .i64) (.int .i64)))))))] f56.ntmps f56.results.toList (codeOf f56) = fun x => spec_l13OwnAutomaton x.1 := by kernel_rfl
theorem A56_ok : FnOk prog 56 A56 := by
  have h := fnOk_of_run (P := prog) (E := E56) (tysOk_of tyl_ok) E56_ok (L := L56_0) (ps := [.v (.pair (.int .i64) (.pair (.sl (.int .i64)) (.pair (.sl (.int .i64)) (.sl (.pair (.int .i64) (.pair .str (.pair (.int .i64) (.int .i64))))))))]) (own := true) (outs := [.pair (.int .i64) (.pair (.sl (.int .i64)) (.pair (.sl (.int .i64)) (.sl (.pair (.int .i64) (.pair .str (.pair (.int .i64) (.int .i64)))))))]) func56 (c := codeOf f56) (by kernel_rfl) (codeOk_in (L := L56_0) (tysOk_of tyl_ok) E56_ok mixed (c := codeOf f56) (bs := []) (by kernel_rfl) allNil (by kernel_rfl))
  rw [spec_l13OwnAutomaton_eq] at h
  exact h
/-! spec.l1In -/
noncomputable def E111 : Env := ⟨ty0, fun _ => none, fun _ => none, fun _ => none, fun _ => none⟩
theorem E111_ok : FnsOk prog E111 := (noFns _ _)
noncomputable def L111_0 : Nat → Option LoopD := fun _ => none
noncomputable def spec_l1In : Int → Int → Int → Option (Bool) := fun a0 a1 a2 =>
  bif (decide (a0 ≥ a1)) then
    some (decide (a0 ≤ a2))
  else
    some false
noncomputable def A111 : FnA := ⟨[.v (.int .i64), .v (.int .i64), .v (.int .i64)], true, [.bool], fun x => spec_l1In x.1 x.2.1 x.2.2.1⟩
theorem spec_l1In_eq : fnF E111 L111_0 [.v (.int .i64), .v (.int .i64), .v (.int .i64)] true [.bool] f111.ntmps f111.results.toList (codeOf f111) = fun x => spec_l1In x.1 x.2.1 x.2.2.1 := by kernel_rfl
theorem A111_ok : FnOk prog 111 A111 := by
  have h := fnOk_of_run (P := prog) (E := E111) (tysOk_of tyl_ok) E111_ok (L := L111_0) (ps := [.v (.int .i64), .v (.int .i64), .v (.int .i64)]) (own := true) (outs := [.bool]) func111 (c := codeOf f111) (by kernel_rfl) (codeOk_in (L := L111_0) (tysOk_of tyl_ok) E111_ok mixed (c := codeOf f111) (bs := []) (by kernel_rfl) allNil (by kernel_rfl))
  rw [spec_l1In_eq] at h
  exact h
/-! spec.l3Marks -/
noncomputable def E146 : Env := ⟨ty0, fun g => ifEq g 111 (some A111) (none), fun _ => none, fun _ => none, fun _ => none⟩
theorem E146_ok : FnsOk prog E146 := (oneFn A111_ok func111 (by kernel_rfl) (by kernel_rfl) (noFns _ _))
noncomputable def L146_0 : Nat → Option LoopD := fun _ => none
def sh146_2 : List Fm := [.cell (.val (.int .i64)), .cell (.val (.sl (.int .i64))), d, d, d, d, d, .cell (.val (.sl (.int .i64))), .cell (.val (.int .i64)), .cell (.val (.int .i64)), d, d, d, d, d, d, d, d, d, d, d, d, d, d, d, d, d, d, d, d, d, d, d]
def xs146_2 : List (Ex × List Fm) := [(.ret, [d, d, d, d, .cell (.val .bool), d, d, d, d, d, d, d, d, d, d, d, d, d, d, d, d, d, d, d, d, d, d, d, d, d, d, d, d]), (.exit 0, [d, d, d, d, d, d, d, d, d, d, d, d, d, d, d, d, d, d, d, d, d, d, d, d, d, d, d, d, d, d, d, d, d])]
noncomputable def spec_l3Marks_l2 : (Int × (List Int) × (List Int) × Int × Int × Unit) → Option ((Int × (List Int) × (List Int) × Int × Int × Unit) ⊕ ((Bool × Unit) ⊕ (Unit))) := fun (v0, v1, v7, v8, v9, _) =>
  bif (decide (v9 < v8)) then
    if (((0 : Int) ≤ v9) ∧ (v9 < (((List.length v7) : Nat) : Int))) then
      Option.bind (spec_l1In (List.getD v7 (Int.toNat v9) (0 : Int)) (0 : Int) (IntKind.wrap .i64 (v0 - (1 : Int)))) fun r0 =>
        bif (!r0) then
          some (Sum.inr (Sum.inl (false, ())))
        else
          bif (decide (v9 > (0 : Int))) then
            if (((0 : Int) ≤ (IntKind.wrap .i64 (v9 - (1 : Int)))) ∧ ((IntKind.wrap .i64 (v9 - (1 : Int))) < (((List.length v1) : Nat) : Int))) then
              bif (decide ((List.getD v1 (Int.toNat (IntKind.wrap .i64 (v9 - (1 : Int)))) (0 : Int)) ≥ (List.getD v7 (Int.toNat v9) (0 : Int)))) then
                some (Sum.inr (Sum.inl (false, ())))
              else
                some (Sum.inl (v0, v1, v7, v8, (IntKind.wrap .i64 (v9 + (1 : Int))), ()))
            else
              none
          else
            some (Sum.inl (v0, v1, v7, v8, (IntKind.wrap .i64 (v9 + (1 : Int))), ()))
    else
      none
  else
    some (Sum.inr (Sum.inr ()))
theorem spec_l3Marks_l2_eq : loopStep 33 E146 L146_0 (loopOf f146 2) sh146_2 xs146_2 = spec_l3Marks_l2 := by kernel_rfl
theorem loop146_2 {L : Nat → Option LoopD} (h : L 2 = some ⟨33, sh146_2, xs146_2, spec_l3Marks_l2⟩) : LoopOk prog L (loopOf f146 2) :=
  loopOk (tysOk_of tyl_ok) E146_ok (codeOk_in (L := L146_0) (tysOk_of tyl_ok) E146_ok mixed (c := loopOf f146 2) (bs := []) (by kernel_rfl) allNil (by kernel_rfl)) (by kernel_rfl) (by kernel_rfl) spec_l3Marks_l2_eq (by rw [show firstId (loopOf f146 2) = 2 from by kernel_rfl]; exact h)
noncomputable def L146_1 : Nat → Option LoopD := fun n => ifEq n 2 (some ⟨33, sh146_2, xs146_2, spec_l3Marks_l2⟩) (L146_0 n)
noncomputable def spec_l3Marks : Int → (List Int) → Option (Bool) := fun a0 a1 =>
  Option.bind (loopF spec_l3Marks_l2 (a0, a1, a1, (((List.length a1) : Nat) : Int), (0 : Int), ())) fun r0 =>
    (match r0 with
    | .inl (d1, _) =>
        some d1
    | .inr _ =>
        some true)
noncomputable def A146 : FnA := ⟨[.v (.int .i64), .v (.sl (.int .i64))], true, [.bool], fun x => spec_l3Marks x.1 x.2.1⟩
theorem spec_l3Marks_eq : fnF E146 L146_1 [.v (.int .i64), .v (.sl (.int .i64))] true [.bool] f146.ntmps f146.results.toList (codeOf f146) = fun x => spec_l3Marks x.1 x.2.1 := by kernel_rfl
theorem A146_ok : FnOk prog 146 A146 := by
  have h := fnOk_of_run (P := prog) (E := E146) (tysOk_of tyl_ok) E146_ok (L := L146_1) (ps := [.v (.int .i64), .v (.sl (.int .i64))]) (own := true) (outs := [.bool]) func146 (c := codeOf f146) (by kernel_rfl) (codeOk_in (L := L146_1) (tysOk_of tyl_ok) E146_ok mixed (c := codeOf f146) (bs := [loopOf f146 2]) (by kernel_rfl) (allCons (loop146_2 rfl) allNil) (by kernel_rfl))
  rw [spec_l3Marks_eq] at h
  exact h
/-! spec.l3Step -/
noncomputable def E147 : Env := ⟨ty0, fun g => ifEq g 111 (some A111) (none), fun _ => none, fun _ => none, fun _ => none⟩
theorem E147_ok : FnsOk prog E147 := (oneFn A111_ok func111 (by kernel_rfl) (by kernel_rfl) (noFns _ _))
noncomputable def L147_0 : Nat → Option LoopD := fun _ => none
noncomputable def spec_l3Step : Int → (Int × (ByteArray × (Int × Int))) → Option (Bool) := fun a0 (a1_0, a1_1, a1_2, a1_3) =>
  Option.bind (spec_l1In a1_0 (0 : Int) (IntKind.wrap .i64 (a0 - (1 : Int)))) fun r0 =>
    bif r0 then
      Option.bind (spec_l1In a1_2 (0 : Int) (IntKind.wrap .i64 (a0 - (1 : Int)))) fun r1 =>
        bif r1 then
          Option.bind (spec_l1In a1_3 (0 : Int) (3 : Int)) fun r2 =>
            bif r2 then
              bif ((ByteArray.toList a1_1) == (ByteArray.toList (⟨#[(97 : UInt8)]⟩ : ByteArray))) then
                some true
              else
                some ((ByteArray.toList a1_1) == (ByteArray.toList (⟨#[(98 : UInt8)]⟩ : ByteArray)))
            else
              some false
        else
          some false
    else
      some false
noncomputable def A147 : FnA := ⟨[.v (.int .i64), .v (.pair (.int .i64) (.pair .str (.pair (.int .i64) (.int .i64))))], true, [.bool], fun x => spec_l3Step x.1 x.2.1⟩
theorem spec_l3Step_eq : fnF E147 L147_0 [.v (.int .i64), .v (.pair (.int .i64) (.pair .str (.pair (.int .i64) (.int .i64))))] true [.bool] f147.ntmps f147.results.toList (codeOf f147) = fun x => spec_l3Step x.1 x.2.1 := by kernel_rfl
theorem A147_ok : FnOk prog 147 A147 := by
  have h := fnOk_of_run (P := prog) (E := E147) (tysOk_of tyl_ok) E147_ok (L := L147_0) (ps := [.v (.int .i64), .v (.pair (.int .i64) (.pair .str (.pair (.int .i64) (.int .i64))))]) (own := true) (outs := [.bool]) func147 (c := codeOf f147) (by kernel_rfl) (codeOk_in (L := L147_0) (tysOk_of tyl_ok) E147_ok mixed (c := codeOf f147) (bs := []) (by kernel_rfl) allNil (by kernel_rfl))
  rw [spec_l3Step_eq] at h
  exact h
/-! spec.l3Before -/
noncomputable def E112 : Env := ⟨ty0, fun _ => none, fun _ => none, fun _ => none, fun _ => none⟩
theorem E112_ok : FnsOk prog E112 := (noFns _ _)
noncomputable def L112_0 : Nat → Option LoopD := fun _ => none
noncomputable def spec_l3Before : (Int × (ByteArray × (Int × Int))) → (Int × (ByteArray × (Int × Int))) → Option (Bool) := fun (a0_0, a0_1, a0_2, a0_3) (a1_0, a1_1, a1_2, a1_3) =>
  bif (a0_0 != a1_0) then
    some (decide (a0_0 < a1_0))
  else
    bif (!((ByteArray.toList a0_1) == (ByteArray.toList a1_1))) then
      some (Op.bytesLess (ByteArray.toList a0_1) (ByteArray.toList a1_1))
    else
      some (decide (a0_2 < a1_2))
noncomputable def A112 : FnA := ⟨[.v (.pair (.int .i64) (.pair .str (.pair (.int .i64) (.int .i64)))), .v (.pair (.int .i64) (.pair .str (.pair (.int .i64) (.int .i64))))], true, [.bool], fun x => spec_l3Before x.1 x.2.1⟩
theorem spec_l3Before_eq : fnF E112 L112_0 [.v (.pair (.int .i64) (.pair .str (.pair (.int .i64) (.int .i64)))), .v (.pair (.int .i64) (.pair .str (.pair (.int .i64) (.int .i64))))] true [.bool] f112.ntmps f112.results.toList (codeOf f112) = fun x => spec_l3Before x.1 x.2.1 := by kernel_rfl
theorem A112_ok : FnOk prog 112 A112 := by
  have h := fnOk_of_run (P := prog) (E := E112) (tysOk_of tyl_ok) E112_ok (L := L112_0) (ps := [.v (.pair (.int .i64) (.pair .str (.pair (.int .i64) (.int .i64)))), .v (.pair (.int .i64) (.pair .str (.pair (.int .i64) (.int .i64))))]) (own := true) (outs := [.bool]) func112 (c := codeOf f112) (by kernel_rfl) (codeOk_in (L := L112_0) (tysOk_of tyl_ok) E112_ok mixed (c := codeOf f112) (bs := []) (by kernel_rfl) allNil (by kernel_rfl))
  rw [spec_l3Before_eq] at h
  exact h
/-! spec.AutomatonValid -/
noncomputable def E110 : Env := ⟨ty0, fun g => ifEq g 111 (some A111) (ifEq g 146 (some A146) (ifEq g 147 (some A147) (ifEq g 112 (some A112) (none)))), fun _ => none, fun _ => none, fun _ => none⟩
theorem E110_ok : FnsOk prog E110 := (oneFn A111_ok func111 (by kernel_rfl) (by kernel_rfl) (oneFn A146_ok func146 (by kernel_rfl) (by kernel_rfl) (oneFn A147_ok func147 (by kernel_rfl) (by kernel_rfl) (oneFn A112_ok func112 (by kernel_rfl) (by kernel_rfl) (noFns _ _)))))
noncomputable def L110_0 : Nat → Option LoopD := fun _ => none
def sh110_4 : List Fm := [d, .box 100100 [.val (.int .i64), .val (.sl (.int .i64)), .val (.sl (.int .i64)), .val (.sl (.pair (.int .i64) (.pair .str (.pair (.int .i64) (.int .i64)))))], d, d, d, d, d, d, d, d, d, d, d, d, d, d, d, d, d, d, d, d, d, d, d, d, d, d, d, d, d, d, .cell (.val (.sl (.pair (.int .i64) (.pair .str (.pair (.int .i64) (.int .i64)))))), .cell (.val (.int .i64)), .cell (.val (.int .i64)), d, d, d, d, d, d, d, d, d, d, d, d, d, d, d, d, d, d, d, d, d, d, d, d, d]
def xs110_4 : List (Ex × List Fm) := [(.ret, [d, d, .cell (.val .bool), d, d, d, d, d, d, d, d, d, d, d, d, d, d, d, d, d, d, d, d, d, d, d, d, d, d, d, d, d, d, d, d, d, d, d, d, d, d, d, d, d, d, d, d, d, d, d, d, d, d, d, d, d, d, d, d, d]), (.exit 0, [d, d, d, d, d, d, d, d, d, d, d, d, d, d, d, d, d, d, d, d, d, d, d, d, d, d, d, d, d, d, d, d, d, d, d, d, d, d, d, d, d, d, d, d, d, d, d, d, d, d, d, d, d, d, d, d, d, d, d, d])]
noncomputable def spec_AutomatonValid_l4 : ((Int × (List Int) × (List Int) × (List (Int × (ByteArray × (Int × Int)))) × Unit) × (List (Int × (ByteArray × (Int × Int)))) × Int × Int × Unit) → Option (((Int × (List Int) × (List Int) × (List (Int × (ByteArray × (Int × Int)))) × Unit) × (List (Int × (ByteArray × (Int × Int)))) × Int × Int × Unit) ⊕ ((Bool × Unit) ⊕ (Unit))) := fun ((v1_0, v1_1, v1_2, v1_3, _), v32, v33, v34, _) =>
  bif (decide (v34 < v33)) then
    if (((0 : Int) ≤ v34) ∧ (v34 < (((List.length v32) : Nat) : Int))) then
      Option.bind (spec_l3Step v1_0 ((List.getD v32 (Int.toNat v34) ((0 : Int), (⟨Array.empty⟩ : ByteArray), (0 : Int), (0 : Int))).1, (List.getD v32 (Int.toNat v34) ((0 : Int), (⟨Array.empty⟩ : ByteArray), (0 : Int), (0 : Int))).2.1, (List.getD v32 (Int.toNat v34) ((0 : Int), (⟨Array.empty⟩ : ByteArray), (0 : Int), (0 : Int))).2.2.1, (List.getD v32 (Int.toNat v34) ((0 : Int), (⟨Array.empty⟩ : ByteArray), (0 : Int), (0 : Int))).2.2.2)) fun r0 =>
        bif (!r0) then
          some (Sum.inr (Sum.inl (false, ())))
        else
          bif (decide (v34 > (0 : Int))) then
            if (((0 : Int) ≤ (IntKind.wrap .i64 (v34 - (1 : Int)))) ∧ ((IntKind.wrap .i64 (v34 - (1 : Int))) < (((List.length v1_3) : Nat) : Int))) then
              Option.bind (spec_l3Before (List.getD v1_3 (Int.toNat (IntKind.wrap .i64 (v34 - (1 : Int)))) ((0 : Int), (⟨Array.empty⟩ : ByteArray), (0 : Int), (0 : Int))) ((List.getD v32 (Int.toNat v34) ((0 : Int), (⟨Array.empty⟩ : ByteArray), (0 : Int), (0 : Int))).1, (List.getD v32 (Int.toNat v34) ((0 : Int), (⟨Array.empty⟩ : ByteArray), (0 : Int), (0 : Int))).2.1, (List.getD v32 (Int.toNat v34) ((0 : Int), (⟨Array.empty⟩ : ByteArray), (0 : Int), (0 : Int))).2.2.1, (List.getD v32 (Int.toNat v34) ((0 : Int), (⟨Array.empty⟩ : ByteArray), (0 : Int), (0 : Int))).2.2.2)) fun r1 =>
                bif (!r1) then
                  some (Sum.inr (Sum.inl (false, ())))
                else
                  some (Sum.inl ((v1_0, v1_1, v1_2, v1_3, ()), v32, v33, (IntKind.wrap .i64 (v34 + (1 : Int))), ()))
            else
              none
          else
            some (Sum.inl ((v1_0, v1_1, v1_2, v1_3, ()), v32, v33, (IntKind.wrap .i64 (v34 + (1 : Int))), ()))
    else
      none
  else
    some (Sum.inr (Sum.inr ()))
theorem spec_AutomatonValid_l4_eq : loopStep 60 E110 L110_0 (loopOf f110 4) sh110_4 xs110_4 = spec_AutomatonValid_l4 := by kernel_rfl
theorem loop110_4 {L : Nat → Option LoopD} (h : L 4 = some ⟨60, sh110_4, xs110_4, spec_AutomatonValid_l4⟩) : LoopOk prog L (loopOf f110 4) :=
  loopOk (tysOk_of tyl_ok) E110_ok (codeOk_in (L := L110_0) (tysOk_of tyl_ok) E110_ok mixed (c := loopOf f110 4) (bs := []) (by kernel_rfl) allNil (by kernel_rfl)) (by kernel_rfl) (by kernel_rfl) spec_AutomatonValid_l4_eq (by rw [show firstId (loopOf f110 4) = 4 from by kernel_rfl]; exact h)
noncomputable def L110_1 : Nat → Option LoopD := fun n => ifEq n 4 (some ⟨60, sh110_4, xs110_4, spec_AutomatonValid_l4⟩) (L110_0 n)
noncomputable def spec_AutomatonValid : (Int × ((List Int) × ((List Int) × (List (Int × (ByteArray × (Int × Int))))))) → Option (Bool) := fun (a0_0, a0_1, a0_2, a0_3) =>
  Option.bind (spec_l1In a0_0 (1 : Int) (4 : Int)) fun r0 =>
    bif (!r0) then
      some false
    else
      Option.bind (spec_l3Marks a0_0 a0_1) fun r1 =>
        bif (!r1) then
          some false
        else
          Option.bind (spec_l3Marks a0_0 a0_2) fun r2 =>
            bif (!r2) then
              some false
            else
              bif (decide ((((List.length a0_3) : Nat) : Int) > (24 : Int))) then
                some false
              else
                Option.bind (loopF spec_AutomatonValid_l4 ((a0_0, a0_1, a0_2, a0_3, ()), a0_3, (((List.length a0_3) : Nat) : Int), (0 : Int), ())) fun r3 =>
                  (match r3 with
                  | .inl (d4, _) =>
                      some d4
                  | .inr _ =>
                      some true)
noncomputable def A110 : FnA := ⟨[.v (.pair (.int .i64) (.pair (.sl (.int .i64)) (.pair (.sl (.int .i64)) (.sl (.pair (.int .i64) (.pair .str (.pair (.int .i64) (.int .i64))))))))], true, [.bool], fun x => spec_AutomatonValid x.1⟩
theorem spec_AutomatonValid_eq : fnF E110 L110_1 [.v (.pair (.int .i64) (.pair (.sl (.int .i64)) (.pair (.sl (.int .i64)) (.sl (.pair (.int .i64) (.pair .str (.pair (.int .i64) (.int .i64))))))))] true [.bool] f110.ntmps f110.results.toList (codeOf f110) = fun x => spec_AutomatonValid x.1 := by kernel_rfl
theorem A110_ok : FnOk prog 110 A110 := by
  have h := fnOk_of_run (P := prog) (E := E110) (tysOk_of tyl_ok) E110_ok (L := L110_1) (ps := [.v (.pair (.int .i64) (.pair (.sl (.int .i64)) (.pair (.sl (.int .i64)) (.sl (.pair (.int .i64) (.pair .str (.pair (.int .i64) (.int .i64))))))))]) (own := true) (outs := [.bool]) func110 (c := codeOf f110) (by kernel_rfl) (codeOk_in (L := L110_1) (tysOk_of tyl_ok) E110_ok mixed (c := codeOf f110) (bs := [loopOf f110 4]) (by kernel_rfl) (allCons (loop110_4 rfl) allNil) (by kernel_rfl))
  rw [spec_AutomatonValid_eq] at h
  exact h
/-! spec.l5Whole -/
noncomputable def E60 : Env := ⟨ty0, fun g => ifEq g 110 (some A110) (none), fun _ => none, fun _ => none, fun _ => none⟩
theorem E60_ok : FnsOk prog E60 := (oneFn A110_ok func110 (by kernel_rfl) (by kernel_rfl) (noFns _ _))
noncomputable def L60_0 : Nat → Option LoopD := fun _ => none
noncomputable def spec_l5Whole : (Int × ((List Int) × ((List Int) × (List (Int × (ByteArray × (Int × Int))))))) → Option ((Int × ((List Int) × ((List Int) × (List (Int × (ByteArray × (Int × Int))))))) × Bool) := fun (a0_0, a0_1, a0_2, a0_3) =>
  Option.bind (spec_AutomatonValid (a0_0, a0_1, a0_2, a0_3)) fun r0 =>
    bif (!r0) then
      some (((0 : Int), [], [], []), false)
    else
      some ((a0_0, a0_1, a0_2, a0_3), true)
noncomputable def A60 : FnA := ⟨[.v (.pair (.int .i64) (.pair (.sl (.int .i64)) (.pair (.sl (.int .i64)) (.sl (.pair (.int .i64) (.pair .str (.pair (.int .i64) (.int .i64))))))))], false, [.pair (.int .i64) (.pair (.sl (.int .i64)) (.pair (.sl (.int .i64)) (.sl (.pair (.int .i64) (.pair .str (.pair (.int .i64) (.int .i64))))))), .bool], fun x => spec_l5Whole x.1⟩
theorem spec_l5Whole_eq : fnF E60 L60_0 [.v (.pair (.int .i64) (.pair (.sl (.int .i64)) (.pair (.sl (.int .i64)) (.sl (.pair (.int .i64) (.pair .str (.pair (.int .i64) (.int .i64))))))))] false [.pair (.int .i64) (.pair (.sl (.int .i64)) (.pair (.sl (.int .i64)) (.sl (.pair (.int .i64) (.pair .str (.pair (.int .i64) (.int .i64))))))), .bool] f60.ntmps f60.results.toList (codeOf f60) = fun x => spec_l5Whole x.1 := by kernel_rfl
theorem A60_ok : FnOk prog 60 A60 := by
  have h := fnOk_of_run (P := prog) (E := E60) (tysOk_of tyl_ok) E60_ok (L := L60_0) (ps := [.v (.pair (.int .i64) (.pair (.sl (.int .i64)) (.pair (.sl (.int .i64)) (.sl (.pair (.int .i64) (.pair .str (.pair (.int .i64) (.int .i64))))))))]) (own := false) (outs := [.pair (.int .i64) (.pair (.sl (.int .i64)) (.pair (.sl (.int .i64)) (.sl (.pair (.int .i64) (.pair .str (.pair (.int .i64) (.int .i64))))))), .bool]) func60 (c := codeOf f60) (by kernel_rfl) (codeOk_in (L := L60_0) (tysOk_of tyl_ok) E60_ok mixed (c := codeOf f60) (bs := []) (by kernel_rfl) allNil (by kernel_rfl))
  rw [spec_l5Whole_eq] at h
  exact h
/-! spec.ScaleAutomaton -/
noncomputable def E57 : Env := ⟨ty0, fun g => ifEq g 56 (some A56) (ifEq g 110 (some A110) (ifEq g 111 (some A111) (ifEq g 60 (some A60) (none)))), fun _ => none, fun _ => none, fun _ => none⟩
theorem E57_ok : FnsOk prog E57 := (oneFn A56_ok func56 (by kernel_rfl) (by kernel_rfl) (oneFn A110_ok func110 (by kernel_rfl) (by kernel_rfl) (oneFn A111_ok func111 (by kernel_rfl) (by kernel_rfl) (oneFn A60_ok func60 (by kernel_rfl) (by kernel_rfl) (noFns _ _)))))
noncomputable def L57_0 : Nat → Option LoopD := fun _ => none
def sh57_6 : List Fm := [d, .cell (.val (.int .i64)), d, d, .box 100400 [.val (.int .i64), .own (.int .i64) 100402 false, .own (.int .i64) 100403 false, .own (.pair (.int .i64) (.pair .str (.pair (.int .i64) (.int .i64)))) 100404 false], d, .box 100600 [.val (.int .i64), .own (.int .i64) 100602 false, .own (.int .i64) 100603 false, .own (.pair (.int .i64) (.pair .str (.pair (.int .i64) (.int .i64)))) 100604 false], d, d, d, d, d, d, d, d, d, d, d, d, d, d, d, d, d, d, d, d, d, d, .cell (.own (.pair (.int .i64) (.pair .str (.pair (.int .i64) (.int .i64)))) 102900 false), .cell (.val (.int .i64)), .cell (.val (.int .i64)), d, d, d, d, d, d, d, d, d, d, d, d, d, d, d, d, d, d, d]
def xs57_6 : List (Ex × List Fm) := [(.exit 0, [d, d, d, d, .box 100400 [.val (.int .i64), .own (.int .i64) 100402 false, .own (.int .i64) 100403 false, .own (.pair (.int .i64) (.pair .str (.pair (.int .i64) (.int .i64)))) 100404 false], d, .box 100600 [.val (.int .i64), .own (.int .i64) 100602 false, .own (.int .i64) 100603 false, .own (.pair (.int .i64) (.pair .str (.pair (.int .i64) (.int .i64)))) 100604 false], d, d, d, d, d, d, d, d, d, d, d, d, d, d, d, d, d, d, d, d, d, d, d, d, d, d, d, d, d, d, d, d, d, d, d, d, d, d, d, d, d, d, d, d])]
noncomputable def spec_ScaleAutomaton_l6 : (Int × (Int × (List Int) × (List Int) × (List (Int × (ByteArray × (Int × Int)))) × Unit) × (Int × (List Int) × (List Int) × (List (Int × (ByteArray × (Int × Int)))) × Unit) × (List (Int × (ByteArray × (Int × Int)))) × Int × Int × Unit) → Option ((Int × (Int × (List Int) × (List Int) × (List (Int × (ByteArray × (Int × Int)))) × Unit) × (Int × (List Int) × (List Int) × (List (Int × (ByteArray × (Int × Int)))) × Unit) × (List (Int × (ByteArray × (Int × Int)))) × Int × Int × Unit) ⊕ (((Int × (List Int) × (List Int) × (List (Int × (ByteArray × (Int × Int)))) × Unit) × (Int × (List Int) × (List Int) × (List (Int × (ByteArray × (Int × Int)))) × Unit) × Unit))) := fun (v1, (v4_0, v4_1, v4_2, v4_3, _), (v6_0, v6_1, v6_2, v6_3, _), v29, v30, v31, _) =>
  bif (decide (v31 < v30)) then
    if (((0 : Int) ≤ v31) ∧ (v31 < (((List.length v29) : Nat) : Int))) then
      if (((0 + (List.length v6_3)) = (List.length v6_3)) ∧ ((((List.length v6_3) + (List.length (List.take 1 (List.drop 0 [((List.getD v29 (0 + (Int.toNat v31)) ((0 : Int), (⟨Array.empty⟩ : ByteArray), (0 : Int), (0 : Int))).1, (List.getD v29 (0 + (Int.toNat v31)) ((0 : Int), (⟨Array.empty⟩ : ByteArray), (0 : Int), (0 : Int))).2.1, (List.getD v29 (0 + (Int.toNat v31)) ((0 : Int), (⟨Array.empty⟩ : ByteArray), (0 : Int), (0 : Int))).2.2.1, (IntKind.wrap .i64 ((List.getD v29 (0 + (Int.toNat v31)) ((0 : Int), (⟨Array.empty⟩ : ByteArray), (0 : Int), (0 : Int))).2.2.2 * v1)))])))) * 40) ≤ 140737488355328)) then
        some (Sum.inl (v1, (v4_0, (List.take (List.length v4_1) (List.drop 0 v4_1)), (List.take (List.length v4_2) (List.drop 0 v4_2)), (List.take (List.length v4_3) (List.drop 0 v4_3)), ()), (v6_0, (List.take (List.length v6_1) (List.drop 0 v6_1)), (List.take (List.length v6_2) (List.drop 0 v6_2)), (List.take ((List.length v6_3) + (List.length (List.take 1 (List.drop 0 [((List.getD v29 (0 + (Int.toNat v31)) ((0 : Int), (⟨Array.empty⟩ : ByteArray), (0 : Int), (0 : Int))).1, (List.getD v29 (0 + (Int.toNat v31)) ((0 : Int), (⟨Array.empty⟩ : ByteArray), (0 : Int), (0 : Int))).2.1, (List.getD v29 (0 + (Int.toNat v31)) ((0 : Int), (⟨Array.empty⟩ : ByteArray), (0 : Int), (0 : Int))).2.2.1, (IntKind.wrap .i64 ((List.getD v29 (0 + (Int.toNat v31)) ((0 : Int), (⟨Array.empty⟩ : ByteArray), (0 : Int), (0 : Int))).2.2.2 * v1)))])))) (List.drop 0 ((List.drop 0 v6_3) ++ (List.take 1 (List.drop 0 [((List.getD v29 (0 + (Int.toNat v31)) ((0 : Int), (⟨Array.empty⟩ : ByteArray), (0 : Int), (0 : Int))).1, (List.getD v29 (0 + (Int.toNat v31)) ((0 : Int), (⟨Array.empty⟩ : ByteArray), (0 : Int), (0 : Int))).2.1, (List.getD v29 (0 + (Int.toNat v31)) ((0 : Int), (⟨Array.empty⟩ : ByteArray), (0 : Int), (0 : Int))).2.2.1, (IntKind.wrap .i64 ((List.getD v29 (0 + (Int.toNat v31)) ((0 : Int), (⟨Array.empty⟩ : ByteArray), (0 : Int), (0 : Int))).2.2.2 * v1)))]))))), ()), (List.take (List.length v29) (List.drop 0 v29)), v30, (IntKind.wrap .i64 (v31 + (1 : Int))), ()))
      else
        none
    else
      none
  else
    some (Sum.inr ((v4_0, (List.take (List.length v4_1) (List.drop 0 v4_1)), (List.take (List.length v4_2) (List.drop 0 v4_2)), (List.take (List.length v4_3) (List.drop 0 v4_3)), ()), (v6_0, (List.take (List.length v6_1) (List.drop 0 v6_1)), (List.take (List.length v6_2) (List.drop 0 v6_2)), (List.take (List.length v6_3) (List.drop 0 v6_3)), ()), ()))
theorem spec_ScaleAutomaton_l6_eq : loopStep 51 E57 L57_0 (loopOf f57 6) sh57_6 xs57_6 = spec_ScaleAutomaton_l6 := by kernel_rfl
theorem loop57_6 {L : Nat → Option LoopD} (h : L 6 = some ⟨51, sh57_6, xs57_6, spec_ScaleAutomaton_l6⟩) : LoopOk prog L (loopOf f57 6) :=
  loopOk (tysOk_of tyl_ok) E57_ok (codeOk_in (L := L57_0) (tysOk_of tyl_ok) E57_ok mixed (c := loopOf f57 6) (bs := []) (by kernel_rfl) allNil (by kernel_rfl)) (by kernel_rfl) (by kernel_rfl) spec_ScaleAutomaton_l6_eq (by rw [show firstId (loopOf f57 6) = 6 from by kernel_rfl]; exact h)
noncomputable def L57_1 : Nat → Option LoopD := fun n => ifEq n 6 (some ⟨51, sh57_6, xs57_6, spec_ScaleAutomaton_l6⟩) (L57_0 n)
noncomputable def spec_ScaleAutomaton : (Int × ((List Int) × ((List Int) × (List (Int × (ByteArray × (Int × Int))))))) → Int → Option ((Int × ((List Int) × ((List Int) × (List (Int × (ByteArray × (Int × Int))))))) × Bool) := fun (a0_0, a0_1, a0_2, a0_3) a1 =>
  Option.bind (spec_l13OwnAutomaton (a0_0, a0_1, a0_2, a0_3)) fun (r0, r1, r2, r3) =>
    Option.bind (spec_AutomatonValid (r0, (List.take (List.length r1) (List.drop 0 r1)), (List.take (List.length r2) (List.drop 0 r2)), (List.take (List.length r3) (List.drop 0 r3)))) fun r4 =>
      bif (!r4) then
        some (((0 : Int), [], [], []), false)
      else
        Option.bind (spec_l1In a1 (0 : Int) (3 : Int)) fun r5 =>
          bif (!r5) then
            some (((0 : Int), [], [], []), false)
          else
            Option.bind (loopF spec_ScaleAutomaton_l6 (a1, ((0 : Int), [], [], [], ()), (r0, (List.take (List.length r1) (List.drop 0 r1)), (List.take (List.length r2) (List.drop 0 r2)), (List.take 0 (List.drop 0 [])), ()), (List.take (List.length r3) (List.drop 0 r3)), (((List.length r3) : Nat) : Int), (0 : Int), ())) fun ((r6, r7, r8, r9, _), (r10, r11, r12, r13, _), _) =>
              Option.bind (spec_l5Whole (r10, (List.take (List.length r11) (List.drop 0 r11)), (List.take (List.length r12) (List.drop 0 r12)), (List.take (List.length r13) (List.drop 0 r13)))) fun ((r14, r15, r16, r17), r18) =>
                some ((r14, r15, r16, r17), r18)
noncomputable def A57 : FnA := ⟨[.v (.pair (.int .i64) (.pair (.sl (.int .i64)) (.pair (.sl (.int .i64)) (.sl (.pair (.int .i64) (.pair .str (.pair (.int .i64) (.int .i64)))))))), .v (.int .i64)], false, [.pair (.int .i64) (.pair (.sl (.int .i64)) (.pair (.sl (.int .i64)) (.sl (.pair (.int .i64) (.pair .str (.pair (.int .i64) (.int .i64))))))), .bool], fun x => spec_ScaleAutomaton x.1 x.2.1⟩
theorem spec_ScaleAutomaton_eq : fnF E57 L57_1 [.v (.pair (.int .i64) (.pair (.sl (.int .i64)) (.pair (.sl (.int .i64)) (.sl (.pair (.int .i64) (.pair .str (.pair (.int .i64) (.int .i64)))))))), .v (.int .i64)] false [.pair (.int .i64) (.pair (.sl (.int .i64)) (.pair (.sl (.int .i64)) (.sl (.pair (.int .i64) (.pair .str (.pair (.int .i64) (.int .i64))))))), .bool] f57.ntmps f57.results.toList (codeOf f57) = fun x => spec_ScaleAutomaton x.1 x.2.1 := by kernel_rfl
theorem A57_ok : FnOk prog 57 A57 := by
  have h := fnOk_of_run (P := prog) (E := E57) (tysOk_of tyl_ok) E57_ok (L := L57_1) (ps := [.v (.pair (.int .i64) (.pair (.sl (.int .i64)) (.pair (.sl (.int .i64)) (.sl (.pair (.int .i64) (.pair .str (.pair (.int .i64) (.int .i64)))))))), .v (.int .i64)]) (own := false) (outs := [.pair (.int .i64) (.pair (.sl (.int .i64)) (.pair (.sl (.int .i64)) (.sl (.pair (.int .i64) (.pair .str (.pair (.int .i64) (.int .i64))))))), .bool]) func57 (c := codeOf f57) (by kernel_rfl) (codeOk_in (L := L57_1) (tysOk_of tyl_ok) E57_ok mixed (c := codeOf f57) (bs := [loopOf f57 6]) (by kernel_rfl) (allCons (loop57_6 rfl) allNil) (by kernel_rfl))
  rw [spec_ScaleAutomaton_eq] at h
  exact h
/-! spec.l4In -/
noncomputable def E58 : Env := ⟨ty0, fun _ => none, fun _ => none, fun _ => none, fun _ => none⟩
theorem E58_ok : FnsOk prog E58 := (noFns _ _)
noncomputable def L58_0 : Nat → Option LoopD := fun _ => none
def sh58_2 : List Fm := [d, .cell (.val (.int .i64)), d, d, d, d, d, .cell (.val (.sl (.int .i64))), .cell (.val (.int .i64)), .cell (.val (.int .i64)), d, d, d, d, d, d, d]
def xs58_2 : List (Ex × List Fm) := [(.ret, [d, d, d, d, .cell (.val .bool), d, d, d, d, d, d, d, d, d, d, d, d]), (.exit 0, [d, d, d, d, d, d, d, d, d, d, d, d, d, d, d, d, d])]
noncomputable def spec_l4In_l2 : (Int × (List Int) × Int × Int × Unit) → Option ((Int × (List Int) × Int × Int × Unit) ⊕ ((Bool × Unit) ⊕ (Unit))) := fun (v1, v7, v8, v9, _) =>
  bif (decide (v9 < v8)) then
    if (((0 : Int) ≤ v9) ∧ (v9 < (((List.length v7) : Nat) : Int))) then
      bif ((List.getD v7 (Int.toNat v9) (0 : Int)) == v1) then
        some (Sum.inr (Sum.inl (true, ())))
      else
        some (Sum.inl (v1, v7, v8, (IntKind.wrap .i64 (v9 + (1 : Int))), ()))
    else
      none
  else
    some (Sum.inr (Sum.inr ()))
theorem spec_l4In_l2_eq : loopStep 17 E58 L58_0 (loopOf f58 2) sh58_2 xs58_2 = spec_l4In_l2 := by kernel_rfl
theorem loop58_2 {L : Nat → Option LoopD} (h : L 2 = some ⟨17, sh58_2, xs58_2, spec_l4In_l2⟩) : LoopOk prog L (loopOf f58 2) :=
  loopOk (tysOk_of tyl_ok) E58_ok (codeOk_in (L := L58_0) (tysOk_of tyl_ok) E58_ok mixed (c := loopOf f58 2) (bs := []) (by kernel_rfl) allNil (by kernel_rfl)) (by kernel_rfl) (by kernel_rfl) spec_l4In_l2_eq (by rw [show firstId (loopOf f58 2) = 2 from by kernel_rfl]; exact h)
noncomputable def L58_1 : Nat → Option LoopD := fun n => ifEq n 2 (some ⟨17, sh58_2, xs58_2, spec_l4In_l2⟩) (L58_0 n)
noncomputable def spec_l4In : (List Int) → Int → Option (Bool) := fun a0 a1 =>
  Option.bind (loopF spec_l4In_l2 (a1, a0, (((List.length a0) : Nat) : Int), (0 : Int), ())) fun r0 =>
    (match r0 with
    | .inl (d1, _) =>
        some d1
    | .inr _ =>
        some false)
noncomputable def A58 : FnA := ⟨[.v (.sl (.int .i64)), .v (.int .i64)], true, [.bool], fun x => spec_l4In x.1 x.2.1⟩
theorem spec_l4In_eq : fnF E58 L58_1 [.v (.sl (.int .i64)), .v (.int .i64)] true [.bool] f58.ntmps f58.results.toList (codeOf f58) = fun x => spec_l4In x.1 x.2.1 := by kernel_rfl
theorem A58_ok : FnOk prog 58 A58 := by
  have h := fnOk_of_run (P := prog) (E := E58) (tysOk_of tyl_ok) E58_ok (L := L58_1) (ps := [.v (.sl (.int .i64)), .v (.int .i64)]) (own := true) (outs := [.bool]) func58 (c := codeOf f58) (by kernel_rfl) (codeOk_in (L := L58_1) (tysOk_of tyl_ok) E58_ok mixed (c := codeOf f58) (bs := [loopOf f58 2]) (by kernel_rfl) (allCons (loop58_2 rfl) allNil) (by kernel_rfl))
  rw [spec_l4In_eq] at h
  exact h
/-! spec.l3Put -/
noncomputable def E59 : Env := ⟨ty0, fun g => ifEq g 112 (some A112) (none), fun _ => none, fun _ => none, fun _ => none⟩
theorem E59_ok : FnsOk prog E59 := (oneFn A112_ok func112 (by kernel_rfl) (by kernel_rfl) (noFns _ _))
noncomputable def L59_0 : Nat → Option LoopD := fun _ => none
def sh59_2 : List Fm := [.cell (.val (.sl (.pair (.int .i64) (.pair .str (.pair (.int .i64) (.int .i64)))))), d, d, .box 100300 [.val (.int .i64), .val .str, .val (.int .i64), .val (.int .i64)], d, .cell (.val (.int .i64)), d, d, d, d, d, d, d, d, d, d, d, d, d, d, d, d, d, d, d, d, d, d, d, d, d, d, d, d, d, d, d, d, d, d, d, d, d, d, d, d, d, d, d, d, d, d, d, d, d, d, d, d, d, d, d, d]
def xs59_2 : List (Ex × List Fm) := [(.exit 0, [.cell (.val (.sl (.pair (.int .i64) (.pair .str (.pair (.int .i64) (.int .i64)))))), d, d, .box 100300 [.val (.int .i64), .val .str, .val (.int .i64), .val (.int .i64)], d, .cell (.val (.int .i64)), d, d, d, d, d, d, d, d, d, d, d, d, d, d, d, d, d, d, d, d, d, d, d, d, d, d, d, d, d, d, d, d, d, d, d, d, d, d, d, d, d, d, d, d, d, d, d, d, d, d, d, d, d, d, d, d])]
noncomputable def spec_l3Put_l2 : ((List (Int × (ByteArray × (Int × Int)))) × (Int × ByteArray × Int × Int × Unit) × Int × Unit) → Option (((List (Int × (ByteArray × (Int × Int)))) × (Int × ByteArray × Int × Int × Unit) × Int × Unit) ⊕ (((List (Int × (ByteArray × (Int × Int)))) × (Int × ByteArray × Int × Int × Unit) × Int × Unit))) := fun (v0, (v3_0, v3_1, v3_2, v3_3, _), v5, _) =>
  bif (decide (v5 < (((List.length v0) : Nat) : Int))) then
    if (((0 : Int) ≤ v5) ∧ (v5 < (((List.length v0) : Nat) : Int))) then
      Option.bind (spec_l3Before (List.getD v0 (Int.toNat v5) ((0 : Int), (⟨Array.empty⟩ : ByteArray), (0 : Int), (0 : Int))) (v3_0, v3_1, v3_2, v3_3)) fun r0 =>
        bif r0 then
          some (Sum.inl (v0, (v3_0, v3_1, v3_2, v3_3, ()), (IntKind.wrap .i64 (v5 + (1 : Int))), ()))
        else
          some (Sum.inr (v0, (v3_0, v3_1, v3_2, v3_3, ()), v5, ()))
    else
      none
  else
    some (Sum.inr (v0, (v3_0, v3_1, v3_2, v3_3, ()), v5, ()))
theorem spec_l3Put_l2_eq : loopStep 62 E59 L59_0 (loopOf f59 2) sh59_2 xs59_2 = spec_l3Put_l2 := by kernel_rfl
theorem loop59_2 {L : Nat → Option LoopD} (h : L 2 = some ⟨62, sh59_2, xs59_2, spec_l3Put_l2⟩) : LoopOk prog L (loopOf f59 2) :=
  loopOk (tysOk_of tyl_ok) E59_ok (codeOk_in (L := L59_0) (tysOk_of tyl_ok) E59_ok mixed (c := loopOf f59 2) (bs := []) (by kernel_rfl) allNil (by kernel_rfl)) (by kernel_rfl) (by kernel_rfl) spec_l3Put_l2_eq (by rw [show firstId (loopOf f59 2) = 2 from by kernel_rfl]; exact h)
noncomputable def L59_1 : Nat → Option LoopD := fun n => ifEq n 2 (some ⟨62, sh59_2, xs59_2, spec_l3Put_l2⟩) (L59_0 n)
noncomputable def spec_l3Put : (List (Int × (ByteArray × (Int × Int)))) → (Int × (ByteArray × (Int × Int))) → Option ((List (Int × (ByteArray × (Int × Int))))) := fun a0 (a1_0, a1_1, a1_2, a1_3) =>
  Option.bind (loopF spec_l3Put_l2 (a0, (a1_0, a1_1, a1_2, a1_3, ()), (0 : Int), ())) fun (r0, (r1, r2, r3, r4, _), r5, _) =>
    bif (decide (r5 < (((List.length r0) : Nat) : Int))) then
      if (((0 : Int) ≤ r5) ∧ (r5 < (((List.length r0) : Nat) : Int))) then
        Option.bind (spec_l3Before (r1, r2, r3, r4) (List.getD r0 (Int.toNat r5) ((0 : Int), (⟨Array.empty⟩ : ByteArray), (0 : Int), (0 : Int)))) fun r6 =>
          bif (!r6) then
            if (((0 + 0) = (List.length ([] : List Unit))) ∧ (((0 + (List.length r0)) * 40) ≤ 140737488355328)) then
              if (((0 : Int) ≤ r5) ∧ (r5 < (((0 + (List.length r0)) : Nat) : Int))) then
                if (((0 : Int) ≤ r5) ∧ (r5 < (((0 + (List.length r0)) : Nat) : Int))) then
                  Option.bind (Option.some (List.set ((List.drop 0 []) ++ r0) (0 + (Int.toNat r5)) ((List.getD ((List.drop 0 []) ++ r0) (0 + (Int.toNat r5)) ((0 : Int), (⟨Array.empty⟩ : ByteArray), (0 : Int), (0 : Int))).1, (List.getD ((List.drop 0 []) ++ r0) (0 + (Int.toNat r5)) ((0 : Int), (⟨Array.empty⟩ : ByteArray), (0 : Int), (0 : Int))).2.1, (List.getD ((List.drop 0 []) ++ r0) (0 + (Int.toNat r5)) ((0 : Int), (⟨Array.empty⟩ : ByteArray), (0 : Int), (0 : Int))).2.2.1, (if (r4 < (List.getD ((List.drop 0 []) ++ r0) (0 + (Int.toNat r5)) ((0 : Int), (⟨Array.empty⟩ : ByteArray), (0 : Int), (0 : Int))).2.2.2) then r4 else (List.getD ((List.drop 0 []) ++ r0) (0 + (Int.toNat r5)) ((0 : Int), (⟨Array.empty⟩ : ByteArray), (0 : Int), (0 : Int))).2.2.2)))) fun r7 =>
                    some (List.take (0 + (List.length r0)) (List.drop 0 r7))
                else
                  none
              else
                none
            else
              none
          else
            if (((0 : Int) ≤ r5) ∧ (r5 ≤ (((List.length r0) : Nat) : Int))) then
              if (((0 + 0) = (List.length ([] : List Unit))) ∧ (((0 + (List.length (List.take ((Int.toNat r5) - 0) (List.drop 0 r0)))) * 40) ≤ 140737488355328)) then
                if (((0 + (0 + (List.length (List.take ((Int.toNat r5) - 0) (List.drop 0 r0))))) = (List.length ((List.drop 0 []) ++ (List.take ((Int.toNat r5) - 0) (List.drop 0 r0))))) ∧ ((((0 + (List.length (List.take ((Int.toNat r5) - 0) (List.drop 0 r0)))) + (List.length (List.take 1 (List.drop 0 [(r1, r2, r3, r4)])))) * 40) ≤ 140737488355328)) then
                  if (((0 : Int) ≤ r5) ∧ (r5 ≤ (((List.length r0) : Nat) : Int))) then
                    if (((0 + ((0 + (List.length (List.take ((Int.toNat r5) - 0) (List.drop 0 r0)))) + (List.length (List.take 1 (List.drop 0 [(r1, r2, r3, r4)]))))) = (List.length ((List.drop 0 ((List.drop 0 []) ++ (List.take ((Int.toNat r5) - 0) (List.drop 0 r0)))) ++ (List.take 1 (List.drop 0 [(r1, r2, r3, r4)]))))) ∧ (((((0 + (List.length (List.take ((Int.toNat r5) - 0) (List.drop 0 r0)))) + (List.length (List.take 1 (List.drop 0 [(r1, r2, r3, r4)])))) + (List.length (List.take ((List.length r0) - (Int.toNat r5)) (List.drop (Int.toNat r5) r0)))) * 40) ≤ 140737488355328)) then
                      some (List.take (((0 + (List.length (List.take ((Int.toNat r5) - 0) (List.drop 0 r0)))) + (List.length (List.take 1 (List.drop 0 [(r1, r2, r3, r4)])))) + (List.length (List.take ((List.length r0) - (Int.toNat r5)) (List.drop (Int.toNat r5) r0)))) (List.drop 0 ((List.drop 0 ((List.drop 0 ((List.drop 0 []) ++ (List.take ((Int.toNat r5) - 0) (List.drop 0 r0)))) ++ (List.take 1 (List.drop 0 [(r1, r2, r3, r4)])))) ++ (List.take ((List.length r0) - (Int.toNat r5)) (List.drop (Int.toNat r5) r0)))))
                    else
                      none
                  else
                    none
                else
                  none
              else
                none
            else
              none
      else
        none
    else
      if (((0 : Int) ≤ r5) ∧ (r5 ≤ (((List.length r0) : Nat) : Int))) then
        if (((0 + 0) = (List.length ([] : List Unit))) ∧ (((0 + (List.length (List.take ((Int.toNat r5) - 0) (List.drop 0 r0)))) * 40) ≤ 140737488355328)) then
          if (((0 + (0 + (List.length (List.take ((Int.toNat r5) - 0) (List.drop 0 r0))))) = (List.length ((List.drop 0 []) ++ (List.take ((Int.toNat r5) - 0) (List.drop 0 r0))))) ∧ ((((0 + (List.length (List.take ((Int.toNat r5) - 0) (List.drop 0 r0)))) + (List.length (List.take 1 (List.drop 0 [(r1, r2, r3, r4)])))) * 40) ≤ 140737488355328)) then
            if (((0 : Int) ≤ r5) ∧ (r5 ≤ (((List.length r0) : Nat) : Int))) then
              if (((0 + ((0 + (List.length (List.take ((Int.toNat r5) - 0) (List.drop 0 r0)))) + (List.length (List.take 1 (List.drop 0 [(r1, r2, r3, r4)]))))) = (List.length ((List.drop 0 ((List.drop 0 []) ++ (List.take ((Int.toNat r5) - 0) (List.drop 0 r0)))) ++ (List.take 1 (List.drop 0 [(r1, r2, r3, r4)]))))) ∧ (((((0 + (List.length (List.take ((Int.toNat r5) - 0) (List.drop 0 r0)))) + (List.length (List.take 1 (List.drop 0 [(r1, r2, r3, r4)])))) + (List.length (List.take ((List.length r0) - (Int.toNat r5)) (List.drop (Int.toNat r5) r0)))) * 40) ≤ 140737488355328)) then
                some (List.take (((0 + (List.length (List.take ((Int.toNat r5) - 0) (List.drop 0 r0)))) + (List.length (List.take 1 (List.drop 0 [(r1, r2, r3, r4)])))) + (List.length (List.take ((List.length r0) - (Int.toNat r5)) (List.drop (Int.toNat r5) r0)))) (List.drop 0 ((List.drop 0 ((List.drop 0 ((List.drop 0 []) ++ (List.take ((Int.toNat r5) - 0) (List.drop 0 r0)))) ++ (List.take 1 (List.drop 0 [(r1, r2, r3, r4)])))) ++ (List.take ((List.length r0) - (Int.toNat r5)) (List.drop (Int.toNat r5) r0)))))
              else
                none
            else
              none
          else
            none
        else
          none
      else
        none
noncomputable def A59 : FnA := ⟨[.v (.sl (.pair (.int .i64) (.pair .str (.pair (.int .i64) (.int .i64))))), .v (.pair (.int .i64) (.pair .str (.pair (.int .i64) (.int .i64))))], true, [.sl (.pair (.int .i64) (.pair .str (.pair (.int .i64) (.int .i64))))], fun x => spec_l3Put x.1 x.2.1⟩
theorem spec_l3Put_eq : fnF E59 L59_1 [.v (.sl (.pair (.int .i64) (.pair .str (.pair (.int .i64) (.int .i64))))), .v (.pair (.int .i64) (.pair .str (.pair (.int .i64) (.int .i64))))] true [.sl (.pair (.int .i64) (.pair .str (.pair (.int .i64) (.int .i64))))] f59.ntmps f59.results.toList (codeOf f59) = fun x => spec_l3Put x.1 x.2.1 := by kernel_rfl
theorem A59_ok : FnOk prog 59 A59 := by
  have h := fnOk_of_run (P := prog) (E := E59) (tysOk_of tyl_ok) E59_ok (L := L59_1) (ps := [.v (.sl (.pair (.int .i64) (.pair .str (.pair (.int .i64) (.int .i64))))), .v (.pair (.int .i64) (.pair .str (.pair (.int .i64) (.int .i64))))]) (own := true) (outs := [.sl (.pair (.int .i64) (.pair .str (.pair (.int .i64) (.int .i64))))]) func59 (c := codeOf f59) (by kernel_rfl) (codeOk_in (L := L59_1) (tysOk_of tyl_ok) E59_ok mixed (c := codeOf f59) (bs := [loopOf f59 2]) (by kernel_rfl) (allCons (loop59_2 rfl) allNil) (by kernel_rfl))
  rw [spec_l3Put_eq] at h
  exact h
/-! spec.PowerAutomaton -/
noncomputable def E16 : Env := ⟨ty0, fun g => ifEq g 56 (some A56) (ifEq g 57 (some A57) (ifEq g 58 (some A58) (ifEq g 59 (some A59) (ifEq g 60 (some A60) (none))))), fun _ => none, fun _ => none, fun _ => none⟩
theorem E16_ok : FnsOk prog E16 := (oneFn A56_ok func56 (by kernel_rfl) (by kernel_rfl) (oneFn A57_ok func57 (by kernel_rfl) (by kernel_rfl) (oneFn A58_ok func58 (by kernel_rfl) (by kernel_rfl) (oneFn A59_ok func59 (by kernel_rfl) (by kernel_rfl) (oneFn A60_ok func60 (by kernel_rfl) (by kernel_rfl) (noFns _ _))))))
noncomputable def L16_0 : Nat → Option LoopD := fun _ => none
def sh16_10 : List Fm := [d, .box 100100 [.val (.int .i64), .val (.sl (.int .i64)), .val (.sl (.int .i64)), .val (.sl (.pair (.int .i64) (.pair .str (.pair (.int .i64) (.int .i64)))))], .box 100200 [.val (.int .i64), .own (.int .i64) 100202 false, .own (.int .i64) 100203 false, .own (.pair (.int .i64) (.pair .str (.pair (.int .i64) (.int .i64)))) 100204 false], d, d, d, .box 100600 [.val (.int .i64), .val (.sl (.int .i64)), .val (.sl (.int .i64)), .val (.sl (.pair (.int .i64) (.pair .str (.pair (.int .i64) (.int .i64)))))], d, .box 100800 [.val (.int .i64), .val .str, .val (.int .i64), .val (.int .i64)], d, d, d, d, d, d, d, d, d, d, d, d, d, d, d, d, d, d, d, d, d, d, .cell (.val (.sl (.pair (.int .i64) (.pair .str (.pair (.int .i64) (.int .i64)))))), .cell (.val (.int .i64)), .cell (.val (.int .i64)), d, d, d, d, .cell (.val (.sl (.int .i64))), .cell (.val (.int .i64)), .cell (.val (.int .i64)), d, d, d, d, d, d, d, d, d, d, d, d, d, d, d, d, d, d, d, d, d, d, d, d]
def xs16_10 : List (Ex × List Fm) := [(.exit 2, [d, .box 100100 [.val (.int .i64), .val (.sl (.int .i64)), .val (.sl (.int .i64)), .val (.sl (.pair (.int .i64) (.pair .str (.pair (.int .i64) (.int .i64)))))], .box 100200 [.val (.int .i64), .own (.int .i64) 100202 false, .own (.int .i64) 100203 false, .own (.pair (.int .i64) (.pair .str (.pair (.int .i64) (.int .i64)))) 100204 false], d, d, d, .box 100600 [.val (.int .i64), .val (.sl (.int .i64)), .val (.sl (.int .i64)), .val (.sl (.pair (.int .i64) (.pair .str (.pair (.int .i64) (.int .i64)))))], d, d, d, d, d, d, d, d, d, d, d, d, d, d, d, d, d, d, d, d, d, d, d, d, .cell (.val (.sl (.pair (.int .i64) (.pair .str (.pair (.int .i64) (.int .i64)))))), .cell (.val (.int .i64)), .cell (.val (.int .i64)), d, d, d, d, d, d, d, d, d, d, d, d, d, d, d, d, d, d, d, d, d, d, d, d, d, d, d, d, d, d, d])]
noncomputable def spec_PowerAutomaton_l10 : ((Int × (List Int) × (List Int) × (List (Int × (ByteArray × (Int × Int)))) × Unit) × (Int × (List Int) × (List Int) × (List (Int × (ByteArray × (Int × Int)))) × Unit) × (Int × (List Int) × (List Int) × (List (Int × (ByteArray × (Int × Int)))) × Unit) × (Int × ByteArray × Int × Int × Unit) × (List (Int × (ByteArray × (Int × Int)))) × Int × Int × (List Int) × Int × Int × Unit) → Option (((Int × (List Int) × (List Int) × (List (Int × (ByteArray × (Int × Int)))) × Unit) × (Int × (List Int) × (List Int) × (List (Int × (ByteArray × (Int × Int)))) × Unit) × (Int × (List Int) × (List Int) × (List (Int × (ByteArray × (Int × Int)))) × Unit) × (Int × ByteArray × Int × Int × Unit) × (List (Int × (ByteArray × (Int × Int)))) × Int × Int × (List Int) × Int × Int × Unit) ⊕ (((Int × (List Int) × (List Int) × (List (Int × (ByteArray × (Int × Int)))) × Unit) × (Int × (List Int) × (List Int) × (List (Int × (ByteArray × (Int × Int)))) × Unit) × (Int × (List Int) × (List Int) × (List (Int × (ByteArray × (Int × Int)))) × Unit) × (List (Int × (ByteArray × (Int × Int)))) × Int × Int × Unit))) := fun ((v1_0, v1_1, v1_2, v1_3, _), (v2_0, v2_1, v2_2, v2_3, _), (v6_0, v6_1, v6_2, v6_3, _), (v8_0, v8_1, v8_2, v8_3, _), v31, v32, v33, v38, v39, v40, _) =>
  bif (decide (v40 < v39)) then
    if (((0 : Int) ≤ v40) ∧ (v40 < (((List.length v38) : Nat) : Int))) then
      Option.bind (spec_l4In v1_1 v8_0) fun r0 =>
        bif r0 then
          Option.bind (spec_l3Put v6_3 ((List.getD v38 (Int.toNat v40) (0 : Int)), v8_1, v8_2, (1 : Int))) fun r1 =>
            some (Sum.inl ((v1_0, v1_1, v1_2, v1_3, ()), (v2_0, (List.take (List.length v2_1) (List.drop 0 v2_1)), (List.take (List.length v2_2) (List.drop 0 v2_2)), (List.take (List.length v2_3) (List.drop 0 v2_3)), ()), (v6_0, v6_1, v6_2, (List.take (List.length r1) (List.drop 0 r1)), ()), (v8_0, v8_1, v8_2, v8_3, ()), v31, v32, v33, v38, v39, (IntKind.wrap .i64 (v40 + (1 : Int))), ()))
        else
          some (Sum.inl ((v1_0, v1_1, v1_2, v1_3, ()), (v2_0, (List.take (List.length v2_1) (List.drop 0 v2_1)), (List.take (List.length v2_2) (List.drop 0 v2_2)), (List.take (List.length v2_3) (List.drop 0 v2_3)), ()), (v6_0, v6_1, v6_2, v6_3, ()), (v8_0, v8_1, v8_2, v8_3, ()), v31, v32, v33, v38, v39, (IntKind.wrap .i64 (v40 + (1 : Int))), ()))
    else
      none
  else
    some (Sum.inr ((v1_0, v1_1, v1_2, v1_3, ()), (v2_0, (List.take (List.length v2_1) (List.drop 0 v2_1)), (List.take (List.length v2_2) (List.drop 0 v2_2)), (List.take (List.length v2_3) (List.drop 0 v2_3)), ()), (v6_0, v6_1, v6_2, v6_3, ()), v31, v32, v33, ()))
theorem spec_PowerAutomaton_l10_eq : loopStep 65 E16 L16_0 (loopOf f16 10) sh16_10 xs16_10 = spec_PowerAutomaton_l10 := by kernel_rfl
theorem loop16_10 {L : Nat → Option LoopD} (h : L 10 = some ⟨65, sh16_10, xs16_10, spec_PowerAutomaton_l10⟩) : LoopOk prog L (loopOf f16 10) :=
  loopOk (tysOk_of tyl_ok) E16_ok (codeOk_in (L := L16_0) (tysOk_of tyl_ok) E16_ok mixed (c := loopOf f16 10) (bs := []) (by kernel_rfl) allNil (by kernel_rfl)) (by kernel_rfl) (by kernel_rfl) spec_PowerAutomaton_l10_eq (by rw [show firstId (loopOf f16 10) = 10 from by kernel_rfl]; exact h)
noncomputable def L16_1 : Nat → Option LoopD := fun n => ifEq n 10 (some ⟨65, sh16_10, xs16_10, spec_PowerAutomaton_l10⟩) (L16_0 n)
def sh16_7 : List Fm := [d, .box 100100 [.val (.int .i64), .val (.sl (.int .i64)), .val (.sl (.int .i64)), .val (.sl (.pair (.int .i64) (.pair .str (.pair (.int .i64) (.int .i64)))))], .box 100200 [.val (.int .i64), .own (.int .i64) 100202 false, .own (.int .i64) 100203 false, .own (.pair (.int .i64) (.pair .str (.pair (.int .i64) (.int .i64)))) 100204 false], d, d, d, .box 100600 [.val (.int .i64), .val (.sl (.int .i64)), .val (.sl (.int .i64)), .val (.sl (.pair (.int .i64) (.pair .str (.pair (.int .i64) (.int .i64)))))], d, d, d, d, d, d, d, d, d, d, d, d, d, d, d, d, d, d, d, d, d, d, d, d, .cell (.val (.sl (.pair (.int .i64) (.pair .str (.pair (.int .i64) (.int .i64)))))), .cell (.val (.int .i64)), .cell (.val (.int .i64)), d, d, d, d, d, d, d, d, d, d, d, d, d, d, d, d, d, d, d, d, d, d, d, d, d, d, d, d, d, d, d]
def xs16_7 : List (Ex × List Fm) := [(.exit 0, [d, d, .box 100200 [.val (.int .i64), .own (.int .i64) 100202 false, .own (.int .i64) 100203 false, .own (.pair (.int .i64) (.pair .str (.pair (.int .i64) (.int .i64)))) 100204 false], d, d, d, .box 100600 [.val (.int .i64), .val (.sl (.int .i64)), .val (.sl (.int .i64)), .val (.sl (.pair (.int .i64) (.pair .str (.pair (.int .i64) (.int .i64)))))], d, d, d, d, d, d, d, d, d, d, d, d, d, d, d, d, d, d, d, d, d, d, d, d, d, d, d, d, d, d, d, d, d, d, d, d, d, d, d, d, d, d, d, d, d, d, d, d, d, d, d, d, d, d, d, d, d, d])]
noncomputable def spec_PowerAutomaton_l7 : ((Int × (List Int) × (List Int) × (List (Int × (ByteArray × (Int × Int)))) × Unit) × (Int × (List Int) × (List Int) × (List (Int × (ByteArray × (Int × Int)))) × Unit) × (Int × (List Int) × (List Int) × (List (Int × (ByteArray × (Int × Int)))) × Unit) × (List (Int × (ByteArray × (Int × Int)))) × Int × Int × Unit) → Option (((Int × (List Int) × (List Int) × (List (Int × (ByteArray × (Int × Int)))) × Unit) × (Int × (List Int) × (List Int) × (List (Int × (ByteArray × (Int × Int)))) × Unit) × (Int × (List Int) × (List Int) × (List (Int × (ByteArray × (Int × Int)))) × Unit) × (List (Int × (ByteArray × (Int × Int)))) × Int × Int × Unit) ⊕ (((Int × (List Int) × (List Int) × (List (Int × (ByteArray × (Int × Int)))) × Unit) × (Int × (List Int) × (List Int) × (List (Int × (ByteArray × (Int × Int)))) × Unit) × Unit))) := fun ((v1_0, v1_1, v1_2, v1_3, _), (v2_0, v2_1, v2_2, v2_3, _), (v6_0, v6_1, v6_2, v6_3, _), v31, v32, v33, _) =>
  bif (decide (v33 < v32)) then
    if (((0 : Int) ≤ v33) ∧ (v33 < (((List.length v31) : Nat) : Int))) then
      Option.bind (loopF spec_PowerAutomaton_l10 ((v1_0, v1_1, v1_2, v1_3, ()), (v2_0, (List.take (List.length v2_1) (List.drop 0 v2_1)), (List.take (List.length v2_2) (List.drop 0 v2_2)), (List.take (List.length v2_3) (List.drop 0 v2_3)), ()), (v6_0, v6_1, v6_2, v6_3, ()), ((List.getD v31 (Int.toNat v33) ((0 : Int), (⟨Array.empty⟩ : ByteArray), (0 : Int), (0 : Int))).1, (List.getD v31 (Int.toNat v33) ((0 : Int), (⟨Array.empty⟩ : ByteArray), (0 : Int), (0 : Int))).2.1, (List.getD v31 (Int.toNat v33) ((0 : Int), (⟨Array.empty⟩ : ByteArray), (0 : Int), (0 : Int))).2.2.1, (List.getD v31 (Int.toNat v33) ((0 : Int), (⟨Array.empty⟩ : ByteArray), (0 : Int), (0 : Int))).2.2.2, ()), v31, v32, v33, v1_2, (((List.length v1_2) : Nat) : Int), (0 : Int), ())) fun ((r0, r1, r2, r3, _), (r4, r5, r6, r7, _), (r8, r9, r10, r11, _), r12, r13, r14, _) =>
        some (Sum.inl ((r0, r1, r2, r3, ()), (r4, (List.take (List.length r5) (List.drop 0 r5)), (List.take (List.length r6) (List.drop 0 r6)), (List.take (List.length r7) (List.drop 0 r7)), ()), (r8, r9, r10, r11, ()), r12, r13, (IntKind.wrap .i64 (r14 + (1 : Int))), ()))
    else
      none
  else
    some (Sum.inr ((v2_0, (List.take (List.length v2_1) (List.drop 0 v2_1)), (List.take (List.length v2_2) (List.drop 0 v2_2)), (List.take (List.length v2_3) (List.drop 0 v2_3)), ()), (v6_0, v6_1, v6_2, v6_3, ()), ()))
theorem spec_PowerAutomaton_l7_eq : loopStep 65 E16 L16_1 (loopOf f16 7) sh16_7 xs16_7 = spec_PowerAutomaton_l7 := by kernel_rfl
theorem loop16_7 {L : Nat → Option LoopD} (h : L 7 = some ⟨65, sh16_7, xs16_7, spec_PowerAutomaton_l7⟩) : LoopOk prog L (loopOf f16 7) :=
  loopOk (tysOk_of tyl_ok) E16_ok (codeOk_in (L := L16_1) (tysOk_of tyl_ok) E16_ok mixed (c := loopOf f16 7) (bs := [loopOf f16 10]) (by kernel_rfl) (allCons (loop16_10 rfl) allNil) (by kernel_rfl)) (by kernel_rfl) (by kernel_rfl) spec_PowerAutomaton_l7_eq (by rw [show firstId (loopOf f16 7) = 7 from by kernel_rfl]; exact h)
noncomputable def L16_2 : Nat → Option LoopD := fun n => ifEq n 7 (some ⟨65, sh16_7, xs16_7, spec_PowerAutomaton_l7⟩) (L16_1 n)
noncomputable def spec_PowerAutomaton : (Int × ((List Int) × ((List Int) × (List (Int × (ByteArray × (Int × Int))))))) → Option ((Int × ((List Int) × ((List Int) × (List (Int × (ByteArray × (Int × Int))))))) × Bool) := fun (a0_0, a0_1, a0_2, a0_3) =>
  Option.bind (spec_l13OwnAutomaton (a0_0, a0_1, a0_2, a0_3)) fun (r0, r1, r2, r3) =>
    Option.bind (spec_ScaleAutomaton (r0, (List.take (List.length r1) (List.drop 0 r1)), (List.take (List.length r2) (List.drop 0 r2)), (List.take (List.length r3) (List.drop 0 r3))) (0 : Int)) fun ((r4, r5, r6, r7), r8) =>
      bif (!r8) then
        some (((0 : Int), [], [], []), false)
      else
        Option.bind (loopF spec_PowerAutomaton_l7 ((r0, (List.take (List.length r1) (List.drop 0 r1)), (List.take (List.length r2) (List.drop 0 r2)), (List.take (List.length r3) (List.drop 0 r3)), ()), ((0 : Int), [], [], [], ()), (r0, (List.take (List.length r1) (List.drop 0 r1)), (List.take (List.length r2) (List.drop 0 r2)), r7, ()), r7, (((List.length r7) : Nat) : Int), (0 : Int), ())) fun ((r9, r10, r11, r12, _), (r13, r14, r15, r16, _), _) =>
          Option.bind (spec_l5Whole (r13, r14, r15, r16)) fun ((r17, r18, r19, r20), r21) =>
            some ((r17, r18, r19, r20), r21)
noncomputable def A16 : FnA := ⟨[.v (.pair (.int .i64) (.pair (.sl (.int .i64)) (.pair (.sl (.int .i64)) (.sl (.pair (.int .i64) (.pair .str (.pair (.int .i64) (.int .i64))))))))], false, [.pair (.int .i64) (.pair (.sl (.int .i64)) (.pair (.sl (.int .i64)) (.sl (.pair (.int .i64) (.pair .str (.pair (.int .i64) (.int .i64))))))), .bool], fun x => spec_PowerAutomaton x.1⟩
theorem spec_PowerAutomaton_eq : fnF E16 L16_2 [.v (.pair (.int .i64) (.pair (.sl (.int .i64)) (.pair (.sl (.int .i64)) (.sl (.pair (.int .i64) (.pair .str (.pair (.int .i64) (.int .i64))))))))] false [.pair (.int .i64) (.pair (.sl (.int .i64)) (.pair (.sl (.int .i64)) (.sl (.pair (.int .i64) (.pair .str (.pair (.int .i64) (.int .i64))))))), .bool] f16.ntmps f16.results.toList (codeOf f16) = fun x => spec_PowerAutomaton x.1 := by kernel_rfl
theorem A16_ok : FnOk prog 16 A16 := by
  have h := fnOk_of_run (P := prog) (E := E16) (tysOk_of tyl_ok) E16_ok (L := L16_2) (ps := [.v (.pair (.int .i64) (.pair (.sl (.int .i64)) (.pair (.sl (.int .i64)) (.sl (.pair (.int .i64) (.pair .str (.pair (.int .i64) (.int .i64))))))))]) (own := false) (outs := [.pair (.int .i64) (.pair (.sl (.int .i64)) (.pair (.sl (.int .i64)) (.sl (.pair (.int .i64) (.pair .str (.pair (.int .i64) (.int .i64))))))), .bool]) func16 (c := codeOf f16) (by kernel_rfl) (codeOk_in (L := L16_2) (tysOk_of tyl_ok) E16_ok mixed (c := codeOf f16) (bs := [loopOf f16 7]) (by kernel_rfl) (allCons (loop16_7 rfl) allNil) (by kernel_rfl))
  rw [spec_PowerAutomaton_eq] at h
  exact h
/-! impl.statesOk -/
noncomputable def E80 : Env := ⟨ty0, fun _ => none, fun _ => none, fun _ => none, fun _ => none⟩
theorem E80_ok : FnsOk prog E80 := (noFns _ _)
noncomputable def L80_0 : Nat → Option LoopD := fun _ => none
def sh80_2 : List Fm := [.cell (.val (.sl (.int .i64))), .cell (.val (.int .i64)), d, d, d, d, d, .cell (.val (.sl (.int .i64))), .cell (.val (.int .i64)), .cell (.val (.int .i64)), d, d, d, d, d, d, d, d, d, d, d, d, d, d, d, d, d, d, d, d, d, d, d, d, d]
def xs80_2 : List (Ex × List Fm) := [(.ret, [d, d, d, d, .cell (.val .bool), d, d, d, d, d, d, d, d, d, d, d, d, d, d, d, d, d, d, d, d, d, d, d, d, d, d, d, d, d, d]), (.exit 0, [d, d, d, d, d, d, d, d, d, d, d, d, d, d, d, d, d, d, d, d, d, d, d, d, d, d, d, d, d, d, d, d, d, d, d])]
noncomputable def impl_statesOk_l2 : ((List Int) × Int × (List Int) × Int × Int × Unit) → Option (((List Int) × Int × (List Int) × Int × Int × Unit) ⊕ ((Bool × Unit) ⊕ (Unit))) := fun (v0, v1, v7, v8, v9, _) =>
  bif (decide (v9 < v8)) then
    if (((0 : Int) ≤ v9) ∧ (v9 < (((List.length v7) : Nat) : Int))) then
      bif (decide ((List.getD v7 (Int.toNat v9) (0 : Int)) < (0 : Int))) then
        some (Sum.inr (Sum.inl (false, ())))
      else
        bif (decide ((List.getD v7 (Int.toNat v9) (0 : Int)) ≥ v1)) then
          some (Sum.inr (Sum.inl (false, ())))
        else
          bif (decide (v9 > (0 : Int))) then
            if (((0 : Int) ≤ (IntKind.wrap .i64 (v9 - (1 : Int)))) ∧ ((IntKind.wrap .i64 (v9 - (1 : Int))) < (((List.length v0) : Nat) : Int))) then
              bif (decide ((List.getD v0 (Int.toNat (IntKind.wrap .i64 (v9 - (1 : Int)))) (0 : Int)) ≥ (List.getD v7 (Int.toNat v9) (0 : Int)))) then
                some (Sum.inr (Sum.inl (false, ())))
              else
                some (Sum.inl (v0, v1, v7, v8, (IntKind.wrap .i64 (v9 + (1 : Int))), ()))
            else
              none
          else
            some (Sum.inl (v0, v1, v7, v8, (IntKind.wrap .i64 (v9 + (1 : Int))), ()))
    else
      none
  else
    some (Sum.inr (Sum.inr ()))
theorem impl_statesOk_l2_eq : loopStep 35 E80 L80_0 (loopOf f80 2) sh80_2 xs80_2 = impl_statesOk_l2 := by kernel_rfl
theorem loop80_2 {L : Nat → Option LoopD} (h : L 2 = some ⟨35, sh80_2, xs80_2, impl_statesOk_l2⟩) : LoopOk prog L (loopOf f80 2) :=
  loopOk (tysOk_of tyl_ok) E80_ok (codeOk_in (L := L80_0) (tysOk_of tyl_ok) E80_ok mixed (c := loopOf f80 2) (bs := []) (by kernel_rfl) allNil (by kernel_rfl)) (by kernel_rfl) (by kernel_rfl) impl_statesOk_l2_eq (by rw [show firstId (loopOf f80 2) = 2 from by kernel_rfl]; exact h)
noncomputable def L80_1 : Nat → Option LoopD := fun n => ifEq n 2 (some ⟨35, sh80_2, xs80_2, impl_statesOk_l2⟩) (L80_0 n)
noncomputable def impl_statesOk : (List Int) → Int → Option (Bool) := fun a0 a1 =>
  Option.bind (loopF impl_statesOk_l2 (a0, a1, a0, (((List.length a0) : Nat) : Int), (0 : Int), ())) fun r0 =>
    (match r0 with
    | .inl (d1, _) =>
        some d1
    | .inr _ =>
        some true)
noncomputable def A80 : FnA := ⟨[.v (.sl (.int .i64)), .v (.int .i64)], true, [.bool], fun x => impl_statesOk x.1 x.2.1⟩
theorem impl_statesOk_eq : fnF E80 L80_1 [.v (.sl (.int .i64)), .v (.int .i64)] true [.bool] f80.ntmps f80.results.toList (codeOf f80) = fun x => impl_statesOk x.1 x.2.1 := by kernel_rfl
theorem A80_ok : FnOk prog 80 A80 := by
  have h := fnOk_of_run (P := prog) (E := E80) (tysOk_of tyl_ok) E80_ok (L := L80_1) (ps := [.v (.sl (.int .i64)), .v (.int .i64)]) (own := true) (outs := [.bool]) func80 (c := codeOf f80) (by kernel_rfl) (codeOk_in (L := L80_1) (tysOk_of tyl_ok) E80_ok mixed (c := codeOf f80) (bs := [loopOf f80 2]) (by kernel_rfl) (allCons (loop80_2 rfl) allNil) (by kernel_rfl))
  rw [impl_statesOk_eq] at h
  exact h
/-! impl.AutomatonValid -/
noncomputable def E27 : Env := ⟨ty0, fun g => ifEq g 80 (some A80) (ifEq g 68 (some A68) (none)), fun _ => none, fun _ => none, fun _ => none⟩
theorem E27_ok : FnsOk prog E27 := (oneFn A80_ok func80 (by kernel_rfl) (by kernel_rfl) (oneFn A68_ok func68 (by kernel_rfl) (by kernel_rfl) (noFns _ _)))
noncomputable def L27_0 : Nat → Option LoopD := fun _ => none
def sh27_4 : List Fm := [d, .box 100100 [.val (.int .i64), .val (.sl (.int .i64)), .val (.sl (.int .i64)), .val (.sl (.pair (.int .i64) (.pair .str (.pair (.int .i64) (.int .i64)))))], d, d, d, d, d, d, d, d, d, d, d, d, d, d, d, d, d, d, d, d, d, d, d, d, d, d, d, d, d, d, d, d, d, d, .cell (.val (.sl (.pair (.int .i64) (.pair .str (.pair (.int .i64) (.int .i64)))))), .cell (.val (.int .i64)), .cell (.val (.int .i64)), d, d, d, d, d, d, d, d, d, d, d, d, d, d, d, d, d, d, d, d, d, d, d, d, d, d, d, d, d, d, d, d, d, d, d, d, d, d, d, d, d, d, d, d, d, d, d, d, d, d, d, d, d, d, d, d, d, d, d, d, d, d]
def xs27_4 : List (Ex × List Fm) := [(.ret, [d, d, .cell (.val .bool), d, d, d, d, d, d, d, d, d, d, d, d, d, d, d, d, d, d, d, d, d, d, d, d, d, d, d, d, d, d, d, d, d, d, d, d, d, d, d, d, d, d, d, d, d, d, d, d, d, d, d, d, d, d, d, d, d, d, d, d, d, d, d, d, d, d, d, d, d, d, d, d, d, d, d, d, d, d, d, d, d, d, d, d, d, d, d, d, d, d, d, d, d, d, d, d, d, d]), (.exit 0, [d, d, d, d, d, d, d, d, d, d, d, d, d, d, d, d, d, d, d, d, d, d, d, d, d, d, d, d, d, d, d, d, d, d, d, d, d, d, d, d, d, d, d, d, d, d, d, d, d, d, d, d, d, d, d, d, d, d, d, d, d, d, d, d, d, d, d, d, d, d, d, d, d, d, d, d, d, d, d, d, d, d, d, d, d, d, d, d, d, d, d, d, d, d, d, d, d, d, d, d, d])]
noncomputable def impl_AutomatonValid_l4 : ((Int × (List Int) × (List Int) × (List (Int × (ByteArray × (Int × Int)))) × Unit) × (List (Int × (ByteArray × (Int × Int)))) × Int × Int × Unit) → Option (((Int × (List Int) × (List Int) × (List (Int × (ByteArray × (Int × Int)))) × Unit) × (List (Int × (ByteArray × (Int × Int)))) × Int × Int × Unit) ⊕ ((Bool × Unit) ⊕ (Unit))) := fun ((v1_0, v1_1, v1_2, v1_3, _), v36, v37, v38, _) =>
  bif (decide (v38 < v37)) then
    if (((0 : Int) ≤ v38) ∧ (v38 < (((List.length v36) : Nat) : Int))) then
      bif (decide ((List.getD v36 (Int.toNat v38) ((0 : Int), (⟨Array.empty⟩ : ByteArray), (0 : Int), (0 : Int))).1 < (0 : Int))) then
        some (Sum.inr (Sum.inl (false, ())))
      else
        bif (decide ((List.getD v36 (Int.toNat v38) ((0 : Int), (⟨Array.empty⟩ : ByteArray), (0 : Int), (0 : Int))).1 ≥ v1_0)) then
          some (Sum.inr (Sum.inl (false, ())))
        else
          bif (decide ((List.getD v36 (Int.toNat v38) ((0 : Int), (⟨Array.empty⟩ : ByteArray), (0 : Int), (0 : Int))).2.2.1 < (0 : Int))) then
            some (Sum.inr (Sum.inl (false, ())))
          else
            bif (decide ((List.getD v36 (Int.toNat v38) ((0 : Int), (⟨Array.empty⟩ : ByteArray), (0 : Int), (0 : Int))).2.2.1 ≥ v1_0)) then
              some (Sum.inr (Sum.inl (false, ())))
            else
              bif (!((ByteArray.toList (List.getD v36 (Int.toNat v38) ((0 : Int), (⟨Array.empty⟩ : ByteArray), (0 : Int), (0 : Int))).2.1) == (ByteArray.toList (⟨#[(97 : UInt8)]⟩ : ByteArray)))) then
                bif (!((ByteArray.toList (List.getD v36 (Int.toNat v38) ((0 : Int), (⟨Array.empty⟩ : ByteArray), (0 : Int), (0 : Int))).2.1) == (ByteArray.toList (⟨#[(98 : UInt8)]⟩ : ByteArray)))) then
                  some (Sum.inr (Sum.inl (false, ())))
                else
                  bif (decide ((List.getD v36 (Int.toNat v38) ((0 : Int), (⟨Array.empty⟩ : ByteArray), (0 : Int), (0 : Int))).2.2.2 < (0 : Int))) then
                    some (Sum.inr (Sum.inl (false, ())))
                  else
                    bif (decide ((List.getD v36 (Int.toNat v38) ((0 : Int), (⟨Array.empty⟩ : ByteArray), (0 : Int), (0 : Int))).2.2.2 > (3 : Int))) then
                      some (Sum.inr (Sum.inl (false, ())))
                    else
                      bif (decide (v38 > (0 : Int))) then
                        if (((0 : Int) ≤ (IntKind.wrap .i64 (v38 - (1 : Int)))) ∧ ((IntKind.wrap .i64 (v38 - (1 : Int))) < (((List.length v1_3) : Nat) : Int))) then
                          Option.bind (impl_stepOrder (List.getD v1_3 (Int.toNat (IntKind.wrap .i64 (v38 - (1 : Int)))) ((0 : Int), (⟨Array.empty⟩ : ByteArray), (0 : Int), (0 : Int))) ((List.getD v36 (Int.toNat v38) ((0 : Int), (⟨Array.empty⟩ : ByteArray), (0 : Int), (0 : Int))).1, (List.getD v36 (Int.toNat v38) ((0 : Int), (⟨Array.empty⟩ : ByteArray), (0 : Int), (0 : Int))).2.1, (List.getD v36 (Int.toNat v38) ((0 : Int), (⟨Array.empty⟩ : ByteArray), (0 : Int), (0 : Int))).2.2.1, (List.getD v36 (Int.toNat v38) ((0 : Int), (⟨Array.empty⟩ : ByteArray), (0 : Int), (0 : Int))).2.2.2)) fun r0 =>
                            bif (decide (r0 ≥ (0 : Int))) then
                              some (Sum.inr (Sum.inl (false, ())))
                            else
                              some (Sum.inl ((v1_0, v1_1, v1_2, v1_3, ()), v36, v37, (IntKind.wrap .i64 (v38 + (1 : Int))), ()))
                        else
                          none
                      else
                        some (Sum.inl ((v1_0, v1_1, v1_2, v1_3, ()), v36, v37, (IntKind.wrap .i64 (v38 + (1 : Int))), ()))
              else
                bif (decide ((List.getD v36 (Int.toNat v38) ((0 : Int), (⟨Array.empty⟩ : ByteArray), (0 : Int), (0 : Int))).2.2.2 < (0 : Int))) then
                  some (Sum.inr (Sum.inl (false, ())))
                else
                  bif (decide ((List.getD v36 (Int.toNat v38) ((0 : Int), (⟨Array.empty⟩ : ByteArray), (0 : Int), (0 : Int))).2.2.2 > (3 : Int))) then
                    some (Sum.inr (Sum.inl (false, ())))
                  else
                    bif (decide (v38 > (0 : Int))) then
                      if (((0 : Int) ≤ (IntKind.wrap .i64 (v38 - (1 : Int)))) ∧ ((IntKind.wrap .i64 (v38 - (1 : Int))) < (((List.length v1_3) : Nat) : Int))) then
                        Option.bind (impl_stepOrder (List.getD v1_3 (Int.toNat (IntKind.wrap .i64 (v38 - (1 : Int)))) ((0 : Int), (⟨Array.empty⟩ : ByteArray), (0 : Int), (0 : Int))) ((List.getD v36 (Int.toNat v38) ((0 : Int), (⟨Array.empty⟩ : ByteArray), (0 : Int), (0 : Int))).1, (List.getD v36 (Int.toNat v38) ((0 : Int), (⟨Array.empty⟩ : ByteArray), (0 : Int), (0 : Int))).2.1, (List.getD v36 (Int.toNat v38) ((0 : Int), (⟨Array.empty⟩ : ByteArray), (0 : Int), (0 : Int))).2.2.1, (List.getD v36 (Int.toNat v38) ((0 : Int), (⟨Array.empty⟩ : ByteArray), (0 : Int), (0 : Int))).2.2.2)) fun r1 =>
                          bif (decide (r1 ≥ (0 : Int))) then
                            some (Sum.inr (Sum.inl (false, ())))
                          else
                            some (Sum.inl ((v1_0, v1_1, v1_2, v1_3, ()), v36, v37, (IntKind.wrap .i64 (v38 + (1 : Int))), ()))
                      else
                        none
                    else
                      some (Sum.inl ((v1_0, v1_1, v1_2, v1_3, ()), v36, v37, (IntKind.wrap .i64 (v38 + (1 : Int))), ()))
    else
      none
  else
    some (Sum.inr (Sum.inr ()))
theorem impl_AutomatonValid_l4_eq : loopStep 101 E27 L27_0 (loopOf f27 4) sh27_4 xs27_4 = impl_AutomatonValid_l4 := by kernel_rfl
theorem loop27_4 {L : Nat → Option LoopD} (h : L 4 = some ⟨101, sh27_4, xs27_4, impl_AutomatonValid_l4⟩) : LoopOk prog L (loopOf f27 4) :=
  loopOk (tysOk_of tyl_ok) E27_ok (codeOk_in (L := L27_0) (tysOk_of tyl_ok) E27_ok mixed (c := loopOf f27 4) (bs := []) (by kernel_rfl) allNil (by kernel_rfl)) (by kernel_rfl) (by kernel_rfl) impl_AutomatonValid_l4_eq (by rw [show firstId (loopOf f27 4) = 4 from by kernel_rfl]; exact h)
noncomputable def L27_1 : Nat → Option LoopD := fun n => ifEq n 4 (some ⟨101, sh27_4, xs27_4, impl_AutomatonValid_l4⟩) (L27_0 n)
noncomputable def impl_AutomatonValid : (Int × ((List Int) × ((List Int) × (List (Int × (ByteArray × (Int × Int))))))) → Option (Bool) := fun (a0_0, a0_1, a0_2, a0_3) =>
  bif (decide (a0_0 < (1 : Int))) then
    some false
  else
    bif (decide (a0_0 > (4 : Int))) then
      some false
    else
      bif (decide ((((List.length a0_3) : Nat) : Int) > (24 : Int))) then
        some false
      else
        Option.bind (impl_statesOk a0_1 a0_0) fun r0 =>
          bif (!r0) then
            some false
          else
            Option.bind (impl_statesOk a0_2 a0_0) fun r1 =>
              bif (!r1) then
                some false
              else
                Option.bind (loopF impl_AutomatonValid_l4 ((a0_0, a0_1, a0_2, a0_3, ()), a0_3, (((List.length a0_3) : Nat) : Int), (0 : Int), ())) fun r2 =>
                  (match r2 with
                  | .inl (d3, _) =>
                      some d3
                  | .inr _ =>
                      some true)
noncomputable def A27 : FnA := ⟨[.v (.pair (.int .i64) (.pair (.sl (.int .i64)) (.pair (.sl (.int .i64)) (.sl (.pair (.int .i64) (.pair .str (.pair (.int .i64) (.int .i64))))))))], true, [.bool], fun x => impl_AutomatonValid x.1⟩
theorem impl_AutomatonValid_eq : fnF E27 L27_1 [.v (.pair (.int .i64) (.pair (.sl (.int .i64)) (.pair (.sl (.int .i64)) (.sl (.pair (.int .i64) (.pair .str (.pair (.int .i64) (.int .i64))))))))] true [.bool] f27.ntmps f27.results.toList (codeOf f27) = fun x => impl_AutomatonValid x.1 := by kernel_rfl
theorem A27_ok : FnOk prog 27 A27 := by
  have h := fnOk_of_run (P := prog) (E := E27) (tysOk_of tyl_ok) E27_ok (L := L27_1) (ps := [.v (.pair (.int .i64) (.pair (.sl (.int .i64)) (.pair (.sl (.int .i64)) (.sl (.pair (.int .i64) (.pair .str (.pair (.int .i64) (.int .i64))))))))]) (own := true) (outs := [.bool]) func27 (c := codeOf f27) (by kernel_rfl) (codeOk_in (L := L27_1) (tysOk_of tyl_ok) E27_ok mixed (c := codeOf f27) (bs := [loopOf f27 4]) (by kernel_rfl) (allCons (loop27_4 rfl) allNil) (by kernel_rfl))
  rw [impl_AutomatonValid_eq] at h
  exact h
/-! impl.stepped -/
noncomputable def E63 : Env := ⟨ty0, fun _ => none, fun _ => none, fun _ => none, fun _ => none⟩
theorem E63_ok : FnsOk prog E63 := (noFns _ _)
noncomputable def L63_0 : Nat → Option LoopD := fun _ => none
def sh63_3 : List Fm := [d, .clo [.pair (.int .i64) (.pair .str (.pair (.int .i64) (.int .i64)))] (.pair (.int .i64) (.pair .str (.pair (.int .i64) (.int .i64)))), d, d, d, .cell (.own (.pair (.int .i64) (.pair .str (.pair (.int .i64) (.int .i64)))) 100500 false), d, d, d, .cell (.val (.sl (.pair (.int .i64) (.pair .str (.pair (.int .i64) (.int .i64)))))), .cell (.val (.int .i64)), .cell (.val (.int .i64)), d, d, d, d, d, d, d, d, d, d, d]
def xs63_3 : List (Ex × List Fm) := [(.exit 0, [d, d, d, d, d, .cell (.own (.pair (.int .i64) (.pair .str (.pair (.int .i64) (.int .i64)))) 100500 false), d, d, d, d, d, d, d, d, d, d, d, d, d, d, d, d, d])]
noncomputable def impl_stepped_l3 : ((((Int × (ByteArray × (Int × Int))) × Unit) → Option ((Int × (ByteArray × (Int × Int))))) × (List (Int × (ByteArray × (Int × Int)))) × (List (Int × (ByteArray × (Int × Int)))) × Int × Int × Unit) → Option (((((Int × (ByteArray × (Int × Int))) × Unit) → Option ((Int × (ByteArray × (Int × Int))))) × (List (Int × (ByteArray × (Int × Int)))) × (List (Int × (ByteArray × (Int × Int)))) × Int × Int × Unit) ⊕ (((List (Int × (ByteArray × (Int × Int)))) × Unit))) := fun (v1, v5, v9, v10, v11, _) =>
  bif (decide (v11 < v10)) then
    if (((0 : Int) ≤ v11) ∧ (v11 < (((List.length v9) : Nat) : Int))) then
      Option.bind (v1 (((List.getD v9 (Int.toNat v11) ((0 : Int), (⟨Array.empty⟩ : ByteArray), (0 : Int), (0 : Int))).1, (List.getD v9 (Int.toNat v11) ((0 : Int), (⟨Array.empty⟩ : ByteArray), (0 : Int), (0 : Int))).2.1, (List.getD v9 (Int.toNat v11) ((0 : Int), (⟨Array.empty⟩ : ByteArray), (0 : Int), (0 : Int))).2.2.1, (List.getD v9 (Int.toNat v11) ((0 : Int), (⟨Array.empty⟩ : ByteArray), (0 : Int), (0 : Int))).2.2.2), ())) fun (r0, r1, r2, r3) =>
        if (((0 + (List.length v5)) = (List.length v5)) ∧ ((((List.length v5) + (List.length (List.take 1 (List.drop 0 [(r0, r1, r2, r3)])))) * 40) ≤ 140737488355328)) then
          some (Sum.inl (v1, (List.take ((List.length v5) + (List.length (List.take 1 (List.drop 0 [(r0, r1, r2, r3)])))) (List.drop 0 ((List.drop 0 v5) ++ (List.take 1 (List.drop 0 [(r0, r1, r2, r3)]))))), v9, v10, (IntKind.wrap .i64 (v11 + (1 : Int))), ()))
        else
          none
    else
      none
  else
    some (Sum.inr ((List.take (List.length v5) (List.drop 0 v5)), ()))
theorem impl_stepped_l3_eq : loopStep 23 E63 L63_0 (loopOf f63 3) sh63_3 xs63_3 = impl_stepped_l3 := by kernel_rfl
theorem loop63_3 {L : Nat → Option LoopD} (h : L 3 = some ⟨23, sh63_3, xs63_3, impl_stepped_l3⟩) : LoopOk prog L (loopOf f63 3) :=
  loopOk (tysOk_of tyl_ok) E63_ok (codeOk_in (L := L63_0) (tysOk_of tyl_ok) E63_ok mixed (c := loopOf f63 3) (bs := []) (by kernel_rfl) allNil (by kernel_rfl)) (by kernel_rfl) (by kernel_rfl) impl_stepped_l3_eq (by rw [show firstId (loopOf f63 3) = 3 from by kernel_rfl]; exact h)
noncomputable def L63_1 : Nat → Option LoopD := fun n => ifEq n 3 (some ⟨23, sh63_3, xs63_3, impl_stepped_l3⟩) (L63_0 n)
noncomputable def impl_stepped : (List (Int × (ByteArray × (Int × Int)))) → (((Int × (ByteArray × (Int × Int))) × Unit) → Option ((Int × (ByteArray × (Int × Int))))) → Option ((List (Int × (ByteArray × (Int × Int))))) := fun a0 a1 =>
  Option.bind (loopF impl_stepped_l3 (a1, (List.take 0 (List.drop 0 [])), a0, (((List.length a0) : Nat) : Int), (0 : Int), ())) fun (r0, _) =>
    some (List.take (List.length r0) (List.drop 0 r0))
noncomputable def A63 : FnA := ⟨[.v (.sl (.pair (.int .i64) (.pair .str (.pair (.int .i64) (.int .i64))))), .clo [.pair (.int .i64) (.pair .str (.pair (.int .i64) (.int .i64)))] (.pair (.int .i64) (.pair .str (.pair (.int .i64) (.int .i64))))], true, [.sl (.pair (.int .i64) (.pair .str (.pair (.int .i64) (.int .i64))))], fun x => impl_stepped x.1 x.2.1⟩
theorem impl_stepped_eq : fnF E63 L63_1 [.v (.sl (.pair (.int .i64) (.pair .str (.pair (.int .i64) (.int .i64))))), .clo [.pair (.int .i64) (.pair .str (.pair (.int .i64) (.int .i64)))] (.pair (.int .i64) (.pair .str (.pair (.int .i64) (.int .i64))))] true [.sl (.pair (.int .i64) (.pair .str (.pair (.int .i64) (.int .i64))))] f63.ntmps f63.results.toList (codeOf f63) = fun x => impl_stepped x.1 x.2.1 := by kernel_rfl
theorem A63_ok : FnOk prog 63 A63 := by
  have h := fnOk_of_run (P := prog) (E := E63) (tysOk_of tyl_ok) E63_ok (L := L63_1) (ps := [.v (.sl (.pair (.int .i64) (.pair .str (.pair (.int .i64) (.int .i64))))), .clo [.pair (.int .i64) (.pair .str (.pair (.int .i64) (.int .i64)))] (.pair (.int .i64) (.pair .str (.pair (.int .i64) (.int .i64))))]) (own := true) (outs := [.sl (.pair (.int .i64) (.pair .str (.pair (.int .i64) (.int .i64))))]) func63 (c := codeOf f63) (by kernel_rfl) (codeOk_in (L := L63_1) (tysOk_of tyl_ok) E63_ok mixed (c := codeOf f63) (bs := [loopOf f63 3]) (by kernel_rfl) (allCons (loop63_3 rfl) allNil) (by kernel_rfl))
  rw [impl_stepped_eq] at h
  exact h
/-! impl.PowerAutomaton$1 -/
noncomputable def E64 : Env := ⟨ty0, fun _ => none, fun _ => none, fun _ => none, fun _ => none⟩
theorem E64_ok : FnsOk prog E64 := (noFns _ _)
noncomputable def L64_0 : Nat → Option LoopD := fun _ => none
noncomputable def impl_PowerAutomaton_1 : (Int × (ByteArray × (Int × Int))) → Option ((Int × (ByteArray × (Int × Int)))) := fun (a0_0, a0_1, a0_2, a0_3) =>
  some (a0_0, a0_1, a0_2, (0 : Int))
noncomputable def A64 : FnA := ⟨[.v (.pair (.int .i64) (.pair .str (.pair (.int .i64) (.int .i64))))], true, [.pair (.int .i64) (.pair .str (.pair (.int .i64) (.int .i64)))], fun x => impl_PowerAutomaton_1 x.1⟩
theorem impl_PowerAutomaton_1_eq : fnF E64 L64_0 [.v (.pair (.int .i64) (.pair .str (.pair (.int .i64) (.int .i64))))] true [.pair (.int .i64) (.pair .str (.pair (.int .i64) (.int .i64)))] f64.ntmps f64.results.toList (codeOf f64) = fun x => impl_PowerAutomaton_1 x.1 := by kernel_rfl
theorem A64_ok : FnOk prog 64 A64 := by
  have h := fnOk_of_run (P := prog) (E := E64) (tysOk_of tyl_ok) E64_ok (L := L64_0) (ps := [.v (.pair (.int .i64) (.pair .str (.pair (.int .i64) (.int .i64))))]) (own := true) (outs := [.pair (.int .i64) (.pair .str (.pair (.int .i64) (.int .i64)))]) func64 (c := codeOf f64) (by kernel_rfl) (codeOk_in (L := L64_0) (tysOk_of tyl_ok) E64_ok mixed (c := codeOf f64) (bs := []) (by kernel_rfl) allNil (by kernel_rfl))
  rw [impl_PowerAutomaton_1_eq] at h
  exact h
/-! slices.Index[[]int,int] -/
noncomputable def E114 : Env := ⟨ty0, fun _ => none, fun _ => none, fun _ => none, fun _ => none⟩
theorem E114_ok : FnsOk prog E114 := (noFns _ _)
noncomputable def L114_0 : Nat → Option LoopD := fun _ => none
def sh114_2 : List Fm := [.cell (.val (.sl (.int .i64))), .cell (.val (.int .i64)), d, d, d, d, d, .cell (.val (.int .i64)), .cell (.val (.int .i64)), d, d, d, d, d, d, d, d, d, d]
def xs114_2 : List (Ex × List Fm) := [(.ret, [d, d, d, d, .cell (.val (.int .i64)), d, d, d, d, d, d, d, d, d, d, d, d, d, d]), (.exit 0, [d, d, d, d, d, d, d, d, d, d, d, d, d, d, d, d, d, d, d])]
noncomputable def slices_Index_l2 : ((List Int) × Int × Int × Int × Unit) → Option (((List Int) × Int × Int × Int × Unit) ⊕ ((Int × Unit) ⊕ (Unit))) := fun (v0, v1, v7, v8, _) =>
  bif (decide (v8 < v7)) then
    if (((0 : Int) ≤ v8) ∧ (v8 < (((List.length v0) : Nat) : Int))) then
      bif (v1 == (List.getD v0 (Int.toNat v8) (0 : Int))) then
        some (Sum.inr (Sum.inl (v8, ())))
      else
        some (Sum.inl (v0, v1, v7, (IntKind.wrap .i64 (v8 + (1 : Int))), ()))
    else
      none
  else
    some (Sum.inr (Sum.inr ()))
theorem slices_Index_l2_eq : loopStep 19 E114 L114_0 (loopOf f114 2) sh114_2 xs114_2 = slices_Index_l2 := by kernel_rfl
theorem loop114_2 {L : Nat → Option LoopD} (h : L 2 = some ⟨19, sh114_2, xs114_2, slices_Index_l2⟩) : LoopOk prog L (loopOf f114 2) :=
  loopOk (tysOk_of tyl_ok) E114_ok (codeOk_in (L := L114_0) (tysOk_of tyl_ok) E114_ok mixed (c := loopOf f114 2) (bs := []) (by kernel_rfl) allNil (by kernel_rfl)) (by kernel_rfl) (by kernel_rfl) slices_Index_l2_eq (by rw [show firstId (loopOf f114 2) = 2 from by kernel_rfl]; exact h)
noncomputable def L114_1 : Nat → Option LoopD := fun n => ifEq n 2 (some ⟨19, sh114_2, xs114_2, slices_Index_l2⟩) (L114_0 n)
noncomputable def slices_Index : (List Int) → Int → Option (Int) := fun a0 a1 =>
  Option.bind (loopF slices_Index_l2 (a0, a1, (((List.length a0) : Nat) : Int), (0 : Int), ())) fun r0 =>
    (match r0 with
    | .inl (d1, _) =>
        some d1
    | .inr _ =>
        some (-1 : Int))
noncomputable def A114 : FnA := ⟨[.v (.sl (.int .i64)), .v (.int .i64)], true, [.int .i64], fun x => slices_Index x.1 x.2.1⟩
theorem slices_Index_eq : fnF E114 L114_1 [.v (.sl (.int .i64)), .v (.int .i64)] true [.int .i64] f114.ntmps f114.results.toList (codeOf f114) = fun x => slices_Index x.1 x.2.1 := by kernel_rfl
theorem A114_ok : FnOk prog 114 A114 := by
  have h := fnOk_of_run (P := prog) (E := E114) (tysOk_of tyl_ok) E114_ok (L := L114_1) (ps := [.v (.sl (.int .i64)), .v (.int .i64)]) (own := true) (outs := [.int .i64]) func114 (c := codeOf f114) (by kernel_rfl) (codeOk_in (L := L114_1) (tysOk_of tyl_ok) E114_ok mixed (c := codeOf f114) (bs := [loopOf f114 2]) (by kernel_rfl) (allCons (loop114_2 rfl) allNil) (by kernel_rfl))
  rw [slices_Index_eq] at h
  exact h
/-! slices.Contains[[]int,int] -/
noncomputable def E65 : Env := ⟨ty0, fun g => ifEq g 114 (some A114) (none), fun _ => none, fun _ => none, fun _ => none⟩
theorem E65_ok : FnsOk prog E65 := (oneFn A114_ok func114 (by kernel_rfl) (by kernel_rfl) (noFns _ _))
noncomputable def L65_0 : Nat → Option LoopD := fun _ => none
noncomputable def slices_Contains : (List Int) → Int → Option (Bool) := fun a0 a1 =>
  Option.bind (slices_Index a0 a1) fun r0 =>
    some (decide (r0 ≥ (0 : Int)))
noncomputable def A65 : FnA := ⟨[.v (.sl (.int .i64)), .v (.int .i64)], true, [.bool], fun x => slices_Contains x.1 x.2.1⟩
theorem slices_Contains_eq : fnF E65 L65_0 [.v (.sl (.int .i64)), .v (.int .i64)] true [.bool] f65.ntmps f65.results.toList (codeOf f65) = fun x => slices_Contains x.1 x.2.1 := by kernel_rfl
theorem A65_ok : FnOk prog 65 A65 := by
  have h := fnOk_of_run (P := prog) (E := E65) (tysOk_of tyl_ok) E65_ok (L := L65_0) (ps := [.v (.sl (.int .i64)), .v (.int .i64)]) (own := true) (outs := [.bool]) func65 (c := codeOf f65) (by kernel_rfl) (codeOk_in (L := L65_0) (tysOk_of tyl_ok) E65_ok mixed (c := codeOf f65) (bs := []) (by kernel_rfl) allNil (by kernel_rfl))
  rw [slices_Contains_eq] at h
  exact h
/-! slices.IndexFunc[[]impl.Step,impl.Step] -/
noncomputable def E115 : Env := ⟨ty0, fun _ => none, fun _ => none, fun _ => none, fun _ => none⟩
theorem E115_ok : FnsOk prog E115 := (noFns _ _)
noncomputable def L115_0 : Nat → Option LoopD := fun _ => none
def sh115_2 : List Fm := [.cell (.val (.sl (.pair (.int .i64) (.pair .str (.pair (.int .i64) (.int .i64)))))), .clo [.pair (.int .i64) (.pair .str (.pair (.int .i64) (.int .i64)))] .bool, d, d, d, d, d, .cell (.val (.int .i64)), .cell (.val (.int .i64)), d, d, d, d, d, d, d, d, d, d]
def xs115_2 : List (Ex × List Fm) := [(.ret, [d, d, d, d, .cell (.val (.int .i64)), d, d, d, d, d, d, d, d, d, d, d, d, d, d]), (.exit 0, [d, d, d, d, d, d, d, d, d, d, d, d, d, d, d, d, d, d, d])]
noncomputable def slices_IndexFunc_Step_l2 : ((List (Int × (ByteArray × (Int × Int)))) × (((Int × (ByteArray × (Int × Int))) × Unit) → Option (Bool)) × Int × Int × Unit) → Option (((List (Int × (ByteArray × (Int × Int)))) × (((Int × (ByteArray × (Int × Int))) × Unit) → Option (Bool)) × Int × Int × Unit) ⊕ ((Int × Unit) ⊕ (Unit))) := fun (v0, v1, v7, v8, _) =>
  bif (decide (v8 < v7)) then
    if (((0 : Int) ≤ v8) ∧ (v8 < (((List.length v0) : Nat) : Int))) then
      Option.bind (v1 ((List.getD v0 (Int.toNat v8) ((0 : Int), (⟨Array.empty⟩ : ByteArray), (0 : Int), (0 : Int))), ())) fun r0 =>
        bif r0 then
          some (Sum.inr (Sum.inl (v8, ())))
        else
          some (Sum.inl (v0, v1, v7, (IntKind.wrap .i64 (v8 + (1 : Int))), ()))
    else
      none
  else
    some (Sum.inr (Sum.inr ()))
theorem slices_IndexFunc_Step_l2_eq : loopStep 19 E115 L115_0 (loopOf f115 2) sh115_2 xs115_2 = slices_IndexFunc_Step_l2 := by kernel_rfl
theorem loop115_2 {L : Nat → Option LoopD} (h : L 2 = some ⟨19, sh115_2, xs115_2, slices_IndexFunc_Step_l2⟩) : LoopOk prog L (loopOf f115 2) :=
  loopOk (tysOk_of tyl_ok) E115_ok (codeOk_in (L := L115_0) (tysOk_of tyl_ok) E115_ok mixed (c := loopOf f115 2) (bs := []) (by kernel_rfl) allNil (by kernel_rfl)) (by kernel_rfl) (by kernel_rfl) slices_IndexFunc_Step_l2_eq (by rw [show firstId (loopOf f115 2) = 2 from by kernel_rfl]; exact h)
noncomputable def L115_1 : Nat → Option LoopD := fun n => ifEq n 2 (some ⟨19, sh115_2, xs115_2, slices_IndexFunc_Step_l2⟩) (L115_0 n)
noncomputable def slices_IndexFunc_Step : (List (Int × (ByteArray × (Int × Int)))) → (((Int × (ByteArray × (Int × Int))) × Unit) → Option (Bool)) → Option (Int) := fun a0 a1 =>
  Option.bind (loopF slices_IndexFunc_Step_l2 (a0, a1, (((List.length a0) : Nat) : Int), (0 : Int), ())) fun r0 =>
    (match r0 with
    | .inl (d1, _) =>
        some d1
    | .inr _ =>
        some (-1 : Int))
noncomputable def A115 : FnA := ⟨[.v (.sl (.pair (.int .i64) (.pair .str (.pair (.int .i64) (.int .i64))))), .clo [.pair (.int .i64) (.pair .str (.pair (.int .i64) (.int .i64)))] .bool], true, [.int .i64], fun x => slices_IndexFunc_Step x.1 x.2.1⟩
theorem slices_IndexFunc_Step_eq : fnF E115 L115_1 [.v (.sl (.pair (.int .i64) (.pair .str (.pair (.int .i64) (.int .i64))))), .clo [.pair (.int .i64) (.pair .str (.pair (.int .i64) (.int .i64)))] .bool] true [.int .i64] f115.ntmps f115.results.toList (codeOf f115) = fun x => slices_IndexFunc_Step x.1 x.2.1 := by kernel_rfl
theorem A115_ok : FnOk prog 115 A115 := by
  have h := fnOk_of_run (P := prog) (E := E115) (tysOk_of tyl_ok) E115_ok (L := L115_1) (ps := [.v (.sl (.pair (.int .i64) (.pair .str (.pair (.int .i64) (.int .i64))))), .clo [.pair (.int .i64) (.pair .str (.pair (.int .i64) (.int .i64)))] .bool]) (own := true) (outs := [.int .i64]) func115 (c := codeOf f115) (by kernel_rfl) (codeOk_in (L := L115_1) (tysOk_of tyl_ok) E115_ok mixed (c := codeOf f115) (bs := [loopOf f115 2]) (by kernel_rfl) (allCons (loop115_2 rfl) allNil) (by kernel_rfl))
  rw [slices_IndexFunc_Step_eq] at h
  exact h
/-! slices.ContainsFunc[[]impl.Step,impl.Step] -/
noncomputable def E66 : Env := ⟨ty0, fun g => ifEq g 115 (some A115) (none), fun _ => none, fun _ => none, fun _ => none⟩
theorem E66_ok : FnsOk prog E66 := (oneFn A115_ok func115 (by kernel_rfl) (by kernel_rfl) (noFns _ _))
noncomputable def L66_0 : Nat → Option LoopD := fun _ => none
noncomputable def slices_ContainsFunc_Step : (List (Int × (ByteArray × (Int × Int)))) → (((Int × (ByteArray × (Int × Int))) × Unit) → Option (Bool)) → Option (Bool) := fun a0 a1 =>
  Option.bind (slices_IndexFunc_Step a0 a1) fun r0 =>
    some (decide (r0 ≥ (0 : Int)))
noncomputable def A66 : FnA := ⟨[.v (.sl (.pair (.int .i64) (.pair .str (.pair (.int .i64) (.int .i64))))), .clo [.pair (.int .i64) (.pair .str (.pair (.int .i64) (.int .i64)))] .bool], true, [.bool], fun x => slices_ContainsFunc_Step x.1 x.2.1⟩
theorem slices_ContainsFunc_Step_eq : fnF E66 L66_0 [.v (.sl (.pair (.int .i64) (.pair .str (.pair (.int .i64) (.int .i64))))), .clo [.pair (.int .i64) (.pair .str (.pair (.int .i64) (.int .i64)))] .bool] true [.bool] f66.ntmps f66.results.toList (codeOf f66) = fun x => slices_ContainsFunc_Step x.1 x.2.1 := by kernel_rfl
theorem A66_ok : FnOk prog 66 A66 := by
  have h := fnOk_of_run (P := prog) (E := E66) (tysOk_of tyl_ok) E66_ok (L := L66_0) (ps := [.v (.sl (.pair (.int .i64) (.pair .str (.pair (.int .i64) (.int .i64))))), .clo [.pair (.int .i64) (.pair .str (.pair (.int .i64) (.int .i64)))] .bool]) (own := true) (outs := [.bool]) func66 (c := codeOf f66) (by kernel_rfl) (codeOk_in (L := L66_0) (tysOk_of tyl_ok) E66_ok mixed (c := codeOf f66) (bs := []) (by kernel_rfl) allNil (by kernel_rfl))
  rw [slices_ContainsFunc_Step_eq] at h
  exact h
/-! impl.PowerAutomaton$2 -/
noncomputable def E67 : Env := ⟨ty0, fun g => ifEq g 68 (some A68) (none), fun _ => none, fun _ => none, fun _ => none⟩
theorem E67_ok : FnsOk prog E67 := (oneFn A68_ok func68 (by kernel_rfl) (by kernel_rfl) (noFns _ _))
noncomputable def L67_0 : Nat → Option LoopD := fun _ => none
noncomputable def impl_PowerAutomaton_2 : (Int × (ByteArray × (Int × Int))) → (Int × (ByteArray × (Int × Int))) → Option (Bool) := fun (a0_0, a0_1, a0_2, a0_3) (a1_0, a1_1, a1_2, a1_3) =>
  Option.bind (impl_stepOrder (a0_0, a0_1, a0_2, a0_3) (a1_0, a1_1, a1_2, a1_3)) fun r0 =>
    some (r0 == (0 : Int))
noncomputable def A67 : FnA := ⟨[.v (.pair (.int .i64) (.pair .str (.pair (.int .i64) (.int .i64)))), .cap (.pair (.int .i64) (.pair .str (.pair (.int .i64) (.int .i64))))], true, [.bool], fun x => impl_PowerAutomaton_2 x.1 x.2.1⟩
theorem impl_PowerAutomaton_2_eq : fnF E67 L67_0 [.v (.pair (.int .i64) (.pair .str (.pair (.int .i64) (.int .i64)))), .cap (.pair (.int .i64) (.pair .str (.pair (.int .i64) (.int .i64))))] true [.bool] f67.ntmps f67.results.toList (codeOf f67) = fun x => impl_PowerAutomaton_2 x.1 x.2.1 := by kernel_rfl
theorem A67_ok : FnOk prog 67 A67 := by
  have h := fnOk_of_run (P := prog) (E := E67) (tysOk_of tyl_ok) E67_ok (L := L67_0) (ps := [.v (.pair (.int .i64) (.pair .str (.pair (.int .i64) (.int .i64)))), .cap (.pair (.int .i64) (.pair .str (.pair (.int .i64) (.int .i64))))]) (own := true) (outs := [.bool]) func67 (c := codeOf f67) (by kernel_rfl) (codeOk_in (L := L67_0) (tysOk_of tyl_ok) E67_ok mixed (c := codeOf f67) (bs := []) (by kernel_rfl) allNil (by kernel_rfl))
  rw [impl_PowerAutomaton_2_eq] at h
  exact h
/-! slices.Clone[[]int,int] -/
noncomputable def E119 : Env := ⟨ty0, fun _ => none, fun _ => none, fun _ => none, fun _ => none⟩
theorem E119_ok : FnsOk prog E119 := (noFns _ _)
noncomputable def L119_0 : Nat → Option LoopD := fun _ => none
noncomputable def slices_Clone : (List Int) → Option ((List Int)) := fun a0 =>
  ifSame (some [])
    (if (((0 + 0) = (List.length ([] : List Unit))) ∧ (((0 + (List.length a0)) * 8) ≤ 140737488355328)) then
      some (List.take (0 + (List.length a0)) (List.drop 0 ((List.drop 0 []) ++ a0)))
    else
      none)
    (bif (List.isEmpty a0) then
      none
    else
      if (((0 + 0) = (List.length ([] : List Unit))) ∧ (((0 + (List.length a0)) * 8) ≤ 140737488355328)) then
        some (List.take (0 + (List.length a0)) (List.drop 0 ((List.drop 0 []) ++ a0)))
      else
        none)
noncomputable def A119 : FnA := ⟨[.v (.sl (.int .i64))], true, [.sl (.int .i64)], fun x => slices_Clone x.1⟩
theorem slices_Clone_eq : fnF E119 L119_0 [.v (.sl (.int .i64))] true [.sl (.int .i64)] f119.ntmps f119.results.toList (codeOf f119) = fun x => slices_Clone x.1 := by kernel_rfl
theorem A119_ok : FnOk prog 119 A119 := by
  have h := fnOk_of_run (P := prog) (E := E119) (tysOk_of tyl_ok) E119_ok (L := L119_0) (ps := [.v (.sl (.int .i64))]) (own := true) (outs := [.sl (.int .i64)]) func119 (c := codeOf f119) (by kernel_rfl) (codeOk_in (L := L119_0) (tysOk_of tyl_ok) E119_ok mixed (c := codeOf f119) (bs := []) (by kernel_rfl) allNil (by kernel_rfl))
  rw [slices_Clone_eq] at h
  exact h
/-! slices.Clone[[]impl.Step,impl.Step] -/
noncomputable def E120 : Env := ⟨ty0, fun _ => none, fun _ => none, fun _ => none, fun _ => none⟩
theorem E120_ok : FnsOk prog E120 := (noFns _ _)
noncomputable def L120_0 : Nat → Option LoopD := fun _ => none
noncomputable def slices_Clone_Step : (List (Int × (ByteArray × (Int × Int)))) → Option ((List (Int × (ByteArray × (Int × Int))))) := fun a0 =>
  ifSame (some [])
    (if (((0 + 0) = (List.length ([] : List Unit))) ∧ (((0 + (List.length a0)) * 40) ≤ 140737488355328)) then
      some (List.take (0 + (List.length a0)) (List.drop 0 ((List.drop 0 []) ++ a0)))
    else
      none)
    (bif (List.isEmpty a0) then
      none
    else
      if (((0 + 0) = (List.length ([] : List Unit))) ∧ (((0 + (List.length a0)) * 40) ≤ 140737488355328)) then
        some (List.take (0 + (List.length a0)) (List.drop 0 ((List.drop 0 []) ++ a0)))
      else
        none)
noncomputable def A120 : FnA := ⟨[.v (.sl (.pair (.int .i64) (.pair .str (.pair (.int .i64) (.int .i64)))))], true, [.sl (.pair (.int .i64) (.pair .str (.pair (.int .i64) (.int .i64))))], fun x => slices_Clone_Step x.1⟩
theorem slices_Clone_Step_eq : fnF E120 L120_0 [.v (.sl (.pair (.int .i64) (.pair .str (.pair (.int .i64) (.int .i64)))))] true [.sl (.pair (.int .i64) (.pair .str (.pair (.int .i64) (.int .i64))))] f120.ntmps f120.results.toList (codeOf f120) = fun x => slices_Clone_Step x.1 := by kernel_rfl
theorem A120_ok : FnOk prog 120 A120 := by
  have h := fnOk_of_run (P := prog) (E := E120) (tysOk_of tyl_ok) E120_ok (L := L120_0) (ps := [.v (.sl (.pair (.int .i64) (.pair .str (.pair (.int .i64) (.int .i64)))))]) (own := true) (outs := [.sl (.pair (.int .i64) (.pair .str (.pair (.int .i64) (.int .i64))))]) func120 (c := codeOf f120) (by kernel_rfl) (codeOk_in (L := L120_0) (tysOk_of tyl_ok) E120_ok mixed (c := codeOf f120) (bs := []) (by kernel_rfl) allNil (by kernel_rfl))
  rw [slices_Clone_Step_eq] at h
  exact h
/-! impl.made -/
noncomputable def E69 : Env := ⟨ty0, fun g => ifEq g 119 (some A119) (ifEq g 120 (some A120) (ifEq g 27 (some A27) (none))), fun g => ifEq g 121 (some A121) (ifEq g 122 (some A122) (none)), fun _ => none, fun _ => none⟩
theorem E69_ok : FnsOk prog E69 := (oneFn A119_ok func119 (by kernel_rfl) (by kernel_rfl) (oneFn A120_ok func120 (by kernel_rfl) (by kernel_rfl) (oneFn A27_ok func27 (by kernel_rfl) (by kernel_rfl) (oneMs A121_ok (by kernel_rfl) func121 (by kernel_rfl) (by kernel_rfl) (oneMs A122_ok (by kernel_rfl) func122 (by kernel_rfl) (by kernel_rfl) (noFns _ _))))))
noncomputable def L69_0 : Nat → Option LoopD := fun _ => none
noncomputable def impl_made : Int → (List Int) → (List Int) → (List (Int × (ByteArray × (Int × Int)))) → Option ((Int × ((List Int) × ((List Int) × (List (Int × (ByteArray × (Int × Int))))))) × Bool) := fun a0 a1 a2 a3 =>
  Option.bind (slices_Clone a1) fun r0 =>
    Option.bind (slices_Clone a2) fun r1 =>
      Option.bind (slices_Clone_Step a3) fun r2 =>
        if ((List.length r0) = (List.length r0)) then
          Option.bind (slices_Sort r0) fun (_, r3, _) =>
            if ((List.length r1) = (List.length r1)) then
              Option.bind (slices_Sort r1) fun (_, r4, _) =>
                if ((List.length r2) = (List.length r2)) then
                  Option.bind (slices_SortFunc r2) fun (_, r5, _) =>
                    Option.bind (impl_AutomatonValid (a0, (List.take (List.length r0) (List.drop 0 r3)), (List.take (List.length r1) (List.drop 0 r4)), (List.take (List.length r2) (List.drop 0 r5)))) fun r6 =>
                      bif (!r6) then
                        some (((0 : Int), [], [], []), false)
                      else
                        some ((a0, (List.take (List.length r0) (List.drop 0 r3)), (List.take (List.length r1) (List.drop 0 r4)), (List.take (List.length r2) (List.drop 0 r5))), true)
                else
                  none
            else
              none
        else
          none
noncomputable def A69 : FnA := ⟨[.v (.int .i64), .v (.sl (.int .i64)), .v (.sl (.int .i64)), .v (.sl (.pair (.int .i64) (.pair .str (.pair (.int .i64) (.int .i64)))))], true, [.pair (.int .i64) (.pair (.sl (.int .i64)) (.pair (.sl (.int .i64)) (.sl (.pair (.int .i64) (.pair .str (.pair (.int .i64) (.int .i64))))))), .bool], fun x => impl_made x.1 x.2.1 x.2.2.1 x.2.2.2.1⟩
theorem impl_made_eq : fnF E69 L69_0 [.v (.int .i64), .v (.sl (.int .i64)), .v (.sl (.int .i64)), .v (.sl (.pair (.int .i64) (.pair .str (.pair (.int .i64) (.int .i64)))))] true [.pair (.int .i64) (.pair (.sl (.int .i64)) (.pair (.sl (.int .i64)) (.sl (.pair (.int .i64) (.pair .str (.pair (.int .i64) (.int .i64))))))), .bool] f69.ntmps f69.results.toList (codeOf f69) = fun x => impl_made x.1 x.2.1 x.2.2.1 x.2.2.2.1 := by kernel_rfl
theorem A69_ok : FnOk prog 69 A69 := by
  have h := fnOk_of_run (P := prog) (E := E69) (tysOk_of tyl_ok) E69_ok (L := L69_0) (ps := [.v (.int .i64), .v (.sl (.int .i64)), .v (.sl (.int .i64)), .v (.sl (.pair (.int .i64) (.pair .str (.pair (.int .i64) (.int .i64)))))]) (own := true) (outs := [.pair (.int .i64) (.pair (.sl (.int .i64)) (.pair (.sl (.int .i64)) (.sl (.pair (.int .i64) (.pair .str (.pair (.int .i64) (.int .i64))))))), .bool]) func69 (c := codeOf f69) (by kernel_rfl) (codeOk_in (L := L69_0) (tysOk_of tyl_ok) E69_ok mixed (c := codeOf f69) (bs := []) (by kernel_rfl) allNil (by kernel_rfl))
  rw [impl_made_eq] at h
  exact h
/-! impl.PowerAutomaton -/
noncomputable def E18 : Env := ⟨ty0, fun g => ifEq g 27 (some A27) (ifEq g 63 (some A63) (ifEq g 64 (some A64) (ifEq g 65 (some A65) (ifEq g 66 (some A66) (ifEq g 67 (some A67) (ifEq g 69 (some A69) (none))))))), fun _ => none, fun _ => none, fun _ => none⟩
theorem E18_ok : FnsOk prog E18 := (oneFn A27_ok func27 (by kernel_rfl) (by kernel_rfl) (oneFn A63_ok func63 (by kernel_rfl) (by kernel_rfl) (oneFn A64_ok func64 (by kernel_rfl) (by kernel_rfl) (oneFn A65_ok func65 (by kernel_rfl) (by kernel_rfl) (oneFn A66_ok func66 (by kernel_rfl) (by kernel_rfl) (oneFn A67_ok func67 (by kernel_rfl) (by kernel_rfl) (oneFn A69_ok func69 (by kernel_rfl) (by kernel_rfl) (noFns _ _))))))))
noncomputable def L18_0 : Nat → Option LoopD := fun _ => none
def sh18_8 : List Fm := [d, .box 100100 [.val (.int .i64), .val (.sl (.int .i64)), .val (.sl (.int .i64)), .val (.sl (.pair (.int .i64) (.pair .str (.pair (.int .i64) (.int .i64)))))], .box 100200 [.val (.int .i64), .own (.int .i64) 100202 false, .own (.int .i64) 100203 false, .own (.pair (.int .i64) (.pair .str (.pair (.int .i64) (.int .i64)))) 100204 false], d, .cell (.own (.pair (.int .i64) (.pair .str (.pair (.int .i64) (.int .i64)))) 100400 false), d, .box 100600 [.val (.int .i64), .val .str, .val (.int .i64), .val (.int .i64)], d, d, d, d, d, d, d, d, d, d, d, .cell (.val (.sl (.pair (.int .i64) (.pair .str (.pair (.int .i64) (.int .i64)))))), .cell (.val (.int .i64)), .cell (.val (.int .i64)), d, d, d, d, .cell (.val (.sl (.int .i64))), .cell (.val (.int .i64)), .cell (.val (.int .i64)), d, d, d, d, d, d, d, d, d, d, d, d, d, d, d, d, d, d, d, d, d, d, d, d, d, d, d, d, d, d, d, d, d, d, d, d]
def xs18_8 : List (Ex × List Fm) := [(.exit 2, [d, .box 100100 [.val (.int .i64), .val (.sl (.int .i64)), .val (.sl (.int .i64)), .val (.sl (.pair (.int .i64) (.pair .str (.pair (.int .i64) (.int .i64)))))], .box 100200 [.val (.int .i64), .own (.int .i64) 100202 false, .own (.int .i64) 100203 false, .own (.pair (.int .i64) (.pair .str (.pair (.int .i64) (.int .i64)))) 100204 false], d, .cell (.own (.pair (.int .i64) (.pair .str (.pair (.int .i64) (.int .i64)))) 100400 false), d, d, d, d, d, d, d, d, d, d, d, d, d, .cell (.val (.sl (.pair (.int .i64) (.pair .str (.pair (.int .i64) (.int .i64)))))), .cell (.val (.int .i64)), .cell (.val (.int .i64)), d, d, d, d, d, d, d, d, d, d, d, d, d, d, d, d, d, d, d, d, d, d, d, d, d, d, d, d, d, d, d, d, d, d, d, d, d, d, d, d, d, d, d])]
noncomputable def impl_PowerAutomaton_l8 : ((Int × (List Int) × (List Int) × (List (Int × (ByteArray × (Int × Int)))) × Unit) × (Int × (List Int) × (List Int) × (List (Int × (ByteArray × (Int × Int)))) × Unit) × (List (Int × (ByteArray × (Int × Int)))) × (Int × ByteArray × Int × Int × Unit) × (List (Int × (ByteArray × (Int × Int)))) × Int × Int × (List Int) × Int × Int × Unit) → Option (((Int × (List Int) × (List Int) × (List (Int × (ByteArray × (Int × Int)))) × Unit) × (Int × (List Int) × (List Int) × (List (Int × (ByteArray × (Int × Int)))) × Unit) × (List (Int × (ByteArray × (Int × Int)))) × (Int × ByteArray × Int × Int × Unit) × (List (Int × (ByteArray × (Int × Int)))) × Int × Int × (List Int) × Int × Int × Unit) ⊕ (((Int × (List Int) × (List Int) × (List (Int × (ByteArray × (Int × Int)))) × Unit) × (Int × (List Int) × (List Int) × (List (Int × (ByteArray × (Int × Int)))) × Unit) × (List (Int × (ByteArray × (Int × Int)))) × (List (Int × (ByteArray × (Int × Int)))) × Int × Int × Unit))) := fun ((v1_0, v1_1, v1_2, v1_3, _), (v2_0, v2_1, v2_2, v2_3, _), v4, (v6_0, v6_1, v6_2, v6_3, _), v18, v19, v20, v25, v26, v27, _) =>
  bif (decide (v27 < v26)) then
    if (((0 : Int) ≤ v27) ∧ (v27 < (((List.length v25) : Nat) : Int))) then
      Option.bind (slices_Contains v1_1 v6_0) fun r0 =>
        bif r0 then
          Option.bind (slices_ContainsFunc_Step (List.take (List.length v4) (List.drop 0 v4)) (fun y1 => (impl_PowerAutomaton_2 y1.1 ((List.getD v25 (Int.toNat v27) (0 : Int)), v6_1, v6_2, (1 : Int))))) fun r2 =>
            bif (!r2) then
              if (((0 + (List.length v4)) = (List.length v4)) ∧ ((((List.length v4) + (List.length (List.take 1 (List.drop 0 [((List.getD v25 (Int.toNat v27) (0 : Int)), v6_1, v6_2, (1 : Int))])))) * 40) ≤ 140737488355328)) then
                some (Sum.inl ((v1_0, v1_1, v1_2, v1_3, ()), (v2_0, (List.take (List.length v2_1) (List.drop 0 v2_1)), (List.take (List.length v2_2) (List.drop 0 v2_2)), (List.take (List.length v2_3) (List.drop 0 v2_3)), ()), (List.take ((List.length v4) + (List.length (List.take 1 (List.drop 0 [((List.getD v25 (Int.toNat v27) (0 : Int)), v6_1, v6_2, (1 : Int))])))) (List.drop 0 ((List.drop 0 v4) ++ (List.take 1 (List.drop 0 [((List.getD v25 (Int.toNat v27) (0 : Int)), v6_1, v6_2, (1 : Int))]))))), (v6_0, v6_1, v6_2, v6_3, ()), v18, v19, v20, v25, v26, (IntKind.wrap .i64 (v27 + (1 : Int))), ()))
              else
                none
            else
              some (Sum.inl ((v1_0, v1_1, v1_2, v1_3, ()), (v2_0, (List.take (List.length v2_1) (List.drop 0 v2_1)), (List.take (List.length v2_2) (List.drop 0 v2_2)), (List.take (List.length v2_3) (List.drop 0 v2_3)), ()), (List.take (List.length v4) (List.drop 0 v4)), (v6_0, v6_1, v6_2, v6_3, ()), v18, v19, v20, v25, v26, (IntKind.wrap .i64 (v27 + (1 : Int))), ()))
        else
          some (Sum.inl ((v1_0, v1_1, v1_2, v1_3, ()), (v2_0, (List.take (List.length v2_1) (List.drop 0 v2_1)), (List.take (List.length v2_2) (List.drop 0 v2_2)), (List.take (List.length v2_3) (List.drop 0 v2_3)), ()), (List.take (List.length v4) (List.drop 0 v4)), (v6_0, v6_1, v6_2, v6_3, ()), v18, v19, v20, v25, v26, (IntKind.wrap .i64 (v27 + (1 : Int))), ()))
    else
      none
  else
    some (Sum.inr ((v1_0, v1_1, v1_2, v1_3, ()), (v2_0, (List.take (List.length v2_1) (List.drop 0 v2_1)), (List.take (List.length v2_2) (List.drop 0 v2_2)), (List.take (List.length v2_3) (List.drop 0 v2_3)), ()), (List.take (List.length v4) (List.drop 0 v4)), v18, v19, v20, ()))
theorem impl_PowerAutomaton_l8_eq : loopStep 64 E18 L18_0 (loopOf f18 8) sh18_8 xs18_8 = impl_PowerAutomaton_l8 := by kernel_rfl
theorem loop18_8 {L : Nat → Option LoopD} (h : L 8 = some ⟨64, sh18_8, xs18_8, impl_PowerAutomaton_l8⟩) : LoopOk prog L (loopOf f18 8) :=
  loopOk (tysOk_of tyl_ok) E18_ok (codeOk_in (L := L18_0) (tysOk_of tyl_ok) E18_ok mixed (c := loopOf f18 8) (bs := []) (by kernel_rfl) allNil (by kernel_rfl)) (by kernel_rfl) (by kernel_rfl) impl_PowerAutomaton_l8_eq (by rw [show firstId (loopOf f18 8) = 8 from by kernel_rfl]; exact h)
noncomputable def L18_1 : Nat → Option LoopD := fun n => ifEq n 8 (some ⟨64, sh18_8, xs18_8, impl_PowerAutomaton_l8⟩) (L18_0 n)
def sh18_5 : List Fm := [d, .box 100100 [.val (.int .i64), .val (.sl (.int .i64)), .val (.sl (.int .i64)), .val (.sl (.pair (.int .i64) (.pair .str (.pair (.int .i64) (.int .i64)))))], .box 100200 [.val (.int .i64), .own (.int .i64) 100202 false, .own (.int .i64) 100203 false, .own (.pair (.int .i64) (.pair .str (.pair (.int .i64) (.int .i64)))) 100204 false], d, .cell (.own (.pair (.int .i64) (.pair .str (.pair (.int .i64) (.int .i64)))) 100400 false), d, d, d, d, d, d, d, d, d, d, d, d, d, .cell (.val (.sl (.pair (.int .i64) (.pair .str (.pair (.int .i64) (.int .i64)))))), .cell (.val (.int .i64)), .cell (.val (.int .i64)), d, d, d, d, d, d, d, d, d, d, d, d, d, d, d, d, d, d, d, d, d, d, d, d, d, d, d, d, d, d, d, d, d, d, d, d, d, d, d, d, d, d, d]
def xs18_5 : List (Ex × List Fm) := [(.exit 0, [d, .box 100100 [.val (.int .i64), .val (.sl (.int .i64)), .val (.sl (.int .i64)), .val (.sl (.pair (.int .i64) (.pair .str (.pair (.int .i64) (.int .i64)))))], .box 100200 [.val (.int .i64), .own (.int .i64) 100202 false, .own (.int .i64) 100203 false, .own (.pair (.int .i64) (.pair .str (.pair (.int .i64) (.int .i64)))) 100204 false], d, .cell (.own (.pair (.int .i64) (.pair .str (.pair (.int .i64) (.int .i64)))) 100400 false), d, d, d, d, d, d, d, d, d, d, d, d, d, d, d, d, d, d, d, d, d, d, d, d, d, d, d, d, d, d, d, d, d, d, d, d, d, d, d, d, d, d, d, d, d, d, d, d, d, d, d, d, d, d, d, d, d, d, d])]
noncomputable def impl_PowerAutomaton_l5 : ((Int × (List Int) × (List Int) × (List (Int × (ByteArray × (Int × Int)))) × Unit) × (Int × (List Int) × (List Int) × (List (Int × (ByteArray × (Int × Int)))) × Unit) × (List (Int × (ByteArray × (Int × Int)))) × (List (Int × (ByteArray × (Int × Int)))) × Int × Int × Unit) → Option (((Int × (List Int) × (List Int) × (List (Int × (ByteArray × (Int × Int)))) × Unit) × (Int × (List Int) × (List Int) × (List (Int × (ByteArray × (Int × Int)))) × Unit) × (List (Int × (ByteArray × (Int × Int)))) × (List (Int × (ByteArray × (Int × Int)))) × Int × Int × Unit) ⊕ (((Int × (List Int) × (List Int) × (List (Int × (ByteArray × (Int × Int)))) × Unit) × (Int × (List Int) × (List Int) × (List (Int × (ByteArray × (Int × Int)))) × Unit) × (List (Int × (ByteArray × (Int × Int)))) × Unit))) := fun ((v1_0, v1_1, v1_2, v1_3, _), (v2_0, v2_1, v2_2, v2_3, _), v4, v18, v19, v20, _) =>
  bif (decide (v20 < v19)) then
    if (((0 : Int) ≤ v20) ∧ (v20 < (((List.length v18) : Nat) : Int))) then
      Option.bind (loopF impl_PowerAutomaton_l8 ((v1_0, v1_1, v1_2, v1_3, ()), (v2_0, (List.take (List.length v2_1) (List.drop 0 v2_1)), (List.take (List.length v2_2) (List.drop 0 v2_2)), (List.take (List.length v2_3) (List.drop 0 v2_3)), ()), (List.take (List.length v4) (List.drop 0 v4)), ((List.getD v18 (Int.toNat v20) ((0 : Int), (⟨Array.empty⟩ : ByteArray), (0 : Int), (0 : Int))).1, (List.getD v18 (Int.toNat v20) ((0 : Int), (⟨Array.empty⟩ : ByteArray), (0 : Int), (0 : Int))).2.1, (List.getD v18 (Int.toNat v20) ((0 : Int), (⟨Array.empty⟩ : ByteArray), (0 : Int), (0 : Int))).2.2.1, (List.getD v18 (Int.toNat v20) ((0 : Int), (⟨Array.empty⟩ : ByteArray), (0 : Int), (0 : Int))).2.2.2, ()), v18, v19, v20, v1_2, (((List.length v1_2) : Nat) : Int), (0 : Int), ())) fun ((r0, r1, r2, r3, _), (r4, r5, r6, r7, _), r8, r9, r10, r11, _) =>
        some (Sum.inl ((r0, r1, r2, r3, ()), (r4, (List.take (List.length r5) (List.drop 0 r5)), (List.take (List.length r6) (List.drop 0 r6)), (List.take (List.length r7) (List.drop 0 r7)), ()), (List.take (List.length r8) (List.drop 0 r8)), r9, r10, (IntKind.wrap .i64 (r11 + (1 : Int))), ()))
    else
      none
  else
    some (Sum.inr ((v1_0, v1_1, v1_2, v1_3, ()), (v2_0, (List.take (List.length v2_1) (List.drop 0 v2_1)), (List.take (List.length v2_2) (List.drop 0 v2_2)), (List.take (List.length v2_3) (List.drop 0 v2_3)), ()), (List.take (List.length v4) (List.drop 0 v4)), ()))
theorem impl_PowerAutomaton_l5_eq : loopStep 64 E18 L18_1 (loopOf f18 5) sh18_5 xs18_5 = impl_PowerAutomaton_l5 := by kernel_rfl
theorem loop18_5 {L : Nat → Option LoopD} (h : L 5 = some ⟨64, sh18_5, xs18_5, impl_PowerAutomaton_l5⟩) : LoopOk prog L (loopOf f18 5) :=
  loopOk (tysOk_of tyl_ok) E18_ok (codeOk_in (L := L18_1) (tysOk_of tyl_ok) E18_ok mixed (c := loopOf f18 5) (bs := [loopOf f18 8]) (by kernel_rfl) (allCons (loop18_8 rfl) allNil) (by kernel_rfl)) (by kernel_rfl) (by kernel_rfl) impl_PowerAutomaton_l5_eq (by rw [show firstId (loopOf f18 5) = 5 from by kernel_rfl]; exact h)
noncomputable def L18_2 : Nat → Option LoopD := fun n => ifEq n 5 (some ⟨64, sh18_5, xs18_5, impl_PowerAutomaton_l5⟩) (L18_1 n)
noncomputable def impl_PowerAutomaton : (Int × ((List Int) × ((List Int) × (List (Int × (ByteArray × (Int × Int))))))) → Option ((Int × ((List Int) × ((List Int) × (List (Int × (ByteArray × (Int × Int))))))) × Bool) := fun (a0_0, a0_1, a0_2, a0_3) =>
  Option.bind (impl_AutomatonValid (a0_0, a0_1, a0_2, a0_3)) fun r0 =>
    bif (!r0) then
      some (((0 : Int), [], [], []), false)
    else
      Option.bind (impl_stepped a0_3 (fun y1 => (impl_PowerAutomaton_1 y1.1))) fun r2 =>
        Option.bind (loopF impl_PowerAutomaton_l5 ((a0_0, a0_1, a0_2, a0_3, ()), ((0 : Int), [], [], [], ()), (List.take (List.length r2) (List.drop 0 r2)), a0_3, (((List.length a0_3) : Nat) : Int), (0 : Int), ())) fun ((r3, r4, r5, r6, _), (r7, r8, r9, r10, _), r11, _) =>
          Option.bind (impl_made r3 r4 r5 (List.take (List.length r11) (List.drop 0 r11))) fun ((r12, r13, r14, r15), r16) =>
            some ((r12, (List.take (List.length r13) (List.drop 0 r13)), (List.take (List.length r14) (List.drop 0 r14)), (List.take (List.length r15) (List.drop 0 r15))), r16)
noncomputable def A18 : FnA := ⟨[.v (.pair (.int .i64) (.pair (.sl (.int .i64)) (.pair (.sl (.int .i64)) (.sl (.pair (.int .i64) (.pair .str (.pair (.int .i64) (.int .i64))))))))], true, [.pair (.int .i64) (.pair (.sl (.int .i64)) (.pair (.sl (.int .i64)) (.sl (.pair (.int .i64) (.pair .str (.pair (.int .i64) (.int .i64))))))), .bool], fun x => impl_PowerAutomaton x.1⟩
theorem impl_PowerAutomaton_eq : fnF E18 L18_2 [.v (.pair (.int .i64) (.pair (.sl (.int .i64)) (.pair (.sl (.int .i64)) (.sl (.pair (.int .i64) (.pair .str (.pair (.int .i64) (.int .i64))))))))] true [.pair (.int .i64) (.pair (.sl (.int .i64)) (.pair (.sl (.int .i64)) (.sl (.pair (.int .i64) (.pair .str (.pair (.int .i64) (.int .i64))))))), .bool] f18.ntmps f18.results.toList (codeOf f18) = fun x => impl_PowerAutomaton x.1 := by kernel_rfl
theorem A18_ok : FnOk prog 18 A18 := by
  have h := fnOk_of_run (P := prog) (E := E18) (tysOk_of tyl_ok) E18_ok (L := L18_2) (ps := [.v (.pair (.int .i64) (.pair (.sl (.int .i64)) (.pair (.sl (.int .i64)) (.sl (.pair (.int .i64) (.pair .str (.pair (.int .i64) (.int .i64))))))))]) (own := true) (outs := [.pair (.int .i64) (.pair (.sl (.int .i64)) (.pair (.sl (.int .i64)) (.sl (.pair (.int .i64) (.pair .str (.pair (.int .i64) (.int .i64))))))), .bool]) func18 (c := codeOf f18) (by kernel_rfl) (codeOk_in (L := L18_2) (tysOk_of tyl_ok) E18_ok mixed (c := codeOf f18) (bs := [loopOf f18 5]) (by kernel_rfl) (allCons (loop18_5 rfl) allNil) (by kernel_rfl))
  rw [impl_PowerAutomaton_eq] at h
  exact h
/-! laws.eqIntS -/
noncomputable def E70 : Env := ⟨ty0, fun _ => none, fun _ => none, fun _ => none, fun _ => none⟩
theorem E70_ok : FnsOk prog E70 := (noFns _ _)
noncomputable def L70_0 : Nat → Option LoopD := fun _ => none
def sh70_4 : List Fm := [.cell (.val (.sl (.int .i64))), .cell (.val (.sl (.int .i64))), d, d, d, .cell (.val (.int .i64)), d, d, d, d, d, d, d, d, d, d, d, d, d, d, d, d, d, d, d, d]
def xs70_4 : List (Ex × List Fm) := [(.ret, [d, d, d, d, .cell (.val .bool), d, d, d, d, d, d, d, d, d, d, d, d, d, d, d, d, d, d, d, d, d]), (.exit 0, [d, d, d, d, d, d, d, d, d, d, d, d, d, d, d, d, d, d, d, d, d, d, d, d, d, d])]
noncomputable def laws_eqIntS_l4 : ((List Int) × (List Int) × Int × Unit) → Option (((List Int) × (List Int) × Int × Unit) ⊕ ((Bool × Unit) ⊕ (Unit))) := fun (v0, v1, v5, _) =>
  bif (decide (v5 < (((List.length v0) : Nat) : Int))) then
    if (((0 : Int) ≤ v5) ∧ (v5 < (((List.length v0) : Nat) : Int))) then
      if (((0 : Int) ≤ v5) ∧ (v5 < (((List.length v1) : Nat) : Int))) then
        bif ((List.getD v0 (Int.toNat v5) (0 : Int)) != (List.getD v1 (Int.toNat v5) (0 : Int))) then
          some (Sum.inr (Sum.inl (false, ())))
        else
          some (Sum.inl (v0, v1, (IntKind.wrap .i64 (v5 + (1 : Int))), ()))
      else
        none
    else
      none
  else
    some (Sum.inr (Sum.inr ()))
theorem laws_eqIntS_l4_eq : loopStep 26 E70 L70_0 (loopOf f70 4) sh70_4 xs70_4 = laws_eqIntS_l4 := by kernel_rfl
theorem loop70_4 {L : Nat → Option LoopD} (h : L 4 = some ⟨26, sh70_4, xs70_4, laws_eqIntS_l4⟩) : LoopOk prog L (loopOf f70 4) :=
  loopOk (tysOk_of tyl_ok) E70_ok (codeOk_in (L := L70_0) (tysOk_of tyl_ok) E70_ok mixed (c := loopOf f70 4) (bs := []) (by kernel_rfl) allNil (by kernel_rfl)) (by kernel_rfl) (by kernel_rfl) laws_eqIntS_l4_eq (by rw [show firstId (loopOf f70 4) = 4 from by kernel_rfl]; exact h)
noncomputable def L70_1 : Nat → Option LoopD := fun n => ifEq n 4 (some ⟨26, sh70_4, xs70_4, laws_eqIntS_l4⟩) (L70_0 n)
noncomputable def laws_eqIntS : (List Int) → (List Int) → Option (Bool) := fun a0 a1 =>
  bif ((((List.length a0) : Nat) : Int) != (((List.length a1) : Nat) : Int)) then
    some false
  else
    Option.bind (loopF laws_eqIntS_l4 (a0, a1, (0 : Int), ())) fun r0 =>
      (match r0 with
      | .inl (d1, _) =>
          some d1
      | .inr _ =>
          some true)
noncomputable def A70 : FnA := ⟨[.v (.sl (.int .i64)), .v (.sl (.int .i64))], true, [.bool], fun x => laws_eqIntS x.1 x.2.1⟩
theorem laws_eqIntS_eq : fnF E70 L70_1 [.v (.sl (.int .i64)), .v (.sl (.int .i64))] true [.bool] f70.ntmps f70.results.toList (codeOf f70) = fun x => laws_eqIntS x.1 x.2.1 := by kernel_rfl
theorem A70_ok : FnOk prog 70 A70 := by
  have h := fnOk_of_run (P := prog) (E := E70) (tysOk_of tyl_ok) E70_ok (L := L70_1) (ps := [.v (.sl (.int .i64)), .v (.sl (.int .i64))]) (own := true) (outs := [.bool]) func70 (c := codeOf f70) (by kernel_rfl) (codeOk_in (L := L70_1) (tysOk_of tyl_ok) E70_ok mixed (c := codeOf f70) (bs := [loopOf f70 4]) (by kernel_rfl) (allCons (loop70_4 rfl) allNil) (by kernel_rfl))
  rw [laws_eqIntS_eq] at h
  exact h
/-! laws.eqStep -/
noncomputable def E123 : Env := ⟨ty0, fun _ => none, fun _ => none, fun _ => none, fun _ => none⟩
theorem E123_ok : FnsOk prog E123 := (noFns _ _)
noncomputable def L123_0 : Nat → Option LoopD := fun _ => none
noncomputable def laws_eqStep : (Int × (ByteArray × (Int × Int))) → (Int × (ByteArray × (Int × Int))) → Option (Bool) := fun (a0_0, a0_1, a0_2, a0_3) (a1_0, a1_1, a1_2, a1_3) =>
  bif (a0_0 != a1_0) then
    some false
  else
    bif (!((ByteArray.toList a0_1) == (ByteArray.toList a1_1))) then
      some false
    else
      bif (a0_2 != a1_2) then
        some false
      else
        bif (a0_3 != a1_3) then
          some false
        else
          some true
noncomputable def A123 : FnA := ⟨[.v (.pair (.int .i64) (.pair .str (.pair (.int .i64) (.int .i64)))), .v (.pair (.int .i64) (.pair .str (.pair (.int .i64) (.int .i64))))], true, [.bool], fun x => laws_eqStep x.1 x.2.1⟩
theorem laws_eqStep_eq : fnF E123 L123_0 [.v (.pair (.int .i64) (.pair .str (.pair (.int .i64) (.int .i64)))), .v (.pair (.int .i64) (.pair .str (.pair (.int .i64) (.int .i64))))] true [.bool] f123.ntmps f123.results.toList (codeOf f123) = fun x => laws_eqStep x.1 x.2.1 := by kernel_rfl
theorem A123_ok : FnOk prog 123 A123 := by
  have h := fnOk_of_run (P := prog) (E := E123) (tysOk_of tyl_ok) E123_ok (L := L123_0) (ps := [.v (.pair (.int .i64) (.pair .str (.pair (.int .i64) (.int .i64)))), .v (.pair (.int .i64) (.pair .str (.pair (.int .i64) (.int .i64))))]) (own := true) (outs := [.bool]) func123 (c := codeOf f123) (by kernel_rfl) (codeOk_in (L := L123_0) (tysOk_of tyl_ok) E123_ok mixed (c := codeOf f123) (bs := []) (by kernel_rfl) allNil (by kernel_rfl))
  rw [laws_eqStep_eq] at h
  exact h
/-! laws.eqStepS -/
noncomputable def E71 : Env := ⟨ty0, fun g => ifEq g 123 (some A123) (none), fun _ => none, fun _ => none, fun _ => none⟩
theorem E71_ok : FnsOk prog E71 := (oneFn A123_ok func123 (by kernel_rfl) (by kernel_rfl) (noFns _ _))
noncomputable def L71_0 : Nat → Option LoopD := fun _ => none
def sh71_4 : List Fm := [.cell (.val (.sl (.pair (.int .i64) (.pair .str (.pair (.int .i64) (.int .i64)))))), .cell (.val (.sl (.pair (.int .i64) (.pair .str (.pair (.int .i64) (.int .i64)))))), d, d, d, .cell (.val (.int .i64)), d, d, d, d, d, d, d, d, d, d, d, d, d, d, d, d, d, d, d, d, d]
def xs71_4 : List (Ex × List Fm) := [(.ret, [d, d, d, d, .cell (.val .bool), d, d, d, d, d, d, d, d, d, d, d, d, d, d, d, d, d, d, d, d, d, d]), (.exit 0, [d, d, d, d, d, d, d, d, d, d, d, d, d, d, d, d, d, d, d, d, d, d, d, d, d, d, d])]
noncomputable def laws_eqStepS_l4 : ((List (Int × (ByteArray × (Int × Int)))) × (List (Int × (ByteArray × (Int × Int)))) × Int × Unit) → Option (((List (Int × (ByteArray × (Int × Int)))) × (List (Int × (ByteArray × (Int × Int)))) × Int × Unit) ⊕ ((Bool × Unit) ⊕ (Unit))) := fun (v0, v1, v5, _) =>
  bif (decide (v5 < (((List.length v0) : Nat) : Int))) then
    if (((0 : Int) ≤ v5) ∧ (v5 < (((List.length v0) : Nat) : Int))) then
      if (((0 : Int) ≤ v5) ∧ (v5 < (((List.length v1) : Nat) : Int))) then
        Option.bind (laws_eqStep (List.getD v0 (Int.toNat v5) ((0 : Int), (⟨Array.empty⟩ : ByteArray), (0 : Int), (0 : Int))) (List.getD v1 (Int.toNat v5) ((0 : Int), (⟨Array.empty⟩ : ByteArray), (0 : Int), (0 : Int)))) fun r0 =>
          bif (!r0) then
            some (Sum.inr (Sum.inl (false, ())))
          else
            some (Sum.inl (v0, v1, (IntKind.wrap .i64 (v5 + (1 : Int))), ()))
      else
        none
    else
      none
  else
    some (Sum.inr (Sum.inr ()))
theorem laws_eqStepS_l4_eq : loopStep 27 E71 L71_0 (loopOf f71 4) sh71_4 xs71_4 = laws_eqStepS_l4 := by kernel_rfl
theorem loop71_4 {L : Nat → Option LoopD} (h : L 4 = some ⟨27, sh71_4, xs71_4, laws_eqStepS_l4⟩) : LoopOk prog L (loopOf f71 4) :=
  loopOk (tysOk_of tyl_ok) E71_ok (codeOk_in (L := L71_0) (tysOk_of tyl_ok) E71_ok mixed (c := loopOf f71 4) (bs := []) (by kernel_rfl) allNil (by kernel_rfl)) (by kernel_rfl) (by kernel_rfl) laws_eqStepS_l4_eq (by rw [show firstId (loopOf f71 4) = 4 from by kernel_rfl]; exact h)
noncomputable def L71_1 : Nat → Option LoopD := fun n => ifEq n 4 (some ⟨27, sh71_4, xs71_4, laws_eqStepS_l4⟩) (L71_0 n)
noncomputable def laws_eqStepS : (List (Int × (ByteArray × (Int × Int)))) → (List (Int × (ByteArray × (Int × Int)))) → Option (Bool) := fun a0 a1 =>
  bif ((((List.length a0) : Nat) : Int) != (((List.length a1) : Nat) : Int)) then
    some false
  else
    Option.bind (loopF laws_eqStepS_l4 (a0, a1, (0 : Int), ())) fun r0 =>
      (match r0 with
      | .inl (d1, _) =>
          some d1
      | .inr _ =>
          some true)
noncomputable def A71 : FnA := ⟨[.v (.sl (.pair (.int .i64) (.pair .str (.pair (.int .i64) (.int .i64))))), .v (.sl (.pair (.int .i64) (.pair .str (.pair (.int .i64) (.int .i64)))))], true, [.bool], fun x => laws_eqStepS x.1 x.2.1⟩
theorem laws_eqStepS_eq : fnF E71 L71_1 [.v (.sl (.pair (.int .i64) (.pair .str (.pair (.int .i64) (.int .i64))))), .v (.sl (.pair (.int .i64) (.pair .str (.pair (.int .i64) (.int .i64)))))] true [.bool] f71.ntmps f71.results.toList (codeOf f71) = fun x => laws_eqStepS x.1 x.2.1 := by kernel_rfl
theorem A71_ok : FnOk prog 71 A71 := by
  have h := fnOk_of_run (P := prog) (E := E71) (tysOk_of tyl_ok) E71_ok (L := L71_1) (ps := [.v (.sl (.pair (.int .i64) (.pair .str (.pair (.int .i64) (.int .i64))))), .v (.sl (.pair (.int .i64) (.pair .str (.pair (.int .i64) (.int .i64)))))]) (own := true) (outs := [.bool]) func71 (c := codeOf f71) (by kernel_rfl) (codeOk_in (L := L71_1) (tysOk_of tyl_ok) E71_ok mixed (c := codeOf f71) (bs := [loopOf f71 4]) (by kernel_rfl) (allCons (loop71_4 rfl) allNil) (by kernel_rfl))
  rw [laws_eqStepS_eq] at h
  exact h
/-! laws.eqAutomaton -/
noncomputable def E19 : Env := ⟨ty0, fun g => ifEq g 70 (some A70) (ifEq g 71 (some A71) (none)), fun _ => none, fun _ => none, fun _ => none⟩
theorem E19_ok : FnsOk prog E19 := (oneFn A70_ok func70 (by kernel_rfl) (by kernel_rfl) (oneFn A71_ok func71 (by kernel_rfl) (by kernel_rfl) (noFns _ _)))
noncomputable def L19_0 : Nat → Option LoopD := fun _ => none
noncomputable def laws_eqAutomaton : (Int × ((List Int) × ((List Int) × (List (Int × (ByteArray × (Int × Int))))))) → (Int × ((List Int) × ((List Int) × (List (Int × (ByteArray × (Int × Int))))))) → Option (Bool) := fun (a0_0, a0_1, a0_2, a0_3) (a1_0, a1_1, a1_2, a1_3) =>
  bif (a0_0 != a1_0) then
    some false
  else
    Option.bind (laws_eqIntS a0_1 a1_1) fun r0 =>
      bif (!r0) then
        some false
      else
        Option.bind (laws_eqIntS a0_2 a1_2) fun r1 =>
          bif (!r1) then
            some false
          else
            Option.bind (laws_eqStepS a0_3 a1_3) fun r2 =>
              bif (!r2) then
                some false
              else
                some true
noncomputable def A19 : FnA := ⟨[.v (.pair (.int .i64) (.pair (.sl (.int .i64)) (.pair (.sl (.int .i64)) (.sl (.pair (.int .i64) (.pair .str (.pair (.int .i64) (.int .i64)))))))), .v (.pair (.int .i64) (.pair (.sl (.int .i64)) (.pair (.sl (.int .i64)) (.sl (.pair (.int .i64) (.pair .str (.pair (.int .i64) (.int .i64))))))))], true, [.bool], fun x => laws_eqAutomaton x.1 x.2.1⟩
theorem laws_eqAutomaton_eq : fnF E19 L19_0 [.v (.pair (.int .i64) (.pair (.sl (.int .i64)) (.pair (.sl (.int .i64)) (.sl (.pair (.int .i64) (.pair .str (.pair (.int .i64) (.int .i64)))))))), .v (.pair (.int .i64) (.pair (.sl (.int .i64)) (.pair (.sl (.int .i64)) (.sl (.pair (.int .i64) (.pair .str (.pair (.int .i64) (.int .i64))))))))] true [.bool] f19.ntmps f19.results.toList (codeOf f19) = fun x => laws_eqAutomaton x.1 x.2.1 := by kernel_rfl
theorem A19_ok : FnOk prog 19 A19 := by
  have h := fnOk_of_run (P := prog) (E := E19) (tysOk_of tyl_ok) E19_ok (L := L19_0) (ps := [.v (.pair (.int .i64) (.pair (.sl (.int .i64)) (.pair (.sl (.int .i64)) (.sl (.pair (.int .i64) (.pair .str (.pair (.int .i64) (.int .i64)))))))), .v (.pair (.int .i64) (.pair (.sl (.int .i64)) (.pair (.sl (.int .i64)) (.sl (.pair (.int .i64) (.pair .str (.pair (.int .i64) (.int .i64))))))))]) (own := true) (outs := [.bool]) func19 (c := codeOf f19) (by kernel_rfl) (codeOk_in (L := L19_0) (tysOk_of tyl_ok) E19_ok mixed (c := codeOf f19) (bs := []) (by kernel_rfl) allNil (by kernel_rfl))
  rw [laws_eqAutomaton_eq] at h
  exact h
/-! laws.markIntS -/
noncomputable def E72 : Env := ⟨ty0, fun _ => none, fun _ => none, fun _ => none, fun _ => none⟩
theorem E72_ok : FnsOk prog E72 := (noFns _ _)
noncomputable def L72_0 : Nat → Option LoopD := fun _ => none
def sh72_2 : List Fm := [.cell (.own (.int .i64) 200000 false), .cell (.val (.int .i64)), d, d, d, .cell (.val (.int .i64)), d, d, d, d, d, d, d, d, d, d, d, d, d]
def xs72_2 : List (Ex × List Fm) := [(.exit 0, [.cell (.own (.int .i64) 200000 false), .cell (.val (.int .i64)), d, d, d, d, d, d, d, d, d, d, d, d, d, d, d, d, d])]
noncomputable def laws_markIntS_l2 : ((List Int) × Int × Int × Unit) → Option (((List Int) × Int × Int × Unit) ⊕ (((List Int) × Int × Unit))) := fun (v0, v1, v5, _) =>
  bif (decide (v5 < (((List.length v0) : Nat) : Int))) then
    if (((0 : Int) ≤ v5) ∧ (v5 < (((List.length v0) : Nat) : Int))) then
      if ((List.length v0) = (List.length (List.set v0 (0 + (Int.toNat v5)) v1))) then
        some (Sum.inl ((List.set v0 (0 + (Int.toNat v5)) v1), (IntKind.wrap .i64 (v1 + (1 : Int))), (IntKind.wrap .i64 (v5 + (1 : Int))), ()))
      else
        none
    else
      none
  else
    if ((List.length v0) = (List.length v0)) then
      some (Sum.inr (v0, v1, ()))
    else
      none
theorem laws_markIntS_l2_eq : loopStep 19 E72 L72_0 (loopOf f72 2) sh72_2 xs72_2 = laws_markIntS_l2 := by kernel_rfl
theorem loop72_2 {L : Nat → Option LoopD} (h : L 2 = some ⟨19, sh72_2, xs72_2, laws_markIntS_l2⟩) : LoopOk prog L (loopOf f72 2) :=
  loopOk (tysOk_of tyl_ok) E72_ok (codeOk_in (L := L72_0) (tysOk_of tyl_ok) E72_ok mixed (c := loopOf f72 2) (bs := []) (by kernel_rfl) allNil (by kernel_rfl)) (by kernel_rfl) (by kernel_rfl) laws_markIntS_l2_eq (by rw [show firstId (loopOf f72 2) = 2 from by kernel_rfl]; exact h)
noncomputable def L72_1 : Nat → Option LoopD := fun n => ifEq n 2 (some ⟨19, sh72_2, xs72_2, laws_markIntS_l2⟩) (L72_0 n)
noncomputable def laws_markIntS : (List Int) → Int → Option ((Int) × ((List Int) × Unit)) := fun a0 a1 =>
  if ((List.length a0) = (List.length a0)) then
    Option.bind (loopF laws_markIntS_l2 (a0, a1, (0 : Int), ())) fun (r0, r1, _) =>
      some (r1, r0, ())
  else
    none
noncomputable def A72 : FnM := ⟨[.io (.sl (.int .i64)), .v (.int .i64)], true, [.int .i64], none, fun x => laws_markIntS x.1 x.2.1⟩
theorem laws_markIntS_eq : fnMF E72 L72_1 [.io (.sl (.int .i64)), .v (.int .i64)] true [.int .i64] f72.ntmps f72.results.toList (codeOf f72) = fun x => laws_markIntS x.1 x.2.1 := by kernel_rfl
theorem A72_ok : FnMOk prog 72 A72 := by
  have h := fnMOk_of_run (P := prog) (E := E72) (tysOk_of tyl_ok) E72_ok (L := L72_1) (ps := [.io (.sl (.int .i64)), .v (.int .i64)]) (own := true) (outs := [.int .i64]) func72 (c := codeOf f72) (by kernel_rfl) (codeOk_in (L := L72_1) (tysOk_of tyl_ok) E72_ok mixed (c := codeOf f72) (bs := [loopOf f72 2]) (by kernel_rfl) (allCons (loop72_2 rfl) allNil) (by kernel_rfl)) (by kernel_rfl)
  rw [laws_markIntS_eq] at h
  exact h
/-! laws.markText -/
noncomputable def E98 : Env := ⟨ty0, fun _ => none, fun _ => none, fun _ => none, fun _ => none⟩
theorem E98_ok : FnsOk prog E98 := (noFns _ _)
noncomputable def L98_0 : Nat → Option LoopD := fun _ => none
def sh98_4 : List Fm := [.cell (.val (.int .i64)), d, d, .cell (.val .str), d, d, d, d, d, d, d, d, d, d, d, d, d, d, d, d]
def xs98_4 : List (Ex × List Fm) := [(.exit 0, [d, d, d, .cell (.val .str), d, d, d, d, d, d, d, d, d, d, d, d, d, d, d, d])]
noncomputable def laws_markText_l4 : (Int × ByteArray × Unit) → Option ((Int × ByteArray × Unit) ⊕ ((ByteArray × Unit))) := fun (v0, v3, _) =>
  bif (decide (v0 > (0 : Int))) then
    if ((10 : Int) = (0 : Int)) then
      none
    else
      if (((ByteArray.size (strOfNums (List.take 1 (List.drop 0 [(IntKind.wrap .u8 (IntKind.wrap .i64 ((48 : Int) + (Int.tmod v0 (10 : Int)))))])))) + (ByteArray.size v3)) ≤ 9223372036854775807) then
        if ((10 : Int) = (0 : Int)) then
          none
        else
          some (Sum.inl ((IntKind.wrap .i64 (Int.tdiv v0 (10 : Int))), ((strOfNums (List.take 1 (List.drop 0 [(IntKind.wrap .u8 (IntKind.wrap .i64 ((48 : Int) + (Int.tmod v0 (10 : Int)))))]))) ++ v3), ()))
      else
        none
  else
    some (Sum.inr (v3, ()))
theorem laws_markText_l4_eq : loopStep 20 E98 L98_0 (loopOf f98 4) sh98_4 xs98_4 = laws_markText_l4 := by kernel_rfl
theorem loop98_4 {L : Nat → Option LoopD} (h : L 4 = some ⟨20, sh98_4, xs98_4, laws_markText_l4⟩) : LoopOk prog L (loopOf f98 4) :=
  loopOk (tysOk_of tyl_ok) E98_ok (codeOk_in (L := L98_0) (tysOk_of tyl_ok) E98_ok mixed (c := loopOf f98 4) (bs := []) (by kernel_rfl) allNil (by kernel_rfl)) (by kernel_rfl) (by kernel_rfl) laws_markText_l4_eq (by rw [show firstId (loopOf f98 4) = 4 from by kernel_rfl]; exact h)
noncomputable def L98_1 : Nat → Option LoopD := fun n => ifEq n 4 (some ⟨20, sh98_4, xs98_4, laws_markText_l4⟩) (L98_0 n)
noncomputable def laws_markText : Int → Option (ByteArray) := fun a0 =>
  bif (decide (a0 ≤ (0 : Int))) then
    some (⟨#[(109 : UInt8), (48 : UInt8)]⟩ : ByteArray)
  else
    Option.bind (loopF laws_markText_l4 (a0, (⟨#[]⟩ : ByteArray), ())) fun (r0, _) =>
      if (((ByteArray.size (⟨#[(109 : UInt8)]⟩ : ByteArray)) + (ByteArray.size r0)) ≤ 9223372036854775807) then
        some ((⟨#[(109 : UInt8)]⟩ : ByteArray) ++ r0)
      else
        none
noncomputable def A98 : FnA := ⟨[.v (.int .i64)], true, [.str], fun x => laws_markText x.1⟩
theorem laws_markText_eq : fnF E98 L98_1 [.v (.int .i64)] true [.str] f98.ntmps f98.results.toList (codeOf f98) = fun x => laws_markText x.1 := by kernel_rfl
theorem A98_ok : FnOk prog 98 A98 := by
  have h := fnOk_of_run (P := prog) (E := E98) (tysOk_of tyl_ok) E98_ok (L := L98_1) (ps := [.v (.int .i64)]) (own := true) (outs := [.str]) func98 (c := codeOf f98) (by kernel_rfl) (codeOk_in (L := L98_1) (tysOk_of tyl_ok) E98_ok mixed (c := codeOf f98) (bs := [loopOf f98 4]) (by kernel_rfl) (allCons (loop98_4 rfl) allNil) (by kernel_rfl))
  rw [laws_markText_eq] at h
  exact h
/-! laws.markStepS -/
noncomputable def E73 : Env := ⟨ty0, fun g => ifEq g 98 (some A98) (none), fun _ => none, fun _ => none, fun _ => none⟩
theorem E73_ok : FnsOk prog E73 := (oneFn A98_ok func98 (by kernel_rfl) (by kernel_rfl) (noFns _ _))
noncomputable def L73_0 : Nat → Option LoopD := fun _ => none
def sh73_2 : List Fm := [.cell (.own (.pair (.int .i64) (.pair .str (.pair (.int .i64) (.int .i64)))) 200000 false), .cell (.val (.int .i64)), d, d, d, .cell (.val (.int .i64)), d, d, d, d, d, d, d, d, d, d, d, d, d, d, d, d, d, d, d, d, d, d, d, d, d, d, d, d, d, d, d, d, d, d, d, d]
def xs73_2 : List (Ex × List Fm) := [(.exit 0, [.cell (.own (.pair (.int .i64) (.pair .str (.pair (.int .i64) (.int .i64)))) 200000 false), .cell (.val (.int .i64)), d, d, d, d, d, d, d, d, d, d, d, d, d, d, d, d, d, d, d, d, d, d, d, d, d, d, d, d, d, d, d, d, d, d, d, d, d, d, d, d])]
noncomputable def laws_markStepS_l2 : ((List (Int × (ByteArray × (Int × Int)))) × Int × Int × Unit) → Option (((List (Int × (ByteArray × (Int × Int)))) × Int × Int × Unit) ⊕ (((List (Int × (ByteArray × (Int × Int)))) × Int × Unit))) := fun (v0, v1, v5, _) =>
  bif (decide (v5 < (((List.length v0) : Nat) : Int))) then
    if (((0 : Int) ≤ v5) ∧ (v5 < (((List.length v0) : Nat) : Int))) then
      Option.bind (Option.some (List.set v0 (0 + (Int.toNat v5)) (v1, (List.getD v0 (0 + (Int.toNat v5)) ((0 : Int), (⟨Array.empty⟩ : ByteArray), (0 : Int), (0 : Int))).2))) fun r0 =>
        Option.bind (laws_markText (IntKind.wrap .i64 (v1 + (1 : Int)))) fun r1 =>
          if (((0 : Int) ≤ v5) ∧ (v5 < (((List.length v0) : Nat) : Int))) then
            Option.bind (Option.some (List.set r0 (0 + (Int.toNat v5)) ((List.getD r0 (0 + (Int.toNat v5)) ((0 : Int), (⟨Array.empty⟩ : ByteArray), (0 : Int), (0 : Int))).1, r1, (List.getD r0 (0 + (Int.toNat v5)) ((0 : Int), (⟨Array.empty⟩ : ByteArray), (0 : Int), (0 : Int))).2.2))) fun r2 =>
              if (((0 : Int) ≤ v5) ∧ (v5 < (((List.length v0) : Nat) : Int))) then
                Option.bind (Option.some (List.set r2 (0 + (Int.toNat v5)) ((List.getD r2 (0 + (Int.toNat v5)) ((0 : Int), (⟨Array.empty⟩ : ByteArray), (0 : Int), (0 : Int))).1, (List.getD r2 (0 + (Int.toNat v5)) ((0 : Int), (⟨Array.empty⟩ : ByteArray), (0 : Int), (0 : Int))).2.1, (IntKind.wrap .i64 ((IntKind.wrap .i64 (v1 + (1 : Int))) + (1 : Int))), (List.getD r2 (0 + (Int.toNat v5)) ((0 : Int), (⟨Array.empty⟩ : ByteArray), (0 : Int), (0 : Int))).2.2.2))) fun r3 =>
                  if (((0 : Int) ≤ v5) ∧ (v5 < (((List.length v0) : Nat) : Int))) then
                    Option.bind (Option.some (List.set r3 (0 + (Int.toNat v5)) ((List.getD r3 (0 + (Int.toNat v5)) ((0 : Int), (⟨Array.empty⟩ : ByteArray), (0 : Int), (0 : Int))).1, (List.getD r3 (0 + (Int.toNat v5)) ((0 : Int), (⟨Array.empty⟩ : ByteArray), (0 : Int), (0 : Int))).2.1, (List.getD r3 (0 + (Int.toNat v5)) ((0 : Int), (⟨Array.empty⟩ : ByteArray), (0 : Int), (0 : Int))).2.2.1, (IntKind.wrap .i64 ((IntKind.wrap .i64 ((IntKind.wrap .i64 (v1 + (1 : Int))) + (1 : Int))) + (1 : Int)))))) fun r4 =>
                      if ((List.length v0) = (List.length r4)) then
                        some (Sum.inl (r4, (IntKind.wrap .i64 ((IntKind.wrap .i64 ((IntKind.wrap .i64 ((IntKind.wrap .i64 (v1 + (1 : Int))) + (1 : Int))) + (1 : Int))) + (1 : Int))), (IntKind.wrap .i64 (v5 + (1 : Int))), ()))
                      else
                        none
                  else
                    none
              else
                none
          else
            none
    else
      none
  else
    if ((List.length v0) = (List.length v0)) then
      some (Sum.inr (v0, v1, ()))
    else
      none
theorem laws_markStepS_l2_eq : loopStep 42 E73 L73_0 (loopOf f73 2) sh73_2 xs73_2 = laws_markStepS_l2 := by kernel_rfl
theorem loop73_2 {L : Nat → Option LoopD} (h : L 2 = some ⟨42, sh73_2, xs73_2, laws_markStepS_l2⟩) : LoopOk prog L (loopOf f73 2) :=
  loopOk (tysOk_of tyl_ok) E73_ok (codeOk_in (L := L73_0) (tysOk_of tyl_ok) E73_ok mixed (c := loopOf f73 2) (bs := []) (by kernel_rfl) allNil (by kernel_rfl)) (by kernel_rfl) (by kernel_rfl) laws_markStepS_l2_eq (by rw [show firstId (loopOf f73 2) = 2 from by kernel_rfl]; exact h)
noncomputable def L73_1 : Nat → Option LoopD := fun n => ifEq n 2 (some ⟨42, sh73_2, xs73_2, laws_markStepS_l2⟩) (L73_0 n)
noncomputable def laws_markStepS : (List (Int × (ByteArray × (Int × Int)))) → Int → Option ((Int) × ((List (Int × (ByteArray × (Int × Int)))) × Unit)) := fun a0 a1 =>
  if ((List.length a0) = (List.length a0)) then
    Option.bind (loopF laws_markStepS_l2 (a0, a1, (0 : Int), ())) fun (r0, r1, _) =>
      some (r1, r0, ())
  else
    none
noncomputable def A73 : FnM := ⟨[.io (.sl (.pair (.int .i64) (.pair .str (.pair (.int .i64) (.int .i64))))), .v (.int .i64)], true, [.int .i64], none, fun x => laws_markStepS x.1 x.2.1⟩
theorem laws_markStepS_eq : fnMF E73 L73_1 [.io (.sl (.pair (.int .i64) (.pair .str (.pair (.int .i64) (.int .i64))))), .v (.int .i64)] true [.int .i64] f73.ntmps f73.results.toList (codeOf f73) = fun x => laws_markStepS x.1 x.2.1 := by kernel_rfl
theorem A73_ok : FnMOk prog 73 A73 := by
  have h := fnMOk_of_run (P := prog) (E := E73) (tysOk_of tyl_ok) E73_ok (L := L73_1) (ps := [.io (.sl (.pair (.int .i64) (.pair .str (.pair (.int .i64) (.int .i64))))), .v (.int .i64)]) (own := true) (outs := [.int .i64]) func73 (c := codeOf f73) (by kernel_rfl) (codeOk_in (L := L73_1) (tysOk_of tyl_ok) E73_ok mixed (c := codeOf f73) (bs := [loopOf f73 2]) (by kernel_rfl) (allCons (loop73_2 rfl) allNil) (by kernel_rfl)) (by kernel_rfl)
  rw [laws_markStepS_eq] at h
  exact h
/-! laws.markAutomaton -/
noncomputable def E20 : Env := ⟨ty0, fun _ => none, fun g => ifEq g 72 (some A72) (ifEq g 73 (some A73) (none)), fun _ => none, fun _ => none⟩
theorem E20_ok : FnsOk prog E20 := (oneMs A72_ok (by kernel_rfl) func72 (by kernel_rfl) (by kernel_rfl) (oneMs A73_ok (by kernel_rfl) func73 (by kernel_rfl) (by kernel_rfl) (noFns _ _)))
noncomputable def L20_0 : Nat → Option LoopD := fun _ => none
noncomputable def laws_markAutomaton : (Int × ((List Int) × ((List Int) × (List (Int × (ByteArray × (Int × Int))))))) → Int → Option ((Int) × ((Int × ((List Int) × ((List Int) × (List (Int × (ByteArray × (Int × Int))))))) × Unit)) := fun (a0_0, a0_1, a0_2, a0_3) a1 =>
  if ((List.length a0_1) = (List.length a0_1)) then
    Option.bind (laws_markIntS a0_1 a1) fun (r0, r1, _) =>
      if ((List.length a0_2) = (List.length a0_2)) then
        Option.bind (laws_markIntS a0_2 r0) fun (r2, r3, _) =>
          if ((List.length a0_3) = (List.length a0_3)) then
            Option.bind (laws_markStepS a0_3 r2) fun (r4, r5, _) =>
              some (r4, (a0_0, r1, r3, r5), ())
          else
            none
      else
        none
  else
    none
noncomputable def A20 : FnM := ⟨[.io (.pair (.int .i64) (.pair (.sl (.int .i64)) (.pair (.sl (.int .i64)) (.sl (.pair (.int .i64) (.pair .str (.pair (.int .i64) (.int .i64)))))))), .v (.int .i64)], true, [.int .i64], none, fun x => laws_markAutomaton x.1 x.2.1⟩
theorem laws_markAutomaton_eq : fnMF E20 L20_0 [.io (.pair (.int .i64) (.pair (.sl (.int .i64)) (.pair (.sl (.int .i64)) (.sl (.pair (.int .i64) (.pair .str (.pair (.int .i64) (.int .i64)))))))), .v (.int .i64)] true [.int .i64] f20.ntmps f20.results.toList (codeOf f20) = fun x => laws_markAutomaton x.1 x.2.1 := by kernel_rfl
theorem A20_ok : FnMOk prog 20 A20 := by
  have h := fnMOk_of_run (P := prog) (E := E20) (tysOk_of tyl_ok) E20_ok (L := L20_0) (ps := [.io (.pair (.int .i64) (.pair (.sl (.int .i64)) (.pair (.sl (.int .i64)) (.sl (.pair (.int .i64) (.pair .str (.pair (.int .i64) (.int .i64)))))))), .v (.int .i64)]) (own := true) (outs := [.int .i64]) func20 (c := codeOf f20) (by kernel_rfl) (codeOk_in (L := L20_0) (tysOk_of tyl_ok) E20_ok mixed (c := codeOf f20) (bs := []) (by kernel_rfl) allNil (by kernel_rfl)) (by kernel_rfl)
  rw [laws_markAutomaton_eq] at h
  exact h
/-! laws.heldIntS -/
noncomputable def E74 : Env := ⟨ty0, fun _ => none, fun _ => none, fun _ => none, fun _ => none⟩
theorem E74_ok : FnsOk prog E74 := (noFns _ _)
noncomputable def L74_0 : Nat → Option LoopD := fun _ => none
def sh74_2 : List Fm := [.cell (.val (.sl (.int .i64))), .cell (.val (.int .i64)), d, d, d, .cell (.val (.int .i64)), d, d, d, d, d, d, d, d, d, d, d, d, d, d, d]
def xs74_2 : List (Ex × List Fm) := [(.ret, [d, d, d, d, .cell (.val (.int .i64)), d, d, d, d, d, d, d, d, d, d, d, d, d, d, d, d]), (.exit 0, [d, .cell (.val (.int .i64)), d, d, d, d, d, d, d, d, d, d, d, d, d, d, d, d, d, d, d])]
noncomputable def laws_heldIntS_l2 : ((List Int) × Int × Int × Unit) → Option (((List Int) × Int × Int × Unit) ⊕ ((Int × Unit) ⊕ (Int × Unit))) := fun (v0, v1, v5, _) =>
  bif (decide (v5 < (((List.length v0) : Nat) : Int))) then
    if (((0 : Int) ≤ v5) ∧ (v5 < (((List.length v0) : Nat) : Int))) then
      bif ((List.getD v0 (Int.toNat v5) (0 : Int)) != v1) then
        some (Sum.inr (Sum.inl ((-1 : Int), ())))
      else
        some (Sum.inl (v0, (IntKind.wrap .i64 (v1 + (1 : Int))), (IntKind.wrap .i64 (v5 + (1 : Int))), ()))
    else
      none
  else
    some (Sum.inr (Sum.inr (v1, ())))
theorem laws_heldIntS_l2_eq : loopStep 21 E74 L74_0 (loopOf f74 2) sh74_2 xs74_2 = laws_heldIntS_l2 := by kernel_rfl
theorem loop74_2 {L : Nat → Option LoopD} (h : L 2 = some ⟨21, sh74_2, xs74_2, laws_heldIntS_l2⟩) : LoopOk prog L (loopOf f74 2) :=
  loopOk (tysOk_of tyl_ok) E74_ok (codeOk_in (L := L74_0) (tysOk_of tyl_ok) E74_ok mixed (c := loopOf f74 2) (bs := []) (by kernel_rfl) allNil (by kernel_rfl)) (by kernel_rfl) (by kernel_rfl) laws_heldIntS_l2_eq (by rw [show firstId (loopOf f74 2) = 2 from by kernel_rfl]; exact h)
noncomputable def L74_1 : Nat → Option LoopD := fun n => ifEq n 2 (some ⟨21, sh74_2, xs74_2, laws_heldIntS_l2⟩) (L74_0 n)
noncomputable def laws_heldIntS : (List Int) → Int → Option (Int) := fun a0 a1 =>
  Option.bind (loopF laws_heldIntS_l2 (a0, a1, (0 : Int), ())) fun r0 =>
    (match r0 with
    | .inl (d1, _) =>
        some d1
    | .inr (d2, _) =>
        some d2)
noncomputable def A74 : FnA := ⟨[.v (.sl (.int .i64)), .v (.int .i64)], true, [.int .i64], fun x => laws_heldIntS x.1 x.2.1⟩
theorem laws_heldIntS_eq : fnF E74 L74_1 [.v (.sl (.int .i64)), .v (.int .i64)] true [.int .i64] f74.ntmps f74.results.toList (codeOf f74) = fun x => laws_heldIntS x.1 x.2.1 := by kernel_rfl
theorem A74_ok : FnOk prog 74 A74 := by
  have h := fnOk_of_run (P := prog) (E := E74) (tysOk_of tyl_ok) E74_ok (L := L74_1) (ps := [.v (.sl (.int .i64)), .v (.int .i64)]) (own := true) (outs := [.int .i64]) func74 (c := codeOf f74) (by kernel_rfl) (codeOk_in (L := L74_1) (tysOk_of tyl_ok) E74_ok mixed (c := codeOf f74) (bs := [loopOf f74 2]) (by kernel_rfl) (allCons (loop74_2 rfl) allNil) (by kernel_rfl))
  rw [laws_heldIntS_eq] at h
  exact h
/-! laws.heldStepS -/
noncomputable def E75 : Env := ⟨ty0, fun g => ifEq g 98 (some A98) (none), fun _ => none, fun _ => none, fun _ => none⟩
theorem E75_ok : FnsOk prog E75 := (oneFn A98_ok func98 (by kernel_rfl) (by kernel_rfl) (noFns _ _))
noncomputable def L75_0 : Nat → Option LoopD := fun _ => none
def sh75_2 : List Fm := [.cell (.val (.sl (.pair (.int .i64) (.pair .str (.pair (.int .i64) (.int .i64)))))), .cell (.val (.int .i64)), d, d, d, .cell (.val (.int .i64)), d, d, d, d, d, d, d, d, d, d, d, d, d, d, d, d, d, d, d, d, d, d, d, d, d, d, d, d, d, d, d, d, d, d, d, d, d, d, d, d, d, d, d, d]
def xs75_2 : List (Ex × List Fm) := [(.ret, [d, d, d, d, .cell (.val (.int .i64)), d, d, d, d, d, d, d, d, d, d, d, d, d, d, d, d, d, d, d, d, d, d, d, d, d, d, d, d, d, d, d, d, d, d, d, d, d, d, d, d, d, d, d, d, d]), (.exit 0, [d, .cell (.val (.int .i64)), d, d, d, d, d, d, d, d, d, d, d, d, d, d, d, d, d, d, d, d, d, d, d, d, d, d, d, d, d, d, d, d, d, d, d, d, d, d, d, d, d, d, d, d, d, d, d, d])]
noncomputable def laws_heldStepS_l2 : ((List (Int × (ByteArray × (Int × Int)))) × Int × Int × Unit) → Option (((List (Int × (ByteArray × (Int × Int)))) × Int × Int × Unit) ⊕ ((Int × Unit) ⊕ (Int × Unit))) := fun (v0, v1, v5, _) =>
  bif (decide (v5 < (((List.length v0) : Nat) : Int))) then
    if (((0 : Int) ≤ v5) ∧ (v5 < (((List.length v0) : Nat) : Int))) then
      bif ((List.getD v0 (Int.toNat v5) ((0 : Int), (⟨Array.empty⟩ : ByteArray), (0 : Int), (0 : Int))).1 != v1) then
        some (Sum.inr (Sum.inl ((-1 : Int), ())))
      else
        if (((0 : Int) ≤ v5) ∧ (v5 < (((List.length v0) : Nat) : Int))) then
          Option.bind (laws_markText (IntKind.wrap .i64 (v1 + (1 : Int)))) fun r0 =>
            bif (!((ByteArray.toList (List.getD v0 (Int.toNat v5) ((0 : Int), (⟨Array.empty⟩ : ByteArray), (0 : Int), (0 : Int))).2.1) == (ByteArray.toList r0))) then
              some (Sum.inr (Sum.inl ((-1 : Int), ())))
            else
              if (((0 : Int) ≤ v5) ∧ (v5 < (((List.length v0) : Nat) : Int))) then
                bif ((List.getD v0 (Int.toNat v5) ((0 : Int), (⟨Array.empty⟩ : ByteArray), (0 : Int), (0 : Int))).2.2.1 != (IntKind.wrap .i64 ((IntKind.wrap .i64 (v1 + (1 : Int))) + (1 : Int)))) then
                  some (Sum.inr (Sum.inl ((-1 : Int), ())))
                else
                  if (((0 : Int) ≤ v5) ∧ (v5 < (((List.length v0) : Nat) : Int))) then
                    bif ((List.getD v0 (Int.toNat v5) ((0 : Int), (⟨Array.empty⟩ : ByteArray), (0 : Int), (0 : Int))).2.2.2 != (IntKind.wrap .i64 ((IntKind.wrap .i64 ((IntKind.wrap .i64 (v1 + (1 : Int))) + (1 : Int))) + (1 : Int)))) then
                      some (Sum.inr (Sum.inl ((-1 : Int), ())))
                    else
                      some (Sum.inl (v0, (IntKind.wrap .i64 ((IntKind.wrap .i64 ((IntKind.wrap .i64 ((IntKind.wrap .i64 (v1 + (1 : Int))) + (1 : Int))) + (1 : Int))) + (1 : Int))), (IntKind.wrap .i64 (v5 + (1 : Int))), ()))
                  else
                    none
              else
                none
        else
          none
    else
      none
  else
    some (Sum.inr (Sum.inr (v1, ())))
theorem laws_heldStepS_l2_eq : loopStep 50 E75 L75_0 (loopOf f75 2) sh75_2 xs75_2 = laws_heldStepS_l2 := by kernel_rfl
theorem loop75_2 {L : Nat → Option LoopD} (h : L 2 = some ⟨50, sh75_2, xs75_2, laws_heldStepS_l2⟩) : LoopOk prog L (loopOf f75 2) :=
  loopOk (tysOk_of tyl_ok) E75_ok (codeOk_in (L := L75_0) (tysOk_of tyl_ok) E75_ok mixed (c := loopOf f75 2) (bs := []) (by kernel_rfl) allNil (by kernel_rfl)) (by kernel_rfl) (by kernel_rfl) laws_heldStepS_l2_eq (by rw [show firstId (loopOf f75 2) = 2 from by kernel_rfl]; exact h)
noncomputable def L75_1 : Nat → Option LoopD := fun n => ifEq n 2 (some ⟨50, sh75_2, xs75_2, laws_heldStepS_l2⟩) (L75_0 n)
noncomputable def laws_heldStepS : (List (Int × (ByteArray × (Int × Int)))) → Int → Option (Int) := fun a0 a1 =>
  Option.bind (loopF laws_heldStepS_l2 (a0, a1, (0 : Int), ())) fun r0 =>
    (match r0 with
    | .inl (d1, _) =>
        some d1
    | .inr (d2, _) =>
        some d2)
noncomputable def A75 : FnA := ⟨[.v (.sl (.pair (.int .i64) (.pair .str (.pair (.int .i64) (.int .i64))))), .v (.int .i64)], true, [.int .i64], fun x => laws_heldStepS x.1 x.2.1⟩
theorem laws_heldStepS_eq : fnF E75 L75_1 [.v (.sl (.pair (.int .i64) (.pair .str (.pair (.int .i64) (.int .i64))))), .v (.int .i64)] true [.int .i64] f75.ntmps f75.results.toList (codeOf f75) = fun x => laws_heldStepS x.1 x.2.1 := by kernel_rfl
theorem A75_ok : FnOk prog 75 A75 := by
  have h := fnOk_of_run (P := prog) (E := E75) (tysOk_of tyl_ok) E75_ok (L := L75_1) (ps := [.v (.sl (.pair (.int .i64) (.pair .str (.pair (.int .i64) (.int .i64))))), .v (.int .i64)]) (own := true) (outs := [.int .i64]) func75 (c := codeOf f75) (by kernel_rfl) (codeOk_in (L := L75_1) (tysOk_of tyl_ok) E75_ok mixed (c := codeOf f75) (bs := [loopOf f75 2]) (by kernel_rfl) (allCons (loop75_2 rfl) allNil) (by kernel_rfl))
  rw [laws_heldStepS_eq] at h
  exact h
/-! laws.heldAutomaton -/
noncomputable def E21 : Env := ⟨ty0, fun g => ifEq g 74 (some A74) (ifEq g 75 (some A75) (none)), fun _ => none, fun _ => none, fun _ => none⟩
theorem E21_ok : FnsOk prog E21 := (oneFn A74_ok func74 (by kernel_rfl) (by kernel_rfl) (oneFn A75_ok func75 (by kernel_rfl) (by kernel_rfl) (noFns _ _)))
noncomputable def L21_0 : Nat → Option LoopD := fun _ => none
noncomputable def laws_heldAutomaton : (Int × ((List Int) × ((List Int) × (List (Int × (ByteArray × (Int × Int))))))) → Int → Option (Int) := fun (a0_0, a0_1, a0_2, a0_3) a1 =>
  Option.bind (laws_heldIntS a0_1 a1) fun r0 =>
    bif (decide (r0 < (0 : Int))) then
      some (-1 : Int)
    else
      Option.bind (laws_heldIntS a0_2 r0) fun r1 =>
        bif (decide (r1 < (0 : Int))) then
          some (-1 : Int)
        else
          Option.bind (laws_heldStepS a0_3 r1) fun r2 =>
            bif (decide (r2 < (0 : Int))) then
              some (-1 : Int)
            else
              some r2
noncomputable def A21 : FnA := ⟨[.v (.pair (.int .i64) (.pair (.sl (.int .i64)) (.pair (.sl (.int .i64)) (.sl (.pair (.int .i64) (.pair .str (.pair (.int .i64) (.int .i64)))))))), .v (.int .i64)], true, [.int .i64], fun x => laws_heldAutomaton x.1 x.2.1⟩
theorem laws_heldAutomaton_eq : fnF E21 L21_0 [.v (.pair (.int .i64) (.pair (.sl (.int .i64)) (.pair (.sl (.int .i64)) (.sl (.pair (.int .i64) (.pair .str (.pair (.int .i64) (.int .i64)))))))), .v (.int .i64)] true [.int .i64] f21.ntmps f21.results.toList (codeOf f21) = fun x => laws_heldAutomaton x.1 x.2.1 := by kernel_rfl
theorem A21_ok : FnOk prog 21 A21 := by
  have h := fnOk_of_run (P := prog) (E := E21) (tysOk_of tyl_ok) E21_ok (L := L21_0) (ps := [.v (.pair (.int .i64) (.pair (.sl (.int .i64)) (.pair (.sl (.int .i64)) (.sl (.pair (.int .i64) (.pair .str (.pair (.int .i64) (.int .i64)))))))), .v (.int .i64)]) (own := true) (outs := [.int .i64]) func21 (c := codeOf f21) (by kernel_rfl) (codeOk_in (L := L21_0) (tysOk_of tyl_ok) E21_ok mixed (c := codeOf f21) (bs := []) (by kernel_rfl) allNil (by kernel_rfl))
  rw [laws_heldAutomaton_eq] at h
  exact h
/-! laws.FnExactPowerAutomaton -/
noncomputable def E4 : Env := ⟨ty0, fun g => ifEq g 15 (some A15) (ifEq g 17 (some A17) (ifEq g 16 (some A16) (ifEq g 18 (some A18) (ifEq g 19 (some A19) (ifEq g 21 (some A21) (none)))))), fun g => ifEq g 20 (some A20) (none), fun _ => none, fun _ => none⟩
theorem E4_ok : FnsOk prog E4 := (oneFn A15_ok func15 (by kernel_rfl) (by kernel_rfl) (oneFn A17_ok func17 (by kernel_rfl) (by kernel_rfl) (oneFn A16_ok func16 (by kernel_rfl) (by kernel_rfl) (oneFn A18_ok func18 (by kernel_rfl) (by kernel_rfl) (oneFn A19_ok func19 (by kernel_rfl) (by kernel_rfl) (oneFn A21_ok func21 (by kernel_rfl) (by kernel_rfl) (oneMs A20_ok (by kernel_rfl) func20 (by kernel_rfl) (by kernel_rfl) (noFns _ _))))))))
noncomputable def L4_0 : Nat → Option LoopD := fun _ => none
noncomputable def laws_FnExactPowerAutomaton : (Int × ((List Int) × ((List Int) × (List (Int × (ByteArray × (Int × Int))))))) → Option (Bool) := fun (a0_0, a0_1, a0_2, a0_3) =>
  Option.bind (laws_szAutomaton (a0_0, a0_1, a0_2, a0_3) (1048576 : Int)) fun r0 =>
    bif (decide (r0 < (0 : Int))) then
      some true
    else
      Option.bind (laws_toAutomaton (a0_0, a0_1, a0_2, a0_3)) fun (r1, r2, r3, r4) =>
        Option.bind (spec_PowerAutomaton (r1, (List.take (List.length r2) (List.drop 0 r2)), (List.take (List.length r3) (List.drop 0 r3)), (List.take (List.length r4) (List.drop 0 r4)))) fun ((r5, r6, r7, r8), r9) =>
          Option.bind (laws_toAutomaton (a0_0, a0_1, a0_2, a0_3)) fun (r10, r11, r12, r13) =>
            Option.bind (impl_PowerAutomaton (r10, (List.take (List.length r11) (List.drop 0 r11)), (List.take (List.length r12) (List.drop 0 r12)), (List.take (List.length r13) (List.drop 0 r13)))) fun ((r14, r15, r16, r17), r18) =>
              Option.bind (laws_eqAutomaton (r14, (List.take (List.length r15) (List.drop 0 r15)), (List.take (List.length r16) (List.drop 0 r16)), (List.take (List.length r17) (List.drop 0 r17))) (r5, r6, r7, r8)) fun r19 =>
                bif (!r19) then
                  some false
                else
                  bif (!(r18 == r9)) then
                    some false
                  else
                    Option.bind (laws_toAutomaton (a0_0, a0_1, a0_2, a0_3)) fun (r20, r21, r22, r23) =>
                      Option.bind (laws_eqAutomaton (r10, (List.take (List.length r11) (List.drop 0 r11)), (List.take (List.length r12) (List.drop 0 r12)), (List.take (List.length r13) (List.drop 0 r13))) (r20, (List.take (List.length r21) (List.drop 0 r21)), (List.take (List.length r22) (List.drop 0 r22)), (List.take (List.length r23) (List.drop 0 r23)))) fun r24 =>
                        bif (!r24) then
                          some false
                        else
                          if ((List.length r11) = (List.length r11)) then
                            if ((List.length r12) = (List.length r12)) then
                              if ((List.length r13) = (List.length r13)) then
                                Option.bind (laws_markAutomaton (r10, r11, r12, r13) (1 : Int)) fun (r25, (r26, r27, r28, r29), _) =>
                                  bif (decide (r25 < (0 : Int))) then
                                    some false
                                  else
                                    Option.bind (laws_eqAutomaton (r14, (List.take (List.length r15) (List.drop 0 r15)), (List.take (List.length r16) (List.drop 0 r16)), (List.take (List.length r17) (List.drop 0 r17))) (r5, r6, r7, r8)) fun r30 =>
                                      bif (!r30) then
                                        some false
                                      else
                                        bif (!(r18 == r9)) then
                                          some false
                                        else
                                          if ((List.length r15) = (List.length r15)) then
                                            if ((List.length r16) = (List.length r16)) then
                                              if ((List.length r17) = (List.length r17)) then
                                                Option.bind (laws_markAutomaton (r14, r15, r16, r17) (1 : Int)) fun (r31, (r32, r33, r34, r35), _) =>
                                                  Option.bind (laws_heldAutomaton (r14, (List.take (List.length r15) (List.drop 0 r33)), (List.take (List.length r16) (List.drop 0 r34)), (List.take (List.length r17) (List.drop 0 r35))) (1 : Int)) fun r36 =>
                                                    bif (decide (r36 < (0 : Int))) then
                                                      some false
                                                    else
                                                      bif (r36 != r31) then
                                                        some false
                                                      else
                                                        Option.bind (laws_toAutomaton (a0_0, a0_1, a0_2, a0_3)) fun (r37, r38, r39, r40) =>
                                                          Option.bind (impl_PowerAutomaton (r37, (List.take (List.length r38) (List.drop 0 r38)), (List.take (List.length r39) (List.drop 0 r39)), (List.take (List.length r40) (List.drop 0 r40)))) fun ((r41, r42, r43, r44), r45) =>
                                                            Option.bind (laws_eqAutomaton (r41, (List.take (List.length r42) (List.drop 0 r42)), (List.take (List.length r43) (List.drop 0 r43)), (List.take (List.length r44) (List.drop 0 r44))) (r5, r6, r7, r8)) fun r46 =>
                                                              bif (!r46) then
                                                                some false
                                                              else
                                                                bif (!(r45 == r9)) then
                                                                  some false
                                                                else
                                                                  Option.bind (laws_heldAutomaton (r14, (List.take (List.length r15) (List.drop 0 r33)), (List.take (List.length r16) (List.drop 0 r34)), (List.take (List.length r17) (List.drop 0 r35))) (1 : Int)) fun r47 =>
                                                                    bif (decide (r47 < (0 : Int))) then
                                                                      some false
                                                                    else
                                                                      bif (r47 != r31) then
                                                                        some false
                                                                      else
                                                                        some true
                                              else
                                                none
                                            else
                                              none
                                          else
                                            none
                              else
                                none
                            else
                              none
                          else
                            none
noncomputable def A4 : FnA := ⟨[.v (.pair (.int .i64) (.pair (.sl (.int .i64)) (.pair (.sl (.int .i64)) (.sl (.pair (.int .i64) (.pair .str (.pair (.int .i64) (.int .i64))))))))], true, [.bool], fun x => laws_FnExactPowerAutomaton x.1⟩
theorem laws_FnExactPowerAutomaton_eq : fnF E4 L4_0 [.v (.pair (.int .i64) (.pair (.sl (.int .i64)) (.pair (.sl (.int .i64)) (.sl (.pair (.int .i64) (.pair .str (.pair (.int .i64) (.int .i64))))))))] true [.bool] f4.ntmps f4.results.toList (codeOf f4) = fun x => laws_FnExactPowerAutomaton x.1 := by kernel_rfl
theorem A4_ok : FnOk prog 4 A4 := by
  have h := fnOk_of_run (P := prog) (E := E4) (tysOk_of tyl_ok) E4_ok (L := L4_0) (ps := [.v (.pair (.int .i64) (.pair (.sl (.int .i64)) (.pair (.sl (.int .i64)) (.sl (.pair (.int .i64) (.pair .str (.pair (.int .i64) (.int .i64))))))))]) (own := true) (outs := [.bool]) func4 (c := codeOf f4) (by kernel_rfl) (codeOk_in (L := L4_0) (tysOk_of tyl_ok) E4_ok mixed (c := codeOf f4) (bs := []) (by kernel_rfl) allNil (by kernel_rfl))
  rw [laws_FnExactPowerAutomaton_eq] at h
  exact h
end Go.Proofs.Ytbmlleocidldpaa
