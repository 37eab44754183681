/- What Go functions that the laws reach compute, and that they do: written by a program of this session. -/
import Derived.Test.YtooigaliccnldaaCmp
import Derived.KernelRfl
set_option linter.unusedVariables false
namespace Go.Proofs.Ytooigaliccnldaa
open Go Go.Proofs.Ytooigaliccnldaa.Am Go.Proofs.Try
set_option maxRecDepth 100000
def tyl : List (Nat × TyD) := [(3, {kd := .int .i64}),
  (4, {kd := .bool}),
  (9, {kd := .str}),
  (22, {kd := .sl (.int .i64), elt := .int .i64, bytes := 8}),
  (29, {kd := .pair (.int .i64) (.sl (.int .i64)), flds := [(0, .int .i64), (1, .sl (.int .i64))]}),
  (31, {kd := .pair (.pair (.int .i64) (.sl (.int .i64))) .str, flds := [(0, .pair (.int .i64) (.sl (.int .i64))), (2, .str)]}),
  (35, {kd := .sl (.pair (.int .i64) (.pair .str (.pair (.int .i64) (.int .i64)))), elt := .pair (.int .i64) (.pair .str (.pair (.int .i64) (.int .i64))), bytes := 40}),
  (37, {kd := .pair (.int .i64) (.pair (.sl (.int .i64)) (.pair (.sl (.int .i64)) (.sl (.pair (.int .i64) (.pair .str (.pair (.int .i64) (.int .i64))))))), flds := [(0, .int .i64), (1, .sl (.int .i64)), (2, .sl (.int .i64)), (3, .sl (.pair (.int .i64) (.pair .str (.pair (.int .i64) (.int .i64)))))]}),
  (39, {kd := .sl .str, elt := .str, bytes := 16}),
  (42, {kd := .sl (.pair (.int .i64) (.pair .str (.pair (.int .i64) (.int .i64)))), elt := .pair (.int .i64) (.pair .str (.pair (.int .i64) (.int .i64))), bytes := 40}),
  (44, {kd := .pair (.int .i64) (.pair (.sl (.int .i64)) (.pair (.sl (.int .i64)) (.sl (.pair (.int .i64) (.pair .str (.pair (.int .i64) (.int .i64))))))), flds := [(0, .int .i64), (1, .sl (.int .i64)), (2, .sl (.int .i64)), (3, .sl (.pair (.int .i64) (.pair .str (.pair (.int .i64) (.int .i64)))))]}),
  (109, {kd := .pair (.int .i64) (.pair .str (.pair (.int .i64) (.int .i64))), flds := [(0, .int .i64), (1, .str), (2, .int .i64), (3, .int .i64)]}),
  (119, {kd := .sl (.pair (.pair (.int .i64) (.sl (.int .i64))) .str), elt := .pair (.pair (.int .i64) (.sl (.int .i64))) .str, bytes := 48}),
  (127, {kd := .pair (.int .i64) (.pair .str (.pair (.int .i64) (.int .i64))), flds := [(0, .int .i64), (1, .str), (2, .int .i64), (3, .int .i64)]}),
  (152, {kd := .pair (.sl (.pair (.pair (.int .i64) (.sl (.int .i64))) .str)) .bool, flds := [(0, .sl (.pair (.pair (.int .i64) (.sl (.int .i64))) .str)), (1, .bool)]}),
  (195, {kd := .pair (.sl (.pair (.pair (.int .i64) (.sl (.int .i64))) .str)) .bool, flds := [(0, .sl (.pair (.pair (.int .i64) (.sl (.int .i64))) .str)), (1, .bool)]}),
  (197, {kd := .sl (.pair .str .pt), elt := .pair .str .pt, bytes := 40}),
  (207, {kd := .pair .str .pt, flds := [(0, .str), (1, .pt)]})]
def ty0 : Nat → Option TyD := assoc tyl
theorem tyl_ok : tysOkB prog tyl = true := by kernel_rfl
theorem mixed : prog.follows .mixedOrders = true := by kernel_rfl
abbrev d : Fm := .cell .drop
/-! laws.szIntS -/
noncomputable def E76 : Env := ⟨ty0, fun _ => none, fun _ => none, fun _ => none, fun _ => none⟩
theorem E76_ok : FnsOk prog E76 := (noFns _ _)
noncomputable def L76_0 : Nat → Option LoopD := fun _ => none
noncomputable def laws_szIntS : (List Int) → Int → Option (Int) := fun a0 a1 =>
  bif (decide ((IntKind.wrap .i64 (a1 - (((List.length a0) : Nat) : Int))) < (0 : Int))) then
    some (-1 : Int)
  else
    some (IntKind.wrap .i64 (a1 - (((List.length a0) : Nat) : Int)))
noncomputable def A76 : FnA := ⟨[.v (.sl (.int .i64)), .v (.int .i64)], true, [.int .i64], fun x => laws_szIntS x.1 x.2.1⟩
theorem laws_szIntS_eq : fnF E76 L76_0 [.v (.sl (.int .i64)), .v (.int .i64)] true [.int .i64] f76.ntmps f76.results.toList (codeOf f76) = fun x => laws_szIntS x.1 x.2.1 := by kernel_rfl
theorem A76_ok : FnOk prog 76 A76 := by
  have h := fnOk_of_run (P := prog) (E := E76) (tysOk_of tyl_ok) E76_ok (L := L76_0) (ps := [.v (.sl (.int .i64)), .v (.int .i64)]) (own := true) (outs := [.int .i64]) func76 (c := codeOf f76) (by kernel_rfl) (codeOk_in (L := L76_0) (tysOk_of tyl_ok) E76_ok mixed (c := codeOf f76) (bs := []) (by kernel_rfl) allNil (by kernel_rfl))
  rw [laws_szIntS_eq] at h
  exact h
/-! laws.szStep -/
noncomputable def E127 : Env := ⟨ty0, fun _ => none, fun _ => none, fun _ => none, fun _ => none⟩
theorem E127_ok : FnsOk prog E127 := (noFns _ _)
noncomputable def L127_0 : Nat → Option LoopD := fun _ => none
noncomputable def laws_szStep : (Int × (ByteArray × (Int × Int))) → Int → Option (Int) := fun (a0_0, a0_1, a0_2, a0_3) a1 =>
  bif (decide ((IntKind.wrap .i64 (a1 - (((ByteArray.size a0_1) : Nat) : Int))) < (0 : Int))) then
    some (-1 : Int)
  else
    some (IntKind.wrap .i64 (a1 - (((ByteArray.size a0_1) : Nat) : Int)))
noncomputable def A127 : FnA := ⟨[.v (.pair (.int .i64) (.pair .str (.pair (.int .i64) (.int .i64)))), .v (.int .i64)], true, [.int .i64], fun x => laws_szStep x.1 x.2.1⟩
theorem laws_szStep_eq : fnF E127 L127_0 [.v (.pair (.int .i64) (.pair .str (.pair (.int .i64) (.int .i64)))), .v (.int .i64)] true [.int .i64] f127.ntmps f127.results.toList (codeOf f127) = fun x => laws_szStep x.1 x.2.1 := by kernel_rfl
theorem A127_ok : FnOk prog 127 A127 := by
  have h := fnOk_of_run (P := prog) (E := E127) (tysOk_of tyl_ok) E127_ok (L := L127_0) (ps := [.v (.pair (.int .i64) (.pair .str (.pair (.int .i64) (.int .i64)))), .v (.int .i64)]) (own := true) (outs := [.int .i64]) func127 (c := codeOf f127) (by kernel_rfl) (codeOk_in (L := L127_0) (tysOk_of tyl_ok) E127_ok mixed (c := codeOf f127) (bs := []) (by kernel_rfl) allNil (by kernel_rfl))
  rw [laws_szStep_eq] at h
  exact h
/-! laws.szStepS -/
noncomputable def E77 : Env := ⟨ty0, fun g => ifEq g 127 (some A127) (none), fun _ => none, fun _ => none, fun _ => none⟩
theorem E77_ok : FnsOk prog E77 := (oneFn A127_ok func127 (by kernel_rfl) (by kernel_rfl) (noFns _ _))
noncomputable def L77_0 : Nat → Option LoopD := fun _ => none
def sh77_5 : List Fm := [.cell (.val (.sl (.pair (.int .i64) (.pair .str (.pair (.int .i64) (.int .i64)))))), .cell (.val (.int .i64)), d, d, d, .cell (.val (.int .i64)), d, d, d, d, d, d, d, d, d, d, d, d, d, d, d, d, d, d, d, d, d]
def xs77_5 : List (Ex × List Fm) := [(.ret, [d, d, d, d, .cell (.val (.int .i64)), d, d, d, d, d, d, d, d, d, d, d, d, d, d, d, d, d, d, d, d, d, d]), (.exit 0, [d, .cell (.val (.int .i64)), d, d, d, d, d, d, d, d, d, d, d, d, d, d, d, d, d, d, d, d, d, d, d, d, d])]
noncomputable def laws_szStepS_l5 : ((List (Int × (ByteArray × (Int × Int)))) × Int × Int × Unit) → Option (((List (Int × (ByteArray × (Int × Int)))) × Int × Int × Unit) ⊕ ((Int × Unit) ⊕ (Int × Unit))) := fun (v0, v1, v5, _) =>
  bif (decide (v5 < (((List.length v0) : Nat) : Int))) then
    if (((0 : Int) ≤ v5) ∧ (v5 < (((List.length v0) : Nat) : Int))) then
      Option.bind (laws_szStep (List.getD v0 (Int.toNat v5) ((0 : Int), (⟨Array.empty⟩ : ByteArray), (0 : Int), (0 : Int))) v1) fun r0 =>
        bif (decide (r0 < (0 : Int))) then
          some (Sum.inr (Sum.inl ((-1 : Int), ())))
        else
          some (Sum.inl (v0, r0, (IntKind.wrap .i64 (v5 + (1 : Int))), ()))
    else
      none
  else
    some (Sum.inr (Sum.inr (v1, ())))
theorem laws_szStepS_l5_eq : loopStep 27 E77 L77_0 (loopOf f77 5) sh77_5 xs77_5 = laws_szStepS_l5 := by kernel_rfl
theorem loop77_5 {L : Nat → Option LoopD} (h : L 5 = some ⟨27, sh77_5, xs77_5, laws_szStepS_l5⟩) : LoopOk prog L (loopOf f77 5) :=
  loopOk (tysOk_of tyl_ok) E77_ok (codeOk_in (L := L77_0) (tysOk_of tyl_ok) E77_ok mixed (c := loopOf f77 5) (bs := []) (by kernel_rfl) allNil (by kernel_rfl)) (by kernel_rfl) (by kernel_rfl) laws_szStepS_l5_eq (by rw [show firstId (loopOf f77 5) = 5 from by kernel_rfl]; exact h)
noncomputable def L77_1 : Nat → Option LoopD := fun n => ifEq n 5 (some ⟨27, sh77_5, xs77_5, laws_szStepS_l5⟩) (L77_0 n)
noncomputable def laws_szStepS : (List (Int × (ByteArray × (Int × Int)))) → Int → Option (Int) := fun a0 a1 =>
  bif (decide ((IntKind.wrap .i64 (a1 - (((List.length a0) : Nat) : Int))) < (0 : Int))) then
    some (-1 : Int)
  else
    Option.bind (loopF laws_szStepS_l5 (a0, (IntKind.wrap .i64 (a1 - (((List.length a0) : Nat) : Int))), (0 : Int), ())) fun r0 =>
      (match r0 with
      | .inl (d1, _) =>
          some d1
      | .inr (d2, _) =>
          some d2)
noncomputable def A77 : FnA := ⟨[.v (.sl (.pair (.int .i64) (.pair .str (.pair (.int .i64) (.int .i64))))), .v (.int .i64)], true, [.int .i64], fun x => laws_szStepS x.1 x.2.1⟩
theorem laws_szStepS_eq : fnF E77 L77_1 [.v (.sl (.pair (.int .i64) (.pair .str (.pair (.int .i64) (.int .i64))))), .v (.int .i64)] true [.int .i64] f77.ntmps f77.results.toList (codeOf f77) = fun x => laws_szStepS x.1 x.2.1 := by kernel_rfl
theorem A77_ok : FnOk prog 77 A77 := by
  have h := fnOk_of_run (P := prog) (E := E77) (tysOk_of tyl_ok) E77_ok (L := L77_1) (ps := [.v (.sl (.pair (.int .i64) (.pair .str (.pair (.int .i64) (.int .i64))))), .v (.int .i64)]) (own := true) (outs := [.int .i64]) func77 (c := codeOf f77) (by kernel_rfl) (codeOk_in (L := L77_1) (tysOk_of tyl_ok) E77_ok mixed (c := codeOf f77) (bs := [loopOf f77 5]) (by kernel_rfl) (allCons (loop77_5 rfl) allNil) (by kernel_rfl))
  rw [laws_szStepS_eq] at h
  exact h
/-! laws.szAutomaton -/
noncomputable def E20 : Env := ⟨ty0, fun g => ifEq g 76 (some A76) (ifEq g 77 (some A77) (none)), fun _ => none, fun _ => none, fun _ => none⟩
theorem E20_ok : FnsOk prog E20 := (oneFn A76_ok func76 (by kernel_rfl) (by kernel_rfl) (oneFn A77_ok func77 (by kernel_rfl) (by kernel_rfl) (noFns _ _)))
noncomputable def L20_0 : Nat → Option LoopD := fun _ => none
noncomputable def laws_szAutomaton : (Int × ((List Int) × ((List Int) × (List (Int × (ByteArray × (Int × Int))))))) → Int → Option (Int) := fun (a0_0, a0_1, a0_2, a0_3) a1 =>
  Option.bind (laws_szIntS a0_1 a1) fun r0 =>
    bif (decide (r0 < (0 : Int))) then
      some (-1 : Int)
    else
      Option.bind (laws_szIntS a0_2 r0) fun r1 =>
        bif (decide (r1 < (0 : Int))) then
          some (-1 : Int)
        else
          Option.bind (laws_szStepS a0_3 r1) fun r2 =>
            bif (decide (r2 < (0 : Int))) then
              some (-1 : Int)
            else
              some r2
noncomputable def A20 : FnA := ⟨[.v (.pair (.int .i64) (.pair (.sl (.int .i64)) (.pair (.sl (.int .i64)) (.sl (.pair (.int .i64) (.pair .str (.pair (.int .i64) (.int .i64)))))))), .v (.int .i64)], true, [.int .i64], fun x => laws_szAutomaton x.1 x.2.1⟩
theorem laws_szAutomaton_eq : fnF E20 L20_0 [.v (.pair (.int .i64) (.pair (.sl (.int .i64)) (.pair (.sl (.int .i64)) (.sl (.pair (.int .i64) (.pair .str (.pair (.int .i64) (.int .i64)))))))), .v (.int .i64)] true [.int .i64] f20.ntmps f20.results.toList (codeOf f20) = fun x => laws_szAutomaton x.1 x.2.1 := by kernel_rfl
theorem A20_ok : FnOk prog 20 A20 := by
  have h := fnOk_of_run (P := prog) (E := E20) (tysOk_of tyl_ok) E20_ok (L := L20_0) (ps := [.v (.pair (.int .i64) (.pair (.sl (.int .i64)) (.pair (.sl (.int .i64)) (.sl (.pair (.int .i64) (.pair .str (.pair (.int .i64) (.int .i64)))))))), .v (.int .i64)]) (own := true) (outs := [.int .i64]) func20 (c := codeOf f20) (by kernel_rfl) (codeOk_in (L := L20_0) (tysOk_of tyl_ok) E20_ok mixed (c := codeOf f20) (bs := []) (by kernel_rfl) allNil (by kernel_rfl))
  rw [laws_szAutomaton_eq] at h
  exact h
/-! laws.toIntS -/
noncomputable def E82 : Env := ⟨ty0, fun _ => none, fun _ => none, fun _ => none, fun _ => none⟩
theorem E82_ok : FnsOk prog E82 := (noFns _ _)
noncomputable def L82_0 : Nat → Option LoopD := fun _ => none
def sh82_3 : List Fm := [.cell (.val (.sl (.int .i64))), d, d, .cell (.own (.int .i64) 100300 false), .cell (.val (.int .i64)), d, d, d, d, d, d, d, d, d, d, d, d, d, d, d, d, d]
def xs82_3 : List (Ex × List Fm) := [(.exit 0, [d, d, d, .cell (.own (.int .i64) 100300 false), d, d, d, d, d, d, d, d, d, d, d, d, d, d, d, d, d, d])]
noncomputable def laws_toIntS_l3 : ((List Int) × (List Int) × Int × Unit) → Option (((List Int) × (List Int) × Int × Unit) ⊕ (((List Int) × Unit))) := fun (v0, v3, v4, _) =>
  bif (decide (v4 < (((List.length v0) : Nat) : Int))) then
    if (((0 : Int) ≤ v4) ∧ (v4 < (((List.length v0) : Nat) : Int))) then
      if (((0 : Int) ≤ v4) ∧ (v4 < (((List.length v3) : Nat) : Int))) then
        some (Sum.inl (v0, (List.take (List.length v3) (List.drop 0 (List.set v3 (0 + (Int.toNat v4)) (List.getD v0 (Int.toNat v4) (0 : Int))))), (IntKind.wrap .i64 (v4 + (1 : Int))), ()))
      else
        none
    else
      none
  else
    some (Sum.inr ((List.take (List.length v3) (List.drop 0 v3)), ()))
theorem laws_toIntS_l3_eq : loopStep 22 E82 L82_0 (loopOf f82 3) sh82_3 xs82_3 = laws_toIntS_l3 := by kernel_rfl
theorem loop82_3 {L : Nat → Option LoopD} (h : L 3 = some ⟨22, sh82_3, xs82_3, laws_toIntS_l3⟩) : LoopOk prog L (loopOf f82 3) :=
  loopOk (tysOk_of tyl_ok) E82_ok (codeOk_in (L := L82_0) (tysOk_of tyl_ok) E82_ok mixed (c := loopOf f82 3) (bs := []) (by kernel_rfl) allNil (by kernel_rfl)) (by kernel_rfl) (by kernel_rfl) laws_toIntS_l3_eq (by rw [show firstId (loopOf f82 3) = 3 from by kernel_rfl]; exact h)
noncomputable def L82_1 : Nat → Option LoopD := fun n => ifEq n 3 (some ⟨22, sh82_3, xs82_3, laws_toIntS_l3⟩) (L82_0 n)
noncomputable def laws_toIntS : (List Int) → Option ((List Int)) := fun a0 =>
  if (((0 : Int) ≤ (((List.length a0) : Nat) : Int)) ∧ (((((List.length a0) : Nat) : Int) = (((List.length a0) : Nat) : Int)) ∧ (((((List.length a0) : Nat) : Int) * ((8 : Nat) : Int)) ≤ (140737488355328 : Int)))) then
    Option.bind (loopF laws_toIntS_l3 (a0, (List.take (Int.toNat (((List.length a0) : Nat) : Int)) (List.drop 0 (List.replicate (Int.toNat (((List.length a0) : Nat) : Int)) (0 : Int)))), (0 : Int), ())) fun (r0, _) =>
      some (List.take (List.length r0) (List.drop 0 r0))
  else
    none
noncomputable def A82 : FnA := ⟨[.v (.sl (.int .i64))], true, [.sl (.int .i64)], fun x => laws_toIntS x.1⟩
theorem laws_toIntS_eq : fnF E82 L82_1 [.v (.sl (.int .i64))] true [.sl (.int .i64)] f82.ntmps f82.results.toList (codeOf f82) = fun x => laws_toIntS x.1 := by kernel_rfl
theorem A82_ok : FnOk prog 82 A82 := by
  have h := fnOk_of_run (P := prog) (E := E82) (tysOk_of tyl_ok) E82_ok (L := L82_1) (ps := [.v (.sl (.int .i64))]) (own := true) (outs := [.sl (.int .i64)]) func82 (c := codeOf f82) (by kernel_rfl) (codeOk_in (L := L82_1) (tysOk_of tyl_ok) E82_ok mixed (c := codeOf f82) (bs := [loopOf f82 3]) (by kernel_rfl) (allCons (loop82_3 rfl) allNil) (by kernel_rfl))
  rw [laws_toIntS_eq] at h
  exact h
/-! laws.toStep -/
noncomputable def E132 : Env := ⟨ty0, fun _ => none, fun _ => none, fun _ => none, fun _ => none⟩
theorem E132_ok : FnsOk prog E132 := (noFns _ _)
noncomputable def L132_0 : Nat → Option LoopD := fun _ => none
noncomputable def laws_toStep : (Int × (ByteArray × (Int × Int))) → Option ((Int × (ByteArray × (Int × Int)))) := fun (a0_0, a0_1, a0_2, a0_3) =>
  some (a0_0, a0_1, a0_2, a0_3)
noncomputable def A132 : FnA := ⟨[.v (.pair (.int .i64) (.pair .str (.pair (.int .i64) (.int .i64))))], true, [.pair (.int .i64) (.pair .str (.pair (.int .i64) (.int .i64)))], fun x => laws_toStep x.1⟩
theorem laws_toStep_eq : fnF E132 L132_0 [.v (.pair (.int .i64) (.pair .str (.pair (.int .i64) (.int .i64))))] true [.pair (.int .i64) (.pair .str (.pair (.int .i64) (.int .i64)))] f132.ntmps f132.results.toList (codeOf f132) = fun x => laws_toStep x.1 := by kernel_rfl
theorem A132_ok : FnOk prog 132 A132 := by
  have h := fnOk_of_run (P := prog) (E := E132) (tysOk_of tyl_ok) E132_ok (L := L132_0) (ps := [.v (.pair (.int .i64) (.pair .str (.pair (.int .i64) (.int .i64))))]) (own := true) (outs := [.pair (.int .i64) (.pair .str (.pair (.int .i64) (.int .i64)))]) func132 (c := codeOf f132) (by kernel_rfl) (codeOk_in (L := L132_0) (tysOk_of tyl_ok) E132_ok mixed (c := codeOf f132) (bs := []) (by kernel_rfl) allNil (by kernel_rfl))
  rw [laws_toStep_eq] at h
  exact h
/-! laws.toStepS -/
noncomputable def E83 : Env := ⟨ty0, fun g => ifEq g 132 (some A132) (none), fun _ => none, fun _ => none, fun _ => none⟩
theorem E83_ok : FnsOk prog E83 := (oneFn A132_ok func132 (by kernel_rfl) (by kernel_rfl) (noFns _ _))
noncomputable def L83_0 : Nat → Option LoopD := fun _ => none
def sh83_3 : List Fm := [.cell (.val (.sl (.pair (.int .i64) (.pair .str (.pair (.int .i64) (.int .i64)))))), d, d, .cell (.own (.pair (.int .i64) (.pair .str (.pair (.int .i64) (.int .i64)))) 100300 false), .cell (.val (.int .i64)), d, d, d, d, d, d, d, d, d, d, d, d, d, d, d, d, d, d]
def xs83_3 : List (Ex × List Fm) := [(.exit 0, [d, d, d, .cell (.own (.pair (.int .i64) (.pair .str (.pair (.int .i64) (.int .i64)))) 100300 false), d, d, d, d, d, d, d, d, d, d, d, d, d, d, d, d, d, d, d])]
noncomputable def laws_toStepS_l3 : ((List (Int × (ByteArray × (Int × Int)))) × (List (Int × (ByteArray × (Int × Int)))) × Int × Unit) → Option (((List (Int × (ByteArray × (Int × Int)))) × (List (Int × (ByteArray × (Int × Int)))) × Int × Unit) ⊕ (((List (Int × (ByteArray × (Int × Int)))) × Unit))) := fun (v0, v3, v4, _) =>
  bif (decide (v4 < (((List.length v0) : Nat) : Int))) then
    if (((0 : Int) ≤ v4) ∧ (v4 < (((List.length v0) : Nat) : Int))) then
      Option.bind (laws_toStep (List.getD v0 (Int.toNat v4) ((0 : Int), (⟨Array.empty⟩ : ByteArray), (0 : Int), (0 : Int)))) fun (r0, r1, r2, r3) =>
        if (((0 : Int) ≤ v4) ∧ (v4 < (((List.length v3) : Nat) : Int))) then
          some (Sum.inl (v0, (List.take (List.length v3) (List.drop 0 (List.set v3 (0 + (Int.toNat v4)) (r0, r1, r2, r3)))), (IntKind.wrap .i64 (v4 + (1 : Int))), ()))
        else
          none
    else
      none
  else
    some (Sum.inr ((List.take (List.length v3) (List.drop 0 v3)), ()))
theorem laws_toStepS_l3_eq : loopStep 23 E83 L83_0 (loopOf f83 3) sh83_3 xs83_3 = laws_toStepS_l3 := by kernel_rfl
theorem loop83_3 {L : Nat → Option LoopD} (h : L 3 = some ⟨23, sh83_3, xs83_3, laws_toStepS_l3⟩) : LoopOk prog L (loopOf f83 3) :=
  loopOk (tysOk_of tyl_ok) E83_ok (codeOk_in (L := L83_0) (tysOk_of tyl_ok) E83_ok mixed (c := loopOf f83 3) (bs := []) (by kernel_rfl) allNil (by kernel_rfl)) (by kernel_rfl) (by kernel_rfl) laws_toStepS_l3_eq (by rw [show firstId (loopOf f83 3) = 3 from by kernel_rfl]; exact h)
noncomputable def L83_1 : Nat → Option LoopD := fun n => ifEq n 3 (some ⟨23, sh83_3, xs83_3, laws_toStepS_l3⟩) (L83_0 n)
noncomputable def laws_toStepS : (List (Int × (ByteArray × (Int × Int)))) → Option ((List (Int × (ByteArray × (Int × Int))))) := fun a0 =>
  if (((0 : Int) ≤ (((List.length a0) : Nat) : Int)) ∧ (((((List.length a0) : Nat) : Int) = (((List.length a0) : Nat) : Int)) ∧ (((((List.length a0) : Nat) : Int) * ((40 : Nat) : Int)) ≤ (140737488355328 : Int)))) then
    Option.bind (loopF laws_toStepS_l3 (a0, (List.take (Int.toNat (((List.length a0) : Nat) : Int)) (List.drop 0 (List.replicate (Int.toNat (((List.length a0) : Nat) : Int)) ((0 : Int), (⟨Array.empty⟩ : ByteArray), (0 : Int), (0 : Int))))), (0 : Int), ())) fun (r0, _) =>
      some (List.take (List.length r0) (List.drop 0 r0))
  else
    none
noncomputable def A83 : FnA := ⟨[.v (.sl (.pair (.int .i64) (.pair .str (.pair (.int .i64) (.int .i64)))))], true, [.sl (.pair (.int .i64) (.pair .str (.pair (.int .i64) (.int .i64))))], fun x => laws_toStepS x.1⟩
theorem laws_toStepS_eq : fnF E83 L83_1 [.v (.sl (.pair (.int .i64) (.pair .str (.pair (.int .i64) (.int .i64)))))] true [.sl (.pair (.int .i64) (.pair .str (.pair (.int .i64) (.int .i64))))] f83.ntmps f83.results.toList (codeOf f83) = fun x => laws_toStepS x.1 := by kernel_rfl
theorem A83_ok : FnOk prog 83 A83 := by
  have h := fnOk_of_run (P := prog) (E := E83) (tysOk_of tyl_ok) E83_ok (L := L83_1) (ps := [.v (.sl (.pair (.int .i64) (.pair .str (.pair (.int .i64) (.int .i64)))))]) (own := true) (outs := [.sl (.pair (.int .i64) (.pair .str (.pair (.int .i64) (.int .i64))))]) func83 (c := codeOf f83) (by kernel_rfl) (codeOk_in (L := L83_1) (tysOk_of tyl_ok) E83_ok mixed (c := codeOf f83) (bs := [loopOf f83 3]) (by kernel_rfl) (allCons (loop83_3 rfl) allNil) (by kernel_rfl))
  rw [laws_toStepS_eq] at h
  exact h
/-! laws.toAutomaton -/
noncomputable def E22 : Env := ⟨ty0, fun g => ifEq g 82 (some A82) (ifEq g 83 (some A83) (none)), fun _ => none, fun _ => none, fun _ => none⟩
theorem E22_ok : FnsOk prog E22 := (oneFn A82_ok func82 (by kernel_rfl) (by kernel_rfl) (oneFn A83_ok func83 (by kernel_rfl) (by kernel_rfl) (noFns _ _)))
noncomputable def L22_0 : Nat → Option LoopD := fun _ => none
noncomputable def laws_toAutomaton : (Int × ((List Int) × ((List Int) × (List (Int × (ByteArray × (Int × Int))))))) → Option ((Int × ((List Int) × ((List Int) × (List (Int × (ByteArray × (Int × Int)))))))) := fun (a0_0, a0_1, a0_2, a0_3) =>
  Option.bind (laws_toIntS a0_1) fun r0 =>
    Option.bind (laws_toIntS a0_2) fun r1 =>
      Option.bind (laws_toStepS a0_3) fun r2 =>
        some (a0_0, (List.take (List.length r0) (List.drop 0 r0)), (List.take (List.length r1) (List.drop 0 r1)), (List.take (List.length r2) (List.drop 0 r2)))
noncomputable def A22 : FnA := ⟨[.v (.pair (.int .i64) (.pair (.sl (.int .i64)) (.pair (.sl (.int .i64)) (.sl (.pair (.int .i64) (.pair .str (.pair (.int .i64) (.int .i64))))))))], true, [.pair (.int .i64) (.pair (.sl (.int .i64)) (.pair (.sl (.int .i64)) (.sl (.pair (.int .i64) (.pair .str (.pair (.int .i64) (.int .i64)))))))], fun x => laws_toAutomaton x.1⟩
theorem laws_toAutomaton_eq : fnF E22 L22_0 [.v (.pair (.int .i64) (.pair (.sl (.int .i64)) (.pair (.sl (.int .i64)) (.sl (.pair (.int .i64) (.pair .str (.pair (.int .i64) (.int .i64))))))))] true [.pair (.int .i64) (.pair (.sl (.int .i64)) (.pair (.sl (.int .i64)) (.sl (.pair (.int .i64) (.pair .str (.pair (.int .i64) (.int .i64)))))))] f22.ntmps f22.results.toList (codeOf f22) = fun x => laws_toAutomaton x.1 := by kernel_rfl
theorem A22_ok : FnOk prog 22 A22 := by
  have h := fnOk_of_run (P := prog) (E := E22) (tysOk_of tyl_ok) E22_ok (L := L22_0) (ps := [.v (.pair (.int .i64) (.pair (.sl (.int .i64)) (.pair (.sl (.int .i64)) (.sl (.pair (.int .i64) (.pair .str (.pair (.int .i64) (.int .i64))))))))]) (own := true) (outs := [.pair (.int .i64) (.pair (.sl (.int .i64)) (.pair (.sl (.int .i64)) (.sl (.pair (.int .i64) (.pair .str (.pair (.int .i64) (.int .i64)))))))]) func22 (c := codeOf f22) (by kernel_rfl) (codeOk_in (L := L22_0) (tysOk_of tyl_ok) E22_ok mixed (c := codeOf f22) (bs := []) (by kernel_rfl) allNil (by kernel_rfl))
  rw [laws_toAutomaton_eq] at h
  exact h
/-! spec.l1In -/
noncomputable def E79 : Env := ⟨ty0, fun _ => none, fun _ => none, fun _ => none, fun _ => none⟩
theorem E79_ok : FnsOk prog E79 := (noFns _ _)
noncomputable def L79_0 : Nat → Option LoopD := fun _ => none
noncomputable def spec_l1In : Int → Int → Int → Option (Bool) := fun a0 a1 a2 =>
  bif (decide (a0 ≥ a1)) then
    some (decide (a0 ≤ a2))
  else
    some false
noncomputable def A79 : FnA := ⟨[.v (.int .i64), .v (.int .i64), .v (.int .i64)], true, [.bool], fun x => spec_l1In x.1 x.2.1 x.2.2.1⟩
theorem spec_l1In_eq : fnF E79 L79_0 [.v (.int .i64), .v (.int .i64), .v (.int .i64)] true [.bool] f79.ntmps f79.results.toList (codeOf f79) = fun x => spec_l1In x.1 x.2.1 x.2.2.1 := by kernel_rfl
theorem A79_ok : FnOk prog 79 A79 := by
  have h := fnOk_of_run (P := prog) (E := E79) (tysOk_of tyl_ok) E79_ok (L := L79_0) (ps := [.v (.int .i64), .v (.int .i64), .v (.int .i64)]) (own := true) (outs := [.bool]) func79 (c := codeOf f79) (by kernel_rfl) (codeOk_in (L := L79_0) (tysOk_of tyl_ok) E79_ok mixed (c := codeOf f79) (bs := []) (by kernel_rfl) allNil (by kernel_rfl))
  rw [spec_l1In_eq] at h
  exact h
/-! spec.l3Marks -/
noncomputable def E128 : Env := ⟨ty0, fun g => ifEq g 79 (some A79) (none), fun _ => none, fun _ => none, fun _ => none⟩
theorem E128_ok : FnsOk prog E128 := (oneFn A79_ok func79 (by kernel_rfl) (by kernel_rfl) (noFns _ _))
noncomputable def L128_0 : Nat → Option LoopD := fun _ => none
def sh128_2 : List Fm := [.cell (.val (.int .i64)), .cell (.val (.sl (.int .i64))), d, d, d, d, d, .cell (.val (.sl (.int .i64))), .cell (.val (.int .i64)), .cell (.val (.int .i64)), d, d, d, d, d, d, d, d, d, d, d, d, d, d, d, d, d, d, d, d, d, d, d]
def xs128_2 : List (Ex × List Fm) := [(.ret, [d, d, d, d, .cell (.val .bool), d, d, d, d, d, d, d, d, d, d, d, d, d, d, d, d, d, d, d, d, d, d, d, d, d, d, d, d]), (.exit 0, [d, d, d, d, d, d, d, d, d, d, d, d, d, d, d, d, d, d, d, d, d, d, d, d, d, d, d, d, d, d, d, d, d])]
noncomputable def spec_l3Marks_l2 : (Int × (List Int) × (List Int) × Int × Int × Unit) → Option ((Int × (List Int) × (List Int) × Int × Int × Unit) ⊕ ((Bool × Unit) ⊕ (Unit))) := fun (v0, v1, v7, v8, v9, _) =>
  bif (decide (v9 < v8)) then
    if (((0 : Int) ≤ v9) ∧ (v9 < (((List.length v7) : Nat) : Int))) then
      Option.bind (spec_l1In (List.getD v7 (Int.toNat v9) (0 : Int)) (0 : Int) (IntKind.wrap .i64 (v0 - (1 : Int)))) fun r0 =>
        bif (!r0) then
          some (Sum.inr (Sum.inl (false, ())))
        else
          bif (decide (v9 > (0 : Int))) then
            if (((0 : Int) ≤ (IntKind.wrap .i64 (v9 - (1 : Int)))) ∧ ((IntKind.wrap .i64 (v9 - (1 : Int))) < (((List.length v1) : Nat) : Int))) then
              bif (decide ((List.getD v1 (Int.toNat (IntKind.wrap .i64 (v9 - (1 : Int)))) (0 : Int)) ≥ (List.getD v7 (Int.toNat v9) (0 : Int)))) then
                some (Sum.inr (Sum.inl (false, ())))
              else
                some (Sum.inl (v0, v1, v7, v8, (IntKind.wrap .i64 (v9 + (1 : Int))), ()))
            else
              none
          else
            some (Sum.inl (v0, v1, v7, v8, (IntKind.wrap .i64 (v9 + (1 : Int))), ()))
    else
      none
  else
    some (Sum.inr (Sum.inr ()))
theorem spec_l3Marks_l2_eq : loopStep 33 E128 L128_0 (loopOf f128 2) sh128_2 xs128_2 = spec_l3Marks_l2 := by kernel_rfl
theorem loop128_2 {L : Nat → Option LoopD} (h : L 2 = some ⟨33, sh128_2, xs128_2, spec_l3Marks_l2⟩) : LoopOk prog L (loopOf f128 2) :=
  loopOk (tysOk_of tyl_ok) E128_ok (codeOk_in (L := L128_0) (tysOk_of tyl_ok) E128_ok mixed (c := loopOf f128 2) (bs := []) (by kernel_rfl) allNil (by kernel_rfl)) (by kernel_rfl) (by kernel_rfl) spec_l3Marks_l2_eq (by rw [show firstId (loopOf f128 2) = 2 from by kernel_rfl]; exact h)
noncomputable def L128_1 : Nat → Option LoopD := fun n => ifEq n 2 (some ⟨33, sh128_2, xs128_2, spec_l3Marks_l2⟩) (L128_0 n)
noncomputable def spec_l3Marks : Int → (List Int) → Option (Bool) := fun a0 a1 =>
  Option.bind (loopF spec_l3Marks_l2 (a0, a1, a1, (((List.length a1) : Nat) : Int), (0 : Int), ())) fun r0 =>
    (match r0 with
    | .inl (d1, _) =>
        some d1
    | .inr _ =>
        some true)
noncomputable def A128 : FnA := ⟨[.v (.int .i64), .v (.sl (.int .i64))], true, [.bool], fun x => spec_l3Marks x.1 x.2.1⟩
theorem spec_l3Marks_eq : fnF E128 L128_1 [.v (.int .i64), .v (.sl (.int .i64))] true [.bool] f128.ntmps f128.results.toList (codeOf f128) = fun x => spec_l3Marks x.1 x.2.1 := by kernel_rfl
theorem A128_ok : FnOk prog 128 A128 := by
  have h := fnOk_of_run (P := prog) (E := E128) (tysOk_of tyl_ok) E128_ok (L := L128_1) (ps := [.v (.int .i64), .v (.sl (.int .i64))]) (own := true) (outs := [.bool]) func128 (c := codeOf f128) (by kernel_rfl) (codeOk_in (L := L128_1) (tysOk_of tyl_ok) E128_ok mixed (c := codeOf f128) (bs := [loopOf f128 2]) (by kernel_rfl) (allCons (loop128_2 rfl) allNil) (by kernel_rfl))
  rw [spec_l3Marks_eq] at h
  exact h
/-! spec.l3Step -/
noncomputable def E129 : Env := ⟨ty0, fun g => ifEq g 79 (some A79) (none), fun _ => none, fun _ => none, fun _ => none⟩
theorem E129_ok : FnsOk prog E129 := (oneFn A79_ok func79 (by kernel_rfl) (by kernel_rfl) (noFns _ _))
noncomputable def L129_0 : Nat → Option LoopD := fun _ => none
noncomputable def spec_l3Step : Int → (Int × (ByteArray × (Int × Int))) → Option (Bool) := fun a0 (a1_0, a1_1, a1_2, a1_3) =>
  Option.bind (spec_l1In a1_0 (0 : Int) (IntKind.wrap .i64 (a0 - (1 : Int)))) fun r0 =>
    bif r0 then
      Option.bind (spec_l1In a1_2 (0 : Int) (IntKind.wrap .i64 (a0 - (1 : Int)))) fun r1 =>
        bif r1 then
          Option.bind (spec_l1In a1_3 (0 : Int) (3 : Int)) fun r2 =>
            bif r2 then
              bif ((ByteArray.toList a1_1) == (ByteArray.toList (⟨#[(97 : UInt8)]⟩ : ByteArray))) then
                some true
              else
                some ((ByteArray.toList a1_1) == (ByteArray.toList (⟨#[(98 : UInt8)]⟩ : ByteArray)))
            else
              some false
        else
          some false
    else
      some false
noncomputable def A129 : FnA := ⟨[.v (.int .i64), .v (.pair (.int .i64) (.pair .str (.pair (.int .i64) (.int .i64))))], true, [.bool], fun x => spec_l3Step x.1 x.2.1⟩
theorem spec_l3Step_eq : fnF E129 L129_0 [.v (.int .i64), .v (.pair (.int .i64) (.pair .str (.pair (.int .i64) (.int .i64))))] true [.bool] f129.ntmps f129.results.toList (codeOf f129) = fun x => spec_l3Step x.1 x.2.1 := by kernel_rfl
theorem A129_ok : FnOk prog 129 A129 := by
  have h := fnOk_of_run (P := prog) (E := E129) (tysOk_of tyl_ok) E129_ok (L := L129_0) (ps := [.v (.int .i64), .v (.pair (.int .i64) (.pair .str (.pair (.int .i64) (.int .i64))))]) (own := true) (outs := [.bool]) func129 (c := codeOf f129) (by kernel_rfl) (codeOk_in (L := L129_0) (tysOk_of tyl_ok) E129_ok mixed (c := codeOf f129) (bs := []) (by kernel_rfl) allNil (by kernel_rfl))
  rw [spec_l3Step_eq] at h
  exact h
/-! spec.l3Before -/
noncomputable def E130 : Env := ⟨ty0, fun _ => none, fun _ => none, fun _ => none, fun _ => none⟩
theorem E130_ok : FnsOk prog E130 := (noFns _ _)
noncomputable def L130_0 : Nat → Option LoopD := fun _ => none
noncomputable def spec_l3Before : (Int × (ByteArray × (Int × Int))) → (Int × (ByteArray × (Int × Int))) → Option (Bool) := fun (a0_0, a0_1, a0_2, a0_3) (a1_0, a1_1, a1_2, a1_3) =>
  bif (a0_0 != a1_0) then
    some (decide (a0_0 < a1_0))
  else
    bif (!((ByteArray.toList a0_1) == (ByteArray.toList a1_1))) then
      some (Op.bytesLess (ByteArray.toList a0_1) (ByteArray.toList a1_1))
    else
      some (decide (a0_2 < a1_2))
noncomputable def A130 : FnA := ⟨[.v (.pair (.int .i64) (.pair .str (.pair (.int .i64) (.int .i64)))), .v (.pair (.int .i64) (.pair .str (.pair (.int .i64) (.int .i64))))], true, [.bool], fun x => spec_l3Before x.1 x.2.1⟩
theorem spec_l3Before_eq : fnF E130 L130_0 [.v (.pair (.int .i64) (.pair .str (.pair (.int .i64) (.int .i64)))), .v (.pair (.int .i64) (.pair .str (.pair (.int .i64) (.int .i64))))] true [.bool] f130.ntmps f130.results.toList (codeOf f130) = fun x => spec_l3Before x.1 x.2.1 := by kernel_rfl
theorem A130_ok : FnOk prog 130 A130 := by
  have h := fnOk_of_run (P := prog) (E := E130) (tysOk_of tyl_ok) E130_ok (L := L130_0) (ps := [.v (.pair (.int .i64) (.pair .str (.pair (.int .i64) (.int .i64)))), .v (.pair (.int .i64) (.pair .str (.pair (.int .i64) (.int .i64))))]) (own := true) (outs := [.bool]) func130 (c := codeOf f130) (by kernel_rfl) (codeOk_in (L := L130_0) (tysOk_of tyl_ok) E130_ok mixed (c := codeOf f130) (bs := []) (by kernel_rfl) allNil (by kernel_rfl))
  rw [spec_l3Before_eq] at h
  exact h
/-! spec.AutomatonValid -/
noncomputable def E78 : Env := ⟨ty0, fun g => ifEq g 79 (some A79) (ifEq g 128 (some A128) (ifEq g 129 (some A129) (ifEq g 130 (some A130) (none)))), fun _ => none, fun _ => none, fun _ => none⟩
theorem E78_ok : FnsOk prog E78 := (oneFn A79_ok func79 (by kernel_rfl) (by kernel_rfl) (oneFn A128_ok func128 (by kernel_rfl) (by kernel_rfl) (oneFn A129_ok func129 (by kernel_rfl) (by kernel_rfl) (oneFn A130_ok func130 (by kernel_rfl) (by kernel_rfl) (noFns _ _)))))
noncomputable def L78_0 : Nat → Option LoopD := fun _ => none
def sh78_4 : List Fm := [d, .box 100100 [.val (.int .i64), .val (.sl (.int .i64)), .val (.sl (.int .i64)), .val (.sl (.pair (.int .i64) (.pair .str (.pair (.int .i64) (.int .i64)))))], d, d, d, d, d, d, d, d, d, d, d, d, d, d, d, d, d, d, d, d, d, d, d, d, d, d, d, d, d, d, .cell (.val (.sl (.pair (.int .i64) (.pair .str (.pair (.int .i64) (.int .i64)))))), .cell (.val (.int .i64)), .cell (.val (.int .i64)), d, d, d, d, d, d, d, d, d, d, d, d, d, d, d, d, d, d, d, d, d, d, d, d, d]
def xs78_4 : List (Ex × List Fm) := [(.ret, [d, d, .cell (.val .bool), d, d, d, d, d, d, d, d, d, d, d, d, d, d, d, d, d, d, d, d, d, d, d, d, d, d, d, d, d, d, d, d, d, d, d, d, d, d, d, d, d, d, d, d, d, d, d, d, d, d, d, d, d, d, d, d, d]), (.exit 0, [d, d, d, d, d, d, d, d, d, d, d, d, d, d, d, d, d, d, d, d, d, d, d, d, d, d, d, d, d, d, d, d, d, d, d, d, d, d, d, d, d, d, d, d, d, d, d, d, d, d, d, d, d, d, d, d, d, d, d, d])]
noncomputable def spec_AutomatonValid_l4 : ((Int × (List Int) × (List Int) × (List (Int × (ByteArray × (Int × Int)))) × Unit) × (List (Int × (ByteArray × (Int × Int)))) × Int × Int × Unit) → Option (((Int × (List Int) × (List Int) × (List (Int × (ByteArray × (Int × Int)))) × Unit) × (List (Int × (ByteArray × (Int × Int)))) × Int × Int × Unit) ⊕ ((Bool × Unit) ⊕ (Unit))) := fun ((v1_0, v1_1, v1_2, v1_3, _), v32, v33, v34, _) =>
  bif (decide (v34 < v33)) then
    if (((0 : Int) ≤ v34) ∧ (v34 < (((List.length v32) : Nat) : Int))) then
      Option.bind (spec_l3Step v1_0 ((List.getD v32 (Int.toNat v34) ((0 : Int), (⟨Array.empty⟩ : ByteArray), (0 : Int), (0 : Int))).1, (List.getD v32 (Int.toNat v34) ((0 : Int), (⟨Array.empty⟩ : ByteArray), (0 : Int), (0 : Int))).2.1, (List.getD v32 (Int.toNat v34) ((0 : Int), (⟨Array.empty⟩ : ByteArray), (0 : Int), (0 : Int))).2.2.1, (List.getD v32 (Int.toNat v34) ((0 : Int), (⟨Array.empty⟩ : ByteArray), (0 : Int), (0 : Int))).2.2.2)) fun r0 =>
        bif (!r0) then
          some (Sum.inr (Sum.inl (false, ())))
        else
          bif (decide (v34 > (0 : Int))) then
            if (((0 : Int) ≤ (IntKind.wrap .i64 (v34 - (1 : Int)))) ∧ ((IntKind.wrap .i64 (v34 - (1 : Int))) < (((List.length v1_3) : Nat) : Int))) then
              Option.bind (spec_l3Before (List.getD v1_3 (Int.toNat (IntKind.wrap .i64 (v34 - (1 : Int)))) ((0 : Int), (⟨Array.empty⟩ : ByteArray), (0 : Int), (0 : Int))) ((List.getD v32 (Int.toNat v34) ((0 : Int), (⟨Array.empty⟩ : ByteArray), (0 : Int), (0 : Int))).1, (List.getD v32 (Int.toNat v34) ((0 : Int), (⟨Array.empty⟩ : ByteArray), (0 : Int), (0 : Int))).2.1, (List.getD v32 (Int.toNat v34) ((0 : Int), (⟨Array.empty⟩ : ByteArray), (0 : Int), (0 : Int))).2.2.1, (List.getD v32 (Int.toNat v34) ((0 : Int), (⟨Array.empty⟩ : ByteArray), (0 : Int), (0 : Int))).2.2.2)) fun r1 =>
                bif (!r1) then
                  some (Sum.inr (Sum.inl (false, ())))
                else
                  some (Sum.inl ((v1_0, v1_1, v1_2, v1_3, ()), v32, v33, (IntKind.wrap .i64 (v34 + (1 : Int))), ()))
            else
              none
          else
            some (Sum.inl ((v1_0, v1_1, v1_2, v1_3, ()), v32, v33, (IntKind.wrap .i64 (v34 + (1 : Int))), ()))
    else
      none
  else
    some (Sum.inr (Sum.inr ()))
theorem spec_AutomatonValid_l4_eq : loopStep 60 E78 L78_0 (loopOf f78 4) sh78_4 xs78_4 = spec_AutomatonValid_l4 := by kernel_rfl
theorem loop78_4 {L : Nat → Option LoopD} (h : L 4 = some ⟨60, sh78_4, xs78_4, spec_AutomatonValid_l4⟩) : LoopOk prog L (loopOf f78 4) :=
  loopOk (tysOk_of tyl_ok) E78_ok (codeOk_in (L := L78_0) (tysOk_of tyl_ok) E78_ok mixed (c := loopOf f78 4) (bs := []) (by kernel_rfl) allNil (by kernel_rfl)) (by kernel_rfl) (by kernel_rfl) spec_AutomatonValid_l4_eq (by rw [show firstId (loopOf f78 4) = 4 from by kernel_rfl]; exact h)
noncomputable def L78_1 : Nat → Option LoopD := fun n => ifEq n 4 (some ⟨60, sh78_4, xs78_4, spec_AutomatonValid_l4⟩) (L78_0 n)
noncomputable def spec_AutomatonValid : (Int × ((List Int) × ((List Int) × (List (Int × (ByteArray × (Int × Int))))))) → Option (Bool) := fun (a0_0, a0_1, a0_2, a0_3) =>
  Option.bind (spec_l1In a0_0 (1 : Int) (4 : Int)) fun r0 =>
    bif (!r0) then
      some false
    else
      Option.bind (spec_l3Marks a0_0 a0_1) fun r1 =>
        bif (!r1) then
          some false
        else
          Option.bind (spec_l3Marks a0_0 a0_2) fun r2 =>
            bif (!r2) then
              some false
            else
              bif (decide ((((List.length a0_3) : Nat) : Int) > (24 : Int))) then
                some false
              else
                Option.bind (loopF spec_AutomatonValid_l4 ((a0_0, a0_1, a0_2, a0_3, ()), a0_3, (((List.length a0_3) : Nat) : Int), (0 : Int), ())) fun r3 =>
                  (match r3 with
                  | .inl (d4, _) =>
                      some d4
                  | .inr _ =>
                      some true)
noncomputable def A78 : FnA := ⟨[.v (.pair (.int .i64) (.pair (.sl (.int .i64)) (.pair (.sl (.int .i64)) (.sl (.pair (.int .i64) (.pair .str (.pair (.int .i64) (.int .i64))))))))], true, [.bool], fun x => spec_AutomatonValid x.1⟩
theorem spec_AutomatonValid_eq : fnF E78 L78_1 [.v (.pair (.int .i64) (.pair (.sl (.int .i64)) (.pair (.sl (.int .i64)) (.sl (.pair (.int .i64) (.pair .str (.pair (.int .i64) (.int .i64))))))))] true [.bool] f78.ntmps f78.results.toList (codeOf f78) = fun x => spec_AutomatonValid x.1 := by kernel_rfl
theorem A78_ok : FnOk prog 78 A78 := by
  have h := fnOk_of_run (P := prog) (E := E78) (tysOk_of tyl_ok) E78_ok (L := L78_1) (ps := [.v (.pair (.int .i64) (.pair (.sl (.int .i64)) (.pair (.sl (.int .i64)) (.sl (.pair (.int .i64) (.pair .str (.pair (.int .i64) (.int .i64))))))))]) (own := true) (outs := [.bool]) func78 (c := codeOf f78) (by kernel_rfl) (codeOk_in (L := L78_1) (tysOk_of tyl_ok) E78_ok mixed (c := codeOf f78) (bs := [loopOf f78 4]) (by kernel_rfl) (allCons (loop78_4 rfl) allNil) (by kernel_rfl))
  rw [spec_AutomatonValid_eq] at h
  exact h
/-! spec.l3Matrix -/
noncomputable def E105 : Env := ⟨ty0, fun _ => none, fun _ => none, fun _ => none, fun _ => none⟩
theorem E105_ok : FnsOk prog E105 := (noFns _ _)
noncomputable def L105_0 : Nat → Option LoopD := fun _ => none
def sh105_3 : List Fm := [d, .cell (.val .str), .box 100200 [.val (.int .i64), .val (.sl (.int .i64)), .val (.sl (.int .i64)), .val (.sl (.pair (.int .i64) (.pair .str (.pair (.int .i64) (.int .i64)))))], d, .box 100400 [.val (.int .i64), .own (.int .i64) 100402 false], .box 100500 [.val (.int .i64), .own (.int .i64) 100502 false], d, d, d, d, d, d, d, d, d, .cell (.val (.int .i64)), .cell (.val (.int .i64)), d, d, d, d, d, d, d, d, d, d, d, d, d, d, d, d, d, d, d, d, d, d, d, d, d, d, d, d, d, d, d, d, d]
def xs105_3 : List (Ex × List Fm) := [(.exit 0, [d, .cell (.val .str), .box 100200 [.val (.int .i64), .val (.sl (.int .i64)), .val (.sl (.int .i64)), .val (.sl (.pair (.int .i64) (.pair .str (.pair (.int .i64) (.int .i64)))))], d, .box 100400 [.val (.int .i64), .own (.int .i64) 100402 false], .box 100500 [.val (.int .i64), .own (.int .i64) 100502 false], d, d, d, d, d, d, d, d, d, d, d, d, d, d, d, d, d, d, d, d, d, d, d, d, d, d, d, d, d, d, d, d, d, d, d, d, d, d, d, d, d, d, d, d])]
noncomputable def spec_l3Matrix_l3 : (ByteArray × (Int × (List Int) × (List Int) × (List (Int × (ByteArray × (Int × Int)))) × Unit) × (Int × (List Int) × Unit) × (Int × (List Int) × Unit) × Int × Int × Unit) → Option ((ByteArray × (Int × (List Int) × (List Int) × (List (Int × (ByteArray × (Int × Int)))) × Unit) × (Int × (List Int) × Unit) × (Int × (List Int) × Unit) × Int × Int × Unit) ⊕ ((ByteArray × (Int × (List Int) × (List Int) × (List (Int × (ByteArray × (Int × Int)))) × Unit) × (Int × (List Int) × Unit) × (Int × (List Int) × Unit) × Unit))) := fun (v1, (v2_0, v2_1, v2_2, v2_3, _), (v4_0, v4_1, _), (v5_0, v5_1, _), v15, v16, _) =>
  bif (decide (v16 < v15)) then
    if (((0 + (List.length v5_1)) = (List.length v5_1)) ∧ ((((List.length v5_1) + (List.length (List.take 1 (List.drop 0 [(1000000 : Int)])))) * 8) ≤ 140737488355328)) then
      some (Sum.inl (v1, (v2_0, v2_1, v2_2, v2_3, ()), (v4_0, (List.take (List.length v4_1) (List.drop 0 v4_1)), ()), (v5_0, (List.take ((List.length v5_1) + (List.length (List.take 1 (List.drop 0 [(1000000 : Int)])))) (List.drop 0 ((List.drop 0 v5_1) ++ (List.take 1 (List.drop 0 [(1000000 : Int)]))))), ()), v15, (IntKind.wrap .i64 (v16 + (1 : Int))), ()))
    else
      none
  else
    some (Sum.inr (v1, (v2_0, v2_1, v2_2, v2_3, ()), (v4_0, (List.take (List.length v4_1) (List.drop 0 v4_1)), ()), (v5_0, (List.take (List.length v5_1) (List.drop 0 v5_1)), ()), ()))
theorem spec_l3Matrix_l3_eq : loopStep 50 E105 L105_0 (loopOf f105 3) sh105_3 xs105_3 = spec_l3Matrix_l3 := by kernel_rfl
theorem loop105_3 {L : Nat → Option LoopD} (h : L 3 = some ⟨50, sh105_3, xs105_3, spec_l3Matrix_l3⟩) : LoopOk prog L (loopOf f105 3) :=
  loopOk (tysOk_of tyl_ok) E105_ok (codeOk_in (L := L105_0) (tysOk_of tyl_ok) E105_ok mixed (c := loopOf f105 3) (bs := []) (by kernel_rfl) allNil (by kernel_rfl)) (by kernel_rfl) (by kernel_rfl) spec_l3Matrix_l3_eq (by rw [show firstId (loopOf f105 3) = 3 from by kernel_rfl]; exact h)
noncomputable def L105_1 : Nat → Option LoopD := fun n => ifEq n 3 (some ⟨50, sh105_3, xs105_3, spec_l3Matrix_l3⟩) (L105_0 n)
def sh105_7 : List Fm := [d, .cell (.val .str), .box 100200 [.val (.int .i64), .val (.sl (.int .i64)), .val (.sl (.int .i64)), .val (.sl (.pair (.int .i64) (.pair .str (.pair (.int .i64) (.int .i64)))))], d, .box 100400 [.val (.int .i64), .own (.int .i64) 100402 false], .box 100500 [.val (.int .i64), .own (.int .i64) 100502 false], d, d, d, d, d, d, d, d, d, d, d, d, d, d, d, d, d, d, d, .cell (.val (.sl (.pair (.int .i64) (.pair .str (.pair (.int .i64) (.int .i64)))))), .cell (.val (.int .i64)), .cell (.val (.int .i64)), d, d, d, d, d, d, d, d, d, d, d, d, d, d, d, d, d, d, d, d, d, d]
def xs105_7 : List (Ex × List Fm) := [(.exit 2, [d, d, d, d, .box 100400 [.val (.int .i64), .own (.int .i64) 100402 false], .box 100500 [.val (.int .i64), .own (.int .i64) 100502 false], d, d, d, d, d, d, d, d, d, d, d, d, d, d, d, d, d, d, d, d, d, d, d, d, d, d, d, d, d, d, d, d, d, d, d, d, d, d, d, d, d, d, d, d])]
noncomputable def spec_l3Matrix_l7 : (ByteArray × (Int × (List Int) × (List Int) × (List (Int × (ByteArray × (Int × Int)))) × Unit) × (Int × (List Int) × Unit) × (Int × (List Int) × Unit) × (List (Int × (ByteArray × (Int × Int)))) × Int × Int × Unit) → Option ((ByteArray × (Int × (List Int) × (List Int) × (List (Int × (ByteArray × (Int × Int)))) × Unit) × (Int × (List Int) × Unit) × (Int × (List Int) × Unit) × (List (Int × (ByteArray × (Int × Int)))) × Int × Int × Unit) ⊕ (((Int × (List Int) × Unit) × (Int × (List Int) × Unit) × Unit))) := fun (v1, (v2_0, v2_1, v2_2, v2_3, _), (v4_0, v4_1, _), (v5_0, v5_1, _), v25, v26, v27, _) =>
  bif (decide (v27 < v26)) then
    if (((0 : Int) ≤ v27) ∧ (v27 < (((List.length v25) : Nat) : Int))) then
      bif ((ByteArray.toList (List.getD v25 (Int.toNat v27) ((0 : Int), (⟨Array.empty⟩ : ByteArray), (0 : Int), (0 : Int))).2.1) == (ByteArray.toList v1)) then
        if (((0 : Int) ≤ (IntKind.wrap .i64 ((IntKind.wrap .i64 ((List.getD v25 (Int.toNat v27) ((0 : Int), (⟨Array.empty⟩ : ByteArray), (0 : Int), (0 : Int))).1 * v2_0)) + (List.getD v25 (Int.toNat v27) ((0 : Int), (⟨Array.empty⟩ : ByteArray), (0 : Int), (0 : Int))).2.2.1))) ∧ ((IntKind.wrap .i64 ((IntKind.wrap .i64 ((List.getD v25 (Int.toNat v27) ((0 : Int), (⟨Array.empty⟩ : ByteArray), (0 : Int), (0 : Int))).1 * v2_0)) + (List.getD v25 (Int.toNat v27) ((0 : Int), (⟨Array.empty⟩ : ByteArray), (0 : Int), (0 : Int))).2.2.1)) < (((List.length v5_1) : Nat) : Int))) then
          some (Sum.inl (v1, (v2_0, v2_1, v2_2, v2_3, ()), (v4_0, (List.take (List.length v4_1) (List.drop 0 v4_1)), ()), (v5_0, (List.take (List.length v5_1) (List.drop 0 (List.set v5_1 (0 + (Int.toNat (IntKind.wrap .i64 ((IntKind.wrap .i64 ((List.getD v25 (Int.toNat v27) ((0 : Int), (⟨Array.empty⟩ : ByteArray), (0 : Int), (0 : Int))).1 * v2_0)) + (List.getD v25 (Int.toNat v27) ((0 : Int), (⟨Array.empty⟩ : ByteArray), (0 : Int), (0 : Int))).2.2.1)))) (List.getD v25 (Int.toNat v27) ((0 : Int), (⟨Array.empty⟩ : ByteArray), (0 : Int), (0 : Int))).2.2.2))), ()), v25, v26, (IntKind.wrap .i64 (v27 + (1 : Int))), ()))
        else
          none
      else
        some (Sum.inl (v1, (v2_0, v2_1, v2_2, v2_3, ()), (v4_0, (List.take (List.length v4_1) (List.drop 0 v4_1)), ()), (v5_0, (List.take (List.length v5_1) (List.drop 0 v5_1)), ()), v25, v26, (IntKind.wrap .i64 (v27 + (1 : Int))), ()))
    else
      none
  else
    some (Sum.inr ((v4_0, (List.take (List.length v4_1) (List.drop 0 v4_1)), ()), (v5_0, (List.take (List.length v5_1) (List.drop 0 v5_1)), ()), ()))
theorem spec_l3Matrix_l7_eq : loopStep 50 E105 L105_1 (loopOf f105 7) sh105_7 xs105_7 = spec_l3Matrix_l7 := by kernel_rfl
theorem loop105_7 {L : Nat → Option LoopD} (h : L 7 = some ⟨50, sh105_7, xs105_7, spec_l3Matrix_l7⟩) : LoopOk prog L (loopOf f105 7) :=
  loopOk (tysOk_of tyl_ok) E105_ok (codeOk_in (L := L105_1) (tysOk_of tyl_ok) E105_ok mixed (c := loopOf f105 7) (bs := []) (by kernel_rfl) allNil (by kernel_rfl)) (by kernel_rfl) (by kernel_rfl) spec_l3Matrix_l7_eq (by rw [show firstId (loopOf f105 7) = 7 from by kernel_rfl]; exact h)
noncomputable def L105_2 : Nat → Option LoopD := fun n => ifEq n 7 (some ⟨50, sh105_7, xs105_7, spec_l3Matrix_l7⟩) (L105_1 n)
noncomputable def spec_l3Matrix : (Int × ((List Int) × ((List Int) × (List (Int × (ByteArray × (Int × Int))))))) → ByteArray → Option ((Int × (List Int))) := fun (a0_0, a0_1, a0_2, a0_3) a1 =>
  Option.bind (loopF spec_l3Matrix_l3 (a1, (a0_0, a0_1, a0_2, a0_3, ()), ((0 : Int), [], ()), (a0_0, [], ()), (IntKind.wrap .i64 (a0_0 * a0_0)), (0 : Int), ())) fun (r0, (r1, r2, r3, r4, _), (r5, r6, _), (r7, r8, _), _) =>
    Option.bind (loopF spec_l3Matrix_l7 (r0, (r1, r2, r3, r4, ()), (r5, (List.take (List.length r6) (List.drop 0 r6)), ()), (r7, (List.take (List.length r8) (List.drop 0 r8)), ()), r4, (((List.length r4) : Nat) : Int), (0 : Int), ())) fun ((r9, r10, _), (r11, r12, _), _) =>
      some (r11, (List.take (List.length r12) (List.drop 0 r12)))
noncomputable def A105 : FnA := ⟨[.v (.pair (.int .i64) (.pair (.sl (.int .i64)) (.pair (.sl (.int .i64)) (.sl (.pair (.int .i64) (.pair .str (.pair (.int .i64) (.int .i64)))))))), .v .str], true, [.pair (.int .i64) (.sl (.int .i64))], fun x => spec_l3Matrix x.1 x.2.1⟩
theorem spec_l3Matrix_eq : fnF E105 L105_2 [.v (.pair (.int .i64) (.pair (.sl (.int .i64)) (.pair (.sl (.int .i64)) (.sl (.pair (.int .i64) (.pair .str (.pair (.int .i64) (.int .i64)))))))), .v .str] true [.pair (.int .i64) (.sl (.int .i64))] f105.ntmps f105.results.toList (codeOf f105) = fun x => spec_l3Matrix x.1 x.2.1 := by kernel_rfl
theorem A105_ok : FnOk prog 105 A105 := by
  have h := fnOk_of_run (P := prog) (E := E105) (tysOk_of tyl_ok) E105_ok (L := L105_2) (ps := [.v (.pair (.int .i64) (.pair (.sl (.int .i64)) (.pair (.sl (.int .i64)) (.sl (.pair (.int .i64) (.pair .str (.pair (.int .i64) (.int .i64)))))))), .v .str]) (own := true) (outs := [.pair (.int .i64) (.sl (.int .i64))]) func105 (c := codeOf f105) (by kernel_rfl) (codeOk_in (L := L105_2) (tysOk_of tyl_ok) E105_ok mixed (c := codeOf f105) (bs := [loopOf f105 3, loopOf f105 7]) (by kernel_rfl) (allCons (loop105_3 rfl) (allCons (loop105_7 rfl) allNil)) (by kernel_rfl))
  rw [spec_l3Matrix_eq] at h
  exact h
/-! spec.l6Grades -/
noncomputable def E197 : Env := ⟨ty0, fun _ => none, fun _ => none, fun _ => none, fun _ => none⟩
theorem E197_ok : FnsOk prog E197 := (noFns _ _)
noncomputable def L197_0 : Nat → Option LoopD := fun _ => none
def sh197_3 : List Fm := [d, d, .box 100200 [.val (.int .i64), .own (.int .i64) 100202 false], .box 100300 [.val (.int .i64), .own (.int .i64) 100302 false], d, d, d, d, d, d, .cell (.val (.sl (.int .i64))), .cell (.val (.int .i64)), .cell (.val (.int .i64)), d, d, d, d, d, d, d, d, d, d, d, d, d, d, d, d, d, d, d, d, d, d, d, d, d]
def xs197_3 : List (Ex × List Fm) := [(.exit 0, [d, d, .box 100200 [.val (.int .i64), .own (.int .i64) 100202 false], .box 100300 [.val (.int .i64), .own (.int .i64) 100302 false], d, d, d, d, d, d, d, d, d, d, d, d, d, d, d, d, d, d, d, d, d, d, d, d, d, d, d, d, d, d, d, d, d, d])]
noncomputable def spec_l6Grades_l3 : ((Int × (List Int) × Unit) × (Int × (List Int) × Unit) × (List Int) × Int × Int × Unit) → Option (((Int × (List Int) × Unit) × (Int × (List Int) × Unit) × (List Int) × Int × Int × Unit) ⊕ (((Int × (List Int) × Unit) × (Int × (List Int) × Unit) × Unit))) := fun ((v2_0, v2_1, _), (v3_0, v3_1, _), v10, v11, v12, _) =>
  bif (decide (v12 < v11)) then
    if (((0 : Int) ≤ v12) ∧ (v12 < (((List.length v10) : Nat) : Int))) then
      bif ((List.getD v10 (Int.toNat v12) (0 : Int)) == (0 : Int)) then
        if (((0 + (List.length v3_1)) = (List.length v3_1)) ∧ ((((List.length v3_1) + (List.length (List.take 1 (List.drop 0 [(0 : Int)])))) * 8) ≤ 140737488355328)) then
          some (Sum.inl ((v2_0, (List.take (List.length v2_1) (List.drop 0 v2_1)), ()), (v3_0, (List.take ((List.length v3_1) + (List.length (List.take 1 (List.drop 0 [(0 : Int)])))) (List.drop 0 ((List.drop 0 v3_1) ++ (List.take 1 (List.drop 0 [(0 : Int)]))))), ()), v10, v11, (IntKind.wrap .i64 (v12 + (1 : Int))), ()))
        else
          none
      else
        bif ((List.getD v10 (Int.toNat v12) (0 : Int)) == (1000000 : Int)) then
          if (((0 + (List.length v3_1)) = (List.length v3_1)) ∧ ((((List.length v3_1) + (List.length (List.take 1 (List.drop 0 [(3 : Int)])))) * 8) ≤ 140737488355328)) then
            some (Sum.inl ((v2_0, (List.take (List.length v2_1) (List.drop 0 v2_1)), ()), (v3_0, (List.take ((List.length v3_1) + (List.length (List.take 1 (List.drop 0 [(3 : Int)])))) (List.drop 0 ((List.drop 0 v3_1) ++ (List.take 1 (List.drop 0 [(3 : Int)]))))), ()), v10, v11, (IntKind.wrap .i64 (v12 + (1 : Int))), ()))
          else
            none
        else
          if (((0 + (List.length v3_1)) = (List.length v3_1)) ∧ ((((List.length v3_1) + (List.length (List.take 1 (List.drop 0 [(1 : Int)])))) * 8) ≤ 140737488355328)) then
            some (Sum.inl ((v2_0, (List.take (List.length v2_1) (List.drop 0 v2_1)), ()), (v3_0, (List.take ((List.length v3_1) + (List.length (List.take 1 (List.drop 0 [(1 : Int)])))) (List.drop 0 ((List.drop 0 v3_1) ++ (List.take 1 (List.drop 0 [(1 : Int)]))))), ()), v10, v11, (IntKind.wrap .i64 (v12 + (1 : Int))), ()))
          else
            none
    else
      none
  else
    some (Sum.inr ((v2_0, (List.take (List.length v2_1) (List.drop 0 v2_1)), ()), (v3_0, (List.take (List.length v3_1) (List.drop 0 v3_1)), ()), ()))
theorem spec_l6Grades_l3_eq : loopStep 38 E197 L197_0 (loopOf f197 3) sh197_3 xs197_3 = spec_l6Grades_l3 := by kernel_rfl
theorem loop197_3 {L : Nat → Option LoopD} (h : L 3 = some ⟨38, sh197_3, xs197_3, spec_l6Grades_l3⟩) : LoopOk prog L (loopOf f197 3) :=
  loopOk (tysOk_of tyl_ok) E197_ok (codeOk_in (L := L197_0) (tysOk_of tyl_ok) E197_ok mixed (c := loopOf f197 3) (bs := []) (by kernel_rfl) allNil (by kernel_rfl)) (by kernel_rfl) (by kernel_rfl) spec_l6Grades_l3_eq (by rw [show firstId (loopOf f197 3) = 3 from by kernel_rfl]; exact h)
noncomputable def L197_1 : Nat → Option LoopD := fun n => ifEq n 3 (some ⟨38, sh197_3, xs197_3, spec_l6Grades_l3⟩) (L197_0 n)
noncomputable def spec_l6Grades : (Int × (List Int)) → Option ((Int × (List Int))) := fun (a0_0, a0_1) =>
  Option.bind (loopF spec_l6Grades_l3 (((0 : Int), [], ()), (a0_0, [], ()), a0_1, (((List.length a0_1) : Nat) : Int), (0 : Int), ())) fun ((r0, r1, _), (r2, r3, _), _) =>
    some (r2, (List.take (List.length r3) (List.drop 0 r3)))
noncomputable def A197 : FnA := ⟨[.v (.pair (.int .i64) (.sl (.int .i64)))], true, [.pair (.int .i64) (.sl (.int .i64))], fun x => spec_l6Grades x.1⟩
theorem spec_l6Grades_eq : fnF E197 L197_1 [.v (.pair (.int .i64) (.sl (.int .i64)))] true [.pair (.int .i64) (.sl (.int .i64))] f197.ntmps f197.results.toList (codeOf f197) = fun x => spec_l6Grades x.1 := by kernel_rfl
theorem A197_ok : FnOk prog 197 A197 := by
  have h := fnOk_of_run (P := prog) (E := E197) (tysOk_of tyl_ok) E197_ok (L := L197_1) (ps := [.v (.pair (.int .i64) (.sl (.int .i64)))]) (own := true) (outs := [.pair (.int .i64) (.sl (.int .i64))]) func197 (c := codeOf f197) (by kernel_rfl) (codeOk_in (L := L197_1) (tysOk_of tyl_ok) E197_ok mixed (c := codeOf f197) (bs := [loopOf f197 3]) (by kernel_rfl) (allCons (loop197_3 rfl) allNil) (by kernel_rfl))
  rw [spec_l6Grades_eq] at h
  exact h
/-! spec.l2Same -/
noncomputable def E211 : Env := ⟨ty0, fun _ => none, fun _ => none, fun _ => none, fun _ => none⟩
theorem E211_ok : FnsOk prog E211 := (noFns _ _)
noncomputable def L211_0 : Nat → Option LoopD := fun _ => none
def sh211_2 : List Fm := [.cell (.val (.sl (.int .i64))), .cell (.val (.sl (.int .i64))), d, d, d, d, d, d, d, d, .cell (.val (.int .i64)), .cell (.val (.int .i64)), d, d, d, d, d, d, d, d, d, d, d, d, d, d, d, d, d]
def xs211_2 : List (Ex × List Fm) := [(.ret, [d, d, d, d, .cell (.val .bool), d, d, d, d, d, d, d, d, d, d, d, d, d, d, d, d, d, d, d, d, d, d, d, d]), (.exit 0, [.cell (.val (.sl (.int .i64))), .cell (.val (.sl (.int .i64))), d, d, d, d, d, d, d, d, d, d, d, d, d, d, d, d, d, d, d, d, d, d, d, d, d, d, d])]
noncomputable def spec_l2Same_l2 : ((List Int) × (List Int) × Int × Int × Unit) → Option (((List Int) × (List Int) × Int × Int × Unit) ⊕ ((Bool × Unit) ⊕ ((List Int) × (List Int) × Unit))) := fun (v0, v1, v10, v11, _) =>
  bif (decide (v11 < v10)) then
    if (((0 : Int) ≤ v11) ∧ (v11 < (((List.length v0) : Nat) : Int))) then
      if (((0 : Int) ≤ v11) ∧ (v11 < (((List.length v1) : Nat) : Int))) then
        bif ((List.getD v0 (Int.toNat v11) (0 : Int)) != (List.getD v1 (Int.toNat v11) (0 : Int))) then
          some (Sum.inr (Sum.inl (false, ())))
        else
          some (Sum.inl (v0, v1, v10, (IntKind.wrap .i64 (v11 + (1 : Int))), ()))
      else
        none
    else
      none
  else
    some (Sum.inr (Sum.inr (v0, v1, ())))
theorem spec_l2Same_l2_eq : loopStep 29 E211 L211_0 (loopOf f211 2) sh211_2 xs211_2 = spec_l2Same_l2 := by kernel_rfl
theorem loop211_2 {L : Nat → Option LoopD} (h : L 2 = some ⟨29, sh211_2, xs211_2, spec_l2Same_l2⟩) : LoopOk prog L (loopOf f211 2) :=
  loopOk (tysOk_of tyl_ok) E211_ok (codeOk_in (L := L211_0) (tysOk_of tyl_ok) E211_ok mixed (c := loopOf f211 2) (bs := []) (by kernel_rfl) allNil (by kernel_rfl)) (by kernel_rfl) (by kernel_rfl) spec_l2Same_l2_eq (by rw [show firstId (loopOf f211 2) = 2 from by kernel_rfl]; exact h)
noncomputable def L211_1 : Nat → Option LoopD := fun n => ifEq n 2 (some ⟨29, sh211_2, xs211_2, spec_l2Same_l2⟩) (L211_0 n)
noncomputable def spec_l2Same : (List Int) → (List Int) → Option (Bool) := fun a0 a1 =>
  Option.bind (loopF spec_l2Same_l2 (a0, a1, (if ((((List.length a1) : Nat) : Int) < (((List.length a0) : Nat) : Int)) then (((List.length a1) : Nat) : Int) else (((List.length a0) : Nat) : Int)), (0 : Int), ())) fun r0 =>
    (match r0 with
    | .inl (d1, _) =>
        some d1
    | .inr (d2, d3, _) =>
        some ((((List.length d2) : Nat) : Int) == (((List.length d3) : Nat) : Int)))
noncomputable def A211 : FnA := ⟨[.v (.sl (.int .i64)), .v (.sl (.int .i64))], true, [.bool], fun x => spec_l2Same x.1 x.2.1⟩
theorem spec_l2Same_eq : fnF E211 L211_1 [.v (.sl (.int .i64)), .v (.sl (.int .i64))] true [.bool] f211.ntmps f211.results.toList (codeOf f211) = fun x => spec_l2Same x.1 x.2.1 := by kernel_rfl
theorem A211_ok : FnOk prog 211 A211 := by
  have h := fnOk_of_run (P := prog) (E := E211) (tysOk_of tyl_ok) E211_ok (L := L211_1) (ps := [.v (.sl (.int .i64)), .v (.sl (.int .i64))]) (own := true) (outs := [.bool]) func211 (c := codeOf f211) (by kernel_rfl) (codeOk_in (L := L211_1) (tysOk_of tyl_ok) E211_ok mixed (c := codeOf f211) (bs := [loopOf f211 2]) (by kernel_rfl) (allCons (loop211_2 rfl) allNil) (by kernel_rfl))
  rw [spec_l2Same_eq] at h
  exact h
/-! spec.l6Mul -/
noncomputable def E201 : Env := ⟨ty0, fun _ => none, fun _ => none, fun _ => none, fun _ => none⟩
theorem E201_ok : FnsOk prog E201 := (noFns _ _)
noncomputable def L201_0 : Nat → Option LoopD := fun _ => none
def sh201_7 : List Fm := [d, d, .box 100200 [.val (.int .i64), .val (.sl (.int .i64))], .box 100300 [.val (.int .i64), .val (.sl (.int .i64))], .box 100400 [.val (.int .i64), .own (.int .i64) 100402 false], .box 100500 [.val (.int .i64), .own (.int .i64) 100502 false], .cell (.val (.int .i64)), .cell (.val (.int .i64)), d, d, d, d, d, d, d, d, .cell (.val (.int .i64)), .cell (.val (.int .i64)), d, d, d, .cell (.val (.int .i64)), .cell (.val (.int .i64)), d, d, d, d, d, d, d, d, d, d, d, d, d, d, d, d, d, d, d, d, d, d, d, d, d, d, d, d, d, d, d, d, d, d, d, d, d, d, d, d]
def xs201_7 : List (Ex × List Fm) := [(.exit 2, [d, d, .box 100200 [.val (.int .i64), .val (.sl (.int .i64))], .box 100300 [.val (.int .i64), .val (.sl (.int .i64))], .box 100400 [.val (.int .i64), .own (.int .i64) 100402 false], .box 100500 [.val (.int .i64), .own (.int .i64) 100502 false], d, .cell (.val (.int .i64)), d, d, d, d, d, d, d, d, .cell (.val (.int .i64)), .cell (.val (.int .i64)), d, d, d, d, d, d, d, d, d, d, d, d, d, d, d, d, d, d, d, d, d, d, d, d, d, d, d, d, d, d, d, d, d, d, d, d, d, d, d, d, d, d, d, d, d])]
noncomputable def spec_l6Mul_l7 : ((Int × (List Int) × Unit) × (Int × (List Int) × Unit) × (Int × (List Int) × Unit) × (Int × (List Int) × Unit) × Int × Int × Int × Int × Int × Int × Unit) → Option (((Int × (List Int) × Unit) × (Int × (List Int) × Unit) × (Int × (List Int) × Unit) × (Int × (List Int) × Unit) × Int × Int × Int × Int × Int × Int × Unit) ⊕ (((Int × (List Int) × Unit) × (Int × (List Int) × Unit) × (Int × (List Int) × Unit) × (Int × (List Int) × Unit) × Int × Int × Int × Unit))) := fun ((v2_0, v2_1, _), (v3_0, v3_1, _), (v4_0, v4_1, _), (v5_0, v5_1, _), v6, v7, v16, v17, v21, v22, _) =>
  bif (decide (v22 < v21)) then
    if (v2_0 = (0 : Int)) then
      none
    else
      if (((0 : Int) ≤ (IntKind.wrap .i64 ((IntKind.wrap .i64 ((IntKind.wrap .i64 (Int.tdiv v6 v2_0)) * v2_0)) + v22))) ∧ ((IntKind.wrap .i64 ((IntKind.wrap .i64 ((IntKind.wrap .i64 (Int.tdiv v6 v2_0)) * v2_0)) + v22)) < (((List.length v2_1) : Nat) : Int))) then
        if (v2_0 = (0 : Int)) then
          none
        else
          if (((0 : Int) ≤ (IntKind.wrap .i64 ((IntKind.wrap .i64 (v22 * v2_0)) + (Int.tmod v6 v2_0)))) ∧ ((IntKind.wrap .i64 ((IntKind.wrap .i64 (v22 * v2_0)) + (Int.tmod v6 v2_0))) < (((List.length v3_1) : Nat) : Int))) then
            some (Sum.inl ((v2_0, v2_1, ()), (v3_0, v3_1, ()), (v4_0, (List.take (List.length v4_1) (List.drop 0 v4_1)), ()), (v5_0, (List.take (List.length v5_1) (List.drop 0 v5_1)), ()), v6, (if ((if ((List.getD v3_1 (Int.toNat (IntKind.wrap .i64 ((IntKind.wrap .i64 (v22 * v2_0)) + (Int.tmod v6 v2_0)))) (0 : Int)) > (List.getD v2_1 (Int.toNat (IntKind.wrap .i64 ((IntKind.wrap .i64 ((IntKind.wrap .i64 (Int.tdiv v6 v2_0)) * v2_0)) + v22))) (0 : Int))) then (List.getD v3_1 (Int.toNat (IntKind.wrap .i64 ((IntKind.wrap .i64 (v22 * v2_0)) + (Int.tmod v6 v2_0)))) (0 : Int)) else (List.getD v2_1 (Int.toNat (IntKind.wrap .i64 ((IntKind.wrap .i64 ((IntKind.wrap .i64 (Int.tdiv v6 v2_0)) * v2_0)) + v22))) (0 : Int))) < v7) then (if ((List.getD v3_1 (Int.toNat (IntKind.wrap .i64 ((IntKind.wrap .i64 (v22 * v2_0)) + (Int.tmod v6 v2_0)))) (0 : Int)) > (List.getD v2_1 (Int.toNat (IntKind.wrap .i64 ((IntKind.wrap .i64 ((IntKind.wrap .i64 (Int.tdiv v6 v2_0)) * v2_0)) + v22))) (0 : Int))) then (List.getD v3_1 (Int.toNat (IntKind.wrap .i64 ((IntKind.wrap .i64 (v22 * v2_0)) + (Int.tmod v6 v2_0)))) (0 : Int)) else (List.getD v2_1 (Int.toNat (IntKind.wrap .i64 ((IntKind.wrap .i64 ((IntKind.wrap .i64 (Int.tdiv v6 v2_0)) * v2_0)) + v22))) (0 : Int))) else v7), v16, v17, v21, (IntKind.wrap .i64 (v22 + (1 : Int))), ()))
          else
            none
      else
        none
  else
    some (Sum.inr ((v2_0, v2_1, ()), (v3_0, v3_1, ()), (v4_0, (List.take (List.length v4_1) (List.drop 0 v4_1)), ()), (v5_0, (List.take (List.length v5_1) (List.drop 0 v5_1)), ()), v7, v16, v17, ()))
theorem spec_l6Mul_l7_eq : loopStep 63 E201 L201_0 (loopOf f201 7) sh201_7 xs201_7 = spec_l6Mul_l7 := by kernel_rfl
theorem loop201_7 {L : Nat → Option LoopD} (h : L 7 = some ⟨63, sh201_7, xs201_7, spec_l6Mul_l7⟩) : LoopOk prog L (loopOf f201 7) :=
  loopOk (tysOk_of tyl_ok) E201_ok (codeOk_in (L := L201_0) (tysOk_of tyl_ok) E201_ok mixed (c := loopOf f201 7) (bs := []) (by kernel_rfl) allNil (by kernel_rfl)) (by kernel_rfl) (by kernel_rfl) spec_l6Mul_l7_eq (by rw [show firstId (loopOf f201 7) = 7 from by kernel_rfl]; exact h)
noncomputable def L201_1 : Nat → Option LoopD := fun n => ifEq n 7 (some ⟨63, sh201_7, xs201_7, spec_l6Mul_l7⟩) (L201_0 n)
def sh201_3 : List Fm := [d, d, .box 100200 [.val (.int .i64), .val (.sl (.int .i64))], .box 100300 [.val (.int .i64), .val (.sl (.int .i64))], .box 100400 [.val (.int .i64), .own (.int .i64) 100402 false], .box 100500 [.val (.int .i64), .own (.int .i64) 100502 false], d, d, d, d, d, d, d, d, d, d, .cell (.val (.int .i64)), .cell (.val (.int .i64)), d, d, d, d, d, d, d, d, d, d, d, d, d, d, d, d, d, d, d, d, d, d, d, d, d, d, d, d, d, d, d, d, d, d, d, d, d, d, d, d, d, d, d, d, d]
def xs201_3 : List (Ex × List Fm) := [(.exit 0, [d, d, d, d, .box 100400 [.val (.int .i64), .own (.int .i64) 100402 false], .box 100500 [.val (.int .i64), .own (.int .i64) 100502 false], d, d, d, d, d, d, d, d, d, d, d, d, d, d, d, d, d, d, d, d, d, d, d, d, d, d, d, d, d, d, d, d, d, d, d, d, d, d, d, d, d, d, d, d, d, d, d, d, d, d, d, d, d, d, d, d, d])]
noncomputable def spec_l6Mul_l3 : ((Int × (List Int) × Unit) × (Int × (List Int) × Unit) × (Int × (List Int) × Unit) × (Int × (List Int) × Unit) × Int × Int × Unit) → Option (((Int × (List Int) × Unit) × (Int × (List Int) × Unit) × (Int × (List Int) × Unit) × (Int × (List Int) × Unit) × Int × Int × Unit) ⊕ (((Int × (List Int) × Unit) × (Int × (List Int) × Unit) × Unit))) := fun ((v2_0, v2_1, _), (v3_0, v3_1, _), (v4_0, v4_1, _), (v5_0, v5_1, _), v16, v17, _) =>
  bif (decide (v17 < v16)) then
    Option.bind (loopF spec_l6Mul_l7 ((v2_0, v2_1, ()), (v3_0, v3_1, ()), (v4_0, (List.take (List.length v4_1) (List.drop 0 v4_1)), ()), (v5_0, (List.take (List.length v5_1) (List.drop 0 v5_1)), ()), v17, (3 : Int), v16, v17, v2_0, (0 : Int), ())) fun ((r0, r1, _), (r2, r3, _), (r4, r5, _), (r6, r7, _), r8, r9, r10, _) =>
      if (((0 + (List.length r7)) = (List.length r7)) ∧ ((((List.length r7) + (List.length (List.take 1 (List.drop 0 [r8])))) * 8) ≤ 140737488355328)) then
        some (Sum.inl ((r0, r1, ()), (r2, r3, ()), (r4, (List.take (List.length r5) (List.drop 0 r5)), ()), (r6, (List.take ((List.length r7) + (List.length (List.take 1 (List.drop 0 [r8])))) (List.drop 0 ((List.drop 0 r7) ++ (List.take 1 (List.drop 0 [r8]))))), ()), r9, (IntKind.wrap .i64 (r10 + (1 : Int))), ()))
      else
        none
  else
    some (Sum.inr ((v4_0, (List.take (List.length v4_1) (List.drop 0 v4_1)), ()), (v5_0, (List.take (List.length v5_1) (List.drop 0 v5_1)), ()), ()))
theorem spec_l6Mul_l3_eq : loopStep 63 E201 L201_1 (loopOf f201 3) sh201_3 xs201_3 = spec_l6Mul_l3 := by kernel_rfl
theorem loop201_3 {L : Nat → Option LoopD} (h : L 3 = some ⟨63, sh201_3, xs201_3, spec_l6Mul_l3⟩) : LoopOk prog L (loopOf f201 3) :=
  loopOk (tysOk_of tyl_ok) E201_ok (codeOk_in (L := L201_1) (tysOk_of tyl_ok) E201_ok mixed (c := loopOf f201 3) (bs := [loopOf f201 7]) (by kernel_rfl) (allCons (loop201_7 rfl) allNil) (by kernel_rfl)) (by kernel_rfl) (by kernel_rfl) spec_l6Mul_l3_eq (by rw [show firstId (loopOf f201 3) = 3 from by kernel_rfl]; exact h)
noncomputable def L201_2 : Nat → Option LoopD := fun n => ifEq n 3 (some ⟨63, sh201_3, xs201_3, spec_l6Mul_l3⟩) (L201_1 n)
noncomputable def spec_l6Mul : (Int × (List Int)) → (Int × (List Int)) → Option ((Int × (List Int))) := fun (a0_0, a0_1) (a1_0, a1_1) =>
  Option.bind (loopF spec_l6Mul_l3 ((a0_0, a0_1, ()), (a1_0, a1_1, ()), ((0 : Int), [], ()), (a0_0, [], ()), (IntKind.wrap .i64 (a0_0 * a0_0)), (0 : Int), ())) fun ((r0, r1, _), (r2, r3, _), _) =>
    some (r2, (List.take (List.length r3) (List.drop 0 r3)))
noncomputable def A201 : FnA := ⟨[.v (.pair (.int .i64) (.sl (.int .i64))), .v (.pair (.int .i64) (.sl (.int .i64)))], true, [.pair (.int .i64) (.sl (.int .i64))], fun x => spec_l6Mul x.1 x.2.1⟩
theorem spec_l6Mul_eq : fnF E201 L201_2 [.v (.pair (.int .i64) (.sl (.int .i64))), .v (.pair (.int .i64) (.sl (.int .i64)))] true [.pair (.int .i64) (.sl (.int .i64))] f201.ntmps f201.results.toList (codeOf f201) = fun x => spec_l6Mul x.1 x.2.1 := by kernel_rfl
theorem A201_ok : FnOk prog 201 A201 := by
  have h := fnOk_of_run (P := prog) (E := E201) (tysOk_of tyl_ok) E201_ok (L := L201_2) (ps := [.v (.pair (.int .i64) (.sl (.int .i64))), .v (.pair (.int .i64) (.sl (.int .i64)))]) (own := true) (outs := [.pair (.int .i64) (.sl (.int .i64))]) func201 (c := codeOf f201) (by kernel_rfl) (codeOk_in (L := L201_2) (tysOk_of tyl_ok) E201_ok mixed (c := codeOf f201) (bs := [loopOf f201 3]) (by kernel_rfl) (allCons (loop201_3 rfl) allNil) (by kernel_rfl))
  rw [spec_l6Mul_eq] at h
  exact h
/-! spec.l6Idempotent -/
noncomputable def E199 : Env := ⟨ty0, fun g => ifEq g 201 (some A201) (ifEq g 211 (some A211) (none)), fun _ => none, fun _ => none, fun _ => none⟩
theorem E199_ok : FnsOk prog E199 := (oneFn A201_ok func201 (by kernel_rfl) (by kernel_rfl) (oneFn A211_ok func211 (by kernel_rfl) (by kernel_rfl) (noFns _ _)))
noncomputable def L199_0 : Nat → Option LoopD := fun _ => none
noncomputable def spec_l6Idempotent : (Int × (List Int)) → Option (Bool) := fun (a0_0, a0_1) =>
  Option.bind (spec_l6Mul (a0_0, a0_1) (a0_0, a0_1)) fun (r0, r1) =>
    Option.bind (spec_l2Same (List.take (List.length r1) (List.drop 0 r1)) a0_1) fun r2 =>
      some r2
noncomputable def A199 : FnA := ⟨[.v (.pair (.int .i64) (.sl (.int .i64)))], true, [.bool], fun x => spec_l6Idempotent x.1⟩
theorem spec_l6Idempotent_eq : fnF E199 L199_0 [.v (.pair (.int .i64) (.sl (.int .i64)))] true [.bool] f199.ntmps f199.results.toList (codeOf f199) = fun x => spec_l6Idempotent x.1 := by kernel_rfl
theorem A199_ok : FnOk prog 199 A199 := by
  have h := fnOk_of_run (P := prog) (E := E199) (tysOk_of tyl_ok) E199_ok (L := L199_0) (ps := [.v (.pair (.int .i64) (.sl (.int .i64)))]) (own := true) (outs := [.bool]) func199 (c := codeOf f199) (by kernel_rfl) (codeOk_in (L := L199_0) (tysOk_of tyl_ok) E199_ok mixed (c := codeOf f199) (bs := []) (by kernel_rfl) allNil (by kernel_rfl))
  rw [spec_l6Idempotent_eq] at h
  exact h
/-! spec.l6Again -/
noncomputable def E212 : Env := ⟨ty0, fun _ => none, fun _ => none, fun _ => none, fun _ => none⟩
theorem E212_ok : FnsOk prog E212 := (noFns _ _)
noncomputable def L212_0 : Nat → Option LoopD := fun _ => none
noncomputable def spec_l6Again : Int → Option (Int) := fun a0 =>
  bif (a0 == (1 : Int)) then
    some (2 : Int)
  else
    some a0
noncomputable def A212 : FnA := ⟨[.v (.int .i64)], true, [.int .i64], fun x => spec_l6Again x.1⟩
theorem spec_l6Again_eq : fnF E212 L212_0 [.v (.int .i64)] true [.int .i64] f212.ntmps f212.results.toList (codeOf f212) = fun x => spec_l6Again x.1 := by kernel_rfl
theorem A212_ok : FnOk prog 212 A212 := by
  have h := fnOk_of_run (P := prog) (E := E212) (tysOk_of tyl_ok) E212_ok (L := L212_0) (ps := [.v (.int .i64)]) (own := true) (outs := [.int .i64]) func212 (c := codeOf f212) (by kernel_rfl) (codeOk_in (L := L212_0) (tysOk_of tyl_ok) E212_ok mixed (c := codeOf f212) (bs := []) (by kernel_rfl) allNil (by kernel_rfl))
  rw [spec_l6Again_eq] at h
  exact h
/-! spec.l6Stable -/
noncomputable def E200 : Env := ⟨ty0, fun g => ifEq g 212 (some A212) (none), fun _ => none, fun _ => none, fun _ => none⟩
theorem E200_ok : FnsOk prog E200 := (oneFn A212_ok func212 (by kernel_rfl) (by kernel_rfl) (noFns _ _))
noncomputable def L200_0 : Nat → Option LoopD := fun _ => none
def sh200_7 : List Fm := [d, .box 100100 [.val (.int .i64), .val (.sl (.int .i64))], .box 100200 [.val (.int .i64), .own (.int .i64) 100202 false], .box 100300 [.val (.int .i64), .own (.int .i64) 100302 false], .cell (.val (.int .i64)), .cell (.val (.int .i64)), d, d, d, d, d, d, d, d, .cell (.val (.int .i64)), .cell (.val (.int .i64)), d, d, d, .cell (.val (.int .i64)), .cell (.val (.int .i64)), d, d, d, d, d, d, d, d, d, d, d, d, d, d, d, d, d, d, d, d, d, d, d, d, d, d, d, d, d, d, d, d, d, d, d, d, d, d, d, d, d, d, d, d, d, d, d, d, d, d, d]
def xs200_7 : List (Ex × List Fm) := [(.exit 2, [d, .box 100100 [.val (.int .i64), .val (.sl (.int .i64))], .box 100200 [.val (.int .i64), .own (.int .i64) 100202 false], .box 100300 [.val (.int .i64), .own (.int .i64) 100302 false], d, .cell (.val (.int .i64)), d, d, d, d, d, d, d, d, .cell (.val (.int .i64)), .cell (.val (.int .i64)), d, d, d, d, d, d, d, d, d, d, d, d, d, d, d, d, d, d, d, d, d, d, d, d, d, d, d, d, d, d, d, d, d, d, d, d, d, d, d, d, d, d, d, d, d, d, d, d, d, d, d, d, d, d, d, d])]
noncomputable def spec_l6Stable_l7 : ((Int × (List Int) × Unit) × (Int × (List Int) × Unit) × (Int × (List Int) × Unit) × Int × Int × Int × Int × Int × Int × Unit) → Option (((Int × (List Int) × Unit) × (Int × (List Int) × Unit) × (Int × (List Int) × Unit) × Int × Int × Int × Int × Int × Int × Unit) ⊕ (((Int × (List Int) × Unit) × (Int × (List Int) × Unit) × (Int × (List Int) × Unit) × Int × Int × Int × Unit))) := fun ((v1_0, v1_1, _), (v2_0, v2_1, _), (v3_0, v3_1, _), v4, v5, v14, v15, v19, v20, _) =>
  bif (decide (v20 < v19)) then
    if (v1_0 = (0 : Int)) then
      none
    else
      if (((0 : Int) ≤ (IntKind.wrap .i64 ((IntKind.wrap .i64 ((IntKind.wrap .i64 (Int.tdiv v4 v1_0)) * v1_0)) + v20))) ∧ ((IntKind.wrap .i64 ((IntKind.wrap .i64 ((IntKind.wrap .i64 (Int.tdiv v4 v1_0)) * v1_0)) + v20)) < (((List.length v1_1) : Nat) : Int))) then
        if (((0 : Int) ≤ (IntKind.wrap .i64 ((IntKind.wrap .i64 (v20 * v1_0)) + v20))) ∧ ((IntKind.wrap .i64 ((IntKind.wrap .i64 (v20 * v1_0)) + v20)) < (((List.length v1_1) : Nat) : Int))) then
          Option.bind (spec_l6Again (List.getD v1_1 (Int.toNat (IntKind.wrap .i64 ((IntKind.wrap .i64 (v20 * v1_0)) + v20))) (0 : Int))) fun r0 =>
            if (v1_0 = (0 : Int)) then
              none
            else
              if (((0 : Int) ≤ (IntKind.wrap .i64 ((IntKind.wrap .i64 (v20 * v1_0)) + (Int.tmod v4 v1_0)))) ∧ ((IntKind.wrap .i64 ((IntKind.wrap .i64 (v20 * v1_0)) + (Int.tmod v4 v1_0))) < (((List.length v1_1) : Nat) : Int))) then
                some (Sum.inl ((v1_0, v1_1, ()), (v2_0, (List.take (List.length v2_1) (List.drop 0 v2_1)), ()), (v3_0, (List.take (List.length v3_1) (List.drop 0 v3_1)), ()), v4, (if ((if ((List.getD v1_1 (Int.toNat (IntKind.wrap .i64 ((IntKind.wrap .i64 (v20 * v1_0)) + (Int.tmod v4 v1_0)))) (0 : Int)) > (if (r0 > (List.getD v1_1 (Int.toNat (IntKind.wrap .i64 ((IntKind.wrap .i64 ((IntKind.wrap .i64 (Int.tdiv v4 v1_0)) * v1_0)) + v20))) (0 : Int))) then r0 else (List.getD v1_1 (Int.toNat (IntKind.wrap .i64 ((IntKind.wrap .i64 ((IntKind.wrap .i64 (Int.tdiv v4 v1_0)) * v1_0)) + v20))) (0 : Int)))) then (List.getD v1_1 (Int.toNat (IntKind.wrap .i64 ((IntKind.wrap .i64 (v20 * v1_0)) + (Int.tmod v4 v1_0)))) (0 : Int)) else (if (r0 > (List.getD v1_1 (Int.toNat (IntKind.wrap .i64 ((IntKind.wrap .i64 ((IntKind.wrap .i64 (Int.tdiv v4 v1_0)) * v1_0)) + v20))) (0 : Int))) then r0 else (List.getD v1_1 (Int.toNat (IntKind.wrap .i64 ((IntKind.wrap .i64 ((IntKind.wrap .i64 (Int.tdiv v4 v1_0)) * v1_0)) + v20))) (0 : Int)))) < v5) then (if ((List.getD v1_1 (Int.toNat (IntKind.wrap .i64 ((IntKind.wrap .i64 (v20 * v1_0)) + (Int.tmod v4 v1_0)))) (0 : Int)) > (if (r0 > (List.getD v1_1 (Int.toNat (IntKind.wrap .i64 ((IntKind.wrap .i64 ((IntKind.wrap .i64 (Int.tdiv v4 v1_0)) * v1_0)) + v20))) (0 : Int))) then r0 else (List.getD v1_1 (Int.toNat (IntKind.wrap .i64 ((IntKind.wrap .i64 ((IntKind.wrap .i64 (Int.tdiv v4 v1_0)) * v1_0)) + v20))) (0 : Int)))) then (List.getD v1_1 (Int.toNat (IntKind.wrap .i64 ((IntKind.wrap .i64 (v20 * v1_0)) + (Int.tmod v4 v1_0)))) (0 : Int)) else (if (r0 > (List.getD v1_1 (Int.toNat (IntKind.wrap .i64 ((IntKind.wrap .i64 ((IntKind.wrap .i64 (Int.tdiv v4 v1_0)) * v1_0)) + v20))) (0 : Int))) then r0 else (List.getD v1_1 (Int.toNat (IntKind.wrap .i64 ((IntKind.wrap .i64 ((IntKind.wrap .i64 (Int.tdiv v4 v1_0)) * v1_0)) + v20))) (0 : Int)))) else v5), v14, v15, v19, (IntKind.wrap .i64 (v20 + (1 : Int))), ()))
              else
                none
        else
          none
      else
        none
  else
    some (Sum.inr ((v1_0, v1_1, ()), (v2_0, (List.take (List.length v2_1) (List.drop 0 v2_1)), ()), (v3_0, (List.take (List.length v3_1) (List.drop 0 v3_1)), ()), v5, v14, v15, ()))
theorem spec_l6Stable_l7_eq : loopStep 72 E200 L200_0 (loopOf f200 7) sh200_7 xs200_7 = spec_l6Stable_l7 := by kernel_rfl
theorem loop200_7 {L : Nat → Option LoopD} (h : L 7 = some ⟨72, sh200_7, xs200_7, spec_l6Stable_l7⟩) : LoopOk prog L (loopOf f200 7) :=
  loopOk (tysOk_of tyl_ok) E200_ok (codeOk_in (L := L200_0) (tysOk_of tyl_ok) E200_ok mixed (c := loopOf f200 7) (bs := []) (by kernel_rfl) allNil (by kernel_rfl)) (by kernel_rfl) (by kernel_rfl) spec_l6Stable_l7_eq (by rw [show firstId (loopOf f200 7) = 7 from by kernel_rfl]; exact h)
noncomputable def L200_1 : Nat → Option LoopD := fun n => ifEq n 7 (some ⟨72, sh200_7, xs200_7, spec_l6Stable_l7⟩) (L200_0 n)
def sh200_3 : List Fm := [d, .box 100100 [.val (.int .i64), .val (.sl (.int .i64))], .box 100200 [.val (.int .i64), .own (.int .i64) 100202 false], .box 100300 [.val (.int .i64), .own (.int .i64) 100302 false], d, d, d, d, d, d, d, d, d, d, .cell (.val (.int .i64)), .cell (.val (.int .i64)), d, d, d, d, d, d, d, d, d, d, d, d, d, d, d, d, d, d, d, d, d, d, d, d, d, d, d, d, d, d, d, d, d, d, d, d, d, d, d, d, d, d, d, d, d, d, d, d, d, d, d, d, d, d, d, d]
def xs200_3 : List (Ex × List Fm) := [(.exit 0, [d, d, .box 100200 [.val (.int .i64), .own (.int .i64) 100202 false], .box 100300 [.val (.int .i64), .own (.int .i64) 100302 false], d, d, d, d, d, d, d, d, d, d, d, d, d, d, d, d, d, d, d, d, d, d, d, d, d, d, d, d, d, d, d, d, d, d, d, d, d, d, d, d, d, d, d, d, d, d, d, d, d, d, d, d, d, d, d, d, d, d, d, d, d, d, d, d, d, d, d, d])]
noncomputable def spec_l6Stable_l3 : ((Int × (List Int) × Unit) × (Int × (List Int) × Unit) × (Int × (List Int) × Unit) × Int × Int × Unit) → Option (((Int × (List Int) × Unit) × (Int × (List Int) × Unit) × (Int × (List Int) × Unit) × Int × Int × Unit) ⊕ (((Int × (List Int) × Unit) × (Int × (List Int) × Unit) × Unit))) := fun ((v1_0, v1_1, _), (v2_0, v2_1, _), (v3_0, v3_1, _), v14, v15, _) =>
  bif (decide (v15 < v14)) then
    Option.bind (loopF spec_l6Stable_l7 ((v1_0, v1_1, ()), (v2_0, (List.take (List.length v2_1) (List.drop 0 v2_1)), ()), (v3_0, (List.take (List.length v3_1) (List.drop 0 v3_1)), ()), v15, (3 : Int), v14, v15, v1_0, (0 : Int), ())) fun ((r0, r1, _), (r2, r3, _), (r4, r5, _), r6, r7, r8, _) =>
      if (((0 + (List.length r5)) = (List.length r5)) ∧ ((((List.length r5) + (List.length (List.take 1 (List.drop 0 [r6])))) * 8) ≤ 140737488355328)) then
        some (Sum.inl ((r0, r1, ()), (r2, (List.take (List.length r3) (List.drop 0 r3)), ()), (r4, (List.take ((List.length r5) + (List.length (List.take 1 (List.drop 0 [r6])))) (List.drop 0 ((List.drop 0 r5) ++ (List.take 1 (List.drop 0 [r6]))))), ()), r7, (IntKind.wrap .i64 (r8 + (1 : Int))), ()))
      else
        none
  else
    some (Sum.inr ((v2_0, (List.take (List.length v2_1) (List.drop 0 v2_1)), ()), (v3_0, (List.take (List.length v3_1) (List.drop 0 v3_1)), ()), ()))
theorem spec_l6Stable_l3_eq : loopStep 72 E200 L200_1 (loopOf f200 3) sh200_3 xs200_3 = spec_l6Stable_l3 := by kernel_rfl
theorem loop200_3 {L : Nat → Option LoopD} (h : L 3 = some ⟨72, sh200_3, xs200_3, spec_l6Stable_l3⟩) : LoopOk prog L (loopOf f200 3) :=
  loopOk (tysOk_of tyl_ok) E200_ok (codeOk_in (L := L200_1) (tysOk_of tyl_ok) E200_ok mixed (c := loopOf f200 3) (bs := [loopOf f200 7]) (by kernel_rfl) (allCons (loop200_7 rfl) allNil) (by kernel_rfl)) (by kernel_rfl) (by kernel_rfl) spec_l6Stable_l3_eq (by rw [show firstId (loopOf f200 3) = 3 from by kernel_rfl]; exact h)
noncomputable def L200_2 : Nat → Option LoopD := fun n => ifEq n 3 (some ⟨72, sh200_3, xs200_3, spec_l6Stable_l3⟩) (L200_1 n)
noncomputable def spec_l6Stable : (Int × (List Int)) → Option ((Int × (List Int))) := fun (a0_0, a0_1) =>
  Option.bind (loopF spec_l6Stable_l3 ((a0_0, a0_1, ()), ((0 : Int), [], ()), (a0_0, [], ()), (IntKind.wrap .i64 (a0_0 * a0_0)), (0 : Int), ())) fun ((r0, r1, _), (r2, r3, _), _) =>
    some (r2, (List.take (List.length r3) (List.drop 0 r3)))
noncomputable def A200 : FnA := ⟨[.v (.pair (.int .i64) (.sl (.int .i64)))], true, [.pair (.int .i64) (.sl (.int .i64))], fun x => spec_l6Stable x.1⟩
theorem spec_l6Stable_eq : fnF E200 L200_2 [.v (.pair (.int .i64) (.sl (.int .i64)))] true [.pair (.int .i64) (.sl (.int .i64))] f200.ntmps f200.results.toList (codeOf f200) = fun x => spec_l6Stable x.1 := by kernel_rfl
theorem A200_ok : FnOk prog 200 A200 := by
  have h := fnOk_of_run (P := prog) (E := E200) (tysOk_of tyl_ok) E200_ok (L := L200_2) (ps := [.v (.pair (.int .i64) (.sl (.int .i64)))]) (own := true) (outs := [.pair (.int .i64) (.sl (.int .i64))]) func200 (c := codeOf f200) (by kernel_rfl) (codeOk_in (L := L200_2) (tysOk_of tyl_ok) E200_ok mixed (c := codeOf f200) (bs := [loopOf f200 3]) (by kernel_rfl) (allCons (loop200_3 rfl) allNil) (by kernel_rfl))
  rw [spec_l6Stable_eq] at h
  exact h
/-! spec.l8Elements -/
noncomputable def E177_at39 : Env := ⟨ty0, fun g => ifEq g 105 (some A105) (ifEq g 197 (some A197) (ifEq g 211 (some A211) (ifEq g 199 (some A199) (ifEq g 200 (some A200) (ifEq g 201 (some A201) (none)))))), fun _ => none, fun _ => none, fun _ => none⟩
theorem E177_at39_ok : FnsOk prog E177_at39 := (oneFn A105_ok func105 (by kernel_rfl) (by kernel_rfl) (oneFn A197_ok func197 (by kernel_rfl) (by kernel_rfl) (oneFn A211_ok func211 (by kernel_rfl) (by kernel_rfl) (oneFn A199_ok func199 (by kernel_rfl) (by kernel_rfl) (oneFn A200_ok func200 (by kernel_rfl) (by kernel_rfl) (oneFn A201_ok func201 (by kernel_rfl) (by kernel_rfl) (noFns _ _)))))))
noncomputable def L177_at39_0 : Nat → Option LoopD := fun _ => none
def sh177_at39_2 : List Fm := [.box 100000 [.own (.pair (.pair (.int .i64) (.sl (.int .i64))) .str) 100001 true, .val .bool], d, .cell (.val .str), d, .box 100400 [.val (.int .i64), .val (.sl (.int .i64))], d, d, d, d, d, d, .cell (.val (.sl (.pair (.pair (.int .i64) (.sl (.int .i64))) .str))), .cell (.val (.int .i64)), .cell (.val (.int .i64)), d, d, d, d, d, d, d, d, d, d, d, d, d, d, d, d, d, d, d, d, d, d, d, d, d, d, d, d, d, d, d, d, d, d, d, d, d, d, d, d, d, d, d, d, d, d, d, d, .cell (.val .bool), .box 106300 [.val (.int .i64), .val (.sl (.int .i64)), .val (.sl (.int .i64)), .val (.sl (.pair (.int .i64) (.pair .str (.pair (.int .i64) (.int .i64)))))], d, d, d, .ali 100000 0, .cell (.own (.pair (.pair (.int .i64) (.sl (.int .i64))) .str) 106800 false), d, d, d, d, d, d, d, d, d, d, d, d, .cell (.own .str 108100 false), .cell (.val (.int .i64)), .cell (.val (.int .i64)), d, d, d, d, d, d, d, d, d, d, d, d, d, d, d, d, d, d, d, d, d, d, d, d, d, d, d, d, d, d, d, d, d, d, d, d, d, d, d, d, d, d, d, d, d, d, d, d, d, d, d, d, d, d, d, d, d, d, d, d, d, d, d, d, d, d, d, d, d, d, d, d, d, d, d, d, d, d, d, d, d, d, d, d, d, d, d, d, d, d, d, d, d, d, d, d, d, d, d, d, d, d, d, d, d, d, d, d]
def xs177_at39_2 : List (Ex × List Fm) := [(.ret, [d, d, d, d, d, d, d, d, d, d, d, d, d, d, d, d, d, d, d, d, d, d, d, d, d, d, d, d, d, d, d, d, d, d, d, d, d, d, d, d, d, d, d, d, d, d, d, d, d, d, d, d, d, d, d, d, d, d, d, d, d, d, .cell (.val .bool), .box 106300 [.val (.int .i64), .val (.sl (.int .i64)), .val (.sl (.int .i64)), .val (.sl (.pair (.int .i64) (.pair .str (.pair (.int .i64) (.int .i64)))))], d, d, d, .box 106700 [.own (.pair (.pair (.int .i64) (.sl (.int .i64))) .str) 106701 true, .val .bool], .cell (.own (.pair (.pair (.int .i64) (.sl (.int .i64))) .str) 106800 false), d, d, d, d, d, d, d, d, d, d, d, d, .cell (.own .str 108100 false), .cell (.val (.int .i64)), .cell (.val (.int .i64)), d, d, d, d, d, d, d, d, d, d, d, d, d, d, d, d, d, d, d, d, d, d, d, d, d, d, d, d, d, d, d, d, d, d, d, d, d, d, d, d, d, d, d, d, d, d, d, d, d, d, d, d, d, d, d, d, d, d, d, d, d, d, d, d, d, d, d, d, d, d, d, d, d, d, d, d, d, d, d, d, d, d, d, d, d, d, d, d, d, d, d, d, d, d, d, d, d, d, d, d, d, d, d, d, d, d, d, d]), (.exit 0, [.box 100000 [.own (.pair (.pair (.int .i64) (.sl (.int .i64))) .str) 100001 true, .val .bool], d, .cell (.val .str), d, .box 100400 [.val (.int .i64), .val (.sl (.int .i64))], d, d, d, d, d, d, d, d, d, d, d, d, d, d, d, d, d, d, d, d, d, d, d, d, d, d, d, d, d, d, d, d, d, d, d, d, d, d, d, d, d, d, d, d, d, d, d, d, d, d, d, d, d, d, d, d, d, .cell (.val .bool), .box 106300 [.val (.int .i64), .val (.sl (.int .i64)), .val (.sl (.int .i64)), .val (.sl (.pair (.int .i64) (.pair .str (.pair (.int .i64) (.int .i64)))))], d, d, d, .ali 100000 0, .cell (.own (.pair (.pair (.int .i64) (.sl (.int .i64))) .str) 106800 false), d, d, d, d, d, d, d, d, d, d, d, d, .cell (.own .str 108100 false), .cell (.val (.int .i64)), .cell (.val (.int .i64)), d, d, d, d, d, d, d, d, d, d, d, d, d, d, d, d, d, d, d, d, d, d, d, d, d, d, d, d, d, d, d, d, d, d, d, d, d, d, d, d, d, d, d, d, d, d, d, d, d, d, d, d, d, d, d, d, d, d, d, d, d, d, d, d, d, d, d, d, d, d, d, d, d, d, d, d, d, d, d, d, d, d, d, d, d, d, d, d, d, d, d, d, d, d, d, d, d, d, d, d, d, d, d, d, d, d, d, d])]
noncomputable def spec_l8Elements_at39_l2 : (((List ((Int × (List Int)) × ByteArray)) × Bool × Unit) × ByteArray × (Int × (List Int) × Unit) × (List ((Int × (List Int)) × ByteArray)) × Int × Int × Bool × (Int × (List Int) × (List Int) × (List (Int × (ByteArray × (Int × Int)))) × Unit) × (List ((Int × (List Int)) × ByteArray)) × (List ByteArray) × Int × Int × Unit) → Option ((((List ((Int × (List Int)) × ByteArray)) × Bool × Unit) × ByteArray × (Int × (List Int) × Unit) × (List ((Int × (List Int)) × ByteArray)) × Int × Int × Bool × (Int × (List Int) × (List Int) × (List (Int × (ByteArray × (Int × Int)))) × Unit) × (List ((Int × (List Int)) × ByteArray)) × (List ByteArray) × Int × Int × Unit) ⊕ ((Bool × (Int × (List Int) × (List Int) × (List (Int × (ByteArray × (Int × Int)))) × Unit) × ((List ((Int × (List Int)) × ByteArray)) × Bool × Unit) × (List ((Int × (List Int)) × ByteArray)) × (List ByteArray) × Int × Int × Unit) ⊕ (((List ((Int × (List Int)) × ByteArray)) × Bool × Unit) × ByteArray × (Int × (List Int) × Unit) × Bool × (Int × (List Int) × (List Int) × (List (Int × (ByteArray × (Int × Int)))) × Unit) × (List ((Int × (List Int)) × ByteArray)) × (List ByteArray) × Int × Int × Unit))) := fun ((v0_0, v0_1, _), v2, (v4_0, v4_1, _), v11, v12, v13, v62, (v63_0, v63_1, v63_2, v63_3, _), v68, v81, v82, v83, _) =>
  bif (decide (v13 < v12)) then
    if (((0 : Int) ≤ v13) ∧ (v13 < (((List.length v11) : Nat) : Int))) then
      Option.bind (spec_l2Same (List.getD v11 (Int.toNat v13) (((0 : Int), []), (⟨Array.empty⟩ : ByteArray))).1.2 v4_1) fun r0 =>
        bif r0 then
          if ((0 + (List.length v0_0)) = (List.length v0_0)) then
            some (Sum.inr (Sum.inl (v62, (v63_0, v63_1, v63_2, v63_3, ()), ((List.drop 0 v0_0), v0_1, ()), (List.take (List.length v68) (List.drop 0 v68)), (List.take (List.length v81) (List.drop 0 v81)), v82, v83, ())))
          else
            none
        else
          if ((0 + (List.length v0_0)) = (List.length v0_0)) then
            some (Sum.inl (((List.drop 0 v0_0), v0_1, ()), v2, (v4_0, v4_1, ()), v11, v12, (IntKind.wrap .i64 (v13 + (1 : Int))), v62, (v63_0, v63_1, v63_2, v63_3, ()), (List.take (List.length v68) (List.drop 0 v68)), (List.take (List.length v81) (List.drop 0 v81)), v82, v83, ()))
          else
            none
    else
      none
  else
    if ((0 + (List.length v0_0)) = (List.length v0_0)) then
      some (Sum.inr (Sum.inr (((List.drop 0 v0_0), v0_1, ()), v2, (v4_0, v4_1, ()), v62, (v63_0, v63_1, v63_2, v63_3, ()), (List.take (List.length v68) (List.drop 0 v68)), (List.take (List.length v81) (List.drop 0 v81)), v82, v83, ())))
    else
      none
theorem spec_l8Elements_at39_l2_eq : loopStep 61 E177_at39 L177_at39_0 (loopOf f198 2) sh177_at39_2 xs177_at39_2 = spec_l8Elements_at39_l2 := by kernel_rfl
theorem loop177_at39_2 {L : Nat → Option LoopD} (h : L 2 = some ⟨61, sh177_at39_2, xs177_at39_2, spec_l8Elements_at39_l2⟩) : LoopOk prog L (loopOf f198 2) :=
  loopOk (tysOk_of tyl_ok) E177_at39_ok (codeOk_in (L := L177_at39_0) (tysOk_of tyl_ok) E177_at39_ok mixed (c := loopOf f198 2) (bs := []) (by kernel_rfl) allNil (by kernel_rfl)) (by kernel_rfl) (by kernel_rfl) spec_l8Elements_at39_l2_eq (by rw [show firstId (loopOf f198 2) = 2 from by kernel_rfl]; exact h)
noncomputable def L177_at39_1 : Nat → Option LoopD := fun n => ifEq n 2 (some ⟨61, sh177_at39_2, xs177_at39_2, spec_l8Elements_at39_l2⟩) (L177_at39_0 n)
def shi177_at39 : List Fm := [.box 100000 [.own (.pair (.pair (.int .i64) (.sl (.int .i64))) .str) 100001 true, .val .bool], .cell (.val (.pair (.int .i64) (.sl (.int .i64)))), .cell (.val .str), d, d, d, d, d, d, d, d, d, d, d, d, d, d, d, d, d, d, d, d, d, d, d, d, d, d, d, d, d, d, d, d, d, d, d, d, d, d, d, d, d, d, d, d, d, d, d, d, d, d, d, d, d, d, d, d, d, d, d, .cell (.val .bool), .box 106300 [.val (.int .i64), .val (.sl (.int .i64)), .val (.sl (.int .i64)), .val (.sl (.pair (.int .i64) (.pair .str (.pair (.int .i64) (.int .i64)))))], d, d, d, .ali 100000 0, .cell (.own (.pair (.pair (.int .i64) (.sl (.int .i64))) .str) 106800 false), d, d, d, d, d, d, d, d, d, d, d, d, .cell (.own .str 108100 false), .cell (.val (.int .i64)), .cell (.val (.int .i64)), d, d, d, d, d, d, d, d, d, d, d, d, d, d, d, d, d, d, d, d, d, d, d, d, d, d, d, d, d, d, d, d, d, d, d, d, d, d, d, d, d, d, d, d, d, d, d, d, d, d, d, d, d, d, d, d, d, d, d, d, d, d, d, d, d, d, d, d, d, d, d, d, d, d, d, d, d, d, d, d, d, d, d, d, d, d, d, d, d, d, d, d, d, d, d, d, d, d, d, d, d, d, d, d, d, d, d, d]
def sho177_at39 : List Fm := [d, .cell (.val .bool), .box 100200 [.val (.int .i64), .val (.sl (.int .i64)), .val (.sl (.int .i64)), .val (.sl (.pair (.int .i64) (.pair .str (.pair (.int .i64) (.int .i64)))))], d, d, d, .box 100600 [.own (.pair (.pair (.int .i64) (.sl (.int .i64))) .str) 100601 true, .val .bool], .cell (.own (.pair (.pair (.int .i64) (.sl (.int .i64))) .str) 100700 false), d, d, d, d, d, d, d, d, d, d, d, d, .cell (.own .str 102000 false), .cell (.val (.int .i64)), .cell (.val (.int .i64)), d, d, d, d, d, d, d, d, d, d, d, d, d, d, d, d, d, d, d, d, d, d, d, d, d, d, d, d, d, d, d, d, d, d, d, d, d, d, d, d, d, d, d, d, d, d, d, d, d, d, d, d, d, d, d, d, d, d, d, d, d, d, d, d, d, d, d, d, d, d, d, d, d, d, d, d, d, d, d, d, d, d, d, d, d, d, d, d, d, d, d, d, d, d, d, d, d, d, d, d, d, d, d, d, d, d, d, d]
noncomputable def spec_l8Elements_at39 : (((List ((Int × (List Int)) × ByteArray)) × Bool × Unit) × (Int × (List Int)) × ByteArray × Bool × (Int × (List Int) × (List Int) × (List (Int × (ByteArray × (Int × Int)))) × Unit) × (List ((Int × (List Int)) × ByteArray)) × (List ByteArray) × Int × Int × Unit) → Option (Bool × (Int × (List Int) × (List Int) × (List (Int × (ByteArray × (Int × Int)))) × Unit) × ((List ((Int × (List Int)) × ByteArray)) × Bool × Unit) × (List ((Int × (List Int)) × ByteArray)) × (List ByteArray) × Int × Int × Unit) := fun ((v0_0, v0_1, _), (v1_0, v1_1), v2, v62, (v63_0, v63_1, v63_2, v63_3, _), v68, v81, v82, v83, _) =>
  if ((0 + (List.length v0_0)) = (List.length v0_0)) then
    Option.bind (loopF spec_l8Elements_at39_l2 (((List.drop 0 v0_0), v0_1, ()), v2, (v1_0, v1_1, ()), (List.take (List.length v0_0) (List.drop 0 v0_0)), (((List.length v0_0) : Nat) : Int), (0 : Int), v62, (v63_0, v63_1, v63_2, v63_3, ()), (List.take (List.length v68) (List.drop 0 v68)), (List.take (List.length v81) (List.drop 0 v81)), v82, v83, ())) fun r0 =>
      (match r0 with
      | .inl (d1, (d2, d3, d4, d5, _), (d6, d7, _), d8, d9, d10, d11, _) =>
          if ((0 + (List.length d6)) = (List.length d6)) then
            some (d1, (d2, d3, d4, d5, ()), ((List.drop 0 d6), d7, ()), (List.take (List.length d8) (List.drop 0 d8)), (List.take (List.length d9) (List.drop 0 d9)), d10, d11, ())
          else
            none
      | .inr ((d12, d13, _), d14, (d15, d16, _), d17, (d18, d19, d20, d21, _), d22, d23, d24, d25, _) =>
          bif d13 then
            if ((0 + (List.length d12)) = (List.length d12)) then
              some (d17, (d18, d19, d20, d21, ()), ((List.drop 0 d12), true, ()), (List.take (List.length d22) (List.drop 0 d22)), (List.take (List.length d23) (List.drop 0 d23)), d24, d25, ())
            else
              none
          else
            bif (decide ((((List.length d12) : Nat) : Int) ≥ (120 : Int))) then
              if ((0 + (List.length d12)) = (List.length d12)) then
                some (d17, (d18, d19, d20, d21, ()), ((List.drop 0 d12), true, ()), (List.take (List.length d22) (List.drop 0 d22)), (List.take (List.length d23) (List.drop 0 d23)), d24, d25, ())
              else
                none
            else
              bif (!(decide ((((ByteArray.size d14) : Nat) : Int) > (120 : Int)))) then
                if (((0 + (List.length d12)) = (List.length d12)) ∧ ((((List.length d12) + (List.length (List.take 1 (List.drop 0 [((d15, d16), d14)])))) * 48) ≤ 140737488355328)) then
                  if ((0 + ((List.length d12) + (List.length (List.take 1 (List.drop 0 [((d15, d16), d14)]))))) = (List.length ((List.drop 0 d12) ++ (List.take 1 (List.drop 0 [((d15, d16), d14)]))))) then
                    some (d17, (d18, d19, d20, d21, ()), ((List.drop 0 ((List.drop 0 d12) ++ (List.take 1 (List.drop 0 [((d15, d16), d14)])))), (decide ((((ByteArray.size d14) : Nat) : Int) > (120 : Int))), ()), (List.take (List.length d22) (List.drop 0 d22)), (List.take (List.length d23) (List.drop 0 d23)), d24, d25, ())
                  else
                    none
                else
                  none
              else
                if ((0 + (List.length d12)) = (List.length d12)) then
                  some (d17, (d18, d19, d20, d21, ()), ((List.drop 0 d12), (decide ((((ByteArray.size d14) : Nat) : Int) > (120 : Int))), ()), (List.take (List.length d22) (List.drop 0 d22)), (List.take (List.length d23) (List.drop 0 d23)), d24, d25, ())
                else
                  none)
  else
    none
theorem spec_l8Elements_at39_eq : inlStep f198.ntmps 131 39 E177_at39 L177_at39_1 f198.results.toList (codeOf f198) shi177_at39 sho177_at39 = spec_l8Elements_at39 := by kernel_rfl
noncomputable def I177_at39 : CallD := ⟨f198.ntmps, shi177_at39, 131, sho177_at39, spec_l8Elements_at39⟩
theorem I177_at39_ok : InlOk prog 39 198 I177_at39 := inlOk_of (tysOk_of tyl_ok) E177_at39_ok (L := L177_at39_1) func198 (by kernel_rfl) (c := codeOf f198) (by kernel_rfl) (codeOk_in (L := L177_at39_1) (tysOk_of tyl_ok) E177_at39_ok mixed (c := codeOf f198) (bs := [loopOf f198 2]) (by kernel_rfl) (allCons (loop177_at39_2 rfl) allNil) (by kernel_rfl)) (by kernel_rfl) (by kernel_rfl) spec_l8Elements_at39_eq
noncomputable def E177_at78 : Env := ⟨ty0, fun g => ifEq g 105 (some A105) (ifEq g 197 (some A197) (ifEq g 211 (some A211) (ifEq g 199 (some A199) (ifEq g 200 (some A200) (ifEq g 201 (some A201) (none)))))), fun _ => none, fun _ => none, fun _ => none⟩
theorem E177_at78_ok : FnsOk prog E177_at78 := (oneFn A105_ok func105 (by kernel_rfl) (by kernel_rfl) (oneFn A197_ok func197 (by kernel_rfl) (by kernel_rfl) (oneFn A211_ok func211 (by kernel_rfl) (by kernel_rfl) (oneFn A199_ok func199 (by kernel_rfl) (by kernel_rfl) (oneFn A200_ok func200 (by kernel_rfl) (by kernel_rfl) (oneFn A201_ok func201 (by kernel_rfl) (by kernel_rfl) (noFns _ _)))))))
noncomputable def L177_at78_0 : Nat → Option LoopD := fun _ => none
def sh177_at78_2 : List Fm := [.box 100000 [.own (.pair (.pair (.int .i64) (.sl (.int .i64))) .str) 100001 true, .val .bool], d, .cell (.val .str), d, .box 100400 [.val (.int .i64), .own (.int .i64) 100402 false], d, d, d, d, d, d, .cell (.val (.sl (.pair (.pair (.int .i64) (.sl (.int .i64))) .str))), .cell (.val (.int .i64)), .cell (.val (.int .i64)), d, d, d, d, d, d, d, d, d, d, d, d, d, d, d, d, d, d, d, d, d, d, d, d, d, d, d, d, d, d, d, d, d, d, d, d, d, d, d, d, d, d, d, d, d, d, d, d, .cell (.val .bool), d, d, d, d, .ali 100000 0, .cell (.val (.sl (.pair (.pair (.int .i64) (.sl (.int .i64))) .str))), d, d, d, .cell (.val (.int .i64)), .box 107300 [.val (.int .i64), .val (.sl (.int .i64)), .val .str], d, d, d, d, d, d, d, d, d, d, d, d, d, d, d, d, d, d, d, d, d, d, d, d, d, d, d, d, d, d, d, d, d, d, d, d, d, d, d, d, d, d, d, d, d, d, d, d, d, d, d, d, d, d, d, d, d, d, d, d, d, d, d, d, d, d, d, d, d, d, d, d, d, d, d, d, d, d, d, d, d, d, d, d, d, d, d, d, d, d, d, d, d, d, d, d, d, d, d, d, d, d, d, d, d, d, d, d, d, d, d, d, d, d, d, d, d, d]
def xs177_at78_2 : List (Ex × List Fm) := [(.ret, [d, d, d, d, d, d, d, d, d, d, d, d, d, d, d, d, d, d, d, d, d, d, d, d, d, d, d, d, d, d, d, d, d, d, d, d, d, d, d, d, d, d, d, d, d, d, d, d, d, d, d, d, d, d, d, d, d, d, d, d, d, d, .cell (.val .bool), d, d, d, d, .box 106700 [.own (.pair (.pair (.int .i64) (.sl (.int .i64))) .str) 106701 true, .val .bool], .cell (.val (.sl (.pair (.pair (.int .i64) (.sl (.int .i64))) .str))), d, d, d, .cell (.val (.int .i64)), .box 107300 [.val (.int .i64), .val (.sl (.int .i64)), .val .str], d, d, d, d, d, d, d, d, d, d, d, d, d, d, d, d, d, d, d, d, d, d, d, d, d, d, d, d, d, d, d, d, d, d, d, d, d, d, d, d, d, d, d, d, d, d, d, d, d, d, d, d, d, d, d, d, d, d, d, d, d, d, d, d, d, d, d, d, d, d, d, d, d, d, d, d, d, d, d, d, d, d, d, d, d, d, d, d, d, d, d, d, d, d, d, d, d, d, d, d, d, d, d, d, d, d, d, d, d, d, d, d, d, d, d, d, d, d]), (.exit 0, [.box 100000 [.own (.pair (.pair (.int .i64) (.sl (.int .i64))) .str) 100001 true, .val .bool], d, .cell (.val .str), d, .box 100400 [.val (.int .i64), .own (.int .i64) 100402 false], d, d, d, d, d, d, d, d, d, d, d, d, d, d, d, d, d, d, d, d, d, d, d, d, d, d, d, d, d, d, d, d, d, d, d, d, d, d, d, d, d, d, d, d, d, d, d, d, d, d, d, d, d, d, d, d, d, .cell (.val .bool), d, d, d, d, .ali 100000 0, .cell (.val (.sl (.pair (.pair (.int .i64) (.sl (.int .i64))) .str))), d, d, d, .cell (.val (.int .i64)), .box 107300 [.val (.int .i64), .val (.sl (.int .i64)), .val .str], d, d, d, d, d, d, d, d, d, d, d, d, d, d, d, d, d, d, d, d, d, d, d, d, d, d, d, d, d, d, d, d, d, d, d, d, d, d, d, d, d, d, d, d, d, d, d, d, d, d, d, d, d, d, d, d, d, d, d, d, d, d, d, d, d, d, d, d, d, d, d, d, d, d, d, d, d, d, d, d, d, d, d, d, d, d, d, d, d, d, d, d, d, d, d, d, d, d, d, d, d, d, d, d, d, d, d, d, d, d, d, d, d, d, d, d, d, d])]
noncomputable def spec_l8Elements_at78_l2 : (((List ((Int × (List Int)) × ByteArray)) × Bool × Unit) × ByteArray × (Int × (List Int) × Unit) × (List ((Int × (List Int)) × ByteArray)) × Int × Int × Bool × (List ((Int × (List Int)) × ByteArray)) × Int × (Int × (List Int) × ByteArray × Unit) × Unit) → Option ((((List ((Int × (List Int)) × ByteArray)) × Bool × Unit) × ByteArray × (Int × (List Int) × Unit) × (List ((Int × (List Int)) × ByteArray)) × Int × Int × Bool × (List ((Int × (List Int)) × ByteArray)) × Int × (Int × (List Int) × ByteArray × Unit) × Unit) ⊕ ((Bool × ((List ((Int × (List Int)) × ByteArray)) × Bool × Unit) × (List ((Int × (List Int)) × ByteArray)) × Int × (Int × (List Int) × ByteArray × Unit) × Unit) ⊕ (((List ((Int × (List Int)) × ByteArray)) × Bool × Unit) × ByteArray × (Int × (List Int) × Unit) × Bool × (List ((Int × (List Int)) × ByteArray)) × Int × (Int × (List Int) × ByteArray × Unit) × Unit))) := fun ((v0_0, v0_1, _), v2, (v4_0, v4_1, _), v11, v12, v13, v62, v68, v72, (v73_0, v73_1, v73_2, _), _) =>
  bif (decide (v13 < v12)) then
    if (((0 : Int) ≤ v13) ∧ (v13 < (((List.length v11) : Nat) : Int))) then
      Option.bind (spec_l2Same (List.getD v11 (Int.toNat v13) (((0 : Int), []), (⟨Array.empty⟩ : ByteArray))).1.2 (List.take (List.length v4_1) (List.drop 0 v4_1))) fun r0 =>
        bif r0 then
          if ((0 + (List.length v0_0)) = (List.length v0_0)) then
            some (Sum.inr (Sum.inl (v62, ((List.drop 0 v0_0), v0_1, ()), v68, v72, (v73_0, v73_1, v73_2, ()), ())))
          else
            none
        else
          if ((0 + (List.length v0_0)) = (List.length v0_0)) then
            some (Sum.inl (((List.drop 0 v0_0), v0_1, ()), v2, (v4_0, (List.take (List.length v4_1) (List.drop 0 v4_1)), ()), v11, v12, (IntKind.wrap .i64 (v13 + (1 : Int))), v62, v68, v72, (v73_0, v73_1, v73_2, ()), ()))
          else
            none
    else
      none
  else
    if ((0 + (List.length v0_0)) = (List.length v0_0)) then
      some (Sum.inr (Sum.inr (((List.drop 0 v0_0), v0_1, ()), v2, (v4_0, (List.take (List.length v4_1) (List.drop 0 v4_1)), ()), v62, v68, v72, (v73_0, v73_1, v73_2, ()), ())))
    else
      none
theorem spec_l8Elements_at78_l2_eq : loopStep 61 E177_at78 L177_at78_0 (loopOf f198 2) sh177_at78_2 xs177_at78_2 = spec_l8Elements_at78_l2 := by kernel_rfl
theorem loop177_at78_2 {L : Nat → Option LoopD} (h : L 2 = some ⟨61, sh177_at78_2, xs177_at78_2, spec_l8Elements_at78_l2⟩) : LoopOk prog L (loopOf f198 2) :=
  loopOk (tysOk_of tyl_ok) E177_at78_ok (codeOk_in (L := L177_at78_0) (tysOk_of tyl_ok) E177_at78_ok mixed (c := loopOf f198 2) (bs := []) (by kernel_rfl) allNil (by kernel_rfl)) (by kernel_rfl) (by kernel_rfl) spec_l8Elements_at78_l2_eq (by rw [show firstId (loopOf f198 2) = 2 from by kernel_rfl]; exact h)
noncomputable def L177_at78_1 : Nat → Option LoopD := fun n => ifEq n 2 (some ⟨61, sh177_at78_2, xs177_at78_2, spec_l8Elements_at78_l2⟩) (L177_at78_0 n)
def shi177_at78 : List Fm := [.box 100000 [.own (.pair (.pair (.int .i64) (.sl (.int .i64))) .str) 100001 true, .val .bool], .agg [.val (.int .i64), .own (.int .i64) 100102 false], .cell (.val .str), d, d, d, d, d, d, d, d, d, d, d, d, d, d, d, d, d, d, d, d, d, d, d, d, d, d, d, d, d, d, d, d, d, d, d, d, d, d, d, d, d, d, d, d, d, d, d, d, d, d, d, d, d, d, d, d, d, d, d, .cell (.val .bool), d, d, d, d, .ali 100000 0, .cell (.val (.sl (.pair (.pair (.int .i64) (.sl (.int .i64))) .str))), d, d, d, .cell (.val (.int .i64)), .box 107300 [.val (.int .i64), .val (.sl (.int .i64)), .val .str], d, d, d, d, d, d, d, d, d, d, d, d, d, d, d, d, d, d, d, d, d, d, d, d, d, d, d, d, d, d, d, d, d, d, d, d, d, d, d, d, d, d, d, d, d, d, d, d, d, d, d, d, d, d, d, d, d, d, d, d, d, d, d, d, d, d, d, d, d, d, d, d, d, d, d, d, d, d, d, d, d, d, d, d, d, d, d, d, d, d, d, d, d, d, d, d, d, d, d, d, d, d, d, d, d, d, d, d, d, d, d, d, d, d, d, d, d, d]
def sho177_at78 : List Fm := [d, .cell (.val .bool), d, d, d, d, .box 100600 [.own (.pair (.pair (.int .i64) (.sl (.int .i64))) .str) 100601 true, .val .bool], .cell (.val (.sl (.pair (.pair (.int .i64) (.sl (.int .i64))) .str))), d, d, d, .cell (.val (.int .i64)), .box 101200 [.val (.int .i64), .val (.sl (.int .i64)), .val .str], d, d, d, d, d, d, d, d, d, d, d, d, d, d, d, d, d, d, d, d, d, d, d, d, d, d, d, d, d, d, d, d, d, d, d, d, d, d, d, d, d, d, d, d, d, d, d, d, d, d, d, d, d, d, d, d, d, d, d, d, d, d, d, d, d, d, d, d, d, d, d, d, d, d, d, d, d, d, d, d, d, d, d, d, d, d, d, d, d, d, d, d, d, d, d, d, d, d, d, d, d, d, d, d, d, d, d, d, d, d, d, d, d, d, d, d, d, d]
noncomputable def spec_l8Elements_at78 : (((List ((Int × (List Int)) × ByteArray)) × Bool × Unit) × (Int × (List Int) × Unit) × ByteArray × Bool × (List ((Int × (List Int)) × ByteArray)) × Int × (Int × (List Int) × ByteArray × Unit) × Unit) → Option (Bool × ((List ((Int × (List Int)) × ByteArray)) × Bool × Unit) × (List ((Int × (List Int)) × ByteArray)) × Int × (Int × (List Int) × ByteArray × Unit) × Unit) := fun ((v0_0, v0_1, _), (v1_0, v1_1, _), v2, v62, v68, v72, (v73_0, v73_1, v73_2, _), _) =>
  if ((0 + (List.length v0_0)) = (List.length v0_0)) then
    Option.bind (loopF spec_l8Elements_at78_l2 (((List.drop 0 v0_0), v0_1, ()), v2, (v1_0, (List.take (List.length v1_1) (List.drop 0 v1_1)), ()), (List.take (List.length v0_0) (List.drop 0 v0_0)), (((List.length v0_0) : Nat) : Int), (0 : Int), v62, v68, v72, (v73_0, v73_1, v73_2, ()), ())) fun r0 =>
      (match r0 with
      | .inl (d1, (d2, d3, _), d4, d5, (d6, d7, d8, _), _) =>
          if ((0 + (List.length d2)) = (List.length d2)) then
            some (d1, ((List.drop 0 d2), d3, ()), d4, d5, (d6, d7, d8, ()), ())
          else
            none
      | .inr ((d9, d10, _), d11, (d12, d13, _), d14, d15, d16, (d17, d18, d19, _), _) =>
          bif d10 then
            if ((0 + (List.length d9)) = (List.length d9)) then
              some (d14, ((List.drop 0 d9), true, ()), d15, d16, (d17, d18, d19, ()), ())
            else
              none
          else
            bif (decide ((((List.length d9) : Nat) : Int) ≥ (120 : Int))) then
              if ((0 + (List.length d9)) = (List.length d9)) then
                some (d14, ((List.drop 0 d9), true, ()), d15, d16, (d17, d18, d19, ()), ())
              else
                none
            else
              bif (!(decide ((((ByteArray.size d11) : Nat) : Int) > (120 : Int)))) then
                if (((0 + (List.length d9)) = (List.length d9)) ∧ ((((List.length d9) + (List.length (List.take 1 (List.drop 0 [((d12, (List.take (List.length d13) (List.drop 0 d13))), d11)])))) * 48) ≤ 140737488355328)) then
                  if ((0 + ((List.length d9) + (List.length (List.take 1 (List.drop 0 [((d12, (List.take (List.length d13) (List.drop 0 d13))), d11)]))))) = (List.length ((List.drop 0 d9) ++ (List.take 1 (List.drop 0 [((d12, (List.take (List.length d13) (List.drop 0 d13))), d11)]))))) then
                    some (d14, ((List.drop 0 ((List.drop 0 d9) ++ (List.take 1 (List.drop 0 [((d12, (List.take (List.length d13) (List.drop 0 d13))), d11)])))), (decide ((((ByteArray.size d11) : Nat) : Int) > (120 : Int))), ()), d15, d16, (d17, d18, d19, ()), ())
                  else
                    none
                else
                  none
              else
                if ((0 + (List.length d9)) = (List.length d9)) then
                  some (d14, ((List.drop 0 d9), (decide ((((ByteArray.size d11) : Nat) : Int) > (120 : Int))), ()), d15, d16, (d17, d18, d19, ()), ())
                else
                  none)
  else
    none
theorem spec_l8Elements_at78_eq : inlStep f198.ntmps 131 78 E177_at78 L177_at78_1 f198.results.toList (codeOf f198) shi177_at78 sho177_at78 = spec_l8Elements_at78 := by kernel_rfl
noncomputable def I177_at78 : CallD := ⟨f198.ntmps, shi177_at78, 131, sho177_at78, spec_l8Elements_at78⟩
theorem I177_at78_ok : InlOk prog 78 198 I177_at78 := inlOk_of (tysOk_of tyl_ok) E177_at78_ok (L := L177_at78_1) func198 (by kernel_rfl) (c := codeOf f198) (by kernel_rfl) (codeOk_in (L := L177_at78_1) (tysOk_of tyl_ok) E177_at78_ok mixed (c := codeOf f198) (bs := [loopOf f198 2]) (by kernel_rfl) (allCons (loop177_at78_2 rfl) allNil) (by kernel_rfl)) (by kernel_rfl) (by kernel_rfl) spec_l8Elements_at78_eq
noncomputable def E177_at107 : Env := ⟨ty0, fun g => ifEq g 105 (some A105) (ifEq g 197 (some A197) (ifEq g 211 (some A211) (ifEq g 199 (some A199) (ifEq g 200 (some A200) (ifEq g 201 (some A201) (none)))))), fun _ => none, fun _ => none, fun _ => none⟩
theorem E177_at107_ok : FnsOk prog E177_at107 := (oneFn A105_ok func105 (by kernel_rfl) (by kernel_rfl) (oneFn A197_ok func197 (by kernel_rfl) (by kernel_rfl) (oneFn A211_ok func211 (by kernel_rfl) (by kernel_rfl) (oneFn A199_ok func199 (by kernel_rfl) (by kernel_rfl) (oneFn A200_ok func200 (by kernel_rfl) (by kernel_rfl) (oneFn A201_ok func201 (by kernel_rfl) (by kernel_rfl) (noFns _ _)))))))
noncomputable def L177_at107_0 : Nat → Option LoopD := fun _ => none
def sh177_at107_2 : List Fm := [.box 100000 [.own (.pair (.pair (.int .i64) (.sl (.int .i64))) .str) 100001 true, .val .bool], d, .cell (.val .str), d, .box 100400 [.val (.int .i64), .own (.int .i64) 100402 false], d, d, d, d, d, d, .cell (.val (.sl (.pair (.pair (.int .i64) (.sl (.int .i64))) .str))), .cell (.val (.int .i64)), .cell (.val (.int .i64)), d, d, d, d, d, d, d, d, d, d, d, d, d, d, d, d, d, d, d, d, d, d, d, d, d, d, d, d, d, d, d, d, d, d, d, d, d, d, d, d, d, d, d, d, d, d, d, d, .cell (.val .bool), d, d, d, d, .ali 100000 0, .cell (.val (.sl (.pair (.pair (.int .i64) (.sl (.int .i64))) .str))), d, d, d, .cell (.val (.int .i64)), .box 107300 [.val (.int .i64), .val (.sl (.int .i64)), .val .str], d, d, .box 107600 [.val (.int .i64), .val (.sl (.int .i64)), .val .str], d, d, d, d, d, d, d, d, d, d, d, d, d, d, d, d, d, d, d, d, d, d, d, d, d, d, d, d, d, d, d, d, d, d, d, d, d, d, d, d, d, d, d, d, d, d, d, d, d, d, d, d, d, d, d, d, d, d, d, d, d, d, d, d, d, d, d, d, d, d, d, d, d, d, .cell (.val (.sl (.pair (.pair (.int .i64) (.sl (.int .i64))) .str))), .cell (.val (.int .i64)), .cell (.val (.int .i64)), d, d, d, d, d, d, d, d, d, d, d, d, d, d, d, d, d, d, d, d, d, d, d, d, d, d, d, d, d, d, d, d, d, d, d, d, d, d]
def xs177_at107_2 : List (Ex × List Fm) := [(.ret, [d, d, d, d, d, d, d, d, d, d, d, d, d, d, d, d, d, d, d, d, d, d, d, d, d, d, d, d, d, d, d, d, d, d, d, d, d, d, d, d, d, d, d, d, d, d, d, d, d, d, d, d, d, d, d, d, d, d, d, d, d, d, .cell (.val .bool), d, d, d, d, .box 106700 [.own (.pair (.pair (.int .i64) (.sl (.int .i64))) .str) 106701 true, .val .bool], .cell (.val (.sl (.pair (.pair (.int .i64) (.sl (.int .i64))) .str))), d, d, d, .cell (.val (.int .i64)), .box 107300 [.val (.int .i64), .val (.sl (.int .i64)), .val .str], d, d, .box 107600 [.val (.int .i64), .val (.sl (.int .i64)), .val .str], d, d, d, d, d, d, d, d, d, d, d, d, d, d, d, d, d, d, d, d, d, d, d, d, d, d, d, d, d, d, d, d, d, d, d, d, d, d, d, d, d, d, d, d, d, d, d, d, d, d, d, d, d, d, d, d, d, d, d, d, d, d, d, d, d, d, d, d, d, d, d, d, d, d, .cell (.val (.sl (.pair (.pair (.int .i64) (.sl (.int .i64))) .str))), .cell (.val (.int .i64)), .cell (.val (.int .i64)), d, d, d, d, d, d, d, d, d, d, d, d, d, d, d, d, d, d, d, d, d, d, d, d, d, d, d, d, d, d, d, d, d, d, d, d, d, d]), (.exit 0, [.box 100000 [.own (.pair (.pair (.int .i64) (.sl (.int .i64))) .str) 100001 true, .val .bool], d, .cell (.val .str), d, .box 100400 [.val (.int .i64), .own (.int .i64) 100402 false], d, d, d, d, d, d, d, d, d, d, d, d, d, d, d, d, d, d, d, d, d, d, d, d, d, d, d, d, d, d, d, d, d, d, d, d, d, d, d, d, d, d, d, d, d, d, d, d, d, d, d, d, d, d, d, d, d, .cell (.val .bool), d, d, d, d, .ali 100000 0, .cell (.val (.sl (.pair (.pair (.int .i64) (.sl (.int .i64))) .str))), d, d, d, .cell (.val (.int .i64)), .box 107300 [.val (.int .i64), .val (.sl (.int .i64)), .val .str], d, d, .box 107600 [.val (.int .i64), .val (.sl (.int .i64)), .val .str], d, d, d, d, d, d, d, d, d, d, d, d, d, d, d, d, d, d, d, d, d, d, d, d, d, d, d, d, d, d, d, d, d, d, d, d, d, d, d, d, d, d, d, d, d, d, d, d, d, d, d, d, d, d, d, d, d, d, d, d, d, d, d, d, d, d, d, d, d, d, d, d, d, d, .cell (.val (.sl (.pair (.pair (.int .i64) (.sl (.int .i64))) .str))), .cell (.val (.int .i64)), .cell (.val (.int .i64)), d, d, d, d, d, d, d, d, d, d, d, d, d, d, d, d, d, d, d, d, d, d, d, d, d, d, d, d, d, d, d, d, d, d, d, d, d, d])]
noncomputable def spec_l8Elements_at107_l2 : (((List ((Int × (List Int)) × ByteArray)) × Bool × Unit) × ByteArray × (Int × (List Int) × Unit) × (List ((Int × (List Int)) × ByteArray)) × Int × Int × Bool × (List ((Int × (List Int)) × ByteArray)) × Int × (Int × (List Int) × ByteArray × Unit) × (Int × (List Int) × ByteArray × Unit) × (List ((Int × (List Int)) × ByteArray)) × Int × Int × Unit) → Option ((((List ((Int × (List Int)) × ByteArray)) × Bool × Unit) × ByteArray × (Int × (List Int) × Unit) × (List ((Int × (List Int)) × ByteArray)) × Int × Int × Bool × (List ((Int × (List Int)) × ByteArray)) × Int × (Int × (List Int) × ByteArray × Unit) × (Int × (List Int) × ByteArray × Unit) × (List ((Int × (List Int)) × ByteArray)) × Int × Int × Unit) ⊕ ((Bool × ((List ((Int × (List Int)) × ByteArray)) × Bool × Unit) × (List ((Int × (List Int)) × ByteArray)) × Int × (Int × (List Int) × ByteArray × Unit) × (Int × (List Int) × ByteArray × Unit) × (List ((Int × (List Int)) × ByteArray)) × Int × Int × Unit) ⊕ (((List ((Int × (List Int)) × ByteArray)) × Bool × Unit) × ByteArray × (Int × (List Int) × Unit) × Bool × (List ((Int × (List Int)) × ByteArray)) × Int × (Int × (List Int) × ByteArray × Unit) × (Int × (List Int) × ByteArray × Unit) × (List ((Int × (List Int)) × ByteArray)) × Int × Int × Unit))) := fun ((v0_0, v0_1, _), v2, (v4_0, v4_1, _), v11, v12, v13, v62, v68, v72, (v73_0, v73_1, v73_2, _), (v76_0, v76_1, v76_2, _), v151, v152, v153, _) =>
  bif (decide (v13 < v12)) then
    if (((0 : Int) ≤ v13) ∧ (v13 < (((List.length v11) : Nat) : Int))) then
      Option.bind (spec_l2Same (List.getD v11 (Int.toNat v13) (((0 : Int), []), (⟨Array.empty⟩ : ByteArray))).1.2 (List.take (List.length v4_1) (List.drop 0 v4_1))) fun r0 =>
        bif r0 then
          if ((0 + (List.length v0_0)) = (List.length v0_0)) then
            some (Sum.inr (Sum.inl (v62, ((List.drop 0 v0_0), v0_1, ()), v68, v72, (v73_0, v73_1, v73_2, ()), (v76_0, v76_1, v76_2, ()), v151, v152, v153, ())))
          else
            none
        else
          if ((0 + (List.length v0_0)) = (List.length v0_0)) then
            some (Sum.inl (((List.drop 0 v0_0), v0_1, ()), v2, (v4_0, (List.take (List.length v4_1) (List.drop 0 v4_1)), ()), v11, v12, (IntKind.wrap .i64 (v13 + (1 : Int))), v62, v68, v72, (v73_0, v73_1, v73_2, ()), (v76_0, v76_1, v76_2, ()), v151, v152, v153, ()))
          else
            none
    else
      none
  else
    if ((0 + (List.length v0_0)) = (List.length v0_0)) then
      some (Sum.inr (Sum.inr (((List.drop 0 v0_0), v0_1, ()), v2, (v4_0, (List.take (List.length v4_1) (List.drop 0 v4_1)), ()), v62, v68, v72, (v73_0, v73_1, v73_2, ()), (v76_0, v76_1, v76_2, ()), v151, v152, v153, ())))
    else
      none
theorem spec_l8Elements_at107_l2_eq : loopStep 61 E177_at107 L177_at107_0 (loopOf f198 2) sh177_at107_2 xs177_at107_2 = spec_l8Elements_at107_l2 := by kernel_rfl
theorem loop177_at107_2 {L : Nat → Option LoopD} (h : L 2 = some ⟨61, sh177_at107_2, xs177_at107_2, spec_l8Elements_at107_l2⟩) : LoopOk prog L (loopOf f198 2) :=
  loopOk (tysOk_of tyl_ok) E177_at107_ok (codeOk_in (L := L177_at107_0) (tysOk_of tyl_ok) E177_at107_ok mixed (c := loopOf f198 2) (bs := []) (by kernel_rfl) allNil (by kernel_rfl)) (by kernel_rfl) (by kernel_rfl) spec_l8Elements_at107_l2_eq (by rw [show firstId (loopOf f198 2) = 2 from by kernel_rfl]; exact h)
noncomputable def L177_at107_1 : Nat → Option LoopD := fun n => ifEq n 2 (some ⟨61, sh177_at107_2, xs177_at107_2, spec_l8Elements_at107_l2⟩) (L177_at107_0 n)
def shi177_at107 : List Fm := [.box 100000 [.own (.pair (.pair (.int .i64) (.sl (.int .i64))) .str) 100001 true, .val .bool], .agg [.val (.int .i64), .own (.int .i64) 100102 false], .cell (.val .str), d, d, d, d, d, d, d, d, d, d, d, d, d, d, d, d, d, d, d, d, d, d, d, d, d, d, d, d, d, d, d, d, d, d, d, d, d, d, d, d, d, d, d, d, d, d, d, d, d, d, d, d, d, d, d, d, d, d, d, .cell (.val .bool), d, d, d, d, .ali 100000 0, .cell (.val (.sl (.pair (.pair (.int .i64) (.sl (.int .i64))) .str))), d, d, d, .cell (.val (.int .i64)), .box 107300 [.val (.int .i64), .val (.sl (.int .i64)), .val .str], d, d, .box 107600 [.val (.int .i64), .val (.sl (.int .i64)), .val .str], d, d, d, d, d, d, d, d, d, d, d, d, d, d, d, d, d, d, d, d, d, d, d, d, d, d, d, d, d, d, d, d, d, d, d, d, d, d, d, d, d, d, d, d, d, d, d, d, d, d, d, d, d, d, d, d, d, d, d, d, d, d, d, d, d, d, d, d, d, d, d, d, d, d, .cell (.val (.sl (.pair (.pair (.int .i64) (.sl (.int .i64))) .str))), .cell (.val (.int .i64)), .cell (.val (.int .i64)), d, d, d, d, d, d, d, d, d, d, d, d, d, d, d, d, d, d, d, d, d, d, d, d, d, d, d, d, d, d, d, d, d, d, d, d, d, d]
def sho177_at107 : List Fm := [d, .cell (.val .bool), d, d, d, d, .box 100600 [.own (.pair (.pair (.int .i64) (.sl (.int .i64))) .str) 100601 true, .val .bool], .cell (.val (.sl (.pair (.pair (.int .i64) (.sl (.int .i64))) .str))), d, d, d, .cell (.val (.int .i64)), .box 101200 [.val (.int .i64), .val (.sl (.int .i64)), .val .str], d, d, .box 101500 [.val (.int .i64), .val (.sl (.int .i64)), .val .str], d, d, d, d, d, d, d, d, d, d, d, d, d, d, d, d, d, d, d, d, d, d, d, d, d, d, d, d, d, d, d, d, d, d, d, d, d, d, d, d, d, d, d, d, d, d, d, d, d, d, d, d, d, d, d, d, d, d, d, d, d, d, d, d, d, d, d, d, d, d, d, d, d, d, .cell (.val (.sl (.pair (.pair (.int .i64) (.sl (.int .i64))) .str))), .cell (.val (.int .i64)), .cell (.val (.int .i64)), d, d, d, d, d, d, d, d, d, d, d, d, d, d, d, d, d, d, d, d, d, d, d, d, d, d, d, d, d, d, d, d, d, d, d, d, d, d]
noncomputable def spec_l8Elements_at107 : (((List ((Int × (List Int)) × ByteArray)) × Bool × Unit) × (Int × (List Int) × Unit) × ByteArray × Bool × (List ((Int × (List Int)) × ByteArray)) × Int × (Int × (List Int) × ByteArray × Unit) × (Int × (List Int) × ByteArray × Unit) × (List ((Int × (List Int)) × ByteArray)) × Int × Int × Unit) → Option (Bool × ((List ((Int × (List Int)) × ByteArray)) × Bool × Unit) × (List ((Int × (List Int)) × ByteArray)) × Int × (Int × (List Int) × ByteArray × Unit) × (Int × (List Int) × ByteArray × Unit) × (List ((Int × (List Int)) × ByteArray)) × Int × Int × Unit) := fun ((v0_0, v0_1, _), (v1_0, v1_1, _), v2, v62, v68, v72, (v73_0, v73_1, v73_2, _), (v76_0, v76_1, v76_2, _), v151, v152, v153, _) =>
  if ((0 + (List.length v0_0)) = (List.length v0_0)) then
    Option.bind (loopF spec_l8Elements_at107_l2 (((List.drop 0 v0_0), v0_1, ()), v2, (v1_0, (List.take (List.length v1_1) (List.drop 0 v1_1)), ()), (List.take (List.length v0_0) (List.drop 0 v0_0)), (((List.length v0_0) : Nat) : Int), (0 : Int), v62, v68, v72, (v73_0, v73_1, v73_2, ()), (v76_0, v76_1, v76_2, ()), v151, v152, v153, ())) fun r0 =>
      (match r0 with
      | .inl (d1, (d2, d3, _), d4, d5, (d6, d7, d8, _), (d9, d10, d11, _), d12, d13, d14, _) =>
          if ((0 + (List.length d2)) = (List.length d2)) then
            some (d1, ((List.drop 0 d2), d3, ()), d4, d5, (d6, d7, d8, ()), (d9, d10, d11, ()), d12, d13, d14, ())
          else
            none
      | .inr ((d15, d16, _), d17, (d18, d19, _), d20, d21, d22, (d23, d24, d25, _), (d26, d27, d28, _), d29, d30, d31, _) =>
          bif d16 then
            if ((0 + (List.length d15)) = (List.length d15)) then
              some (d20, ((List.drop 0 d15), true, ()), d21, d22, (d23, d24, d25, ()), (d26, d27, d28, ()), d29, d30, d31, ())
            else
              none
          else
            bif (decide ((((List.length d15) : Nat) : Int) ≥ (120 : Int))) then
              if ((0 + (List.length d15)) = (List.length d15)) then
                some (d20, ((List.drop 0 d15), true, ()), d21, d22, (d23, d24, d25, ()), (d26, d27, d28, ()), d29, d30, d31, ())
              else
                none
            else
              bif (!(decide ((((ByteArray.size d17) : Nat) : Int) > (120 : Int)))) then
                if (((0 + (List.length d15)) = (List.length d15)) ∧ ((((List.length d15) + (List.length (List.take 1 (List.drop 0 [((d18, (List.take (List.length d19) (List.drop 0 d19))), d17)])))) * 48) ≤ 140737488355328)) then
                  if ((0 + ((List.length d15) + (List.length (List.take 1 (List.drop 0 [((d18, (List.take (List.length d19) (List.drop 0 d19))), d17)]))))) = (List.length ((List.drop 0 d15) ++ (List.take 1 (List.drop 0 [((d18, (List.take (List.length d19) (List.drop 0 d19))), d17)]))))) then
                    some (d20, ((List.drop 0 ((List.drop 0 d15) ++ (List.take 1 (List.drop 0 [((d18, (List.take (List.length d19) (List.drop 0 d19))), d17)])))), (decide ((((ByteArray.size d17) : Nat) : Int) > (120 : Int))), ()), d21, d22, (d23, d24, d25, ()), (d26, d27, d28, ()), d29, d30, d31, ())
                  else
                    none
                else
                  none
              else
                if ((0 + (List.length d15)) = (List.length d15)) then
                  some (d20, ((List.drop 0 d15), (decide ((((ByteArray.size d17) : Nat) : Int) > (120 : Int))), ()), d21, d22, (d23, d24, d25, ()), (d26, d27, d28, ()), d29, d30, d31, ())
                else
                  none)
  else
    none
theorem spec_l8Elements_at107_eq : inlStep f198.ntmps 131 107 E177_at107 L177_at107_1 f198.results.toList (codeOf f198) shi177_at107 sho177_at107 = spec_l8Elements_at107 := by kernel_rfl
noncomputable def I177_at107 : CallD := ⟨f198.ntmps, shi177_at107, 131, sho177_at107, spec_l8Elements_at107⟩
theorem I177_at107_ok : InlOk prog 107 198 I177_at107 := inlOk_of (tysOk_of tyl_ok) E177_at107_ok (L := L177_at107_1) func198 (by kernel_rfl) (c := codeOf f198) (by kernel_rfl) (codeOk_in (L := L177_at107_1) (tysOk_of tyl_ok) E177_at107_ok mixed (c := codeOf f198) (bs := [loopOf f198 2]) (by kernel_rfl) (allCons (loop177_at107_2 rfl) allNil) (by kernel_rfl)) (by kernel_rfl) (by kernel_rfl) spec_l8Elements_at107_eq
noncomputable def E177_at120 : Env := ⟨ty0, fun g => ifEq g 105 (some A105) (ifEq g 197 (some A197) (ifEq g 211 (some A211) (ifEq g 199 (some A199) (ifEq g 200 (some A200) (ifEq g 201 (some A201) (none)))))), fun _ => none, fun _ => none, fun _ => none⟩
theorem E177_at120_ok : FnsOk prog E177_at120 := (oneFn A105_ok func105 (by kernel_rfl) (by kernel_rfl) (oneFn A197_ok func197 (by kernel_rfl) (by kernel_rfl) (oneFn A211_ok func211 (by kernel_rfl) (by kernel_rfl) (oneFn A199_ok func199 (by kernel_rfl) (by kernel_rfl) (oneFn A200_ok func200 (by kernel_rfl) (by kernel_rfl) (oneFn A201_ok func201 (by kernel_rfl) (by kernel_rfl) (noFns _ _)))))))
noncomputable def L177_at120_0 : Nat → Option LoopD := fun _ => none
def sh177_at120_2 : List Fm := [.box 100000 [.own (.pair (.pair (.int .i64) (.sl (.int .i64))) .str) 100001 true, .val .bool], d, .cell (.val .str), d, .box 100400 [.val (.int .i64), .own (.int .i64) 100402 false], d, d, d, d, d, d, .cell (.val (.sl (.pair (.pair (.int .i64) (.sl (.int .i64))) .str))), .cell (.val (.int .i64)), .cell (.val (.int .i64)), d, d, d, d, d, d, d, d, d, d, d, d, d, d, d, d, d, d, d, d, d, d, d, d, d, d, d, d, d, d, d, d, d, d, d, d, d, d, d, d, d, d, d, d, d, d, d, d, .cell (.val .bool), d, d, d, d, .ali 100000 0, .cell (.val (.sl (.pair (.pair (.int .i64) (.sl (.int .i64))) .str))), d, d, d, .cell (.val (.int .i64)), .box 107300 [.val (.int .i64), .val (.sl (.int .i64)), .val .str], d, d, d, d, d, d, d, d, d, d, d, d, d, d, d, d, d, d, d, d, d, d, d, d, d, d, d, d, d, d, d, d, d, d, d, d, d, d, d, d, d, d, d, d, d, d, d, d, d, d, d, d, d, d, d, d, d, d, d, d, d, d, d, d, d, d, d, d, d, d, d, d, d, d, d, d, d, .cell (.val (.sl (.pair (.pair (.int .i64) (.sl (.int .i64))) .str))), .cell (.val (.int .i64)), .cell (.val (.int .i64)), d, d, d, d, d, d, d, d, d, d, d, d, d, d, d, d, d, d, d, d, d, d, d, d, d, d, d, d, d, d, d, d, d, d, d, d, d, d]
def xs177_at120_2 : List (Ex × List Fm) := [(.ret, [d, d, d, d, d, d, d, d, d, d, d, d, d, d, d, d, d, d, d, d, d, d, d, d, d, d, d, d, d, d, d, d, d, d, d, d, d, d, d, d, d, d, d, d, d, d, d, d, d, d, d, d, d, d, d, d, d, d, d, d, d, d, .cell (.val .bool), d, d, d, d, .box 106700 [.own (.pair (.pair (.int .i64) (.sl (.int .i64))) .str) 106701 true, .val .bool], .cell (.val (.sl (.pair (.pair (.int .i64) (.sl (.int .i64))) .str))), d, d, d, .cell (.val (.int .i64)), .box 107300 [.val (.int .i64), .val (.sl (.int .i64)), .val .str], d, d, d, d, d, d, d, d, d, d, d, d, d, d, d, d, d, d, d, d, d, d, d, d, d, d, d, d, d, d, d, d, d, d, d, d, d, d, d, d, d, d, d, d, d, d, d, d, d, d, d, d, d, d, d, d, d, d, d, d, d, d, d, d, d, d, d, d, d, d, d, d, d, d, d, d, d, .cell (.val (.sl (.pair (.pair (.int .i64) (.sl (.int .i64))) .str))), .cell (.val (.int .i64)), .cell (.val (.int .i64)), d, d, d, d, d, d, d, d, d, d, d, d, d, d, d, d, d, d, d, d, d, d, d, d, d, d, d, d, d, d, d, d, d, d, d, d, d, d]), (.exit 0, [.box 100000 [.own (.pair (.pair (.int .i64) (.sl (.int .i64))) .str) 100001 true, .val .bool], d, .cell (.val .str), d, .box 100400 [.val (.int .i64), .own (.int .i64) 100402 false], d, d, d, d, d, d, d, d, d, d, d, d, d, d, d, d, d, d, d, d, d, d, d, d, d, d, d, d, d, d, d, d, d, d, d, d, d, d, d, d, d, d, d, d, d, d, d, d, d, d, d, d, d, d, d, d, d, .cell (.val .bool), d, d, d, d, .ali 100000 0, .cell (.val (.sl (.pair (.pair (.int .i64) (.sl (.int .i64))) .str))), d, d, d, .cell (.val (.int .i64)), .box 107300 [.val (.int .i64), .val (.sl (.int .i64)), .val .str], d, d, d, d, d, d, d, d, d, d, d, d, d, d, d, d, d, d, d, d, d, d, d, d, d, d, d, d, d, d, d, d, d, d, d, d, d, d, d, d, d, d, d, d, d, d, d, d, d, d, d, d, d, d, d, d, d, d, d, d, d, d, d, d, d, d, d, d, d, d, d, d, d, d, d, d, d, .cell (.val (.sl (.pair (.pair (.int .i64) (.sl (.int .i64))) .str))), .cell (.val (.int .i64)), .cell (.val (.int .i64)), d, d, d, d, d, d, d, d, d, d, d, d, d, d, d, d, d, d, d, d, d, d, d, d, d, d, d, d, d, d, d, d, d, d, d, d, d, d])]
noncomputable def spec_l8Elements_at120_l2 : (((List ((Int × (List Int)) × ByteArray)) × Bool × Unit) × ByteArray × (Int × (List Int) × Unit) × (List ((Int × (List Int)) × ByteArray)) × Int × Int × Bool × (List ((Int × (List Int)) × ByteArray)) × Int × (Int × (List Int) × ByteArray × Unit) × (List ((Int × (List Int)) × ByteArray)) × Int × Int × Unit) → Option ((((List ((Int × (List Int)) × ByteArray)) × Bool × Unit) × ByteArray × (Int × (List Int) × Unit) × (List ((Int × (List Int)) × ByteArray)) × Int × Int × Bool × (List ((Int × (List Int)) × ByteArray)) × Int × (Int × (List Int) × ByteArray × Unit) × (List ((Int × (List Int)) × ByteArray)) × Int × Int × Unit) ⊕ ((Bool × ((List ((Int × (List Int)) × ByteArray)) × Bool × Unit) × (List ((Int × (List Int)) × ByteArray)) × Int × (Int × (List Int) × ByteArray × Unit) × (List ((Int × (List Int)) × ByteArray)) × Int × Int × Unit) ⊕ (((List ((Int × (List Int)) × ByteArray)) × Bool × Unit) × ByteArray × (Int × (List Int) × Unit) × Bool × (List ((Int × (List Int)) × ByteArray)) × Int × (Int × (List Int) × ByteArray × Unit) × (List ((Int × (List Int)) × ByteArray)) × Int × Int × Unit))) := fun ((v0_0, v0_1, _), v2, (v4_0, v4_1, _), v11, v12, v13, v62, v68, v72, (v73_0, v73_1, v73_2, _), v151, v152, v153, _) =>
  bif (decide (v13 < v12)) then
    if (((0 : Int) ≤ v13) ∧ (v13 < (((List.length v11) : Nat) : Int))) then
      Option.bind (spec_l2Same (List.getD v11 (Int.toNat v13) (((0 : Int), []), (⟨Array.empty⟩ : ByteArray))).1.2 (List.take (List.length v4_1) (List.drop 0 v4_1))) fun r0 =>
        bif r0 then
          if ((0 + (List.length v0_0)) = (List.length v0_0)) then
            some (Sum.inr (Sum.inl (v62, ((List.drop 0 v0_0), v0_1, ()), v68, v72, (v73_0, v73_1, v73_2, ()), v151, v152, v153, ())))
          else
            none
        else
          if ((0 + (List.length v0_0)) = (List.length v0_0)) then
            some (Sum.inl (((List.drop 0 v0_0), v0_1, ()), v2, (v4_0, (List.take (List.length v4_1) (List.drop 0 v4_1)), ()), v11, v12, (IntKind.wrap .i64 (v13 + (1 : Int))), v62, v68, v72, (v73_0, v73_1, v73_2, ()), v151, v152, v153, ()))
          else
            none
    else
      none
  else
    if ((0 + (List.length v0_0)) = (List.length v0_0)) then
      some (Sum.inr (Sum.inr (((List.drop 0 v0_0), v0_1, ()), v2, (v4_0, (List.take (List.length v4_1) (List.drop 0 v4_1)), ()), v62, v68, v72, (v73_0, v73_1, v73_2, ()), v151, v152, v153, ())))
    else
      none
theorem spec_l8Elements_at120_l2_eq : loopStep 61 E177_at120 L177_at120_0 (loopOf f198 2) sh177_at120_2 xs177_at120_2 = spec_l8Elements_at120_l2 := by kernel_rfl
theorem loop177_at120_2 {L : Nat → Option LoopD} (h : L 2 = some ⟨61, sh177_at120_2, xs177_at120_2, spec_l8Elements_at120_l2⟩) : LoopOk prog L (loopOf f198 2) :=
  loopOk (tysOk_of tyl_ok) E177_at120_ok (codeOk_in (L := L177_at120_0) (tysOk_of tyl_ok) E177_at120_ok mixed (c := loopOf f198 2) (bs := []) (by kernel_rfl) allNil (by kernel_rfl)) (by kernel_rfl) (by kernel_rfl) spec_l8Elements_at120_l2_eq (by rw [show firstId (loopOf f198 2) = 2 from by kernel_rfl]; exact h)
noncomputable def L177_at120_1 : Nat → Option LoopD := fun n => ifEq n 2 (some ⟨61, sh177_at120_2, xs177_at120_2, spec_l8Elements_at120_l2⟩) (L177_at120_0 n)
def shi177_at120 : List Fm := [.box 100000 [.own (.pair (.pair (.int .i64) (.sl (.int .i64))) .str) 100001 true, .val .bool], .agg [.val (.int .i64), .own (.int .i64) 100102 false], .cell (.val .str), d, d, d, d, d, d, d, d, d, d, d, d, d, d, d, d, d, d, d, d, d, d, d, d, d, d, d, d, d, d, d, d, d, d, d, d, d, d, d, d, d, d, d, d, d, d, d, d, d, d, d, d, d, d, d, d, d, d, d, .cell (.val .bool), d, d, d, d, .ali 100000 0, .cell (.val (.sl (.pair (.pair (.int .i64) (.sl (.int .i64))) .str))), d, d, d, .cell (.val (.int .i64)), .box 107300 [.val (.int .i64), .val (.sl (.int .i64)), .val .str], d, d, d, d, d, d, d, d, d, d, d, d, d, d, d, d, d, d, d, d, d, d, d, d, d, d, d, d, d, d, d, d, d, d, d, d, d, d, d, d, d, d, d, d, d, d, d, d, d, d, d, d, d, d, d, d, d, d, d, d, d, d, d, d, d, d, d, d, d, d, d, d, d, d, d, d, d, .cell (.val (.sl (.pair (.pair (.int .i64) (.sl (.int .i64))) .str))), .cell (.val (.int .i64)), .cell (.val (.int .i64)), d, d, d, d, d, d, d, d, d, d, d, d, d, d, d, d, d, d, d, d, d, d, d, d, d, d, d, d, d, d, d, d, d, d, d, d, d, d]
def sho177_at120 : List Fm := [d, .cell (.val .bool), d, d, d, d, .box 100600 [.own (.pair (.pair (.int .i64) (.sl (.int .i64))) .str) 100601 true, .val .bool], .cell (.val (.sl (.pair (.pair (.int .i64) (.sl (.int .i64))) .str))), d, d, d, .cell (.val (.int .i64)), .box 101200 [.val (.int .i64), .val (.sl (.int .i64)), .val .str], d, d, d, d, d, d, d, d, d, d, d, d, d, d, d, d, d, d, d, d, d, d, d, d, d, d, d, d, d, d, d, d, d, d, d, d, d, d, d, d, d, d, d, d, d, d, d, d, d, d, d, d, d, d, d, d, d, d, d, d, d, d, d, d, d, d, d, d, d, d, d, d, d, d, d, d, d, .cell (.val (.sl (.pair (.pair (.int .i64) (.sl (.int .i64))) .str))), .cell (.val (.int .i64)), .cell (.val (.int .i64)), d, d, d, d, d, d, d, d, d, d, d, d, d, d, d, d, d, d, d, d, d, d, d, d, d, d, d, d, d, d, d, d, d, d, d, d, d, d]
noncomputable def spec_l8Elements_at120 : (((List ((Int × (List Int)) × ByteArray)) × Bool × Unit) × (Int × (List Int) × Unit) × ByteArray × Bool × (List ((Int × (List Int)) × ByteArray)) × Int × (Int × (List Int) × ByteArray × Unit) × (List ((Int × (List Int)) × ByteArray)) × Int × Int × Unit) → Option (Bool × ((List ((Int × (List Int)) × ByteArray)) × Bool × Unit) × (List ((Int × (List Int)) × ByteArray)) × Int × (Int × (List Int) × ByteArray × Unit) × (List ((Int × (List Int)) × ByteArray)) × Int × Int × Unit) := fun ((v0_0, v0_1, _), (v1_0, v1_1, _), v2, v62, v68, v72, (v73_0, v73_1, v73_2, _), v151, v152, v153, _) =>
  if ((0 + (List.length v0_0)) = (List.length v0_0)) then
    Option.bind (loopF spec_l8Elements_at120_l2 (((List.drop 0 v0_0), v0_1, ()), v2, (v1_0, (List.take (List.length v1_1) (List.drop 0 v1_1)), ()), (List.take (List.length v0_0) (List.drop 0 v0_0)), (((List.length v0_0) : Nat) : Int), (0 : Int), v62, v68, v72, (v73_0, v73_1, v73_2, ()), v151, v152, v153, ())) fun r0 =>
      (match r0 with
      | .inl (d1, (d2, d3, _), d4, d5, (d6, d7, d8, _), d9, d10, d11, _) =>
          if ((0 + (List.length d2)) = (List.length d2)) then
            some (d1, ((List.drop 0 d2), d3, ()), d4, d5, (d6, d7, d8, ()), d9, d10, d11, ())
          else
            none
      | .inr ((d12, d13, _), d14, (d15, d16, _), d17, d18, d19, (d20, d21, d22, _), d23, d24, d25, _) =>
          bif d13 then
            if ((0 + (List.length d12)) = (List.length d12)) then
              some (d17, ((List.drop 0 d12), true, ()), d18, d19, (d20, d21, d22, ()), d23, d24, d25, ())
            else
              none
          else
            bif (decide ((((List.length d12) : Nat) : Int) ≥ (120 : Int))) then
              if ((0 + (List.length d12)) = (List.length d12)) then
                some (d17, ((List.drop 0 d12), true, ()), d18, d19, (d20, d21, d22, ()), d23, d24, d25, ())
              else
                none
            else
              bif (!(decide ((((ByteArray.size d14) : Nat) : Int) > (120 : Int)))) then
                if (((0 + (List.length d12)) = (List.length d12)) ∧ ((((List.length d12) + (List.length (List.take 1 (List.drop 0 [((d15, (List.take (List.length d16) (List.drop 0 d16))), d14)])))) * 48) ≤ 140737488355328)) then
                  if ((0 + ((List.length d12) + (List.length (List.take 1 (List.drop 0 [((d15, (List.take (List.length d16) (List.drop 0 d16))), d14)]))))) = (List.length ((List.drop 0 d12) ++ (List.take 1 (List.drop 0 [((d15, (List.take (List.length d16) (List.drop 0 d16))), d14)]))))) then
                    some (d17, ((List.drop 0 ((List.drop 0 d12) ++ (List.take 1 (List.drop 0 [((d15, (List.take (List.length d16) (List.drop 0 d16))), d14)])))), (decide ((((ByteArray.size d14) : Nat) : Int) > (120 : Int))), ()), d18, d19, (d20, d21, d22, ()), d23, d24, d25, ())
                  else
                    none
                else
                  none
              else
                if ((0 + (List.length d12)) = (List.length d12)) then
                  some (d17, ((List.drop 0 d12), (decide ((((ByteArray.size d14) : Nat) : Int) > (120 : Int))), ()), d18, d19, (d20, d21, d22, ()), d23, d24, d25, ())
                else
                  none)
  else
    none
theorem spec_l8Elements_at120_eq : inlStep f198.ntmps 131 120 E177_at120 L177_at120_1 f198.results.toList (codeOf f198) shi177_at120 sho177_at120 = spec_l8Elements_at120 := by kernel_rfl
noncomputable def I177_at120 : CallD := ⟨f198.ntmps, shi177_at120, 131, sho177_at120, spec_l8Elements_at120⟩
theorem I177_at120_ok : InlOk prog 120 198 I177_at120 := inlOk_of (tysOk_of tyl_ok) E177_at120_ok (L := L177_at120_1) func198 (by kernel_rfl) (c := codeOf f198) (by kernel_rfl) (codeOk_in (L := L177_at120_1) (tysOk_of tyl_ok) E177_at120_ok mixed (c := codeOf f198) (bs := [loopOf f198 2]) (by kernel_rfl) (allCons (loop177_at120_2 rfl) allNil) (by kernel_rfl)) (by kernel_rfl) (by kernel_rfl) spec_l8Elements_at120_eq
noncomputable def E177 : Env := ⟨ty0, fun g => ifEq g 105 (some A105) (ifEq g 197 (some A197) (ifEq g 211 (some A211) (ifEq g 199 (some A199) (ifEq g 200 (some A200) (ifEq g 201 (some A201) (none)))))), fun _ => none, fun _ => none, fun d => ifI (Nat.beq d 39) (some (198, I177_at39)) (ifI (Nat.beq d 78) (some (198, I177_at78)) (ifI (Nat.beq d 107) (some (198, I177_at107)) (ifI (Nat.beq d 120) (some (198, I177_at120)) (none))))⟩
theorem E177_ok : FnsOk prog E177 := (oneIl (d0 := 39) (g0 := 198) I177_at39_ok (oneIl (d0 := 78) (g0 := 198) I177_at78_ok (oneIl (d0 := 107) (g0 := 198) I177_at107_ok (oneIl (d0 := 120) (g0 := 198) I177_at120_ok (oneFn A105_ok func105 (by kernel_rfl) (by kernel_rfl) (oneFn A197_ok func197 (by kernel_rfl) (by kernel_rfl) (oneFn A211_ok func211 (by kernel_rfl) (by kernel_rfl) (oneFn A199_ok func199 (by kernel_rfl) (by kernel_rfl) (oneFn A200_ok func200 (by kernel_rfl) (by kernel_rfl) (oneFn A201_ok func201 (by kernel_rfl) (by kernel_rfl) (noFns _ _)))))))))))
noncomputable def L177_0 : Nat → Option LoopD := fun _ => none
def sh177_4 : List Fm := [d, .cell (.val .bool), .box 100200 [.val (.int .i64), .val (.sl (.int .i64)), .val (.sl (.int .i64)), .val (.sl (.pair (.int .i64) (.pair .str (.pair (.int .i64) (.int .i64)))))], d, d, d, .box 100600 [.own (.pair (.pair (.int .i64) (.sl (.int .i64))) .str) 100601 true, .val .bool], .cell (.own (.pair (.pair (.int .i64) (.sl (.int .i64))) .str) 100700 false), d, d, d, d, d, d, d, d, d, d, d, d, .cell (.own .str 102000 false), .cell (.val (.int .i64)), .cell (.val (.int .i64)), d, d, d, d, d, d, d, d, d, d, d, d, d, d, d, d, d, d, d, d, d, d, d, d, d, d, d, d, d, d, d, d, d, d, d, d, d, d, d, d, d, d, d, d, d, d, d, d, d, d, d, d, d, d, d, d, d, d, d, d, d, d, d, d, d, d, d, d, d, d, d, d, d, d, d, d, d, d, d, d, d, d, d, d, d, d, d, d, d, d, d, d, d, d, d, d, d, d, d, d, d, d, d, d, d, d, d, d]
def xs177_4 : List (Ex × List Fm) := [(.exit 0, [d, .cell (.val .bool), d, d, d, d, .box 100600 [.own (.pair (.pair (.int .i64) (.sl (.int .i64))) .str) 100601 true, .val .bool], .cell (.own (.pair (.pair (.int .i64) (.sl (.int .i64))) .str) 100700 false), d, d, d, d, d, d, d, d, d, d, d, d, d, d, d, d, d, d, d, d, d, d, d, d, d, d, d, d, d, d, d, d, d, d, d, d, d, d, d, d, d, d, d, d, d, d, d, d, d, d, d, d, d, d, d, d, d, d, d, d, d, d, d, d, d, d, d, d, d, d, d, d, d, d, d, d, d, d, d, d, d, d, d, d, d, d, d, d, d, d, d, d, d, d, d, d, d, d, d, d, d, d, d, d, d, d, d, d, d, d, d, d, d, d, d, d, d, d, d, d, d, d, d])]
noncomputable def spec_l8Elements_l4 : (Bool × (Int × (List Int) × (List Int) × (List (Int × (ByteArray × (Int × Int)))) × Unit) × ((List ((Int × (List Int)) × ByteArray)) × Bool × Unit) × (List ((Int × (List Int)) × ByteArray)) × (List ByteArray) × Int × Int × Unit) → Option ((Bool × (Int × (List Int) × (List Int) × (List (Int × (ByteArray × (Int × Int)))) × Unit) × ((List ((Int × (List Int)) × ByteArray)) × Bool × Unit) × (List ((Int × (List Int)) × ByteArray)) × (List ByteArray) × Int × Int × Unit) ⊕ ((Bool × ((List ((Int × (List Int)) × ByteArray)) × Bool × Unit) × (List ((Int × (List Int)) × ByteArray)) × Unit))) := fun (v1, (v2_0, v2_1, v2_2, v2_3, _), (v6_0, v6_1, _), v7, v20, v21, v22, _) =>
  bif (decide (v22 < v21)) then
    if (((0 : Int) ≤ v22) ∧ (v22 < (((List.length v20) : Nat) : Int))) then
      Option.bind (spec_l3Matrix (v2_0, v2_1, v2_2, v2_3) (List.getD v20 (0 + (Int.toNat v22)) (⟨Array.empty⟩ : ByteArray))) fun (r0, r1) =>
        Option.bind (spec_l6Grades (r0, (List.take (List.length r1) (List.drop 0 r1)))) fun (r2, r3) =>
          if (((0 + (List.length v7)) = (List.length v7)) ∧ ((((List.length v7) + (List.length (List.take 1 (List.drop 0 [((r2, (List.take (List.length r3) (List.drop 0 r3))), (List.getD v20 (0 + (Int.toNat v22)) (⟨Array.empty⟩ : ByteArray)))])))) * 48) ≤ 140737488355328)) then
            if ((0 + (List.length v6_0)) = (List.length v6_0)) then
              Option.bind (spec_l8Elements_at39 (((List.drop 0 v6_0), v6_1, ()), (r2, (List.take (List.length r3) (List.drop 0 r3))), (List.getD v20 (0 + (Int.toNat v22)) (⟨Array.empty⟩ : ByteArray)), v1, (v2_0, v2_1, v2_2, v2_3, ()), (List.take ((List.length v7) + (List.length (List.take 1 (List.drop 0 [((r2, (List.take (List.length r3) (List.drop 0 r3))), (List.getD v20 (0 + (Int.toNat v22)) (⟨Array.empty⟩ : ByteArray)))])))) (List.drop 0 ((List.drop 0 v7) ++ (List.take 1 (List.drop 0 [((r2, (List.take (List.length r3) (List.drop 0 r3))), (List.getD v20 (0 + (Int.toNat v22)) (⟨Array.empty⟩ : ByteArray)))]))))), (List.take (List.length v20) (List.drop 0 v20)), v21, v22, ())) fun (r4, (r5, r6, r7, r8, _), (r9, r10, _), r11, r12, r13, r14, _) =>
                if ((0 + (List.length r9)) = (List.length r9)) then
                  some (Sum.inl (r4, (r5, r6, r7, r8, ()), ((List.drop 0 r9), r10, ()), (List.take (List.length r11) (List.drop 0 r11)), (List.take (List.length r12) (List.drop 0 r12)), r13, (IntKind.wrap .i64 (r14 + (1 : Int))), ()))
                else
                  none
            else
              none
          else
            none
    else
      none
  else
    if ((0 + (List.length v6_0)) = (List.length v6_0)) then
      some (Sum.inr (v1, ((List.drop 0 v6_0), v6_1, ()), (List.take (List.length v7) (List.drop 0 v7)), ()))
    else
      none
theorem spec_l8Elements_l4_eq : loopStep 131 E177 L177_0 (loopOf f177 4) sh177_4 xs177_4 = spec_l8Elements_l4 := by kernel_rfl
theorem loop177_4 {L : Nat → Option LoopD} (h : L 4 = some ⟨131, sh177_4, xs177_4, spec_l8Elements_l4⟩) : LoopOk prog L (loopOf f177 4) :=
  loopOk (tysOk_of tyl_ok) E177_ok (codeOk_in (L := L177_0) (tysOk_of tyl_ok) E177_ok mixed (c := loopOf f177 4) (bs := []) (by kernel_rfl) allNil (by kernel_rfl)) (by kernel_rfl) (by kernel_rfl) spec_l8Elements_l4_eq (by rw [show firstId (loopOf f177 4) = 4 from by kernel_rfl]; exact h)
noncomputable def L177_1 : Nat → Option LoopD := fun n => ifEq n 4 (some ⟨131, sh177_4, xs177_4, spec_l8Elements_l4⟩) (L177_0 n)
def sh177_20 : List Fm := [d, .cell (.val .bool), d, d, d, d, .box 100600 [.own (.pair (.pair (.int .i64) (.sl (.int .i64))) .str) 100601 true, .val .bool], .cell (.val (.sl (.pair (.pair (.int .i64) (.sl (.int .i64))) .str))), d, d, d, .cell (.val (.int .i64)), .box 101200 [.val (.int .i64), .val (.sl (.int .i64)), .val .str], d, d, d, d, d, d, d, d, d, d, d, d, d, d, d, d, d, d, d, d, d, d, d, d, d, d, d, d, d, d, d, d, d, d, d, d, d, d, d, d, d, d, d, d, d, d, d, d, d, d, d, d, d, d, d, d, d, d, d, d, d, d, d, d, d, d, d, d, d, d, d, d, d, d, d, d, d, .cell (.val (.sl (.pair (.pair (.int .i64) (.sl (.int .i64))) .str))), .cell (.val (.int .i64)), .cell (.val (.int .i64)), d, d, d, d, d, d, d, d, d, d, d, d, d, d, d, d, d, d, d, d, d, d, d, d, d, d, d, d, d, d, d, d, d, d, d, d, d, d]
def xs177_20 : List (Ex × List Fm) := [(.exit 4, [d, .cell (.val .bool), d, d, d, d, .box 100600 [.own (.pair (.pair (.int .i64) (.sl (.int .i64))) .str) 100601 true, .val .bool], .cell (.val (.sl (.pair (.pair (.int .i64) (.sl (.int .i64))) .str))), d, d, d, .cell (.val (.int .i64)), d, d, d, d, d, d, d, d, d, d, d, d, d, d, d, d, d, d, d, d, d, d, d, d, d, d, d, d, d, d, d, d, d, d, d, d, d, d, d, d, d, d, d, d, d, d, d, d, d, d, d, d, d, d, d, d, d, d, d, d, d, d, d, d, d, d, d, d, d, d, d, d, d, d, d, d, d, d, d, d, d, d, d, d, d, d, d, d, d, d, d, d, d, d, d, d, d, d, d, d, d, d, d, d, d, d, d, d, d, d, d, d, d, d, d, d, d, d, d])]
noncomputable def spec_l8Elements_l20 : (Bool × ((List ((Int × (List Int)) × ByteArray)) × Bool × Unit) × (List ((Int × (List Int)) × ByteArray)) × Int × (Int × (List Int) × ByteArray × Unit) × (List ((Int × (List Int)) × ByteArray)) × Int × Int × Unit) → Option ((Bool × ((List ((Int × (List Int)) × ByteArray)) × Bool × Unit) × (List ((Int × (List Int)) × ByteArray)) × Int × (Int × (List Int) × ByteArray × Unit) × (List ((Int × (List Int)) × ByteArray)) × Int × Int × Unit) ⊕ ((Bool × ((List ((Int × (List Int)) × ByteArray)) × Bool × Unit) × (List ((Int × (List Int)) × ByteArray)) × Int × Unit))) := fun (v1, (v6_0, v6_1, _), v7, v11, (v12_0, v12_1, v12_2, _), v90, v91, v92, _) =>
  bif (decide (v92 < v91)) then
    if (((0 : Int) ≤ v92) ∧ (v92 < (((List.length v90) : Nat) : Int))) then
      Option.bind (spec_l6Mul (v12_0, v12_1) ((List.getD v90 (Int.toNat v92) (((0 : Int), []), (⟨Array.empty⟩ : ByteArray))).1.1, (List.getD v90 (Int.toNat v92) (((0 : Int), []), (⟨Array.empty⟩ : ByteArray))).1.2)) fun (r0, r1) =>
        if (((ByteArray.size v12_2) + (ByteArray.size (List.getD v90 (Int.toNat v92) (((0 : Int), []), (⟨Array.empty⟩ : ByteArray))).2)) ≤ 9223372036854775807) then
          if ((0 + (List.length v6_0)) = (List.length v6_0)) then
            Option.bind (spec_l8Elements_at107 (((List.drop 0 v6_0), v6_1, ()), (r0, (List.take (List.length r1) (List.drop 0 r1)), ()), (v12_2 ++ (List.getD v90 (Int.toNat v92) (((0 : Int), []), (⟨Array.empty⟩ : ByteArray))).2), v1, v7, v11, (v12_0, v12_1, v12_2, ()), ((List.getD v90 (Int.toNat v92) (((0 : Int), []), (⟨Array.empty⟩ : ByteArray))).1.1, (List.getD v90 (Int.toNat v92) (((0 : Int), []), (⟨Array.empty⟩ : ByteArray))).1.2, (List.getD v90 (Int.toNat v92) (((0 : Int), []), (⟨Array.empty⟩ : ByteArray))).2, ()), v90, v91, v92, ())) fun (r2, (r3, r4, _), r5, r6, (r7, r8, r9, _), (r10, r11, r12, _), r13, r14, r15, _) =>
              bif r2 then
                Option.bind (spec_l6Mul (r10, r11) (r7, r8)) fun (r16, r17) =>
                  if (((ByteArray.size r12) + (ByteArray.size r9)) ≤ 9223372036854775807) then
                    if ((0 + (List.length r3)) = (List.length r3)) then
                      Option.bind (spec_l8Elements_at120 (((List.drop 0 r3), r4, ()), (r16, (List.take (List.length r17) (List.drop 0 r17)), ()), (r12 ++ r9), r2, r5, r6, (r7, r8, r9, ()), r13, r14, r15, ())) fun (r18, (r19, r20, _), r21, r22, (r23, r24, r25, _), r26, r27, r28, _) =>
                        if ((0 + (List.length r19)) = (List.length r19)) then
                          some (Sum.inl (r18, ((List.drop 0 r19), r20, ()), r21, r22, (r23, r24, r25, ()), r26, r27, (IntKind.wrap .i64 (r28 + (1 : Int))), ()))
                        else
                          none
                    else
                      none
                  else
                    none
              else
                if ((0 + (List.length r3)) = (List.length r3)) then
                  some (Sum.inl (r2, ((List.drop 0 r3), r4, ()), r5, r6, (r7, r8, r9, ()), r13, r14, (IntKind.wrap .i64 (r15 + (1 : Int))), ()))
                else
                  none
          else
            none
        else
          none
    else
      none
  else
    if ((0 + (List.length v6_0)) = (List.length v6_0)) then
      some (Sum.inr (v1, ((List.drop 0 v6_0), v6_1, ()), v7, v11, ()))
    else
      none
theorem spec_l8Elements_l20_eq : loopStep 131 E177 L177_1 (loopOf f177 20) sh177_20 xs177_20 = spec_l8Elements_l20 := by kernel_rfl
theorem loop177_20 {L : Nat → Option LoopD} (h : L 20 = some ⟨131, sh177_20, xs177_20, spec_l8Elements_l20⟩) : LoopOk prog L (loopOf f177 20) :=
  loopOk (tysOk_of tyl_ok) E177_ok (codeOk_in (L := L177_1) (tysOk_of tyl_ok) E177_ok mixed (c := loopOf f177 20) (bs := []) (by kernel_rfl) allNil (by kernel_rfl)) (by kernel_rfl) (by kernel_rfl) spec_l8Elements_l20_eq (by rw [show firstId (loopOf f177 20) = 20 from by kernel_rfl]; exact h)
noncomputable def L177_2 : Nat → Option LoopD := fun n => ifEq n 20 (some ⟨131, sh177_20, xs177_20, spec_l8Elements_l20⟩) (L177_1 n)
def sh177_11 : List Fm := [d, .cell (.val .bool), d, d, d, d, .box 100600 [.own (.pair (.pair (.int .i64) (.sl (.int .i64))) .str) 100601 true, .val .bool], .cell (.val (.sl (.pair (.pair (.int .i64) (.sl (.int .i64))) .str))), d, d, d, .cell (.val (.int .i64)), d, d, d, d, d, d, d, d, d, d, d, d, d, d, d, d, d, d, d, d, d, d, d, d, d, d, d, d, d, d, d, d, d, d, d, d, d, d, d, d, d, d, d, d, d, d, d, d, d, d, d, d, d, d, d, d, d, d, d, d, d, d, d, d, d, d, d, d, d, d, d, d, d, d, d, d, d, d, d, d, d, d, d, d, d, d, d, d, d, d, d, d, d, d, d, d, d, d, d, d, d, d, d, d, d, d, d, d, d, d, d, d, d, d, d, d, d, d, d]
def xs177_11 : List (Ex × List Fm) := [(.exit 2, [d, d, d, d, d, d, .box 100600 [.val (.sl (.pair (.pair (.int .i64) (.sl (.int .i64))) .str)), .val .bool], d, d, d, d, d, d, d, d, d, d, d, d, d, d, d, d, d, d, d, d, d, d, d, d, d, d, d, d, d, d, d, d, d, d, d, d, d, d, d, d, d, d, d, d, d, d, d, d, d, d, d, d, d, d, d, d, d, d, d, d, d, d, d, d, d, d, d, d, d, d, d, d, d, d, d, d, d, d, d, d, d, d, d, d, d, d, d, d, d, d, d, d, d, d, d, d, d, d, d, d, d, d, d, d, d, d, d, d, d, d, d, d, d, d, d, d, d, d, d, d, d, d, d, d])]
noncomputable def spec_l8Elements_l11 : (Bool × ((List ((Int × (List Int)) × ByteArray)) × Bool × Unit) × (List ((Int × (List Int)) × ByteArray)) × Int × Unit) → Option ((Bool × ((List ((Int × (List Int)) × ByteArray)) × Bool × Unit) × (List ((Int × (List Int)) × ByteArray)) × Int × Unit) ⊕ ((((List ((Int × (List Int)) × ByteArray)) × Bool × Unit) × Unit))) := fun (v1, (v6_0, v6_1, _), v7, v11, _) =>
  bif (decide (v11 < (((List.length v6_0) : Nat) : Int))) then
    bif (!v6_1) then
      if (((0 : Int) ≤ v11) ∧ (v11 < (((List.length v6_0) : Nat) : Int))) then
        bif v1 then
          Option.bind (spec_l6Idempotent ((List.getD v6_0 (0 + (Int.toNat v11)) (((0 : Int), []), (⟨Array.empty⟩ : ByteArray))).1.1, (List.getD v6_0 (0 + (Int.toNat v11)) (((0 : Int), []), (⟨Array.empty⟩ : ByteArray))).1.2)) fun r0 =>
            bif r0 then
              Option.bind (spec_l6Stable ((List.getD v6_0 (0 + (Int.toNat v11)) (((0 : Int), []), (⟨Array.empty⟩ : ByteArray))).1.1, (List.getD v6_0 (0 + (Int.toNat v11)) (((0 : Int), []), (⟨Array.empty⟩ : ByteArray))).1.2)) fun (r1, r2) =>
                if (((ByteArray.size (⟨#[(40 : UInt8)]⟩ : ByteArray)) + (ByteArray.size (List.getD v6_0 (0 + (Int.toNat v11)) (((0 : Int), []), (⟨Array.empty⟩ : ByteArray))).2)) ≤ 9223372036854775807) then
                  if (((ByteArray.size ((⟨#[(40 : UInt8)]⟩ : ByteArray) ++ (List.getD v6_0 (0 + (Int.toNat v11)) (((0 : Int), []), (⟨Array.empty⟩ : ByteArray))).2)) + (ByteArray.size (⟨#[(41 : UInt8), (35 : UInt8)]⟩ : ByteArray))) ≤ 9223372036854775807) then
                    if ((0 + (List.length v6_0)) = (List.length v6_0)) then
                      Option.bind (spec_l8Elements_at78 (((List.drop 0 v6_0), v6_1, ()), (r1, (List.take (List.length r2) (List.drop 0 r2)), ()), (((⟨#[(40 : UInt8)]⟩ : ByteArray) ++ (List.getD v6_0 (0 + (Int.toNat v11)) (((0 : Int), []), (⟨Array.empty⟩ : ByteArray))).2) ++ (⟨#[(41 : UInt8), (35 : UInt8)]⟩ : ByteArray)), v1, v7, v11, ((List.getD v6_0 (0 + (Int.toNat v11)) (((0 : Int), []), (⟨Array.empty⟩ : ByteArray))).1.1, (List.getD v6_0 (0 + (Int.toNat v11)) (((0 : Int), []), (⟨Array.empty⟩ : ByteArray))).1.2, (List.getD v6_0 (0 + (Int.toNat v11)) (((0 : Int), []), (⟨Array.empty⟩ : ByteArray))).2, ()), ())) fun (r3, (r4, r5, _), r6, r7, (r8, r9, r10, _), _) =>
                        bif r3 then
                          if (((0 : Int) ≤ (IntKind.wrap .i64 (r7 + (1 : Int)))) ∧ ((IntKind.wrap .i64 (r7 + (1 : Int))) ≤ (((List.length r4) : Nat) : Int))) then
                            if (((0 + 0) = (List.length ([] : List Unit))) ∧ (((0 + (List.length (List.take ((Int.toNat (IntKind.wrap .i64 (r7 + (1 : Int)))) - 0) (List.drop (0 + 0) r4)))) * 48) ≤ 140737488355328)) then
                              if ((0 + (List.length r4)) = (List.length r4)) then
                                Option.bind (loopF spec_l8Elements_l20 (r3, ((List.drop 0 r4), r5, ()), r6, r7, (r8, r9, r10, ()), (List.take (0 + (List.length (List.take ((Int.toNat (IntKind.wrap .i64 (r7 + (1 : Int)))) - 0) (List.drop (0 + 0) r4)))) (List.drop 0 ((List.drop 0 []) ++ (List.take ((Int.toNat (IntKind.wrap .i64 (r7 + (1 : Int)))) - 0) (List.drop (0 + 0) r4))))), (((0 + (List.length (List.take ((Int.toNat (IntKind.wrap .i64 (r7 + (1 : Int)))) - 0) (List.drop (0 + 0) r4)))) : Nat) : Int), (0 : Int), ())) fun (r11, (r12, r13, _), r14, r15, _) =>
                                  if ((0 + (List.length r12)) = (List.length r12)) then
                                    some (Sum.inl (r11, ((List.drop 0 r12), r13, ()), r14, (IntKind.wrap .i64 (r15 + (1 : Int))), ()))
                                  else
                                    none
                              else
                                none
                            else
                              none
                          else
                            none
                        else
                          if ((0 + (List.length r4)) = (List.length r4)) then
                            Option.bind (loopF spec_l8Elements_l20 (r3, ((List.drop 0 r4), r5, ()), r6, r7, (r8, r9, r10, ()), r6, (((List.length r6) : Nat) : Int), (0 : Int), ())) fun (r16, (r17, r18, _), r19, r20, _) =>
                              if ((0 + (List.length r17)) = (List.length r17)) then
                                some (Sum.inl (r16, ((List.drop 0 r17), r18, ()), r19, (IntKind.wrap .i64 (r20 + (1 : Int))), ()))
                              else
                                none
                          else
                            none
                    else
                      none
                  else
                    none
                else
                  none
            else
              bif v1 then
                if (((0 : Int) ≤ (IntKind.wrap .i64 (v11 + (1 : Int)))) ∧ ((IntKind.wrap .i64 (v11 + (1 : Int))) ≤ (((List.length v6_0) : Nat) : Int))) then
                  if (((0 + 0) = (List.length ([] : List Unit))) ∧ (((0 + (List.length (List.take ((Int.toNat (IntKind.wrap .i64 (v11 + (1 : Int)))) - 0) (List.drop (0 + 0) v6_0)))) * 48) ≤ 140737488355328)) then
                    if ((0 + (List.length v6_0)) = (List.length v6_0)) then
                      Option.bind (loopF spec_l8Elements_l20 (v1, ((List.drop 0 v6_0), v6_1, ()), v7, v11, ((List.getD v6_0 (0 + (Int.toNat v11)) (((0 : Int), []), (⟨Array.empty⟩ : ByteArray))).1.1, (List.getD v6_0 (0 + (Int.toNat v11)) (((0 : Int), []), (⟨Array.empty⟩ : ByteArray))).1.2, (List.getD v6_0 (0 + (Int.toNat v11)) (((0 : Int), []), (⟨Array.empty⟩ : ByteArray))).2, ()), (List.take (0 + (List.length (List.take ((Int.toNat (IntKind.wrap .i64 (v11 + (1 : Int)))) - 0) (List.drop (0 + 0) v6_0)))) (List.drop 0 ((List.drop 0 []) ++ (List.take ((Int.toNat (IntKind.wrap .i64 (v11 + (1 : Int)))) - 0) (List.drop (0 + 0) v6_0))))), (((0 + (List.length (List.take ((Int.toNat (IntKind.wrap .i64 (v11 + (1 : Int)))) - 0) (List.drop (0 + 0) v6_0)))) : Nat) : Int), (0 : Int), ())) fun (r21, (r22, r23, _), r24, r25, _) =>
                        if ((0 + (List.length r22)) = (List.length r22)) then
                          some (Sum.inl (r21, ((List.drop 0 r22), r23, ()), r24, (IntKind.wrap .i64 (r25 + (1 : Int))), ()))
                        else
                          none
                    else
                      none
                  else
                    none
                else
                  none
              else
                if ((0 + (List.length v6_0)) = (List.length v6_0)) then
                  Option.bind (loopF spec_l8Elements_l20 (v1, ((List.drop 0 v6_0), v6_1, ()), v7, v11, ((List.getD v6_0 (0 + (Int.toNat v11)) (((0 : Int), []), (⟨Array.empty⟩ : ByteArray))).1.1, (List.getD v6_0 (0 + (Int.toNat v11)) (((0 : Int), []), (⟨Array.empty⟩ : ByteArray))).1.2, (List.getD v6_0 (0 + (Int.toNat v11)) (((0 : Int), []), (⟨Array.empty⟩ : ByteArray))).2, ()), v7, (((List.length v7) : Nat) : Int), (0 : Int), ())) fun (r26, (r27, r28, _), r29, r30, _) =>
                    if ((0 + (List.length r27)) = (List.length r27)) then
                      some (Sum.inl (r26, ((List.drop 0 r27), r28, ()), r29, (IntKind.wrap .i64 (r30 + (1 : Int))), ()))
                    else
                      none
                else
                  none
        else
          bif v1 then
            if (((0 : Int) ≤ (IntKind.wrap .i64 (v11 + (1 : Int)))) ∧ ((IntKind.wrap .i64 (v11 + (1 : Int))) ≤ (((List.length v6_0) : Nat) : Int))) then
              if (((0 + 0) = (List.length ([] : List Unit))) ∧ (((0 + (List.length (List.take ((Int.toNat (IntKind.wrap .i64 (v11 + (1 : Int)))) - 0) (List.drop (0 + 0) v6_0)))) * 48) ≤ 140737488355328)) then
                if ((0 + (List.length v6_0)) = (List.length v6_0)) then
                  Option.bind (loopF spec_l8Elements_l20 (v1, ((List.drop 0 v6_0), v6_1, ()), v7, v11, ((List.getD v6_0 (0 + (Int.toNat v11)) (((0 : Int), []), (⟨Array.empty⟩ : ByteArray))).1.1, (List.getD v6_0 (0 + (Int.toNat v11)) (((0 : Int), []), (⟨Array.empty⟩ : ByteArray))).1.2, (List.getD v6_0 (0 + (Int.toNat v11)) (((0 : Int), []), (⟨Array.empty⟩ : ByteArray))).2, ()), (List.take (0 + (List.length (List.take ((Int.toNat (IntKind.wrap .i64 (v11 + (1 : Int)))) - 0) (List.drop (0 + 0) v6_0)))) (List.drop 0 ((List.drop 0 []) ++ (List.take ((Int.toNat (IntKind.wrap .i64 (v11 + (1 : Int)))) - 0) (List.drop (0 + 0) v6_0))))), (((0 + (List.length (List.take ((Int.toNat (IntKind.wrap .i64 (v11 + (1 : Int)))) - 0) (List.drop (0 + 0) v6_0)))) : Nat) : Int), (0 : Int), ())) fun (r31, (r32, r33, _), r34, r35, _) =>
                    if ((0 + (List.length r32)) = (List.length r32)) then
                      some (Sum.inl (r31, ((List.drop 0 r32), r33, ()), r34, (IntKind.wrap .i64 (r35 + (1 : Int))), ()))
                    else
                      none
                else
                  none
              else
                none
            else
              none
          else
            if ((0 + (List.length v6_0)) = (List.length v6_0)) then
              Option.bind (loopF spec_l8Elements_l20 (v1, ((List.drop 0 v6_0), v6_1, ()), v7, v11, ((List.getD v6_0 (0 + (Int.toNat v11)) (((0 : Int), []), (⟨Array.empty⟩ : ByteArray))).1.1, (List.getD v6_0 (0 + (Int.toNat v11)) (((0 : Int), []), (⟨Array.empty⟩ : ByteArray))).1.2, (List.getD v6_0 (0 + (Int.toNat v11)) (((0 : Int), []), (⟨Array.empty⟩ : ByteArray))).2, ()), v7, (((List.length v7) : Nat) : Int), (0 : Int), ())) fun (r36, (r37, r38, _), r39, r40, _) =>
                if ((0 + (List.length r37)) = (List.length r37)) then
                  some (Sum.inl (r36, ((List.drop 0 r37), r38, ()), r39, (IntKind.wrap .i64 (r40 + (1 : Int))), ()))
                else
                  none
            else
              none
      else
        none
    else
      some (Sum.inr (((List.take (List.length v6_0) (List.drop 0 v6_0)), v6_1, ()), ()))
  else
    some (Sum.inr (((List.take (List.length v6_0) (List.drop 0 v6_0)), v6_1, ()), ()))
theorem spec_l8Elements_l11_eq : loopStep 131 E177 L177_2 (loopOf f177 11) sh177_11 xs177_11 = spec_l8Elements_l11 := by kernel_rfl
theorem loop177_11 {L : Nat → Option LoopD} (h : L 11 = some ⟨131, sh177_11, xs177_11, spec_l8Elements_l11⟩) : LoopOk prog L (loopOf f177 11) :=
  loopOk (tysOk_of tyl_ok) E177_ok (codeOk_in (L := L177_2) (tysOk_of tyl_ok) E177_ok mixed (c := loopOf f177 11) (bs := [loopOf f177 20]) (by kernel_rfl) (allCons (loop177_20 rfl) allNil) (by kernel_rfl)) (by kernel_rfl) (by kernel_rfl) spec_l8Elements_l11_eq (by rw [show firstId (loopOf f177 11) = 11 from by kernel_rfl]; exact h)
noncomputable def L177_3 : Nat → Option LoopD := fun n => ifEq n 11 (some ⟨131, sh177_11, xs177_11, spec_l8Elements_l11⟩) (L177_2 n)
noncomputable def spec_l8Elements : (Int × ((List Int) × ((List Int) × (List (Int × (ByteArray × (Int × Int))))))) → Bool → Option ((List ((Int × (List Int)) × ByteArray)) × Bool) := fun (a0_0, a0_1, a0_2, a0_3) a1 =>
  if ((0 + 0) = (List.length ([] : List Unit))) then
    Option.bind (loopF spec_l8Elements_l4 (a1, (a0_0, a0_1, a0_2, a0_3, ()), ((List.drop 0 []), false, ()), (List.take 0 (List.drop 0 [])), (List.take 2 (List.drop 0 [(⟨#[(97 : UInt8)]⟩ : ByteArray), (⟨#[(98 : UInt8)]⟩ : ByteArray)])), ((2 : Nat) : Int), (0 : Int), ())) fun (r0, (r1, r2, _), r3, _) =>
      if ((0 + (List.length r1)) = (List.length r1)) then
        Option.bind (loopF spec_l8Elements_l11 (r0, ((List.drop 0 r1), r2, ()), (List.take (List.length r3) (List.drop 0 r3)), (0 : Int), ())) fun ((r4, r5, _), _) =>
          some (r4, (!r5))
      else
        none
  else
    none
noncomputable def A177 : FnA := ⟨[.v (.pair (.int .i64) (.pair (.sl (.int .i64)) (.pair (.sl (.int .i64)) (.sl (.pair (.int .i64) (.pair .str (.pair (.int .i64) (.int .i64)))))))), .v .bool], false, [.sl (.pair (.pair (.int .i64) (.sl (.int .i64))) .str), .bool], fun x => spec_l8Elements x.1 x.2.1⟩
theorem spec_l8Elements_eq : fnF E177 L177_3 [.v (.pair (.int .i64) (.pair (.sl (.int .i64)) (.pair (.sl (.int .i64)) (.sl (.pair (.int .i64) (.pair .str (.pair (.int .i64) (.int .i64)))))))), .v .bool] false [.sl (.pair (.pair (.int .i64) (.sl (.int .i64))) .str), .bool] f177.ntmps f177.results.toList (codeOf f177) = fun x => spec_l8Elements x.1 x.2.1 := by kernel_rfl
theorem A177_ok : FnOk prog 177 A177 := by
  have h := fnOk_of_run (P := prog) (E := E177) (tysOk_of tyl_ok) E177_ok (L := L177_3) (ps := [.v (.pair (.int .i64) (.pair (.sl (.int .i64)) (.pair (.sl (.int .i64)) (.sl (.pair (.int .i64) (.pair .str (.pair (.int .i64) (.int .i64)))))))), .v .bool]) (own := false) (outs := [.sl (.pair (.pair (.int .i64) (.sl (.int .i64))) .str), .bool]) func177 (c := codeOf f177) (by kernel_rfl) (codeOk_in (L := L177_3) (tysOk_of tyl_ok) E177_ok mixed (c := codeOf f177) (bs := [loopOf f177 4, loopOf f177 11]) (by kernel_rfl) (allCons (loop177_4 rfl) (allCons (loop177_11 rfl) allNil)) (by kernel_rfl))
  rw [spec_l8Elements_eq] at h
  exact h
/-! spec.l8RawElementsOf -/
noncomputable def E153 : Env := ⟨ty0, fun g => ifEq g 78 (some A78) (ifEq g 177 (some A177) (none)), fun _ => none, fun _ => none, fun _ => none⟩
theorem E153_ok : FnsOk prog E153 := (oneFn A78_ok func78 (by kernel_rfl) (by kernel_rfl) (oneFn A177_ok func177 (by kernel_rfl) (by kernel_rfl) (noFns _ _)))
noncomputable def L153_0 : Nat → Option LoopD := fun _ => none
noncomputable def spec_l8RawElementsOf : (Int × ((List Int) × ((List Int) × (List (Int × (ByteArray × (Int × Int))))))) → Option ((List ((Int × (List Int)) × ByteArray)) × Bool) := fun (a0_0, a0_1, a0_2, a0_3) =>
  Option.bind (spec_AutomatonValid (a0_0, a0_1, a0_2, a0_3)) fun r0 =>
    bif (!r0) then
      some ((List.take 0 (List.drop 0 [])), false)
    else
      Option.bind (spec_l8Elements (a0_0, a0_1, a0_2, a0_3) true) fun (r1, r2) =>
        bif (!r2) then
          some ((List.take 0 (List.drop 0 [])), false)
        else
          some (r1, true)
noncomputable def A153 : FnA := ⟨[.v (.pair (.int .i64) (.pair (.sl (.int .i64)) (.pair (.sl (.int .i64)) (.sl (.pair (.int .i64) (.pair .str (.pair (.int .i64) (.int .i64))))))))], false, [.sl (.pair (.pair (.int .i64) (.sl (.int .i64))) .str), .bool], fun x => spec_l8RawElementsOf x.1⟩
theorem spec_l8RawElementsOf_eq : fnF E153 L153_0 [.v (.pair (.int .i64) (.pair (.sl (.int .i64)) (.pair (.sl (.int .i64)) (.sl (.pair (.int .i64) (.pair .str (.pair (.int .i64) (.int .i64))))))))] false [.sl (.pair (.pair (.int .i64) (.sl (.int .i64))) .str), .bool] f153.ntmps f153.results.toList (codeOf f153) = fun x => spec_l8RawElementsOf x.1 := by kernel_rfl
theorem A153_ok : FnOk prog 153 A153 := by
  have h := fnOk_of_run (P := prog) (E := E153) (tysOk_of tyl_ok) E153_ok (L := L153_0) (ps := [.v (.pair (.int .i64) (.pair (.sl (.int .i64)) (.pair (.sl (.int .i64)) (.sl (.pair (.int .i64) (.pair .str (.pair (.int .i64) (.int .i64))))))))]) (own := false) (outs := [.sl (.pair (.pair (.int .i64) (.sl (.int .i64))) .str), .bool]) func153 (c := codeOf f153) (by kernel_rfl) (codeOk_in (L := L153_0) (tysOk_of tyl_ok) E153_ok mixed (c := codeOf f153) (bs := []) (by kernel_rfl) allNil (by kernel_rfl))
  rw [spec_l8RawElementsOf_eq] at h
  exact h
/-! spec.l13OwnMatrix -/
noncomputable def E202 : Env := ⟨ty0, fun _ => none, fun _ => none, fun _ => none, fun _ => none⟩
theorem E202_ok : FnsOk prog E202 := (noFns _ _)
noncomputable def L202_0 : Nat → Option LoopD := fun _ => none
noncomputable def spec_l13OwnMatrix : (Int × (List Int)) → Option ((Int × (List Int))) := fun (a0_0, a0_1) =>
  if (((0 + 0) = (List.length ([] : List Unit))) ∧ (((0 + (List.length a0_1)) * 8) ≤ 140737488355328)) then
    some (a0_0, (List.take (0 + (List.length a0_1)) (List.drop 0 ((List.drop 0 []) ++ a0_1))))
  else
    none
noncomputable def A202 : FnA := ⟨[.v (.pair (.int .i64) (.sl (.int .i64)))], true, [.pair (.int .i64) (.sl (.int .i64))], fun x => spec_l13OwnMatrix x.1⟩
theorem spec_l13OwnMatrix_eq : fnF E202 L202_0 [.v (.pair (.int .i64) (.sl (.int .i64)))] true [.pair (.int .i64) (.sl (.int .i64))] f202.ntmps f202.results.toList (codeOf f202) = fun x => spec_l13OwnMatrix x.1 := by kernel_rfl
theorem A202_ok : FnOk prog 202 A202 := by
  have h := fnOk_of_run (P := prog) (E := E202) (tysOk_of tyl_ok) E202_ok (L := L202_0) (ps := [.v (.pair (.int .i64) (.sl (.int .i64)))]) (own := true) (outs := [.pair (.int .i64) (.sl (.int .i64))]) func202 (c := codeOf f202) (by kernel_rfl) (codeOk_in (L := L202_0) (tysOk_of tyl_ok) E202_ok mixed (c := codeOf f202) (bs := []) (by kernel_rfl) allNil (by kernel_rfl))
  rw [spec_l13OwnMatrix_eq] at h
  exact h
/-! spec.l13OwnElement -/
noncomputable def E178 : Env := ⟨ty0, fun g => ifEq g 202 (some A202) (none), fun _ => none, fun _ => none, fun _ => none⟩
theorem E178_ok : FnsOk prog E178 := (oneFn A202_ok func202 (by kernel_rfl) (by kernel_rfl) (noFns _ _))
noncomputable def L178_0 : Nat → Option LoopD := fun _ => none
noncomputable def spec_l13OwnElement : ((Int × (List Int)) × ByteArray) → Option (((Int × (List Int)) × ByteArray)) := fun ((a0_0, a0_1), a0_2) =>
  Option.bind (spec_l13OwnMatrix (a0_0, a0_1)) fun (r0, r1) =>
    some ((r0, (List.take (List.length r1) (List.drop 0 r1))), a0_2)
noncomputable def A178 : FnA := ⟨[.v (.pair (.pair (.int .i64) (.sl (.int .i64))) .str)], true, [.pair (.pair (.int .i64) (.sl (.int .i64))) .str], fun x => spec_l13OwnElement x.1⟩
theorem spec_l13OwnElement_eq : fnF E178 L178_0 [.v (.pair (.pair (.int .i64) (.sl (.int .i64))) .str)] true [.pair (.pair (.int .i64) (.sl (.int .i64))) .str] f178.ntmps f178.results.toList (codeOf f178) = fun x => spec_l13OwnElement x.1 := by kernel_rfl
theorem A178_ok : FnOk prog 178 A178 := by
  have h := fnOk_of_run (P := prog) (E := E178) (tysOk_of tyl_ok) E178_ok (L := L178_0) (ps := [.v (.pair (.pair (.int .i64) (.sl (.int .i64))) .str)]) (own := true) (outs := [.pair (.pair (.int .i64) (.sl (.int .i64))) .str]) func178 (c := codeOf f178) (by kernel_rfl) (codeOk_in (L := L178_0) (tysOk_of tyl_ok) E178_ok mixed (c := codeOf f178) (bs := []) (by kernel_rfl) allNil (by kernel_rfl))
  rw [spec_l13OwnElement_eq] at h
  exact h
/-! spec.l13OwnListElement -/
noncomputable def E154 : Env := ⟨ty0, fun g => ifEq g 178 (some A178) (none), fun _ => none, fun _ => none, fun _ => none⟩
theorem E154_ok : FnsOk prog E154 := (oneFn A178_ok func178 (by kernel_rfl) (by kernel_rfl) (noFns _ _))
noncomputable def L154_0 : Nat → Option LoopD := fun _ => none
def sh154_3 : List Fm := [d, d, d, .cell (.own (.pair (.pair (.int .i64) (.sl (.int .i64))) .str) 100300 false), d, d, d, .cell (.val (.sl (.pair (.pair (.int .i64) (.sl (.int .i64))) .str))), .cell (.val (.int .i64)), .cell (.val (.int .i64)), d, d, d, d, d, d, d, d, d, d]
def xs154_3 : List (Ex × List Fm) := [(.exit 0, [d, d, d, .cell (.own (.pair (.pair (.int .i64) (.sl (.int .i64))) .str) 100300 false), d, d, d, d, d, d, d, d, d, d, d, d, d, d, d, d])]
noncomputable def spec_l13OwnListElement_l3 : ((List ((Int × (List Int)) × ByteArray)) × (List ((Int × (List Int)) × ByteArray)) × Int × Int × Unit) → Option (((List ((Int × (List Int)) × ByteArray)) × (List ((Int × (List Int)) × ByteArray)) × Int × Int × Unit) ⊕ (((List ((Int × (List Int)) × ByteArray)) × Unit))) := fun (v3, v7, v8, v9, _) =>
  bif (decide (v9 < v8)) then
    if (((0 : Int) ≤ v9) ∧ (v9 < (((List.length v7) : Nat) : Int))) then
      Option.bind (spec_l13OwnElement (((List.getD v7 (Int.toNat v9) (((0 : Int), []), (⟨Array.empty⟩ : ByteArray))).1.1, (List.getD v7 (Int.toNat v9) (((0 : Int), []), (⟨Array.empty⟩ : ByteArray))).1.2), (List.getD v7 (Int.toNat v9) (((0 : Int), []), (⟨Array.empty⟩ : ByteArray))).2)) fun ((r0, r1), r2) =>
        if (((0 + (List.length v3)) = (List.length v3)) ∧ ((((List.length v3) + (List.length (List.take 1 (List.drop 0 [((r0, (List.take (List.length r1) (List.drop 0 r1))), r2)])))) * 48) ≤ 140737488355328)) then
          some (Sum.inl ((List.take ((List.length v3) + (List.length (List.take 1 (List.drop 0 [((r0, (List.take (List.length r1) (List.drop 0 r1))), r2)])))) (List.drop 0 ((List.drop 0 v3) ++ (List.take 1 (List.drop 0 [((r0, (List.take (List.length r1) (List.drop 0 r1))), r2)]))))), v7, v8, (IntKind.wrap .i64 (v9 + (1 : Int))), ()))
        else
          none
    else
      none
  else
    some (Sum.inr ((List.take (List.length v3) (List.drop 0 v3)), ()))
theorem spec_l13OwnListElement_l3_eq : loopStep 20 E154 L154_0 (loopOf f154 3) sh154_3 xs154_3 = spec_l13OwnListElement_l3 := by kernel_rfl
theorem loop154_3 {L : Nat → Option LoopD} (h : L 3 = some ⟨20, sh154_3, xs154_3, spec_l13OwnListElement_l3⟩) : LoopOk prog L (loopOf f154 3) :=
  loopOk (tysOk_of tyl_ok) E154_ok (codeOk_in (L := L154_0) (tysOk_of tyl_ok) E154_ok mixed (c := loopOf f154 3) (bs := []) (by kernel_rfl) allNil (by kernel_rfl)) (by kernel_rfl) (by kernel_rfl) spec_l13OwnListElement_l3_eq (by rw [show firstId (loopOf f154 3) = 3 from by kernel_rfl]; exact h)
noncomputable def L154_1 : Nat → Option LoopD := fun n => ifEq n 3 (some ⟨20, sh154_3, xs154_3, spec_l13OwnListElement_l3⟩) (L154_0 n)
noncomputable def spec_l13OwnListElement : (List ((Int × (List Int)) × ByteArray)) → Option ((List ((Int × (List Int)) × ByteArray))) := fun a0 =>
  Option.bind (loopF spec_l13OwnListElement_l3 ((List.take 0 (List.drop 0 [])), a0, (((List.length a0) : Nat) : Int), (0 : Int), ())) fun (r0, _) =>
    some (List.take (List.length r0) (List.drop 0 r0))
noncomputable def A154 : FnA := ⟨[.v (.sl (.pair (.pair (.int .i64) (.sl (.int .i64))) .str))], true, [.sl (.pair (.pair (.int .i64) (.sl (.int .i64))) .str)], fun x => spec_l13OwnListElement x.1⟩
theorem spec_l13OwnListElement_eq : fnF E154 L154_1 [.v (.sl (.pair (.pair (.int .i64) (.sl (.int .i64))) .str))] true [.sl (.pair (.pair (.int .i64) (.sl (.int .i64))) .str)] f154.ntmps f154.results.toList (codeOf f154) = fun x => spec_l13OwnListElement x.1 := by kernel_rfl
theorem A154_ok : FnOk prog 154 A154 := by
  have h := fnOk_of_run (P := prog) (E := E154) (tysOk_of tyl_ok) E154_ok (L := L154_1) (ps := [.v (.sl (.pair (.pair (.int .i64) (.sl (.int .i64))) .str))]) (own := true) (outs := [.sl (.pair (.pair (.int .i64) (.sl (.int .i64))) .str)]) func154 (c := codeOf f154) (by kernel_rfl) (codeOk_in (L := L154_1) (tysOk_of tyl_ok) E154_ok mixed (c := codeOf f154) (bs := [loopOf f154 3]) (by kernel_rfl) (allCons (loop154_3 rfl) allNil) (by kernel_rfl))
  rw [spec_l13OwnListElement_eq] at h
  exact h
/-! spec.ElementsOf -/
noncomputable def E117 : Env := ⟨ty0, fun g => ifEq g 153 (some A153) (ifEq g 154 (some A154) (none)), fun _ => none, fun _ => none, fun _ => none⟩
theorem E117_ok : FnsOk prog E117 := (oneFn A153_ok func153 (by kernel_rfl) (by kernel_rfl) (oneFn A154_ok func154 (by kernel_rfl) (by kernel_rfl) (noFns _ _)))
noncomputable def L117_0 : Nat → Option LoopD := fun _ => none
noncomputable def spec_ElementsOf : (Int × ((List Int) × ((List Int) × (List (Int × (ByteArray × (Int × Int))))))) → Option ((List ((Int × (List Int)) × ByteArray)) × Bool) := fun (a0_0, a0_1, a0_2, a0_3) =>
  Option.bind (spec_l8RawElementsOf (a0_0, a0_1, a0_2, a0_3)) fun (r0, r1) =>
    Option.bind (spec_l13OwnListElement r0) fun r2 =>
      some ((List.take (List.length r2) (List.drop 0 r2)), r1)
noncomputable def A117 : FnA := ⟨[.v (.pair (.int .i64) (.pair (.sl (.int .i64)) (.pair (.sl (.int .i64)) (.sl (.pair (.int .i64) (.pair .str (.pair (.int .i64) (.int .i64))))))))], true, [.sl (.pair (.pair (.int .i64) (.sl (.int .i64))) .str), .bool], fun x => spec_ElementsOf x.1⟩
theorem spec_ElementsOf_eq : fnF E117 L117_0 [.v (.pair (.int .i64) (.pair (.sl (.int .i64)) (.pair (.sl (.int .i64)) (.sl (.pair (.int .i64) (.pair .str (.pair (.int .i64) (.int .i64))))))))] true [.sl (.pair (.pair (.int .i64) (.sl (.int .i64))) .str), .bool] f117.ntmps f117.results.toList (codeOf f117) = fun x => spec_ElementsOf x.1 := by kernel_rfl
theorem A117_ok : FnOk prog 117 A117 := by
  have h := fnOk_of_run (P := prog) (E := E117) (tysOk_of tyl_ok) E117_ok (L := L117_0) (ps := [.v (.pair (.int .i64) (.pair (.sl (.int .i64)) (.pair (.sl (.int .i64)) (.sl (.pair (.int .i64) (.pair .str (.pair (.int .i64) (.int .i64))))))))]) (own := true) (outs := [.sl (.pair (.pair (.int .i64) (.sl (.int .i64))) .str), .bool]) func117 (c := codeOf f117) (by kernel_rfl) (codeOk_in (L := L117_0) (tysOk_of tyl_ok) E117_ok mixed (c := codeOf f117) (bs := []) (by kernel_rfl) allNil (by kernel_rfl))
  rw [spec_ElementsOf_eq] at h
  exact h
/-! spec.l6Between -/
noncomputable def E120 : Env := ⟨ty0, fun _ => none, fun _ => none, fun _ => none, fun _ => none⟩
theorem E120_ok : FnsOk prog E120 := (noFns _ _)
noncomputable def L120_0 : Nat → Option LoopD := fun _ => none
def sh120_6 : List Fm := [d, d, .box 100200 [.val (.int .i64), .val (.sl (.int .i64)), .val (.sl (.int .i64)), .val (.sl (.pair (.int .i64) (.pair .str (.pair (.int .i64) (.int .i64)))))], .box 100300 [.val (.int .i64), .val (.sl (.int .i64))], d, .cell (.val (.int .i64)), d, .cell (.val (.int .i64)), d, d, d, .cell (.val (.sl (.int .i64))), .cell (.val (.int .i64)), .cell (.val (.int .i64)), d, d, d, d, .cell (.val (.sl (.int .i64))), .cell (.val (.int .i64)), .cell (.val (.int .i64)), d, d, d, d, d, d, d, d, d, d, d, d, d, d, d, d, d, d]
def xs120_6 : List (Ex × List Fm) := [(.exit 2, [d, d, .box 100200 [.val (.int .i64), .val (.sl (.int .i64)), .val (.sl (.int .i64)), .val (.sl (.pair (.int .i64) (.pair .str (.pair (.int .i64) (.int .i64)))))], .box 100300 [.val (.int .i64), .val (.sl (.int .i64))], d, .cell (.val (.int .i64)), d, d, d, d, d, .cell (.val (.sl (.int .i64))), .cell (.val (.int .i64)), .cell (.val (.int .i64)), d, d, d, d, d, d, d, d, d, d, d, d, d, d, d, d, d, d, d, d, d, d, d, d, d])]
noncomputable def spec_l6Between_l6 : ((Int × (List Int) × (List Int) × (List (Int × (ByteArray × (Int × Int)))) × Unit) × (Int × (List Int) × Unit) × Int × Int × (List Int) × Int × Int × (List Int) × Int × Int × Unit) → Option (((Int × (List Int) × (List Int) × (List (Int × (ByteArray × (Int × Int)))) × Unit) × (Int × (List Int) × Unit) × Int × Int × (List Int) × Int × Int × (List Int) × Int × Int × Unit) ⊕ (((Int × (List Int) × (List Int) × (List (Int × (ByteArray × (Int × Int)))) × Unit) × (Int × (List Int) × Unit) × Int × (List Int) × Int × Int × Unit))) := fun ((v2_0, v2_1, v2_2, v2_3, _), (v3_0, v3_1, _), v5, v7, v11, v12, v13, v18, v19, v20, _) =>
  bif (decide (v20 < v19)) then
    if (((0 : Int) ≤ v20) ∧ (v20 < (((List.length v18) : Nat) : Int))) then
      if (((0 : Int) ≤ (IntKind.wrap .i64 ((IntKind.wrap .i64 (v7 * v2_0)) + (List.getD v18 (Int.toNat v20) (0 : Int))))) ∧ ((IntKind.wrap .i64 ((IntKind.wrap .i64 (v7 * v2_0)) + (List.getD v18 (Int.toNat v20) (0 : Int)))) < (((List.length v3_1) : Nat) : Int))) then
        some (Sum.inl ((v2_0, v2_1, v2_2, v2_3, ()), (v3_0, v3_1, ()), (if ((List.getD v3_1 (Int.toNat (IntKind.wrap .i64 ((IntKind.wrap .i64 (v7 * v2_0)) + (List.getD v18 (Int.toNat v20) (0 : Int))))) (0 : Int)) < v5) then (List.getD v3_1 (Int.toNat (IntKind.wrap .i64 ((IntKind.wrap .i64 (v7 * v2_0)) + (List.getD v18 (Int.toNat v20) (0 : Int))))) (0 : Int)) else v5), v7, v11, v12, v13, v18, v19, (IntKind.wrap .i64 (v20 + (1 : Int))), ()))
      else
        none
    else
      none
  else
    some (Sum.inr ((v2_0, v2_1, v2_2, v2_3, ()), (v3_0, v3_1, ()), v5, v11, v12, v13, ()))
theorem spec_l6Between_l6_eq : loopStep 39 E120 L120_0 (loopOf f120 6) sh120_6 xs120_6 = spec_l6Between_l6 := by kernel_rfl
theorem loop120_6 {L : Nat → Option LoopD} (h : L 6 = some ⟨39, sh120_6, xs120_6, spec_l6Between_l6⟩) : LoopOk prog L (loopOf f120 6) :=
  loopOk (tysOk_of tyl_ok) E120_ok (codeOk_in (L := L120_0) (tysOk_of tyl_ok) E120_ok mixed (c := loopOf f120 6) (bs := []) (by kernel_rfl) allNil (by kernel_rfl)) (by kernel_rfl) (by kernel_rfl) spec_l6Between_l6_eq (by rw [show firstId (loopOf f120 6) = 6 from by kernel_rfl]; exact h)
noncomputable def L120_1 : Nat → Option LoopD := fun n => ifEq n 6 (some ⟨39, sh120_6, xs120_6, spec_l6Between_l6⟩) (L120_0 n)
def sh120_3 : List Fm := [d, d, .box 100200 [.val (.int .i64), .val (.sl (.int .i64)), .val (.sl (.int .i64)), .val (.sl (.pair (.int .i64) (.pair .str (.pair (.int .i64) (.int .i64)))))], .box 100300 [.val (.int .i64), .val (.sl (.int .i64))], d, .cell (.val (.int .i64)), d, d, d, d, d, .cell (.val (.sl (.int .i64))), .cell (.val (.int .i64)), .cell (.val (.int .i64)), d, d, d, d, d, d, d, d, d, d, d, d, d, d, d, d, d, d, d, d, d, d, d, d, d]
def xs120_3 : List (Ex × List Fm) := [(.exit 0, [d, d, d, d, d, .cell (.val (.int .i64)), d, d, d, d, d, d, d, d, d, d, d, d, d, d, d, d, d, d, d, d, d, d, d, d, d, d, d, d, d, d, d, d, d])]
noncomputable def spec_l6Between_l3 : ((Int × (List Int) × (List Int) × (List (Int × (ByteArray × (Int × Int)))) × Unit) × (Int × (List Int) × Unit) × Int × (List Int) × Int × Int × Unit) → Option (((Int × (List Int) × (List Int) × (List (Int × (ByteArray × (Int × Int)))) × Unit) × (Int × (List Int) × Unit) × Int × (List Int) × Int × Int × Unit) ⊕ ((Int × Unit))) := fun ((v2_0, v2_1, v2_2, v2_3, _), (v3_0, v3_1, _), v5, v11, v12, v13, _) =>
  bif (decide (v13 < v12)) then
    if (((0 : Int) ≤ v13) ∧ (v13 < (((List.length v11) : Nat) : Int))) then
      Option.bind (loopF spec_l6Between_l6 ((v2_0, v2_1, v2_2, v2_3, ()), (v3_0, v3_1, ()), v5, (List.getD v11 (Int.toNat v13) (0 : Int)), v11, v12, v13, v2_2, (((List.length v2_2) : Nat) : Int), (0 : Int), ())) fun ((r0, r1, r2, r3, _), (r4, r5, _), r6, r7, r8, r9, _) =>
        some (Sum.inl ((r0, r1, r2, r3, ()), (r4, r5, ()), r6, r7, r8, (IntKind.wrap .i64 (r9 + (1 : Int))), ()))
    else
      none
  else
    some (Sum.inr (v5, ()))
theorem spec_l6Between_l3_eq : loopStep 39 E120 L120_1 (loopOf f120 3) sh120_3 xs120_3 = spec_l6Between_l3 := by kernel_rfl
theorem loop120_3 {L : Nat → Option LoopD} (h : L 3 = some ⟨39, sh120_3, xs120_3, spec_l6Between_l3⟩) : LoopOk prog L (loopOf f120 3) :=
  loopOk (tysOk_of tyl_ok) E120_ok (codeOk_in (L := L120_1) (tysOk_of tyl_ok) E120_ok mixed (c := loopOf f120 3) (bs := [loopOf f120 6]) (by kernel_rfl) (allCons (loop120_6 rfl) allNil) (by kernel_rfl)) (by kernel_rfl) (by kernel_rfl) spec_l6Between_l3_eq (by rw [show firstId (loopOf f120 3) = 3 from by kernel_rfl]; exact h)
noncomputable def L120_2 : Nat → Option LoopD := fun n => ifEq n 3 (some ⟨39, sh120_3, xs120_3, spec_l6Between_l3⟩) (L120_1 n)
noncomputable def spec_l6Between : (Int × ((List Int) × ((List Int) × (List (Int × (ByteArray × (Int × Int))))))) → (Int × (List Int)) → Option (Int) := fun (a0_0, a0_1, a0_2, a0_3) (a1_0, a1_1) =>
  Option.bind (loopF spec_l6Between_l3 ((a0_0, a0_1, a0_2, a0_3, ()), (a1_0, a1_1, ()), (3 : Int), a0_1, (((List.length a0_1) : Nat) : Int), (0 : Int), ())) fun (r0, _) =>
    some r0
noncomputable def A120 : FnA := ⟨[.v (.pair (.int .i64) (.pair (.sl (.int .i64)) (.pair (.sl (.int .i64)) (.sl (.pair (.int .i64) (.pair .str (.pair (.int .i64) (.int .i64)))))))), .v (.pair (.int .i64) (.sl (.int .i64)))], true, [.int .i64], fun x => spec_l6Between x.1 x.2.1⟩
theorem spec_l6Between_eq : fnF E120 L120_2 [.v (.pair (.int .i64) (.pair (.sl (.int .i64)) (.pair (.sl (.int .i64)) (.sl (.pair (.int .i64) (.pair .str (.pair (.int .i64) (.int .i64)))))))), .v (.pair (.int .i64) (.sl (.int .i64)))] true [.int .i64] f120.ntmps f120.results.toList (codeOf f120) = fun x => spec_l6Between x.1 x.2.1 := by kernel_rfl
theorem A120_ok : FnOk prog 120 A120 := by
  have h := fnOk_of_run (P := prog) (E := E120) (tysOk_of tyl_ok) E120_ok (L := L120_2) (ps := [.v (.pair (.int .i64) (.pair (.sl (.int .i64)) (.pair (.sl (.int .i64)) (.sl (.pair (.int .i64) (.pair .str (.pair (.int .i64) (.int .i64)))))))), .v (.pair (.int .i64) (.sl (.int .i64)))]) (own := true) (outs := [.int .i64]) func120 (c := codeOf f120) (by kernel_rfl) (codeOk_in (L := L120_2) (tysOk_of tyl_ok) E120_ok mixed (c := codeOf f120) (bs := [loopOf f120 3]) (by kernel_rfl) (allCons (loop120_3 rfl) allNil) (by kernel_rfl))
  rw [spec_l6Between_eq] at h
  exact h
/-! spec.IsBounded -/
noncomputable def E69 : Env := ⟨ty0, fun g => ifEq g 117 (some A117) (ifEq g 120 (some A120) (none)), fun _ => none, fun _ => none, fun _ => none⟩
theorem E69_ok : FnsOk prog E69 := (oneFn A117_ok func117 (by kernel_rfl) (by kernel_rfl) (oneFn A120_ok func120 (by kernel_rfl) (by kernel_rfl) (noFns _ _)))
noncomputable def L69_0 : Nat → Option LoopD := fun _ => none
def sh69_5 : List Fm := [d, .box 100100 [.val (.int .i64), .val (.sl (.int .i64)), .val (.sl (.int .i64)), .val (.sl (.pair (.int .i64) (.pair .str (.pair (.int .i64) (.int .i64)))))], d, d, d, d, d, d, d, d, d, d, d, d, d, .cell (.own (.pair (.pair (.int .i64) (.sl (.int .i64))) .str) 101500 false), .cell (.val (.int .i64)), .cell (.val (.int .i64)), d, d, d, d, d, d, d, d, d]
def xs69_5 : List (Ex × List Fm) := [(.ret, [d, d, .cell (.val .bool), .cell (.val .bool), d, d, d, d, d, d, d, d, d, d, d, d, d, d, d, d, d, d, d, d, d, d, d]), (.exit 0, [d, d, d, d, d, d, d, d, d, d, d, d, d, d, d, d, d, d, d, d, d, d, d, d, d, d, d])]
noncomputable def spec_IsBounded_l5 : ((Int × (List Int) × (List Int) × (List (Int × (ByteArray × (Int × Int)))) × Unit) × (List ((Int × (List Int)) × ByteArray)) × Int × Int × Unit) → Option (((Int × (List Int) × (List Int) × (List (Int × (ByteArray × (Int × Int)))) × Unit) × (List ((Int × (List Int)) × ByteArray)) × Int × Int × Unit) ⊕ ((Bool × Bool × Unit) ⊕ (Unit))) := fun ((v1_0, v1_1, v1_2, v1_3, _), v15, v16, v17, _) =>
  bif (decide (v17 < v16)) then
    if (((0 : Int) ≤ v17) ∧ (v17 < (((List.length v15) : Nat) : Int))) then
      Option.bind (spec_l6Between (v1_0, v1_1, v1_2, v1_3) ((List.getD v15 (0 + (Int.toNat v17)) (((0 : Int), []), (⟨Array.empty⟩ : ByteArray))).1.1, (List.getD v15 (0 + (Int.toNat v17)) (((0 : Int), []), (⟨Array.empty⟩ : ByteArray))).1.2)) fun r0 =>
        bif (r0 == (2 : Int)) then
          some (Sum.inr (Sum.inl (false, true, ())))
        else
          some (Sum.inl ((v1_0, v1_1, v1_2, v1_3, ()), (List.take (List.length v15) (List.drop 0 v15)), v16, (IntKind.wrap .i64 (v17 + (1 : Int))), ()))
    else
      none
  else
    some (Sum.inr (Sum.inr ()))
theorem spec_IsBounded_l5_eq : loopStep 27 E69 L69_0 (loopOf f69 5) sh69_5 xs69_5 = spec_IsBounded_l5 := by kernel_rfl
theorem loop69_5 {L : Nat → Option LoopD} (h : L 5 = some ⟨27, sh69_5, xs69_5, spec_IsBounded_l5⟩) : LoopOk prog L (loopOf f69 5) :=
  loopOk (tysOk_of tyl_ok) E69_ok (codeOk_in (L := L69_0) (tysOk_of tyl_ok) E69_ok mixed (c := loopOf f69 5) (bs := []) (by kernel_rfl) allNil (by kernel_rfl)) (by kernel_rfl) (by kernel_rfl) spec_IsBounded_l5_eq (by rw [show firstId (loopOf f69 5) = 5 from by kernel_rfl]; exact h)
noncomputable def L69_1 : Nat → Option LoopD := fun n => ifEq n 5 (some ⟨27, sh69_5, xs69_5, spec_IsBounded_l5⟩) (L69_0 n)
noncomputable def spec_IsBounded : (Int × ((List Int) × ((List Int) × (List (Int × (ByteArray × (Int × Int))))))) → Option (Bool × Bool) := fun (a0_0, a0_1, a0_2, a0_3) =>
  Option.bind (spec_ElementsOf (a0_0, a0_1, a0_2, a0_3)) fun (r0, r1) =>
    bif (!r1) then
      some (false, false)
    else
      Option.bind (loopF spec_IsBounded_l5 ((a0_0, a0_1, a0_2, a0_3, ()), (List.take (List.length r0) (List.drop 0 r0)), (((List.length r0) : Nat) : Int), (0 : Int), ())) fun r2 =>
        (match r2 with
        | .inl (d3, d4, _) =>
            some (d3, d4)
        | .inr _ =>
            some (true, true))
noncomputable def A69 : FnA := ⟨[.v (.pair (.int .i64) (.pair (.sl (.int .i64)) (.pair (.sl (.int .i64)) (.sl (.pair (.int .i64) (.pair .str (.pair (.int .i64) (.int .i64))))))))], true, [.bool, .bool], fun x => spec_IsBounded x.1⟩
theorem spec_IsBounded_eq : fnF E69 L69_1 [.v (.pair (.int .i64) (.pair (.sl (.int .i64)) (.pair (.sl (.int .i64)) (.sl (.pair (.int .i64) (.pair .str (.pair (.int .i64) (.int .i64))))))))] true [.bool, .bool] f69.ntmps f69.results.toList (codeOf f69) = fun x => spec_IsBounded x.1 := by kernel_rfl
theorem A69_ok : FnOk prog 69 A69 := by
  have h := fnOk_of_run (P := prog) (E := E69) (tysOk_of tyl_ok) E69_ok (L := L69_1) (ps := [.v (.pair (.int .i64) (.pair (.sl (.int .i64)) (.pair (.sl (.int .i64)) (.sl (.pair (.int .i64) (.pair .str (.pair (.int .i64) (.int .i64))))))))]) (own := true) (outs := [.bool, .bool]) func69 (c := codeOf f69) (by kernel_rfl) (codeOk_in (L := L69_1) (tysOk_of tyl_ok) E69_ok mixed (c := codeOf f69) (bs := [loopOf f69 5]) (by kernel_rfl) (allCons (loop69_5 rfl) allNil) (by kernel_rfl))
  rw [spec_IsBounded_eq] at h
  exact h
/-! impl.statesOk -/
noncomputable def E101 : Env := ⟨ty0, fun _ => none, fun _ => none, fun _ => none, fun _ => none⟩
theorem E101_ok : FnsOk prog E101 := (noFns _ _)
noncomputable def L101_0 : Nat → Option LoopD := fun _ => none
def sh101_2 : List Fm := [.cell (.val (.sl (.int .i64))), .cell (.val (.int .i64)), d, d, d, d, d, .cell (.val (.sl (.int .i64))), .cell (.val (.int .i64)), .cell (.val (.int .i64)), d, d, d, d, d, d, d, d, d, d, d, d, d, d, d, d, d, d, d, d, d, d, d, d, d]
def xs101_2 : List (Ex × List Fm) := [(.ret, [d, d, d, d, .cell (.val .bool), d, d, d, d, d, d, d, d, d, d, d, d, d, d, d, d, d, d, d, d, d, d, d, d, d, d, d, d, d, d]), (.exit 0, [d, d, d, d, d, d, d, d, d, d, d, d, d, d, d, d, d, d, d, d, d, d, d, d, d, d, d, d, d, d, d, d, d, d, d])]
noncomputable def impl_statesOk_l2 : ((List Int) × Int × (List Int) × Int × Int × Unit) → Option (((List Int) × Int × (List Int) × Int × Int × Unit) ⊕ ((Bool × Unit) ⊕ (Unit))) := fun (v0, v1, v7, v8, v9, _) =>
  bif (decide (v9 < v8)) then
    if (((0 : Int) ≤ v9) ∧ (v9 < (((List.length v7) : Nat) : Int))) then
      bif (decide ((List.getD v7 (Int.toNat v9) (0 : Int)) < (0 : Int))) then
        some (Sum.inr (Sum.inl (false, ())))
      else
        bif (decide ((List.getD v7 (Int.toNat v9) (0 : Int)) ≥ v1)) then
          some (Sum.inr (Sum.inl (false, ())))
        else
          bif (decide (v9 > (0 : Int))) then
            if (((0 : Int) ≤ (IntKind.wrap .i64 (v9 - (1 : Int)))) ∧ ((IntKind.wrap .i64 (v9 - (1 : Int))) < (((List.length v0) : Nat) : Int))) then
              bif (decide ((List.getD v0 (Int.toNat (IntKind.wrap .i64 (v9 - (1 : Int)))) (0 : Int)) ≥ (List.getD v7 (Int.toNat v9) (0 : Int)))) then
                some (Sum.inr (Sum.inl (false, ())))
              else
                some (Sum.inl (v0, v1, v7, v8, (IntKind.wrap .i64 (v9 + (1 : Int))), ()))
            else
              none
          else
            some (Sum.inl (v0, v1, v7, v8, (IntKind.wrap .i64 (v9 + (1 : Int))), ()))
    else
      none
  else
    some (Sum.inr (Sum.inr ()))
theorem impl_statesOk_l2_eq : loopStep 35 E101 L101_0 (loopOf f101 2) sh101_2 xs101_2 = impl_statesOk_l2 := by kernel_rfl
theorem loop101_2 {L : Nat → Option LoopD} (h : L 2 = some ⟨35, sh101_2, xs101_2, impl_statesOk_l2⟩) : LoopOk prog L (loopOf f101 2) :=
  loopOk (tysOk_of tyl_ok) E101_ok (codeOk_in (L := L101_0) (tysOk_of tyl_ok) E101_ok mixed (c := loopOf f101 2) (bs := []) (by kernel_rfl) allNil (by kernel_rfl)) (by kernel_rfl) (by kernel_rfl) impl_statesOk_l2_eq (by rw [show firstId (loopOf f101 2) = 2 from by kernel_rfl]; exact h)
noncomputable def L101_1 : Nat → Option LoopD := fun n => ifEq n 2 (some ⟨35, sh101_2, xs101_2, impl_statesOk_l2⟩) (L101_0 n)
noncomputable def impl_statesOk : (List Int) → Int → Option (Bool) := fun a0 a1 =>
  Option.bind (loopF impl_statesOk_l2 (a0, a1, a0, (((List.length a0) : Nat) : Int), (0 : Int), ())) fun r0 =>
    (match r0 with
    | .inl (d1, _) =>
        some d1
    | .inr _ =>
        some true)
noncomputable def A101 : FnA := ⟨[.v (.sl (.int .i64)), .v (.int .i64)], true, [.bool], fun x => impl_statesOk x.1 x.2.1⟩
theorem impl_statesOk_eq : fnF E101 L101_1 [.v (.sl (.int .i64)), .v (.int .i64)] true [.bool] f101.ntmps f101.results.toList (codeOf f101) = fun x => impl_statesOk x.1 x.2.1 := by kernel_rfl
theorem A101_ok : FnOk prog 101 A101 := by
  have h := fnOk_of_run (P := prog) (E := E101) (tysOk_of tyl_ok) E101_ok (L := L101_1) (ps := [.v (.sl (.int .i64)), .v (.int .i64)]) (own := true) (outs := [.bool]) func101 (c := codeOf f101) (by kernel_rfl) (codeOk_in (L := L101_1) (tysOk_of tyl_ok) E101_ok mixed (c := codeOf f101) (bs := [loopOf f101 2]) (by kernel_rfl) (allCons (loop101_2 rfl) allNil) (by kernel_rfl))
  rw [impl_statesOk_eq] at h
  exact h
/-! cmp.isNaN[int] -/
noncomputable def E174 : Env := ⟨ty0, fun _ => none, fun _ => none, fun _ => none, fun _ => none⟩
theorem E174_ok : FnsOk prog E174 := (noFns _ _)
noncomputable def L174_0 : Nat → Option LoopD := fun _ => none
noncomputable def cmp_isNaN : Int → Option (Bool) := fun a0 =>
  some (a0 != a0)
noncomputable def A174 : FnA := ⟨[.v (.int .i64)], true, [.bool], fun x => cmp_isNaN x.1⟩
theorem cmp_isNaN_eq : fnF E174 L174_0 [.v (.int .i64)] true [.bool] f174.ntmps f174.results.toList (codeOf f174) = fun x => cmp_isNaN x.1 := by kernel_rfl
theorem A174_ok : FnOk prog 174 A174 := by
  have h := fnOk_of_run (P := prog) (E := E174) (tysOk_of tyl_ok) E174_ok (L := L174_0) (ps := [.v (.int .i64)]) (own := true) (outs := [.bool]) func174 (c := codeOf f174) (by kernel_rfl) (codeOk_in (L := L174_0) (tysOk_of tyl_ok) E174_ok mixed (c := codeOf f174) (bs := []) (by kernel_rfl) allNil (by kernel_rfl))
  rw [cmp_isNaN_eq] at h
  exact h
/-! cmp.Compare[int] -/
noncomputable def E145 : Env := ⟨ty0, fun g => ifEq g 174 (some A174) (none), fun _ => none, fun _ => none, fun _ => none⟩
theorem E145_ok : FnsOk prog E145 := (oneFn A174_ok func174 (by kernel_rfl) (by kernel_rfl) (noFns _ _))
noncomputable def L145_0 : Nat → Option LoopD := fun _ => none
noncomputable def cmp_Compare : Int → Int → Option (Int) := fun a0 a1 =>
  Option.bind (cmp_isNaN a0) fun r0 =>
    Option.bind (cmp_isNaN a1) fun r1 =>
      bif r0 then
        bif r1 then
          some (0 : Int)
        else
          some (-1 : Int)
      else
        bif r1 then
          some (1 : Int)
        else
          bif (decide (a0 < a1)) then
            some (-1 : Int)
          else
            bif (decide (a0 > a1)) then
              some (1 : Int)
            else
              some (0 : Int)
noncomputable def A145 : FnA := ⟨[.v (.int .i64), .v (.int .i64)], true, [.int .i64], fun x => cmp_Compare x.1 x.2.1⟩
theorem cmp_Compare_eq : fnF E145 L145_0 [.v (.int .i64), .v (.int .i64)] true [.int .i64] f145.ntmps f145.results.toList (codeOf f145) = fun x => cmp_Compare x.1 x.2.1 := by kernel_rfl
theorem A145_ok : FnOk prog 145 A145 := by
  have h := fnOk_of_run (P := prog) (E := E145) (tysOk_of tyl_ok) E145_ok (L := L145_0) (ps := [.v (.int .i64), .v (.int .i64)]) (own := true) (outs := [.int .i64]) func145 (c := codeOf f145) (by kernel_rfl) (codeOk_in (L := L145_0) (tysOk_of tyl_ok) E145_ok mixed (c := codeOf f145) (bs := []) (by kernel_rfl) allNil (by kernel_rfl))
  rw [cmp_Compare_eq] at h
  exact h
/-! cmp.Or[int] -/
noncomputable def E144 : Env := ⟨ty0, fun _ => none, fun _ => none, fun _ => none, fun _ => none⟩
theorem E144_ok : FnsOk prog E144 := (noFns _ _)
noncomputable def L144_0 : Nat → Option LoopD := fun _ => none
def sh144_3 : List Fm := [d, d, d, .cell (.val (.int .i64)), d, d, .cell (.val (.sl (.int .i64))), .cell (.val (.int .i64)), .cell (.val (.int .i64)), d, d, d, d, d, d, d, d, d]
def xs144_3 : List (Ex × List Fm) := [(.ret, [d, d, .cell (.val (.int .i64)), d, d, d, d, d, d, d, d, d, d, d, d, d, d, d]), (.exit 0, [d, d, d, .cell (.val (.int .i64)), d, d, d, d, d, d, d, d, d, d, d, d, d, d])]
noncomputable def cmp_Or_l3 : (Int × (List Int) × Int × Int × Unit) → Option ((Int × (List Int) × Int × Int × Unit) ⊕ ((Int × Unit) ⊕ (Int × Unit))) := fun (v3, v6, v7, v8, _) =>
  bif (decide (v8 < v7)) then
    if (((0 : Int) ≤ v8) ∧ (v8 < (((List.length v6) : Nat) : Int))) then
      bif ((List.getD v6 (Int.toNat v8) (0 : Int)) != v3) then
        some (Sum.inr (Sum.inl ((List.getD v6 (Int.toNat v8) (0 : Int)), ())))
      else
        some (Sum.inl (v3, v6, v7, (IntKind.wrap .i64 (v8 + (1 : Int))), ()))
    else
      none
  else
    some (Sum.inr (Sum.inr (v3, ())))
theorem cmp_Or_l3_eq : loopStep 18 E144 L144_0 (loopOf f144 3) sh144_3 xs144_3 = cmp_Or_l3 := by kernel_rfl
theorem loop144_3 {L : Nat → Option LoopD} (h : L 3 = some ⟨18, sh144_3, xs144_3, cmp_Or_l3⟩) : LoopOk prog L (loopOf f144 3) :=
  loopOk (tysOk_of tyl_ok) E144_ok (codeOk_in (L := L144_0) (tysOk_of tyl_ok) E144_ok mixed (c := loopOf f144 3) (bs := []) (by kernel_rfl) allNil (by kernel_rfl)) (by kernel_rfl) (by kernel_rfl) cmp_Or_l3_eq (by rw [show firstId (loopOf f144 3) = 3 from by kernel_rfl]; exact h)
noncomputable def L144_1 : Nat → Option LoopD := fun n => ifEq n 3 (some ⟨18, sh144_3, xs144_3, cmp_Or_l3⟩) (L144_0 n)
noncomputable def cmp_Or : (List Int) → Option (Int) := fun a0 =>
  Option.bind (loopF cmp_Or_l3 ((0 : Int), a0, (((List.length a0) : Nat) : Int), (0 : Int), ())) fun r0 =>
    (match r0 with
    | .inl (d1, _) =>
        some d1
    | .inr (d2, _) =>
        some d2)
noncomputable def A144 : FnA := ⟨[.v (.sl (.int .i64))], true, [.int .i64], fun x => cmp_Or x.1⟩
theorem cmp_Or_eq : fnF E144 L144_1 [.v (.sl (.int .i64))] true [.int .i64] f144.ntmps f144.results.toList (codeOf f144) = fun x => cmp_Or x.1 := by kernel_rfl
theorem A144_ok : FnOk prog 144 A144 := by
  have h := fnOk_of_run (P := prog) (E := E144) (tysOk_of tyl_ok) E144_ok (L := L144_1) (ps := [.v (.sl (.int .i64))]) (own := true) (outs := [.int .i64]) func144 (c := codeOf f144) (by kernel_rfl) (codeOk_in (L := L144_1) (tysOk_of tyl_ok) E144_ok mixed (c := codeOf f144) (bs := [loopOf f144 3]) (by kernel_rfl) (allCons (loop144_3 rfl) allNil) (by kernel_rfl))
  rw [cmp_Or_eq] at h
  exact h
/-! impl.stepOrder -/
noncomputable def E102 : Env := ⟨ty0, fun g => ifEq g 145 (some A145) (ifEq g 146 (some A146) (ifEq g 144 (some A144) (none))), fun _ => none, fun _ => none, fun _ => none⟩
theorem E102_ok : FnsOk prog E102 := (oneFn A145_ok func145 (by kernel_rfl) (by kernel_rfl) (oneFn A146_ok func146 (by kernel_rfl) (by kernel_rfl) (oneFn A144_ok func144 (by kernel_rfl) (by kernel_rfl) (noFns _ _))))
noncomputable def L102_0 : Nat → Option LoopD := fun _ => none
noncomputable def impl_stepOrder : (Int × (ByteArray × (Int × Int))) → (Int × (ByteArray × (Int × Int))) → Option (Int) := fun (a0_0, a0_1, a0_2, a0_3) (a1_0, a1_1, a1_2, a1_3) =>
  Option.bind (cmp_Compare a0_0 a1_0) fun r0 =>
    Option.bind (strings_Compare a0_1 a1_1) fun r1 =>
      Option.bind (cmp_Compare a0_2 a1_2) fun r2 =>
        Option.bind (cmp_Or (List.take 3 (List.drop 0 [r0, r1, r2]))) fun r3 =>
          some r3
noncomputable def A102 : FnA := ⟨[.v (.pair (.int .i64) (.pair .str (.pair (.int .i64) (.int .i64)))), .v (.pair (.int .i64) (.pair .str (.pair (.int .i64) (.int .i64))))], true, [.int .i64], fun x => impl_stepOrder x.1 x.2.1⟩
theorem impl_stepOrder_eq : fnF E102 L102_0 [.v (.pair (.int .i64) (.pair .str (.pair (.int .i64) (.int .i64)))), .v (.pair (.int .i64) (.pair .str (.pair (.int .i64) (.int .i64))))] true [.int .i64] f102.ntmps f102.results.toList (codeOf f102) = fun x => impl_stepOrder x.1 x.2.1 := by kernel_rfl
theorem A102_ok : FnOk prog 102 A102 := by
  have h := fnOk_of_run (P := prog) (E := E102) (tysOk_of tyl_ok) E102_ok (L := L102_0) (ps := [.v (.pair (.int .i64) (.pair .str (.pair (.int .i64) (.int .i64)))), .v (.pair (.int .i64) (.pair .str (.pair (.int .i64) (.int .i64))))]) (own := true) (outs := [.int .i64]) func102 (c := codeOf f102) (by kernel_rfl) (codeOk_in (L := L102_0) (tysOk_of tyl_ok) E102_ok mixed (c := codeOf f102) (bs := []) (by kernel_rfl) allNil (by kernel_rfl))
  rw [impl_stepOrder_eq] at h
  exact h
/-! impl.AutomatonValid -/
noncomputable def E60 : Env := ⟨ty0, fun g => ifEq g 101 (some A101) (ifEq g 102 (some A102) (none)), fun _ => none, fun _ => none, fun _ => none⟩
theorem E60_ok : FnsOk prog E60 := (oneFn A101_ok func101 (by kernel_rfl) (by kernel_rfl) (oneFn A102_ok func102 (by kernel_rfl) (by kernel_rfl) (noFns _ _)))
noncomputable def L60_0 : Nat → Option LoopD := fun _ => none
def sh60_4 : List Fm := [d, .box 100100 [.val (.int .i64), .val (.sl (.int .i64)), .val (.sl (.int .i64)), .val (.sl (.pair (.int .i64) (.pair .str (.pair (.int .i64) (.int .i64)))))], d, d, d, d, d, d, d, d, d, d, d, d, d, d, d, d, d, d, d, d, d, d, d, d, d, d, d, d, d, d, d, d, d, d, .cell (.val (.sl (.pair (.int .i64) (.pair .str (.pair (.int .i64) (.int .i64)))))), .cell (.val (.int .i64)), .cell (.val (.int .i64)), d, d, d, d, d, d, d, d, d, d, d, d, d, d, d, d, d, d, d, d, d, d, d, d, d, d, d, d, d, d, d, d, d, d, d, d, d, d, d, d, d, d, d, d, d, d, d, d, d, d, d, d, d, d, d, d, d, d, d, d, d, d]
def xs60_4 : List (Ex × List Fm) := [(.ret, [d, d, .cell (.val .bool), d, d, d, d, d, d, d, d, d, d, d, d, d, d, d, d, d, d, d, d, d, d, d, d, d, d, d, d, d, d, d, d, d, d, d, d, d, d, d, d, d, d, d, d, d, d, d, d, d, d, d, d, d, d, d, d, d, d, d, d, d, d, d, d, d, d, d, d, d, d, d, d, d, d, d, d, d, d, d, d, d, d, d, d, d, d, d, d, d, d, d, d, d, d, d, d, d, d]), (.exit 0, [d, d, d, d, d, d, d, d, d, d, d, d, d, d, d, d, d, d, d, d, d, d, d, d, d, d, d, d, d, d, d, d, d, d, d, d, d, d, d, d, d, d, d, d, d, d, d, d, d, d, d, d, d, d, d, d, d, d, d, d, d, d, d, d, d, d, d, d, d, d, d, d, d, d, d, d, d, d, d, d, d, d, d, d, d, d, d, d, d, d, d, d, d, d, d, d, d, d, d, d, d])]
noncomputable def impl_AutomatonValid_l4 : ((Int × (List Int) × (List Int) × (List (Int × (ByteArray × (Int × Int)))) × Unit) × (List (Int × (ByteArray × (Int × Int)))) × Int × Int × Unit) → Option (((Int × (List Int) × (List Int) × (List (Int × (ByteArray × (Int × Int)))) × Unit) × (List (Int × (ByteArray × (Int × Int)))) × Int × Int × Unit) ⊕ ((Bool × Unit) ⊕ (Unit))) := fun ((v1_0, v1_1, v1_2, v1_3, _), v36, v37, v38, _) =>
  bif (decide (v38 < v37)) then
    if (((0 : Int) ≤ v38) ∧ (v38 < (((List.length v36) : Nat) : Int))) then
      bif (decide ((List.getD v36 (Int.toNat v38) ((0 : Int), (⟨Array.empty⟩ : ByteArray), (0 : Int), (0 : Int))).1 < (0 : Int))) then
        some (Sum.inr (Sum.inl (false, ())))
      else
        bif (decide ((List.getD v36 (Int.toNat v38) ((0 : Int), (⟨Array.empty⟩ : ByteArray), (0 : Int), (0 : Int))).1 ≥ v1_0)) then
          some (Sum.inr (Sum.inl (false, ())))
        else
          bif (decide ((List.getD v36 (Int.toNat v38) ((0 : Int), (⟨Array.empty⟩ : ByteArray), (0 : Int), (0 : Int))).2.2.1 < (0 : Int))) then
            some (Sum.inr (Sum.inl (false, ())))
          else
            bif (decide ((List.getD v36 (Int.toNat v38) ((0 : Int), (⟨Array.empty⟩ : ByteArray), (0 : Int), (0 : Int))).2.2.1 ≥ v1_0)) then
              some (Sum.inr (Sum.inl (false, ())))
            else
              bif (!((ByteArray.toList (List.getD v36 (Int.toNat v38) ((0 : Int), (⟨Array.empty⟩ : ByteArray), (0 : Int), (0 : Int))).2.1) == (ByteArray.toList (⟨#[(97 : UInt8)]⟩ : ByteArray)))) then
                bif (!((ByteArray.toList (List.getD v36 (Int.toNat v38) ((0 : Int), (⟨Array.empty⟩ : ByteArray), (0 : Int), (0 : Int))).2.1) == (ByteArray.toList (⟨#[(98 : UInt8)]⟩ : ByteArray)))) then
                  some (Sum.inr (Sum.inl (false, ())))
                else
                  bif (decide ((List.getD v36 (Int.toNat v38) ((0 : Int), (⟨Array.empty⟩ : ByteArray), (0 : Int), (0 : Int))).2.2.2 < (0 : Int))) then
                    some (Sum.inr (Sum.inl (false, ())))
                  else
                    bif (decide ((List.getD v36 (Int.toNat v38) ((0 : Int), (⟨Array.empty⟩ : ByteArray), (0 : Int), (0 : Int))).2.2.2 > (3 : Int))) then
                      some (Sum.inr (Sum.inl (false, ())))
                    else
                      bif (decide (v38 > (0 : Int))) then
                        if (((0 : Int) ≤ (IntKind.wrap .i64 (v38 - (1 : Int)))) ∧ ((IntKind.wrap .i64 (v38 - (1 : Int))) < (((List.length v1_3) : Nat) : Int))) then
                          Option.bind (impl_stepOrder (List.getD v1_3 (Int.toNat (IntKind.wrap .i64 (v38 - (1 : Int)))) ((0 : Int), (⟨Array.empty⟩ : ByteArray), (0 : Int), (0 : Int))) ((List.getD v36 (Int.toNat v38) ((0 : Int), (⟨Array.empty⟩ : ByteArray), (0 : Int), (0 : Int))).1, (List.getD v36 (Int.toNat v38) ((0 : Int), (⟨Array.empty⟩ : ByteArray), (0 : Int), (0 : Int))).2.1, (List.getD v36 (Int.toNat v38) ((0 : Int), (⟨Array.empty⟩ : ByteArray), (0 : Int), (0 : Int))).2.2.1, (List.getD v36 (Int.toNat v38) ((0 : Int), (⟨Array.empty⟩ : ByteArray), (0 : Int), (0 : Int))).2.2.2)) fun r0 =>
                            bif (decide (r0 ≥ (0 : Int))) then
                              some (Sum.inr (Sum.inl (false, ())))
                            else
                              some (Sum.inl ((v1_0, v1_1, v1_2, v1_3, ()), v36, v37, (IntKind.wrap .i64 (v38 + (1 : Int))), ()))
                        else
                          none
                      else
                        some (Sum.inl ((v1_0, v1_1, v1_2, v1_3, ()), v36, v37, (IntKind.wrap .i64 (v38 + (1 : Int))), ()))
              else
                bif (decide ((List.getD v36 (Int.toNat v38) ((0 : Int), (⟨Array.empty⟩ : ByteArray), (0 : Int), (0 : Int))).2.2.2 < (0 : Int))) then
                  some (Sum.inr (Sum.inl (false, ())))
                else
                  bif (decide ((List.getD v36 (Int.toNat v38) ((0 : Int), (⟨Array.empty⟩ : ByteArray), (0 : Int), (0 : Int))).2.2.2 > (3 : Int))) then
                    some (Sum.inr (Sum.inl (false, ())))
                  else
                    bif (decide (v38 > (0 : Int))) then
                      if (((0 : Int) ≤ (IntKind.wrap .i64 (v38 - (1 : Int)))) ∧ ((IntKind.wrap .i64 (v38 - (1 : Int))) < (((List.length v1_3) : Nat) : Int))) then
                        Option.bind (impl_stepOrder (List.getD v1_3 (Int.toNat (IntKind.wrap .i64 (v38 - (1 : Int)))) ((0 : Int), (⟨Array.empty⟩ : ByteArray), (0 : Int), (0 : Int))) ((List.getD v36 (Int.toNat v38) ((0 : Int), (⟨Array.empty⟩ : ByteArray), (0 : Int), (0 : Int))).1, (List.getD v36 (Int.toNat v38) ((0 : Int), (⟨Array.empty⟩ : ByteArray), (0 : Int), (0 : Int))).2.1, (List.getD v36 (Int.toNat v38) ((0 : Int), (⟨Array.empty⟩ : ByteArray), (0 : Int), (0 : Int))).2.2.1, (List.getD v36 (Int.toNat v38) ((0 : Int), (⟨Array.empty⟩ : ByteArray), (0 : Int), (0 : Int))).2.2.2)) fun r1 =>
                          bif (decide (r1 ≥ (0 : Int))) then
                            some (Sum.inr (Sum.inl (false, ())))
                          else
                            some (Sum.inl ((v1_0, v1_1, v1_2, v1_3, ()), v36, v37, (IntKind.wrap .i64 (v38 + (1 : Int))), ()))
                      else
                        none
                    else
                      some (Sum.inl ((v1_0, v1_1, v1_2, v1_3, ()), v36, v37, (IntKind.wrap .i64 (v38 + (1 : Int))), ()))
    else
      none
  else
    some (Sum.inr (Sum.inr ()))
theorem impl_AutomatonValid_l4_eq : loopStep 101 E60 L60_0 (loopOf f60 4) sh60_4 xs60_4 = impl_AutomatonValid_l4 := by kernel_rfl
theorem loop60_4 {L : Nat → Option LoopD} (h : L 4 = some ⟨101, sh60_4, xs60_4, impl_AutomatonValid_l4⟩) : LoopOk prog L (loopOf f60 4) :=
  loopOk (tysOk_of tyl_ok) E60_ok (codeOk_in (L := L60_0) (tysOk_of tyl_ok) E60_ok mixed (c := loopOf f60 4) (bs := []) (by kernel_rfl) allNil (by kernel_rfl)) (by kernel_rfl) (by kernel_rfl) impl_AutomatonValid_l4_eq (by rw [show firstId (loopOf f60 4) = 4 from by kernel_rfl]; exact h)
noncomputable def L60_1 : Nat → Option LoopD := fun n => ifEq n 4 (some ⟨101, sh60_4, xs60_4, impl_AutomatonValid_l4⟩) (L60_0 n)
noncomputable def impl_AutomatonValid : (Int × ((List Int) × ((List Int) × (List (Int × (ByteArray × (Int × Int))))))) → Option (Bool) := fun (a0_0, a0_1, a0_2, a0_3) =>
  bif (decide (a0_0 < (1 : Int))) then
    some false
  else
    bif (decide (a0_0 > (4 : Int))) then
      some false
    else
      bif (decide ((((List.length a0_3) : Nat) : Int) > (24 : Int))) then
        some false
      else
        Option.bind (impl_statesOk a0_1 a0_0) fun r0 =>
          bif (!r0) then
            some false
          else
            Option.bind (impl_statesOk a0_2 a0_0) fun r1 =>
              bif (!r1) then
                some false
              else
                Option.bind (loopF impl_AutomatonValid_l4 ((a0_0, a0_1, a0_2, a0_3, ()), a0_3, (((List.length a0_3) : Nat) : Int), (0 : Int), ())) fun r2 =>
                  (match r2 with
                  | .inl (d3, _) =>
                      some d3
                  | .inr _ =>
                      some true)
noncomputable def A60 : FnA := ⟨[.v (.pair (.int .i64) (.pair (.sl (.int .i64)) (.pair (.sl (.int .i64)) (.sl (.pair (.int .i64) (.pair .str (.pair (.int .i64) (.int .i64))))))))], true, [.bool], fun x => impl_AutomatonValid x.1⟩
theorem impl_AutomatonValid_eq : fnF E60 L60_1 [.v (.pair (.int .i64) (.pair (.sl (.int .i64)) (.pair (.sl (.int .i64)) (.sl (.pair (.int .i64) (.pair .str (.pair (.int .i64) (.int .i64))))))))] true [.bool] f60.ntmps f60.results.toList (codeOf f60) = fun x => impl_AutomatonValid x.1 := by kernel_rfl
theorem A60_ok : FnOk prog 60 A60 := by
  have h := fnOk_of_run (P := prog) (E := E60) (tysOk_of tyl_ok) E60_ok (L := L60_1) (ps := [.v (.pair (.int .i64) (.pair (.sl (.int .i64)) (.pair (.sl (.int .i64)) (.sl (.pair (.int .i64) (.pair .str (.pair (.int .i64) (.int .i64))))))))]) (own := true) (outs := [.bool]) func60 (c := codeOf f60) (by kernel_rfl) (codeOk_in (L := L60_1) (tysOk_of tyl_ok) E60_ok mixed (c := codeOf f60) (bs := [loopOf f60 4]) (by kernel_rfl) (allCons (loop60_4 rfl) allNil) (by kernel_rfl))
  rw [impl_AutomatonValid_eq] at h
  exact h
/-! internal/stringslite.HasPrefix -/
noncomputable def E222 : Env := ⟨ty0, fun _ => none, fun _ => none, fun _ => none, fun _ => none⟩
theorem E222_ok : FnsOk prog E222 := (noFns _ _)
noncomputable def L222_0 : Nat → Option LoopD := fun _ => none
noncomputable def internal_stringslite_HasPrefix : ByteArray → ByteArray → Option (Bool) := fun a0 a1 =>
  bif (decide ((((ByteArray.size a0) : Nat) : Int) ≥ (((ByteArray.size a1) : Nat) : Int))) then
    if (((0 : Int) ≤ (((ByteArray.size a1) : Nat) : Int)) ∧ ((((ByteArray.size a1) : Nat) : Int) ≤ (((ByteArray.size a0) : Nat) : Int))) then
      some ((ByteArray.toList (ByteArray.extract a0 0 (Int.toNat (((ByteArray.size a1) : Nat) : Int)))) == (ByteArray.toList a1))
    else
      none
  else
    some false
noncomputable def A222 : FnA := ⟨[.v .str, .v .str], true, [.bool], fun x => internal_stringslite_HasPrefix x.1 x.2.1⟩
theorem internal_stringslite_HasPrefix_eq : fnF E222 L222_0 [.v .str, .v .str] true [.bool] f222.ntmps f222.results.toList (codeOf f222) = fun x => internal_stringslite_HasPrefix x.1 x.2.1 := by kernel_rfl
theorem A222_ok : FnOk prog 222 A222 := by
  have h := fnOk_of_run (P := prog) (E := E222) (tysOk_of tyl_ok) E222_ok (L := L222_0) (ps := [.v .str, .v .str]) (own := true) (outs := [.bool]) func222 (c := codeOf f222) (by kernel_rfl) (codeOk_in (L := L222_0) (tysOk_of tyl_ok) E222_ok mixed (c := codeOf f222) (bs := []) (by kernel_rfl) allNil (by kernel_rfl))
  rw [internal_stringslite_HasPrefix_eq] at h
  exact h
/-! strings.HasPrefix -/
noncomputable def E220 : Env := ⟨ty0, fun g => ifEq g 222 (some A222) (none), fun _ => none, fun _ => none, fun _ => none⟩
theorem E220_ok : FnsOk prog E220 := (oneFn A222_ok func222 (by kernel_rfl) (by kernel_rfl) (noFns _ _))
noncomputable def L220_0 : Nat → Option LoopD := fun _ => none
noncomputable def strings_HasPrefix : ByteArray → ByteArray → Option (Bool) := fun a0 a1 =>
  Option.bind (internal_stringslite_HasPrefix a0 a1) fun r0 =>
    some r0
noncomputable def A220 : FnA := ⟨[.v .str, .v .str], true, [.bool], fun x => strings_HasPrefix x.1 x.2.1⟩
theorem strings_HasPrefix_eq : fnF E220 L220_0 [.v .str, .v .str] true [.bool] f220.ntmps f220.results.toList (codeOf f220) = fun x => strings_HasPrefix x.1 x.2.1 := by kernel_rfl
theorem A220_ok : FnOk prog 220 A220 := by
  have h := fnOk_of_run (P := prog) (E := E220) (tysOk_of tyl_ok) E220_ok (L := L220_0) (ps := [.v .str, .v .str]) (own := true) (outs := [.bool]) func220 (c := codeOf f220) (by kernel_rfl) (codeOk_in (L := L220_0) (tysOk_of tyl_ok) E220_ok mixed (c := codeOf f220) (bs := []) (by kernel_rfl) allNil (by kernel_rfl))
  rw [strings_HasPrefix_eq] at h
  exact h
/-! impl.readParts -/
noncomputable def R213 (impl_readParts_rec : ByteArray → Option ((List (ByteArray × PT)) × ByteArray)) : FnA := ⟨[.v .str], true, [.sl (.pair .str .pt), .str], fun x => impl_readParts_rec x.1⟩
noncomputable def E213 (impl_readParts_rec : ByteArray → Option ((List (ByteArray × PT)) × ByteArray)) : Env := ⟨ty0, fun g => ifEq g 213 (some (R213 impl_readParts_rec)) (ifEq g 220 (some A220) (none)), fun _ => none, fun _ => none, fun _ => none⟩
theorem E213_ok (impl_readParts_rec : ByteArray → Option ((List (ByteArray × PT)) × ByteArray)) (hrec : FnOk prog 213 (R213 impl_readParts_rec)) : FnsOk prog (E213 impl_readParts_rec) := (oneFn hrec func213 (by kernel_rfl) (by kernel_rfl) (oneFn A220_ok func220 (by kernel_rfl) (by kernel_rfl) (noFns _ _)))
noncomputable def L213_0 (impl_readParts_rec : ByteArray → Option ((List (ByteArray × PT)) × ByteArray)) : Nat → Option LoopD := fun _ => none
def sh213_2 : List Fm := [.cell (.val .str), d, d, d, .cell (.own (.pair .str .pt) 100400 false), d, d, d, d, d, d, d, d, d, d, d, d, d, d, d, d, d, d, d, d, d, d, d, d, d, d, d, d, d, d, d, d, d, d, d, d, d, d, d, d, d, d, d, d]
def xs213_2 : List (Ex × List Fm) := [(.ret, [d, d, .cell (.own (.pair .str .pt) 100200 false), .cell (.val .str), d, d, d, d, d, d, d, d, d, d, d, d, d, d, d, d, d, d, d, d, d, d, d, d, d, d, d, d, d, d, d, d, d, d, d, d, d, d, d, d, d, d, d, d, d]), (.exit 0, [.cell (.val .str), d, d, d, .cell (.own (.pair .str .pt) 100400 false), d, d, d, d, d, d, d, d, d, d, d, d, d, d, d, d, d, d, d, d, d, d, d, d, d, d, d, d, d, d, d, d, d, d, d, d, d, d, d, d, d, d, d, d])]
noncomputable def impl_readParts_l2 (impl_readParts_rec : ByteArray → Option ((List (ByteArray × PT)) × ByteArray)) : (ByteArray × (List (ByteArray × PT)) × Unit) → Option ((ByteArray × (List (ByteArray × PT)) × Unit) ⊕ (((List (ByteArray × PT)) × ByteArray × Unit) ⊕ (ByteArray × (List (ByteArray × PT)) × Unit))) := fun (v0, v4, _) =>
  bif (!((ByteArray.toList v0) == (ByteArray.toList (⟨#[]⟩ : ByteArray)))) then
    if (((0 : Int) ≤ (0 : Int)) ∧ ((0 : Int) < (((ByteArray.size v0) : Nat) : Int))) then
      bif ((((UInt8.toNat (Array.getD (ByteArray.data v0) (Int.toNat (0 : Int)) (0 : UInt8))) : Nat) : Int) == (97 : Int)) then
        bif ((((UInt8.toNat (Array.getD (ByteArray.data v0) (Int.toNat (0 : Int)) (0 : UInt8))) : Nat) : Int) == (97 : Int)) then
          if (((0 : Int) ≤ (1 : Int)) ∧ ((1 : Int) ≤ (((ByteArray.size v0) : Nat) : Int))) then
            if (((0 + (List.length v4)) = (List.length v4)) ∧ ((((List.length v4) + (List.length (List.take 1 (List.drop 0 [((ByteArray.extract v0 0 (Int.toNat (1 : Int))), (PT.mk []))])))) * 40) ≤ 140737488355328)) then
              if (((0 : Int) ≤ (1 : Int)) ∧ ((1 : Int) ≤ (((ByteArray.size v0) : Nat) : Int))) then
                some (Sum.inl ((ByteArray.extract v0 (Int.toNat (1 : Int)) (ByteArray.size v0)), (List.take ((List.length v4) + (List.length (List.take 1 (List.drop 0 [((ByteArray.extract v0 0 (Int.toNat (1 : Int))), (PT.mk []))])))) (List.drop 0 ((List.drop 0 v4) ++ (List.take 1 (List.drop 0 [((ByteArray.extract v0 0 (Int.toNat (1 : Int))), (PT.mk []))]))))), ()))
              else
                none
            else
              none
          else
            none
        else
          bif ((((UInt8.toNat (Array.getD (ByteArray.data v0) (Int.toNat (0 : Int)) (0 : UInt8))) : Nat) : Int) == (40 : Int)) then
            if (((0 : Int) ≤ (1 : Int)) ∧ ((1 : Int) ≤ (((ByteArray.size v0) : Nat) : Int))) then
              Option.bind (impl_readParts_rec (ByteArray.extract v0 (Int.toNat (1 : Int)) (ByteArray.size v0))) fun (r0, r1) =>
                bif (decide ((((List.length r0) : Nat) : Int) > (0 : Int))) then
                  Option.bind (strings_HasPrefix r1 (⟨#[(41 : UInt8), (35 : UInt8)]⟩ : ByteArray)) fun r2 =>
                    bif r2 then
                      if (((0 + (List.length v4)) = (List.length v4)) ∧ ((((List.length v4) + (List.length (List.take 1 (List.drop 0 [((⟨Array.empty⟩ : ByteArray), (PT.mk (List.take (List.length r0) (List.drop 0 r0))))])))) * 40) ≤ 140737488355328)) then
                        if (((0 : Int) ≤ (2 : Int)) ∧ ((2 : Int) ≤ (((ByteArray.size r1) : Nat) : Int))) then
                          some (Sum.inl ((ByteArray.extract r1 (Int.toNat (2 : Int)) (ByteArray.size r1)), (List.take ((List.length v4) + (List.length (List.take 1 (List.drop 0 [((⟨Array.empty⟩ : ByteArray), (PT.mk (List.take (List.length r0) (List.drop 0 r0))))])))) (List.drop 0 ((List.drop 0 v4) ++ (List.take 1 (List.drop 0 [((⟨Array.empty⟩ : ByteArray), (PT.mk (List.take (List.length r0) (List.drop 0 r0))))]))))), ()))
                        else
                          none
                      else
                        none
                    else
                      some (Sum.inr (Sum.inl ((List.take (List.length v4) (List.drop 0 v4)), v0, ())))
                else
                  some (Sum.inr (Sum.inl ((List.take (List.length v4) (List.drop 0 v4)), v0, ())))
            else
              none
          else
            some (Sum.inr (Sum.inl ((List.take (List.length v4) (List.drop 0 v4)), v0, ())))
      else
        bif ((((UInt8.toNat (Array.getD (ByteArray.data v0) (Int.toNat (0 : Int)) (0 : UInt8))) : Nat) : Int) == (98 : Int)) then
          if (((0 : Int) ≤ (1 : Int)) ∧ ((1 : Int) ≤ (((ByteArray.size v0) : Nat) : Int))) then
            if (((0 + (List.length v4)) = (List.length v4)) ∧ ((((List.length v4) + (List.length (List.take 1 (List.drop 0 [((ByteArray.extract v0 0 (Int.toNat (1 : Int))), (PT.mk []))])))) * 40) ≤ 140737488355328)) then
              if (((0 : Int) ≤ (1 : Int)) ∧ ((1 : Int) ≤ (((ByteArray.size v0) : Nat) : Int))) then
                some (Sum.inl ((ByteArray.extract v0 (Int.toNat (1 : Int)) (ByteArray.size v0)), (List.take ((List.length v4) + (List.length (List.take 1 (List.drop 0 [((ByteArray.extract v0 0 (Int.toNat (1 : Int))), (PT.mk []))])))) (List.drop 0 ((List.drop 0 v4) ++ (List.take 1 (List.drop 0 [((ByteArray.extract v0 0 (Int.toNat (1 : Int))), (PT.mk []))]))))), ()))
              else
                none
            else
              none
          else
            none
        else
          bif ((((UInt8.toNat (Array.getD (ByteArray.data v0) (Int.toNat (0 : Int)) (0 : UInt8))) : Nat) : Int) == (40 : Int)) then
            if (((0 : Int) ≤ (1 : Int)) ∧ ((1 : Int) ≤ (((ByteArray.size v0) : Nat) : Int))) then
              Option.bind (impl_readParts_rec (ByteArray.extract v0 (Int.toNat (1 : Int)) (ByteArray.size v0))) fun (r3, r4) =>
                bif (decide ((((List.length r3) : Nat) : Int) > (0 : Int))) then
                  Option.bind (strings_HasPrefix r4 (⟨#[(41 : UInt8), (35 : UInt8)]⟩ : ByteArray)) fun r5 =>
                    bif r5 then
                      if (((0 + (List.length v4)) = (List.length v4)) ∧ ((((List.length v4) + (List.length (List.take 1 (List.drop 0 [((⟨Array.empty⟩ : ByteArray), (PT.mk (List.take (List.length r3) (List.drop 0 r3))))])))) * 40) ≤ 140737488355328)) then
                        if (((0 : Int) ≤ (2 : Int)) ∧ ((2 : Int) ≤ (((ByteArray.size r4) : Nat) : Int))) then
                          some (Sum.inl ((ByteArray.extract r4 (Int.toNat (2 : Int)) (ByteArray.size r4)), (List.take ((List.length v4) + (List.length (List.take 1 (List.drop 0 [((⟨Array.empty⟩ : ByteArray), (PT.mk (List.take (List.length r3) (List.drop 0 r3))))])))) (List.drop 0 ((List.drop 0 v4) ++ (List.take 1 (List.drop 0 [((⟨Array.empty⟩ : ByteArray), (PT.mk (List.take (List.length r3) (List.drop 0 r3))))]))))), ()))
                        else
                          none
                      else
                        none
                    else
                      some (Sum.inr (Sum.inl ((List.take (List.length v4) (List.drop 0 v4)), v0, ())))
                else
                  some (Sum.inr (Sum.inl ((List.take (List.length v4) (List.drop 0 v4)), v0, ())))
            else
              none
          else
            some (Sum.inr (Sum.inl ((List.take (List.length v4) (List.drop 0 v4)), v0, ())))
    else
      none
  else
    some (Sum.inr (Sum.inr (v0, (List.take (List.length v4) (List.drop 0 v4)), ())))
theorem impl_readParts_l2_eq (impl_readParts_rec : ByteArray → Option ((List (ByteArray × PT)) × ByteArray)) : loopStep 49 (E213 impl_readParts_rec) (L213_0 impl_readParts_rec) (loopOf f213 2) sh213_2 xs213_2 = (impl_readParts_l2 impl_readParts_rec) := by kernel_rfl
theorem loop213_2 (impl_readParts_rec : ByteArray → Option ((List (ByteArray × PT)) × ByteArray)) (hrec : FnOk prog 213 (R213 impl_readParts_rec)) {L : Nat → Option LoopD} (h : L 2 = some ⟨49, sh213_2, xs213_2, (impl_readParts_l2 impl_readParts_rec)⟩) : LoopOk prog L (loopOf f213 2) :=
  loopOk (tysOk_of tyl_ok) (E213_ok impl_readParts_rec hrec) (codeOk_in (L := (L213_0 impl_readParts_rec)) (tysOk_of tyl_ok) (E213_ok impl_readParts_rec hrec) mixed (c := loopOf f213 2) (bs := []) (by kernel_rfl) allNil (by kernel_rfl)) (by kernel_rfl) (by kernel_rfl) (impl_readParts_l2_eq impl_readParts_rec) (by rw [show firstId (loopOf f213 2) = 2 from by kernel_rfl]; exact h)
noncomputable def L213_1 (impl_readParts_rec : ByteArray → Option ((List (ByteArray × PT)) × ByteArray)) : Nat → Option LoopD := fun n => ifEq n 2 (some ⟨49, sh213_2, xs213_2, (impl_readParts_l2 impl_readParts_rec)⟩) ((L213_0 impl_readParts_rec) n)
noncomputable def impl_readParts_step (impl_readParts_rec : ByteArray → Option ((List (ByteArray × PT)) × ByteArray)) : ByteArray → Option ((List (ByteArray × PT)) × ByteArray) := fun a0 =>
  Option.bind (loopF (impl_readParts_l2 impl_readParts_rec) (a0, (List.take 0 (List.drop 0 [])), ())) fun r0 =>
    (match r0 with
    | .inl (d1, d2, _) =>
        some ((List.take (List.length d1) (List.drop 0 d1)), d2)
    | .inr (d3, d4, _) =>
        some ((List.take (List.length d4) (List.drop 0 d4)), d3))
theorem impl_readParts_step_eq (impl_readParts_rec : ByteArray → Option ((List (ByteArray × PT)) × ByteArray)) : fnF (E213 impl_readParts_rec) (L213_1 impl_readParts_rec) [.v .str] true [.sl (.pair .str .pt), .str] f213.ntmps f213.results.toList (codeOf f213) = fun x => (impl_readParts_step impl_readParts_rec) x.1 := by kernel_rfl
theorem impl_readParts_step_ok (impl_readParts_rec : ByteArray → Option ((List (ByteArray × PT)) × ByteArray)) (hrec : FnOk prog 213 (R213 impl_readParts_rec)) : FnOk prog 213 ⟨[.v .str], true, [.sl (.pair .str .pt), .str], fun x => (impl_readParts_step impl_readParts_rec) x.1⟩ := by
  have h := fnOk_of_run (P := prog) (E := (E213 impl_readParts_rec)) (tysOk_of tyl_ok) (E213_ok impl_readParts_rec hrec) (L := (L213_1 impl_readParts_rec)) (ps := [.v .str]) (own := true) (outs := [.sl (.pair .str .pt), .str]) func213 (c := codeOf f213) (by kernel_rfl) (codeOk_in (L := (L213_1 impl_readParts_rec)) (tysOk_of tyl_ok) (E213_ok impl_readParts_rec hrec) mixed (c := codeOf f213) (bs := [loopOf f213 2]) (by kernel_rfl) (allCons (loop213_2 impl_readParts_rec hrec rfl) allNil) (by kernel_rfl))
  rw [(impl_readParts_step_eq impl_readParts_rec)] at h
  exact h
/-- so many calls within each other -/
noncomputable def impl_readParts_fuel : Nat → ByteArray → Option ((List (ByteArray × PT)) × ByteArray)
  | 0 => fun _ => none
  | n + 1 => impl_readParts_step (impl_readParts_fuel n)
theorem impl_readParts_fuel_ok : ∀ n, FnOk prog 213 (R213 (impl_readParts_fuel n))
  | 0 => fun xs r h => by cases h
  | n + 1 => impl_readParts_step_ok (impl_readParts_fuel n) (impl_readParts_fuel_ok n)
noncomputable def impl_readParts : ByteArray → Option ((List (ByteArray × PT)) × ByteArray) := impl_readParts_fuel 200
noncomputable def A213 : FnA := R213 impl_readParts
theorem A213_ok : FnOk prog 213 A213 := impl_readParts_fuel_ok 200
/-! impl.parts -/
noncomputable def E203 : Env := ⟨ty0, fun g => ifEq g 213 (some A213) (none), fun _ => none, fun _ => none, fun _ => none⟩
theorem E203_ok : FnsOk prog E203 := (oneFn A213_ok func213 (by kernel_rfl) (by kernel_rfl) (noFns _ _))
noncomputable def L203_0 : Nat → Option LoopD := fun _ => none
noncomputable def impl_parts : ByteArray → Option ((List (ByteArray × PT)) × Bool) := fun a0 =>
  bif (decide ((((ByteArray.size a0) : Nat) : Int) > (120 : Int))) then
    some ([], false)
  else
    Option.bind (impl_readParts a0) fun (r0, r1) =>
      bif (decide ((((List.length r0) : Nat) : Int) > (0 : Int))) then
        some ((List.take (List.length r0) (List.drop 0 r0)), ((ByteArray.toList r1) == (ByteArray.toList (⟨#[]⟩ : ByteArray))))
      else
        some ((List.take (List.length r0) (List.drop 0 r0)), false)
noncomputable def A203 : FnA := ⟨[.v .str], true, [.sl (.pair .str .pt), .bool], fun x => impl_parts x.1⟩
theorem impl_parts_eq : fnF E203 L203_0 [.v .str] true [.sl (.pair .str .pt), .bool] f203.ntmps f203.results.toList (codeOf f203) = fun x => impl_parts x.1 := by kernel_rfl
theorem A203_ok : FnOk prog 203 A203 := by
  have h := fnOk_of_run (P := prog) (E := E203) (tysOk_of tyl_ok) E203_ok (L := L203_0) (ps := [.v .str]) (own := true) (outs := [.sl (.pair .str .pt), .bool]) func203 (c := codeOf f203) (by kernel_rfl) (codeOk_in (L := L203_0) (tysOk_of tyl_ok) E203_ok mixed (c := codeOf f203) (bs := []) (by kernel_rfl) allNil (by kernel_rfl))
  rw [impl_parts_eq] at h
  exact h
/-! impl.filled -/
noncomputable def E109 : Env := ⟨ty0, fun _ => none, fun _ => none, fun _ => none, fun _ => none⟩
theorem E109_ok : FnsOk prog E109 := (noFns _ _)
noncomputable def L109_0 : Nat → Option LoopD := fun _ => none
def sh109_6 : List Fm := [.cell (.val (.int .i64)), .clo [.int .i64, .int .i64] (.int .i64), d, d, .box 100400 [.val (.int .i64), .own (.int .i64) 100402 false], .box 100500 [.val (.int .i64), .own (.int .i64) 100502 false], .cell (.val (.int .i64)), d, d, d, .cell (.val (.int .i64)), .cell (.val (.int .i64)), d, d, .cell (.val (.int .i64)), .cell (.val (.int .i64)), d, d, d, d, d, d, d, d, d, d, d, d, d, d]
def xs109_6 : List (Ex × List Fm) := [(.exit 2, [.cell (.val (.int .i64)), .clo [.int .i64, .int .i64] (.int .i64), d, d, .box 100400 [.val (.int .i64), .own (.int .i64) 100402 false], .box 100500 [.val (.int .i64), .own (.int .i64) 100502 false], d, d, d, d, .cell (.val (.int .i64)), .cell (.val (.int .i64)), d, d, d, d, d, d, d, d, d, d, d, d, d, d, d, d, d, d])]
noncomputable def impl_filled_l6 : (Int × ((Int × Int × Unit) → Option (Int)) × (Int × (List Int) × Unit) × (Int × (List Int) × Unit) × Int × Int × Int × Int × Int × Unit) → Option ((Int × ((Int × Int × Unit) → Option (Int)) × (Int × (List Int) × Unit) × (Int × (List Int) × Unit) × Int × Int × Int × Int × Int × Unit) ⊕ ((Int × ((Int × Int × Unit) → Option (Int)) × (Int × (List Int) × Unit) × (Int × (List Int) × Unit) × Int × Int × Unit))) := fun (v0, v1, (v4_0, v4_1, _), (v5_0, v5_1, _), v6, v10, v11, v14, v15, _) =>
  bif (decide (v15 < v14)) then
    Option.bind (v1 (v6, v15, ())) fun r0 =>
      if (((0 + (List.length v5_1)) = (List.length v5_1)) ∧ ((((List.length v5_1) + (List.length (List.take 1 (List.drop 0 [r0])))) * 8) ≤ 140737488355328)) then
        some (Sum.inl (v0, v1, (v4_0, (List.take (List.length v4_1) (List.drop 0 v4_1)), ()), (v5_0, (List.take ((List.length v5_1) + (List.length (List.take 1 (List.drop 0 [r0])))) (List.drop 0 ((List.drop 0 v5_1) ++ (List.take 1 (List.drop 0 [r0]))))), ()), v6, v10, v11, v14, (IntKind.wrap .i64 (v15 + (1 : Int))), ()))
      else
        none
  else
    some (Sum.inr (v0, v1, (v4_0, (List.take (List.length v4_1) (List.drop 0 v4_1)), ()), (v5_0, (List.take (List.length v5_1) (List.drop 0 v5_1)), ()), v10, v11, ()))
theorem impl_filled_l6_eq : loopStep 30 E109 L109_0 (loopOf f109 6) sh109_6 xs109_6 = impl_filled_l6 := by kernel_rfl
theorem loop109_6 {L : Nat → Option LoopD} (h : L 6 = some ⟨30, sh109_6, xs109_6, impl_filled_l6⟩) : LoopOk prog L (loopOf f109 6) :=
  loopOk (tysOk_of tyl_ok) E109_ok (codeOk_in (L := L109_0) (tysOk_of tyl_ok) E109_ok mixed (c := loopOf f109 6) (bs := []) (by kernel_rfl) allNil (by kernel_rfl)) (by kernel_rfl) (by kernel_rfl) impl_filled_l6_eq (by rw [show firstId (loopOf f109 6) = 6 from by kernel_rfl]; exact h)
noncomputable def L109_1 : Nat → Option LoopD := fun n => ifEq n 6 (some ⟨30, sh109_6, xs109_6, impl_filled_l6⟩) (L109_0 n)
def sh109_3 : List Fm := [.cell (.val (.int .i64)), .clo [.int .i64, .int .i64] (.int .i64), d, d, .box 100400 [.val (.int .i64), .own (.int .i64) 100402 false], .box 100500 [.val (.int .i64), .own (.int .i64) 100502 false], d, d, d, d, .cell (.val (.int .i64)), .cell (.val (.int .i64)), d, d, d, d, d, d, d, d, d, d, d, d, d, d, d, d, d, d]
def xs109_3 : List (Ex × List Fm) := [(.exit 0, [d, d, d, d, .box 100400 [.val (.int .i64), .own (.int .i64) 100402 false], .box 100500 [.val (.int .i64), .own (.int .i64) 100502 false], d, d, d, d, d, d, d, d, d, d, d, d, d, d, d, d, d, d, d, d, d, d, d, d])]
noncomputable def impl_filled_l3 : (Int × ((Int × Int × Unit) → Option (Int)) × (Int × (List Int) × Unit) × (Int × (List Int) × Unit) × Int × Int × Unit) → Option ((Int × ((Int × Int × Unit) → Option (Int)) × (Int × (List Int) × Unit) × (Int × (List Int) × Unit) × Int × Int × Unit) ⊕ (((Int × (List Int) × Unit) × (Int × (List Int) × Unit) × Unit))) := fun (v0, v1, (v4_0, v4_1, _), (v5_0, v5_1, _), v10, v11, _) =>
  bif (decide (v11 < v10)) then
    Option.bind (loopF impl_filled_l6 (v0, v1, (v4_0, (List.take (List.length v4_1) (List.drop 0 v4_1)), ()), (v5_0, (List.take (List.length v5_1) (List.drop 0 v5_1)), ()), v11, v10, v11, v0, (0 : Int), ())) fun (r0, r1, (r2, r3, _), (r4, r5, _), r6, r7, _) =>
      some (Sum.inl (r0, r1, (r2, (List.take (List.length r3) (List.drop 0 r3)), ()), (r4, (List.take (List.length r5) (List.drop 0 r5)), ()), r6, (IntKind.wrap .i64 (r7 + (1 : Int))), ()))
  else
    some (Sum.inr ((v4_0, (List.take (List.length v4_1) (List.drop 0 v4_1)), ()), (v5_0, (List.take (List.length v5_1) (List.drop 0 v5_1)), ()), ()))
theorem impl_filled_l3_eq : loopStep 30 E109 L109_1 (loopOf f109 3) sh109_3 xs109_3 = impl_filled_l3 := by kernel_rfl
theorem loop109_3 {L : Nat → Option LoopD} (h : L 3 = some ⟨30, sh109_3, xs109_3, impl_filled_l3⟩) : LoopOk prog L (loopOf f109 3) :=
  loopOk (tysOk_of tyl_ok) E109_ok (codeOk_in (L := L109_1) (tysOk_of tyl_ok) E109_ok mixed (c := loopOf f109 3) (bs := [loopOf f109 6]) (by kernel_rfl) (allCons (loop109_6 rfl) allNil) (by kernel_rfl)) (by kernel_rfl) (by kernel_rfl) impl_filled_l3_eq (by rw [show firstId (loopOf f109 3) = 3 from by kernel_rfl]; exact h)
noncomputable def L109_2 : Nat → Option LoopD := fun n => ifEq n 3 (some ⟨30, sh109_3, xs109_3, impl_filled_l3⟩) (L109_1 n)
noncomputable def impl_filled : Int → ((Int × Int × Unit) → Option (Int)) → Option ((Int × (List Int))) := fun a0 a1 =>
  Option.bind (loopF impl_filled_l3 (a0, a1, ((0 : Int), [], ()), (a0, [], ()), a0, (0 : Int), ())) fun ((r0, r1, _), (r2, r3, _), _) =>
    some (r2, (List.take (List.length r3) (List.drop 0 r3)))
noncomputable def A109 : FnA := ⟨[.v (.int .i64), .clo [.int .i64, .int .i64] (.int .i64)], true, [.pair (.int .i64) (.sl (.int .i64))], fun x => impl_filled x.1 x.2.1⟩
theorem impl_filled_eq : fnF E109 L109_2 [.v (.int .i64), .clo [.int .i64, .int .i64] (.int .i64)] true [.pair (.int .i64) (.sl (.int .i64))] f109.ntmps f109.results.toList (codeOf f109) = fun x => impl_filled x.1 x.2.1 := by kernel_rfl
theorem A109_ok : FnOk prog 109 A109 := by
  have h := fnOk_of_run (P := prog) (E := E109) (tysOk_of tyl_ok) E109_ok (L := L109_2) (ps := [.v (.int .i64), .clo [.int .i64, .int .i64] (.int .i64)]) (own := true) (outs := [.pair (.int .i64) (.sl (.int .i64))]) func109 (c := codeOf f109) (by kernel_rfl) (codeOk_in (L := L109_2) (tysOk_of tyl_ok) E109_ok mixed (c := codeOf f109) (bs := [loopOf f109 3]) (by kernel_rfl) (allCons (loop109_3 rfl) allNil) (by kernel_rfl))
  rw [impl_filled_eq] at h
  exact h
/-! impl.StepMatrix$1 -/
noncomputable def E110 : Env := ⟨ty0, fun _ => none, fun _ => none, fun _ => none, fun _ => none⟩
theorem E110_ok : FnsOk prog E110 := (noFns _ _)
noncomputable def L110_0 : Nat → Option LoopD := fun _ => none
noncomputable def impl_StepMatrix_1 : Int → Int → Option (Int) := fun a0 a1 =>
  some (1000000 : Int)
noncomputable def A110 : FnA := ⟨[.v (.int .i64), .v (.int .i64)], true, [.int .i64], fun x => impl_StepMatrix_1 x.1 x.2.1⟩
theorem impl_StepMatrix_1_eq : fnF E110 L110_0 [.v (.int .i64), .v (.int .i64)] true [.int .i64] f110.ntmps f110.results.toList (codeOf f110) = fun x => impl_StepMatrix_1 x.1 x.2.1 := by kernel_rfl
theorem A110_ok : FnOk prog 110 A110 := by
  have h := fnOk_of_run (P := prog) (E := E110) (tysOk_of tyl_ok) E110_ok (L := L110_0) (ps := [.v (.int .i64), .v (.int .i64)]) (own := true) (outs := [.int .i64]) func110 (c := codeOf f110) (by kernel_rfl) (codeOk_in (L := L110_0) (tysOk_of tyl_ok) E110_ok mixed (c := codeOf f110) (bs := []) (by kernel_rfl) allNil (by kernel_rfl))
  rw [impl_StepMatrix_1_eq] at h
  exact h
end Go.Proofs.Ytooigaliccnldaa
