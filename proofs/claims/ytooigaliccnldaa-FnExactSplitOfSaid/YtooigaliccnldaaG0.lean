/- What Go functions that the laws reach compute, and that they do: written by a program of this session. -/
import Derived.Test.YtooigaliccnldaaCmp
import Derived.KernelRfl
set_option linter.unusedVariables false
namespace Go.Proofs.Ytooigaliccnldaa
open Go Go.Proofs.Ytooigaliccnldaa.Am Go.Proofs.Try
set_option maxRecDepth 100000
def tyl : List (Nat × TyD) := [(3, {kd := .int .i64}),
  (4, {kd := .bool}),
  (5, {kd := .int .u8}),
  (9, {kd := .str}),
  (22, {kd := .sl (.int .i64), elt := .int .i64, bytes := 8}),
  (29, {kd := .pair (.int .i64) (.sl (.int .i64)), flds := [(0, .int .i64), (1, .sl (.int .i64))]}),
  (35, {kd := .sl (.pair (.int .i64) (.pair .str (.pair (.int .i64) (.int .i64)))), elt := .pair (.int .i64) (.pair .str (.pair (.int .i64) (.int .i64))), bytes := 40}),
  (37, {kd := .pair (.int .i64) (.pair (.sl (.int .i64)) (.pair (.sl (.int .i64)) (.sl (.pair (.int .i64) (.pair .str (.pair (.int .i64) (.int .i64))))))), flds := [(0, .int .i64), (1, .sl (.int .i64)), (2, .sl (.int .i64)), (3, .sl (.pair (.int .i64) (.pair .str (.pair (.int .i64) (.int .i64)))))]}),
  (39, {kd := .sl .str, elt := .str, bytes := 16}),
  (42, {kd := .sl (.pair (.int .i64) (.pair .str (.pair (.int .i64) (.int .i64)))), elt := .pair (.int .i64) (.pair .str (.pair (.int .i64) (.int .i64))), bytes := 40}),
  (44, {kd := .pair (.int .i64) (.pair (.sl (.int .i64)) (.pair (.sl (.int .i64)) (.sl (.pair (.int .i64) (.pair .str (.pair (.int .i64) (.int .i64))))))), flds := [(0, .int .i64), (1, .sl (.int .i64)), (2, .sl (.int .i64)), (3, .sl (.pair (.int .i64) (.pair .str (.pair (.int .i64) (.int .i64)))))]}),
  (57, {kd := .sl (.int .u8), elt := .int .u8, bytes := 1}),
  (94, {kd := .sl .bool, elt := .bool, bytes := 1}),
  (101, {kd := .sl (.sl (.int .i64)), elt := .sl (.int .i64), bytes := 24}),
  (109, {kd := .pair (.int .i64) (.pair .str (.pair (.int .i64) (.int .i64))), flds := [(0, .int .i64), (1, .str), (2, .int .i64), (3, .int .i64)]}),
  (127, {kd := .pair (.int .i64) (.pair .str (.pair (.int .i64) (.int .i64))), flds := [(0, .int .i64), (1, .str), (2, .int .i64), (3, .int .i64)]}),
  (135, {kd := .sl (.pair (.int .i64) (.pair (.sl (.int .i64)) (.pair (.sl (.int .i64)) (.sl (.pair (.int .i64) (.pair .str (.pair (.int .i64) (.int .i64)))))))), elt := .pair (.int .i64) (.pair (.sl (.int .i64)) (.pair (.sl (.int .i64)) (.sl (.pair (.int .i64) (.pair .str (.pair (.int .i64) (.int .i64))))))), bytes := 80}),
  (157, {kd := .int .u64}),
  (185, {kd := .int .u64})]
def ty0 : Nat → Option TyD := assoc tyl
theorem tyl_ok : tysOkB prog tyl = true := by kernel_rfl
theorem mixed : prog.follows .mixedOrders = true := by kernel_rfl
abbrev d : Fm := .cell .drop
/-! laws.szIntS -/
noncomputable def E76 : Env := ⟨ty0, fun _ => none, fun _ => none, fun _ => none⟩
theorem E76_ok : FnsOk prog E76 := (noFns _ _)
noncomputable def L76_0 : Nat → Option LoopD := fun _ => none
noncomputable def laws_szIntS : (List Int) → Int → Option (Int) := fun a0 a1 =>
  bif (decide ((IntKind.wrap .i64 (a1 - (((List.length a0) : Nat) : Int))) < (0 : Int))) then
    some (-1 : Int)
  else
    some (IntKind.wrap .i64 (a1 - (((List.length a0) : Nat) : Int)))
noncomputable def A76 : FnA := ⟨[.v (.sl (.int .i64)), .v (.int .i64)], true, [.int .i64], fun x => laws_szIntS x.1 x.2.1⟩
theorem laws_szIntS_eq : fnF E76 L76_0 [.v (.sl (.int .i64)), .v (.int .i64)] true [.int .i64] f76.ntmps f76.results.toList (codeOf f76) = fun x => laws_szIntS x.1 x.2.1 := by kernel_rfl
theorem A76_ok : FnOk prog 76 A76 := by
  have h := fnOk_of_run (P := prog) (E := E76) (tysOk_of tyl_ok) E76_ok (L := L76_0) (ps := [.v (.sl (.int .i64)), .v (.int .i64)]) (own := true) (outs := [.int .i64]) func76 (c := codeOf f76) (by kernel_rfl) (codeOk_in (L := L76_0) (tysOk_of tyl_ok) E76_ok mixed (c := codeOf f76) (bs := []) (by kernel_rfl) allNil (by kernel_rfl))
  rw [laws_szIntS_eq] at h
  exact h
/-! laws.szStep -/
noncomputable def E127 : Env := ⟨ty0, fun _ => none, fun _ => none, fun _ => none⟩
theorem E127_ok : FnsOk prog E127 := (noFns _ _)
noncomputable def L127_0 : Nat → Option LoopD := fun _ => none
noncomputable def laws_szStep : (Int × (ByteArray × (Int × Int))) → Int → Option (Int) := fun (a0_0, a0_1, a0_2, a0_3) a1 =>
  bif (decide ((IntKind.wrap .i64 (a1 - (((ByteArray.size a0_1) : Nat) : Int))) < (0 : Int))) then
    some (-1 : Int)
  else
    some (IntKind.wrap .i64 (a1 - (((ByteArray.size a0_1) : Nat) : Int)))
noncomputable def A127 : FnA := ⟨[.v (.pair (.int .i64) (.pair .str (.pair (.int .i64) (.int .i64)))), .v (.int .i64)], true, [.int .i64], fun x => laws_szStep x.1 x.2.1⟩
theorem laws_szStep_eq : fnF E127 L127_0 [.v (.pair (.int .i64) (.pair .str (.pair (.int .i64) (.int .i64)))), .v (.int .i64)] true [.int .i64] f127.ntmps f127.results.toList (codeOf f127) = fun x => laws_szStep x.1 x.2.1 := by kernel_rfl
theorem A127_ok : FnOk prog 127 A127 := by
  have h := fnOk_of_run (P := prog) (E := E127) (tysOk_of tyl_ok) E127_ok (L := L127_0) (ps := [.v (.pair (.int .i64) (.pair .str (.pair (.int .i64) (.int .i64)))), .v (.int .i64)]) (own := true) (outs := [.int .i64]) func127 (c := codeOf f127) (by kernel_rfl) (codeOk_in (L := L127_0) (tysOk_of tyl_ok) E127_ok mixed (c := codeOf f127) (bs := []) (by kernel_rfl) allNil (by kernel_rfl))
  rw [laws_szStep_eq] at h
  exact h
/-! laws.szStepS -/
noncomputable def E77 : Env := ⟨ty0, fun g => ifEq g 127 (some A127) (none), fun _ => none, fun _ => none⟩
theorem E77_ok : FnsOk prog E77 := (oneFn A127_ok func127 (by kernel_rfl) (by kernel_rfl) (noFns _ _))
noncomputable def L77_0 : Nat → Option LoopD := fun _ => none
def sh77_5 : List Fm := [.cell (.val (.sl (.pair (.int .i64) (.pair .str (.pair (.int .i64) (.int .i64)))))), .cell (.val (.int .i64)), d, d, d, .cell (.val (.int .i64)), d, d, d, d, d, d, d, d, d, d, d, d, d, d, d, d, d, d, d, d, d]
def xs77_5 : List (Ex × List Fm) := [(.ret, [d, d, d, d, .cell (.val (.int .i64)), d, d, d, d, d, d, d, d, d, d, d, d, d, d, d, d, d, d, d, d, d, d]), (.exit 0, [d, .cell (.val (.int .i64)), d, d, d, d, d, d, d, d, d, d, d, d, d, d, d, d, d, d, d, d, d, d, d, d, d])]
noncomputable def laws_szStepS_l5 : ((List (Int × (ByteArray × (Int × Int)))) × Int × Int × Unit) → Option (((List (Int × (ByteArray × (Int × Int)))) × Int × Int × Unit) ⊕ ((Int × Unit) ⊕ (Int × Unit))) := fun (v0, v1, v5, _) =>
  bif (decide (v5 < (((List.length v0) : Nat) : Int))) then
    if (((0 : Int) ≤ v5) ∧ (v5 < (((List.length v0) : Nat) : Int))) then
      Option.bind (laws_szStep (List.getD v0 (Int.toNat v5) ((0 : Int), (⟨Array.empty⟩ : ByteArray), (0 : Int), (0 : Int))) v1) fun r0 =>
        bif (decide (r0 < (0 : Int))) then
          some (Sum.inr (Sum.inl ((-1 : Int), ())))
        else
          some (Sum.inl (v0, r0, (IntKind.wrap .i64 (v5 + (1 : Int))), ()))
    else
      none
  else
    some (Sum.inr (Sum.inr (v1, ())))
theorem laws_szStepS_l5_eq : loopStep E77 L77_0 (loopOf f77 5) sh77_5 xs77_5 = laws_szStepS_l5 := by kernel_rfl
theorem loop77_5 {L : Nat → Option LoopD} (h : L 5 = some ⟨sh77_5, xs77_5, laws_szStepS_l5⟩) : LoopOk prog L (loopOf f77 5) :=
  loopOk (tysOk_of tyl_ok) E77_ok (codeOk_in (L := L77_0) (tysOk_of tyl_ok) E77_ok mixed (c := loopOf f77 5) (bs := []) (by kernel_rfl) allNil (by kernel_rfl)) (by kernel_rfl) (by kernel_rfl) laws_szStepS_l5_eq (by rw [show firstId (loopOf f77 5) = 5 from by kernel_rfl]; exact h)
noncomputable def L77_1 : Nat → Option LoopD := fun n => ifEq n 5 (some ⟨sh77_5, xs77_5, laws_szStepS_l5⟩) (L77_0 n)
noncomputable def laws_szStepS : (List (Int × (ByteArray × (Int × Int)))) → Int → Option (Int) := fun a0 a1 =>
  bif (decide ((IntKind.wrap .i64 (a1 - (((List.length a0) : Nat) : Int))) < (0 : Int))) then
    some (-1 : Int)
  else
    Option.bind (loopF laws_szStepS_l5 (a0, (IntKind.wrap .i64 (a1 - (((List.length a0) : Nat) : Int))), (0 : Int), ())) fun r0 =>
      (match r0 with
      | .inl (d1, _) =>
          some d1
      | .inr (d2, _) =>
          some d2)
noncomputable def A77 : FnA := ⟨[.v (.sl (.pair (.int .i64) (.pair .str (.pair (.int .i64) (.int .i64))))), .v (.int .i64)], true, [.int .i64], fun x => laws_szStepS x.1 x.2.1⟩
theorem laws_szStepS_eq : fnF E77 L77_1 [.v (.sl (.pair (.int .i64) (.pair .str (.pair (.int .i64) (.int .i64))))), .v (.int .i64)] true [.int .i64] f77.ntmps f77.results.toList (codeOf f77) = fun x => laws_szStepS x.1 x.2.1 := by kernel_rfl
theorem A77_ok : FnOk prog 77 A77 := by
  have h := fnOk_of_run (P := prog) (E := E77) (tysOk_of tyl_ok) E77_ok (L := L77_1) (ps := [.v (.sl (.pair (.int .i64) (.pair .str (.pair (.int .i64) (.int .i64))))), .v (.int .i64)]) (own := true) (outs := [.int .i64]) func77 (c := codeOf f77) (by kernel_rfl) (codeOk_in (L := L77_1) (tysOk_of tyl_ok) E77_ok mixed (c := codeOf f77) (bs := [loopOf f77 5]) (by kernel_rfl) (allCons (loop77_5 rfl) allNil) (by kernel_rfl))
  rw [laws_szStepS_eq] at h
  exact h
/-! laws.szAutomaton -/
noncomputable def E20 : Env := ⟨ty0, fun g => ifEq g 76 (some A76) (ifEq g 77 (some A77) (none)), fun _ => none, fun _ => none⟩
theorem E20_ok : FnsOk prog E20 := (oneFn A76_ok func76 (by kernel_rfl) (by kernel_rfl) (oneFn A77_ok func77 (by kernel_rfl) (by kernel_rfl) (noFns _ _)))
noncomputable def L20_0 : Nat → Option LoopD := fun _ => none
noncomputable def laws_szAutomaton : (Int × ((List Int) × ((List Int) × (List (Int × (ByteArray × (Int × Int))))))) → Int → Option (Int) := fun (a0_0, a0_1, a0_2, a0_3) a1 =>
  Option.bind (laws_szIntS a0_1 a1) fun r0 =>
    bif (decide (r0 < (0 : Int))) then
      some (-1 : Int)
    else
      Option.bind (laws_szIntS a0_2 r0) fun r1 =>
        bif (decide (r1 < (0 : Int))) then
          some (-1 : Int)
        else
          Option.bind (laws_szStepS a0_3 r1) fun r2 =>
            bif (decide (r2 < (0 : Int))) then
              some (-1 : Int)
            else
              some r2
noncomputable def A20 : FnA := ⟨[.v (.pair (.int .i64) (.pair (.sl (.int .i64)) (.pair (.sl (.int .i64)) (.sl (.pair (.int .i64) (.pair .str (.pair (.int .i64) (.int .i64)))))))), .v (.int .i64)], true, [.int .i64], fun x => laws_szAutomaton x.1 x.2.1⟩
theorem laws_szAutomaton_eq : fnF E20 L20_0 [.v (.pair (.int .i64) (.pair (.sl (.int .i64)) (.pair (.sl (.int .i64)) (.sl (.pair (.int .i64) (.pair .str (.pair (.int .i64) (.int .i64)))))))), .v (.int .i64)] true [.int .i64] f20.ntmps f20.results.toList (codeOf f20) = fun x => laws_szAutomaton x.1 x.2.1 := by kernel_rfl
theorem A20_ok : FnOk prog 20 A20 := by
  have h := fnOk_of_run (P := prog) (E := E20) (tysOk_of tyl_ok) E20_ok (L := L20_0) (ps := [.v (.pair (.int .i64) (.pair (.sl (.int .i64)) (.pair (.sl (.int .i64)) (.sl (.pair (.int .i64) (.pair .str (.pair (.int .i64) (.int .i64)))))))), .v (.int .i64)]) (own := true) (outs := [.int .i64]) func20 (c := codeOf f20) (by kernel_rfl) (codeOk_in (L := L20_0) (tysOk_of tyl_ok) E20_ok mixed (c := codeOf f20) (bs := []) (by kernel_rfl) allNil (by kernel_rfl))
  rw [laws_szAutomaton_eq] at h
  exact h
/-! laws.toIntS -/
noncomputable def E82 : Env := ⟨ty0, fun _ => none, fun _ => none, fun _ => none⟩
theorem E82_ok : FnsOk prog E82 := (noFns _ _)
noncomputable def L82_0 : Nat → Option LoopD := fun _ => none
def sh82_3 : List Fm := [.cell (.val (.sl (.int .i64))), d, d, .cell (.own (.int .i64) 100300 false), .cell (.val (.int .i64)), d, d, d, d, d, d, d, d, d, d, d, d, d, d, d, d, d]
def xs82_3 : List (Ex × List Fm) := [(.exit 0, [d, d, d, .cell (.own (.int .i64) 100300 false), d, d, d, d, d, d, d, d, d, d, d, d, d, d, d, d, d, d])]
noncomputable def laws_toIntS_l3 : ((List Int) × (List Int) × Int × Unit) → Option (((List Int) × (List Int) × Int × Unit) ⊕ (((List Int) × Unit))) := fun (v0, v3, v4, _) =>
  bif (decide (v4 < (((List.length v0) : Nat) : Int))) then
    if (((0 : Int) ≤ v4) ∧ (v4 < (((List.length v0) : Nat) : Int))) then
      if (((0 : Int) ≤ v4) ∧ (v4 < (((List.length v3) : Nat) : Int))) then
        some (Sum.inl (v0, (List.take (List.length v3) (List.drop 0 (List.set v3 (0 + (Int.toNat v4)) (List.getD v0 (Int.toNat v4) (0 : Int))))), (IntKind.wrap .i64 (v4 + (1 : Int))), ()))
      else
        none
    else
      none
  else
    some (Sum.inr ((List.take (List.length v3) (List.drop 0 v3)), ()))
theorem laws_toIntS_l3_eq : loopStep E82 L82_0 (loopOf f82 3) sh82_3 xs82_3 = laws_toIntS_l3 := by kernel_rfl
theorem loop82_3 {L : Nat → Option LoopD} (h : L 3 = some ⟨sh82_3, xs82_3, laws_toIntS_l3⟩) : LoopOk prog L (loopOf f82 3) :=
  loopOk (tysOk_of tyl_ok) E82_ok (codeOk_in (L := L82_0) (tysOk_of tyl_ok) E82_ok mixed (c := loopOf f82 3) (bs := []) (by kernel_rfl) allNil (by kernel_rfl)) (by kernel_rfl) (by kernel_rfl) laws_toIntS_l3_eq (by rw [show firstId (loopOf f82 3) = 3 from by kernel_rfl]; exact h)
noncomputable def L82_1 : Nat → Option LoopD := fun n => ifEq n 3 (some ⟨sh82_3, xs82_3, laws_toIntS_l3⟩) (L82_0 n)
noncomputable def laws_toIntS : (List Int) → Option ((List Int)) := fun a0 =>
  if (((0 : Int) ≤ (((List.length a0) : Nat) : Int)) ∧ (((((List.length a0) : Nat) : Int) = (((List.length a0) : Nat) : Int)) ∧ (((((List.length a0) : Nat) : Int) * ((8 : Nat) : Int)) ≤ (140737488355328 : Int)))) then
    Option.bind (loopF laws_toIntS_l3 (a0, (List.take (Int.toNat (((List.length a0) : Nat) : Int)) (List.drop 0 (List.replicate (Int.toNat (((List.length a0) : Nat) : Int)) (0 : Int)))), (0 : Int), ())) fun (r0, _) =>
      some (List.take (List.length r0) (List.drop 0 r0))
  else
    none
noncomputable def A82 : FnA := ⟨[.v (.sl (.int .i64))], true, [.sl (.int .i64)], fun x => laws_toIntS x.1⟩
theorem laws_toIntS_eq : fnF E82 L82_1 [.v (.sl (.int .i64))] true [.sl (.int .i64)] f82.ntmps f82.results.toList (codeOf f82) = fun x => laws_toIntS x.1 := by kernel_rfl
theorem A82_ok : FnOk prog 82 A82 := by
  have h := fnOk_of_run (P := prog) (E := E82) (tysOk_of tyl_ok) E82_ok (L := L82_1) (ps := [.v (.sl (.int .i64))]) (own := true) (outs := [.sl (.int .i64)]) func82 (c := codeOf f82) (by kernel_rfl) (codeOk_in (L := L82_1) (tysOk_of tyl_ok) E82_ok mixed (c := codeOf f82) (bs := [loopOf f82 3]) (by kernel_rfl) (allCons (loop82_3 rfl) allNil) (by kernel_rfl))
  rw [laws_toIntS_eq] at h
  exact h
/-! laws.toStep -/
noncomputable def E132 : Env := ⟨ty0, fun _ => none, fun _ => none, fun _ => none⟩
theorem E132_ok : FnsOk prog E132 := (noFns _ _)
noncomputable def L132_0 : Nat → Option LoopD := fun _ => none
noncomputable def laws_toStep : (Int × (ByteArray × (Int × Int))) → Option ((Int × (ByteArray × (Int × Int)))) := fun (a0_0, a0_1, a0_2, a0_3) =>
  some (a0_0, a0_1, a0_2, a0_3)
noncomputable def A132 : FnA := ⟨[.v (.pair (.int .i64) (.pair .str (.pair (.int .i64) (.int .i64))))], true, [.pair (.int .i64) (.pair .str (.pair (.int .i64) (.int .i64)))], fun x => laws_toStep x.1⟩
theorem laws_toStep_eq : fnF E132 L132_0 [.v (.pair (.int .i64) (.pair .str (.pair (.int .i64) (.int .i64))))] true [.pair (.int .i64) (.pair .str (.pair (.int .i64) (.int .i64)))] f132.ntmps f132.results.toList (codeOf f132) = fun x => laws_toStep x.1 := by kernel_rfl
theorem A132_ok : FnOk prog 132 A132 := by
  have h := fnOk_of_run (P := prog) (E := E132) (tysOk_of tyl_ok) E132_ok (L := L132_0) (ps := [.v (.pair (.int .i64) (.pair .str (.pair (.int .i64) (.int .i64))))]) (own := true) (outs := [.pair (.int .i64) (.pair .str (.pair (.int .i64) (.int .i64)))]) func132 (c := codeOf f132) (by kernel_rfl) (codeOk_in (L := L132_0) (tysOk_of tyl_ok) E132_ok mixed (c := codeOf f132) (bs := []) (by kernel_rfl) allNil (by kernel_rfl))
  rw [laws_toStep_eq] at h
  exact h
/-! laws.toStepS -/
noncomputable def E83 : Env := ⟨ty0, fun g => ifEq g 132 (some A132) (none), fun _ => none, fun _ => none⟩
theorem E83_ok : FnsOk prog E83 := (oneFn A132_ok func132 (by kernel_rfl) (by kernel_rfl) (noFns _ _))
noncomputable def L83_0 : Nat → Option LoopD := fun _ => none
def sh83_3 : List Fm := [.cell (.val (.sl (.pair (.int .i64) (.pair .str (.pair (.int .i64) (.int .i64)))))), d, d, .cell (.own (.pair (.int .i64) (.pair .str (.pair (.int .i64) (.int .i64)))) 100300 false), .cell (.val (.int .i64)), d, d, d, d, d, d, d, d, d, d, d, d, d, d, d, d, d, d]
def xs83_3 : List (Ex × List Fm) := [(.exit 0, [d, d, d, .cell (.own (.pair (.int .i64) (.pair .str (.pair (.int .i64) (.int .i64)))) 100300 false), d, d, d, d, d, d, d, d, d, d, d, d, d, d, d, d, d, d, d])]
noncomputable def laws_toStepS_l3 : ((List (Int × (ByteArray × (Int × Int)))) × (List (Int × (ByteArray × (Int × Int)))) × Int × Unit) → Option (((List (Int × (ByteArray × (Int × Int)))) × (List (Int × (ByteArray × (Int × Int)))) × Int × Unit) ⊕ (((List (Int × (ByteArray × (Int × Int)))) × Unit))) := fun (v0, v3, v4, _) =>
  bif (decide (v4 < (((List.length v0) : Nat) : Int))) then
    if (((0 : Int) ≤ v4) ∧ (v4 < (((List.length v0) : Nat) : Int))) then
      Option.bind (laws_toStep (List.getD v0 (Int.toNat v4) ((0 : Int), (⟨Array.empty⟩ : ByteArray), (0 : Int), (0 : Int)))) fun (r0, r1, r2, r3) =>
        if (((0 : Int) ≤ v4) ∧ (v4 < (((List.length v3) : Nat) : Int))) then
          some (Sum.inl (v0, (List.take (List.length v3) (List.drop 0 (List.set v3 (0 + (Int.toNat v4)) (r0, r1, r2, r3)))), (IntKind.wrap .i64 (v4 + (1 : Int))), ()))
        else
          none
    else
      none
  else
    some (Sum.inr ((List.take (List.length v3) (List.drop 0 v3)), ()))
theorem laws_toStepS_l3_eq : loopStep E83 L83_0 (loopOf f83 3) sh83_3 xs83_3 = laws_toStepS_l3 := by kernel_rfl
theorem loop83_3 {L : Nat → Option LoopD} (h : L 3 = some ⟨sh83_3, xs83_3, laws_toStepS_l3⟩) : LoopOk prog L (loopOf f83 3) :=
  loopOk (tysOk_of tyl_ok) E83_ok (codeOk_in (L := L83_0) (tysOk_of tyl_ok) E83_ok mixed (c := loopOf f83 3) (bs := []) (by kernel_rfl) allNil (by kernel_rfl)) (by kernel_rfl) (by kernel_rfl) laws_toStepS_l3_eq (by rw [show firstId (loopOf f83 3) = 3 from by kernel_rfl]; exact h)
noncomputable def L83_1 : Nat → Option LoopD := fun n => ifEq n 3 (some ⟨sh83_3, xs83_3, laws_toStepS_l3⟩) (L83_0 n)
noncomputable def laws_toStepS : (List (Int × (ByteArray × (Int × Int)))) → Option ((List (Int × (ByteArray × (Int × Int))))) := fun a0 =>
  if (((0 : Int) ≤ (((List.length a0) : Nat) : Int)) ∧ (((((List.length a0) : Nat) : Int) = (((List.length a0) : Nat) : Int)) ∧ (((((List.length a0) : Nat) : Int) * ((40 : Nat) : Int)) ≤ (140737488355328 : Int)))) then
    Option.bind (loopF laws_toStepS_l3 (a0, (List.take (Int.toNat (((List.length a0) : Nat) : Int)) (List.drop 0 (List.replicate (Int.toNat (((List.length a0) : Nat) : Int)) ((0 : Int), (⟨Array.empty⟩ : ByteArray), (0 : Int), (0 : Int))))), (0 : Int), ())) fun (r0, _) =>
      some (List.take (List.length r0) (List.drop 0 r0))
  else
    none
noncomputable def A83 : FnA := ⟨[.v (.sl (.pair (.int .i64) (.pair .str (.pair (.int .i64) (.int .i64)))))], true, [.sl (.pair (.int .i64) (.pair .str (.pair (.int .i64) (.int .i64))))], fun x => laws_toStepS x.1⟩
theorem laws_toStepS_eq : fnF E83 L83_1 [.v (.sl (.pair (.int .i64) (.pair .str (.pair (.int .i64) (.int .i64)))))] true [.sl (.pair (.int .i64) (.pair .str (.pair (.int .i64) (.int .i64))))] f83.ntmps f83.results.toList (codeOf f83) = fun x => laws_toStepS x.1 := by kernel_rfl
theorem A83_ok : FnOk prog 83 A83 := by
  have h := fnOk_of_run (P := prog) (E := E83) (tysOk_of tyl_ok) E83_ok (L := L83_1) (ps := [.v (.sl (.pair (.int .i64) (.pair .str (.pair (.int .i64) (.int .i64)))))]) (own := true) (outs := [.sl (.pair (.int .i64) (.pair .str (.pair (.int .i64) (.int .i64))))]) func83 (c := codeOf f83) (by kernel_rfl) (codeOk_in (L := L83_1) (tysOk_of tyl_ok) E83_ok mixed (c := codeOf f83) (bs := [loopOf f83 3]) (by kernel_rfl) (allCons (loop83_3 rfl) allNil) (by kernel_rfl))
  rw [laws_toStepS_eq] at h
  exact h
/-! laws.toAutomaton -/
noncomputable def E22 : Env := ⟨ty0, fun g => ifEq g 82 (some A82) (ifEq g 83 (some A83) (none)), fun _ => none, fun _ => none⟩
theorem E22_ok : FnsOk prog E22 := (oneFn A82_ok func82 (by kernel_rfl) (by kernel_rfl) (oneFn A83_ok func83 (by kernel_rfl) (by kernel_rfl) (noFns _ _)))
noncomputable def L22_0 : Nat → Option LoopD := fun _ => none
noncomputable def laws_toAutomaton : (Int × ((List Int) × ((List Int) × (List (Int × (ByteArray × (Int × Int))))))) → Option ((Int × ((List Int) × ((List Int) × (List (Int × (ByteArray × (Int × Int)))))))) := fun (a0_0, a0_1, a0_2, a0_3) =>
  Option.bind (laws_toIntS a0_1) fun r0 =>
    Option.bind (laws_toIntS a0_2) fun r1 =>
      Option.bind (laws_toStepS a0_3) fun r2 =>
        some (a0_0, (List.take (List.length r0) (List.drop 0 r0)), (List.take (List.length r1) (List.drop 0 r1)), (List.take (List.length r2) (List.drop 0 r2)))
noncomputable def A22 : FnA := ⟨[.v (.pair (.int .i64) (.pair (.sl (.int .i64)) (.pair (.sl (.int .i64)) (.sl (.pair (.int .i64) (.pair .str (.pair (.int .i64) (.int .i64))))))))], true, [.pair (.int .i64) (.pair (.sl (.int .i64)) (.pair (.sl (.int .i64)) (.sl (.pair (.int .i64) (.pair .str (.pair (.int .i64) (.int .i64)))))))], fun x => laws_toAutomaton x.1⟩
theorem laws_toAutomaton_eq : fnF E22 L22_0 [.v (.pair (.int .i64) (.pair (.sl (.int .i64)) (.pair (.sl (.int .i64)) (.sl (.pair (.int .i64) (.pair .str (.pair (.int .i64) (.int .i64))))))))] true [.pair (.int .i64) (.pair (.sl (.int .i64)) (.pair (.sl (.int .i64)) (.sl (.pair (.int .i64) (.pair .str (.pair (.int .i64) (.int .i64)))))))] f22.ntmps f22.results.toList (codeOf f22) = fun x => laws_toAutomaton x.1 := by kernel_rfl
theorem A22_ok : FnOk prog 22 A22 := by
  have h := fnOk_of_run (P := prog) (E := E22) (tysOk_of tyl_ok) E22_ok (L := L22_0) (ps := [.v (.pair (.int .i64) (.pair (.sl (.int .i64)) (.pair (.sl (.int .i64)) (.sl (.pair (.int .i64) (.pair .str (.pair (.int .i64) (.int .i64))))))))]) (own := true) (outs := [.pair (.int .i64) (.pair (.sl (.int .i64)) (.pair (.sl (.int .i64)) (.sl (.pair (.int .i64) (.pair .str (.pair (.int .i64) (.int .i64)))))))]) func22 (c := codeOf f22) (by kernel_rfl) (codeOk_in (L := L22_0) (tysOk_of tyl_ok) E22_ok mixed (c := codeOf f22) (bs := []) (by kernel_rfl) allNil (by kernel_rfl))
  rw [laws_toAutomaton_eq] at h
  exact h
/-! spec.l1In -/
noncomputable def E79 : Env := ⟨ty0, fun _ => none, fun _ => none, fun _ => none⟩
theorem E79_ok : FnsOk prog E79 := (noFns _ _)
noncomputable def L79_0 : Nat → Option LoopD := fun _ => none
noncomputable def spec_l1In : Int → Int → Int → Option (Bool) := fun a0 a1 a2 =>
  bif (decide (a0 ≥ a1)) then
    some (decide (a0 ≤ a2))
  else
    some false
noncomputable def A79 : FnA := ⟨[.v (.int .i64), .v (.int .i64), .v (.int .i64)], true, [.bool], fun x => spec_l1In x.1 x.2.1 x.2.2.1⟩
theorem spec_l1In_eq : fnF E79 L79_0 [.v (.int .i64), .v (.int .i64), .v (.int .i64)] true [.bool] f79.ntmps f79.results.toList (codeOf f79) = fun x => spec_l1In x.1 x.2.1 x.2.2.1 := by kernel_rfl
theorem A79_ok : FnOk prog 79 A79 := by
  have h := fnOk_of_run (P := prog) (E := E79) (tysOk_of tyl_ok) E79_ok (L := L79_0) (ps := [.v (.int .i64), .v (.int .i64), .v (.int .i64)]) (own := true) (outs := [.bool]) func79 (c := codeOf f79) (by kernel_rfl) (codeOk_in (L := L79_0) (tysOk_of tyl_ok) E79_ok mixed (c := codeOf f79) (bs := []) (by kernel_rfl) allNil (by kernel_rfl))
  rw [spec_l1In_eq] at h
  exact h
/-! spec.l3Marks -/
noncomputable def E128 : Env := ⟨ty0, fun g => ifEq g 79 (some A79) (none), fun _ => none, fun _ => none⟩
theorem E128_ok : FnsOk prog E128 := (oneFn A79_ok func79 (by kernel_rfl) (by kernel_rfl) (noFns _ _))
noncomputable def L128_0 : Nat → Option LoopD := fun _ => none
def sh128_2 : List Fm := [.cell (.val (.int .i64)), .cell (.val (.sl (.int .i64))), d, d, d, d, d, .cell (.val (.sl (.int .i64))), .cell (.val (.int .i64)), .cell (.val (.int .i64)), d, d, d, d, d, d, d, d, d, d, d, d, d, d, d, d, d, d, d, d, d, d, d]
def xs128_2 : List (Ex × List Fm) := [(.ret, [d, d, d, d, .cell (.val .bool), d, d, d, d, d, d, d, d, d, d, d, d, d, d, d, d, d, d, d, d, d, d, d, d, d, d, d, d]), (.exit 0, [d, d, d, d, d, d, d, d, d, d, d, d, d, d, d, d, d, d, d, d, d, d, d, d, d, d, d, d, d, d, d, d, d])]
noncomputable def spec_l3Marks_l2 : (Int × (List Int) × (List Int) × Int × Int × Unit) → Option ((Int × (List Int) × (List Int) × Int × Int × Unit) ⊕ ((Bool × Unit) ⊕ (Unit))) := fun (v0, v1, v7, v8, v9, _) =>
  bif (decide (v9 < v8)) then
    if (((0 : Int) ≤ v9) ∧ (v9 < (((List.length v7) : Nat) : Int))) then
      Option.bind (spec_l1In (List.getD v7 (Int.toNat v9) (0 : Int)) (0 : Int) (IntKind.wrap .i64 (v0 - (1 : Int)))) fun r0 =>
        bif (!r0) then
          some (Sum.inr (Sum.inl (false, ())))
        else
          bif (decide (v9 > (0 : Int))) then
            if (((0 : Int) ≤ (IntKind.wrap .i64 (v9 - (1 : Int)))) ∧ ((IntKind.wrap .i64 (v9 - (1 : Int))) < (((List.length v1) : Nat) : Int))) then
              bif (decide ((List.getD v1 (Int.toNat (IntKind.wrap .i64 (v9 - (1 : Int)))) (0 : Int)) ≥ (List.getD v7 (Int.toNat v9) (0 : Int)))) then
                some (Sum.inr (Sum.inl (false, ())))
              else
                some (Sum.inl (v0, v1, v7, v8, (IntKind.wrap .i64 (v9 + (1 : Int))), ()))
            else
              none
          else
            some (Sum.inl (v0, v1, v7, v8, (IntKind.wrap .i64 (v9 + (1 : Int))), ()))
    else
      none
  else
    some (Sum.inr (Sum.inr ()))
theorem spec_l3Marks_l2_eq : loopStep E128 L128_0 (loopOf f128 2) sh128_2 xs128_2 = spec_l3Marks_l2 := by kernel_rfl
theorem loop128_2 {L : Nat → Option LoopD} (h : L 2 = some ⟨sh128_2, xs128_2, spec_l3Marks_l2⟩) : LoopOk prog L (loopOf f128 2) :=
  loopOk (tysOk_of tyl_ok) E128_ok (codeOk_in (L := L128_0) (tysOk_of tyl_ok) E128_ok mixed (c := loopOf f128 2) (bs := []) (by kernel_rfl) allNil (by kernel_rfl)) (by kernel_rfl) (by kernel_rfl) spec_l3Marks_l2_eq (by rw [show firstId (loopOf f128 2) = 2 from by kernel_rfl]; exact h)
noncomputable def L128_1 : Nat → Option LoopD := fun n => ifEq n 2 (some ⟨sh128_2, xs128_2, spec_l3Marks_l2⟩) (L128_0 n)
noncomputable def spec_l3Marks : Int → (List Int) → Option (Bool) := fun a0 a1 =>
  Option.bind (loopF spec_l3Marks_l2 (a0, a1, a1, (((List.length a1) : Nat) : Int), (0 : Int), ())) fun r0 =>
    (match r0 with
    | .inl (d1, _) =>
        some d1
    | .inr _ =>
        some true)
noncomputable def A128 : FnA := ⟨[.v (.int .i64), .v (.sl (.int .i64))], true, [.bool], fun x => spec_l3Marks x.1 x.2.1⟩
theorem spec_l3Marks_eq : fnF E128 L128_1 [.v (.int .i64), .v (.sl (.int .i64))] true [.bool] f128.ntmps f128.results.toList (codeOf f128) = fun x => spec_l3Marks x.1 x.2.1 := by kernel_rfl
theorem A128_ok : FnOk prog 128 A128 := by
  have h := fnOk_of_run (P := prog) (E := E128) (tysOk_of tyl_ok) E128_ok (L := L128_1) (ps := [.v (.int .i64), .v (.sl (.int .i64))]) (own := true) (outs := [.bool]) func128 (c := codeOf f128) (by kernel_rfl) (codeOk_in (L := L128_1) (tysOk_of tyl_ok) E128_ok mixed (c := codeOf f128) (bs := [loopOf f128 2]) (by kernel_rfl) (allCons (loop128_2 rfl) allNil) (by kernel_rfl))
  rw [spec_l3Marks_eq] at h
  exact h
/-! spec.l3Step -/
noncomputable def E129 : Env := ⟨ty0, fun g => ifEq g 79 (some A79) (none), fun _ => none, fun _ => none⟩
theorem E129_ok : FnsOk prog E129 := (oneFn A79_ok func79 (by kernel_rfl) (by kernel_rfl) (noFns _ _))
noncomputable def L129_0 : Nat → Option LoopD := fun _ => none
noncomputable def spec_l3Step : Int → (Int × (ByteArray × (Int × Int))) → Option (Bool) := fun a0 (a1_0, a1_1, a1_2, a1_3) =>
  Option.bind (spec_l1In a1_0 (0 : Int) (IntKind.wrap .i64 (a0 - (1 : Int)))) fun r0 =>
    bif r0 then
      Option.bind (spec_l1In a1_2 (0 : Int) (IntKind.wrap .i64 (a0 - (1 : Int)))) fun r1 =>
        bif r1 then
          Option.bind (spec_l1In a1_3 (0 : Int) (3 : Int)) fun r2 =>
            bif r2 then
              bif ((ByteArray.toList a1_1) == (ByteArray.toList (⟨#[(97 : UInt8)]⟩ : ByteArray))) then
                some true
              else
                some ((ByteArray.toList a1_1) == (ByteArray.toList (⟨#[(98 : UInt8)]⟩ : ByteArray)))
            else
              some false
        else
          some false
    else
      some false
noncomputable def A129 : FnA := ⟨[.v (.int .i64), .v (.pair (.int .i64) (.pair .str (.pair (.int .i64) (.int .i64))))], true, [.bool], fun x => spec_l3Step x.1 x.2.1⟩
theorem spec_l3Step_eq : fnF E129 L129_0 [.v (.int .i64), .v (.pair (.int .i64) (.pair .str (.pair (.int .i64) (.int .i64))))] true [.bool] f129.ntmps f129.results.toList (codeOf f129) = fun x => spec_l3Step x.1 x.2.1 := by kernel_rfl
theorem A129_ok : FnOk prog 129 A129 := by
  have h := fnOk_of_run (P := prog) (E := E129) (tysOk_of tyl_ok) E129_ok (L := L129_0) (ps := [.v (.int .i64), .v (.pair (.int .i64) (.pair .str (.pair (.int .i64) (.int .i64))))]) (own := true) (outs := [.bool]) func129 (c := codeOf f129) (by kernel_rfl) (codeOk_in (L := L129_0) (tysOk_of tyl_ok) E129_ok mixed (c := codeOf f129) (bs := []) (by kernel_rfl) allNil (by kernel_rfl))
  rw [spec_l3Step_eq] at h
  exact h
/-! spec.l3Before -/
noncomputable def E130 : Env := ⟨ty0, fun _ => none, fun _ => none, fun _ => none⟩
theorem E130_ok : FnsOk prog E130 := (noFns _ _)
noncomputable def L130_0 : Nat → Option LoopD := fun _ => none
noncomputable def spec_l3Before : (Int × (ByteArray × (Int × Int))) → (Int × (ByteArray × (Int × Int))) → Option (Bool) := fun (a0_0, a0_1, a0_2, a0_3) (a1_0, a1_1, a1_2, a1_3) =>
  bif (a0_0 != a1_0) then
    some (decide (a0_0 < a1_0))
  else
    bif (!((ByteArray.toList a0_1) == (ByteArray.toList a1_1))) then
      some (Op.bytesLess (ByteArray.toList a0_1) (ByteArray.toList a1_1))
    else
      some (decide (a0_2 < a1_2))
noncomputable def A130 : FnA := ⟨[.v (.pair (.int .i64) (.pair .str (.pair (.int .i64) (.int .i64)))), .v (.pair (.int .i64) (.pair .str (.pair (.int .i64) (.int .i64))))], true, [.bool], fun x => spec_l3Before x.1 x.2.1⟩
theorem spec_l3Before_eq : fnF E130 L130_0 [.v (.pair (.int .i64) (.pair .str (.pair (.int .i64) (.int .i64)))), .v (.pair (.int .i64) (.pair .str (.pair (.int .i64) (.int .i64))))] true [.bool] f130.ntmps f130.results.toList (codeOf f130) = fun x => spec_l3Before x.1 x.2.1 := by kernel_rfl
theorem A130_ok : FnOk prog 130 A130 := by
  have h := fnOk_of_run (P := prog) (E := E130) (tysOk_of tyl_ok) E130_ok (L := L130_0) (ps := [.v (.pair (.int .i64) (.pair .str (.pair (.int .i64) (.int .i64)))), .v (.pair (.int .i64) (.pair .str (.pair (.int .i64) (.int .i64))))]) (own := true) (outs := [.bool]) func130 (c := codeOf f130) (by kernel_rfl) (codeOk_in (L := L130_0) (tysOk_of tyl_ok) E130_ok mixed (c := codeOf f130) (bs := []) (by kernel_rfl) allNil (by kernel_rfl))
  rw [spec_l3Before_eq] at h
  exact h
/-! spec.AutomatonValid -/
noncomputable def E78 : Env := ⟨ty0, fun g => ifEq g 79 (some A79) (ifEq g 128 (some A128) (ifEq g 129 (some A129) (ifEq g 130 (some A130) (none)))), fun _ => none, fun _ => none⟩
theorem E78_ok : FnsOk prog E78 := (oneFn A79_ok func79 (by kernel_rfl) (by kernel_rfl) (oneFn A128_ok func128 (by kernel_rfl) (by kernel_rfl) (oneFn A129_ok func129 (by kernel_rfl) (by kernel_rfl) (oneFn A130_ok func130 (by kernel_rfl) (by kernel_rfl) (noFns _ _)))))
noncomputable def L78_0 : Nat → Option LoopD := fun _ => none
def sh78_4 : List Fm := [d, .box 100100 [.val (.int .i64), .val (.sl (.int .i64)), .val (.sl (.int .i64)), .val (.sl (.pair (.int .i64) (.pair .str (.pair (.int .i64) (.int .i64)))))], d, d, d, d, d, d, d, d, d, d, d, d, d, d, d, d, d, d, d, d, d, d, d, d, d, d, d, d, d, d, .cell (.val (.sl (.pair (.int .i64) (.pair .str (.pair (.int .i64) (.int .i64)))))), .cell (.val (.int .i64)), .cell (.val (.int .i64)), d, d, d, d, d, d, d, d, d, d, d, d, d, d, d, d, d, d, d, d, d, d, d, d, d]
def xs78_4 : List (Ex × List Fm) := [(.ret, [d, d, .cell (.val .bool), d, d, d, d, d, d, d, d, d, d, d, d, d, d, d, d, d, d, d, d, d, d, d, d, d, d, d, d, d, d, d, d, d, d, d, d, d, d, d, d, d, d, d, d, d, d, d, d, d, d, d, d, d, d, d, d, d]), (.exit 0, [d, d, d, d, d, d, d, d, d, d, d, d, d, d, d, d, d, d, d, d, d, d, d, d, d, d, d, d, d, d, d, d, d, d, d, d, d, d, d, d, d, d, d, d, d, d, d, d, d, d, d, d, d, d, d, d, d, d, d, d])]
noncomputable def spec_AutomatonValid_l4 : ((Int × (List Int) × (List Int) × (List (Int × (ByteArray × (Int × Int)))) × Unit) × (List (Int × (ByteArray × (Int × Int)))) × Int × Int × Unit) → Option (((Int × (List Int) × (List Int) × (List (Int × (ByteArray × (Int × Int)))) × Unit) × (List (Int × (ByteArray × (Int × Int)))) × Int × Int × Unit) ⊕ ((Bool × Unit) ⊕ (Unit))) := fun ((v1_0, v1_1, v1_2, v1_3, _), v32, v33, v34, _) =>
  bif (decide (v34 < v33)) then
    if (((0 : Int) ≤ v34) ∧ (v34 < (((List.length v32) : Nat) : Int))) then
      Option.bind (spec_l3Step v1_0 ((List.getD v32 (Int.toNat v34) ((0 : Int), (⟨Array.empty⟩ : ByteArray), (0 : Int), (0 : Int))).1, (List.getD v32 (Int.toNat v34) ((0 : Int), (⟨Array.empty⟩ : ByteArray), (0 : Int), (0 : Int))).2.1, (List.getD v32 (Int.toNat v34) ((0 : Int), (⟨Array.empty⟩ : ByteArray), (0 : Int), (0 : Int))).2.2.1, (List.getD v32 (Int.toNat v34) ((0 : Int), (⟨Array.empty⟩ : ByteArray), (0 : Int), (0 : Int))).2.2.2)) fun r0 =>
        bif (!r0) then
          some (Sum.inr (Sum.inl (false, ())))
        else
          bif (decide (v34 > (0 : Int))) then
            if (((0 : Int) ≤ (IntKind.wrap .i64 (v34 - (1 : Int)))) ∧ ((IntKind.wrap .i64 (v34 - (1 : Int))) < (((List.length v1_3) : Nat) : Int))) then
              Option.bind (spec_l3Before (List.getD v1_3 (Int.toNat (IntKind.wrap .i64 (v34 - (1 : Int)))) ((0 : Int), (⟨Array.empty⟩ : ByteArray), (0 : Int), (0 : Int))) ((List.getD v32 (Int.toNat v34) ((0 : Int), (⟨Array.empty⟩ : ByteArray), (0 : Int), (0 : Int))).1, (List.getD v32 (Int.toNat v34) ((0 : Int), (⟨Array.empty⟩ : ByteArray), (0 : Int), (0 : Int))).2.1, (List.getD v32 (Int.toNat v34) ((0 : Int), (⟨Array.empty⟩ : ByteArray), (0 : Int), (0 : Int))).2.2.1, (List.getD v32 (Int.toNat v34) ((0 : Int), (⟨Array.empty⟩ : ByteArray), (0 : Int), (0 : Int))).2.2.2)) fun r1 =>
                bif (!r1) then
                  some (Sum.inr (Sum.inl (false, ())))
                else
                  some (Sum.inl ((v1_0, v1_1, v1_2, v1_3, ()), v32, v33, (IntKind.wrap .i64 (v34 + (1 : Int))), ()))
            else
              none
          else
            some (Sum.inl ((v1_0, v1_1, v1_2, v1_3, ()), v32, v33, (IntKind.wrap .i64 (v34 + (1 : Int))), ()))
    else
      none
  else
    some (Sum.inr (Sum.inr ()))
theorem spec_AutomatonValid_l4_eq : loopStep E78 L78_0 (loopOf f78 4) sh78_4 xs78_4 = spec_AutomatonValid_l4 := by kernel_rfl
theorem loop78_4 {L : Nat → Option LoopD} (h : L 4 = some ⟨sh78_4, xs78_4, spec_AutomatonValid_l4⟩) : LoopOk prog L (loopOf f78 4) :=
  loopOk (tysOk_of tyl_ok) E78_ok (codeOk_in (L := L78_0) (tysOk_of tyl_ok) E78_ok mixed (c := loopOf f78 4) (bs := []) (by kernel_rfl) allNil (by kernel_rfl)) (by kernel_rfl) (by kernel_rfl) spec_AutomatonValid_l4_eq (by rw [show firstId (loopOf f78 4) = 4 from by kernel_rfl]; exact h)
noncomputable def L78_1 : Nat → Option LoopD := fun n => ifEq n 4 (some ⟨sh78_4, xs78_4, spec_AutomatonValid_l4⟩) (L78_0 n)
noncomputable def spec_AutomatonValid : (Int × ((List Int) × ((List Int) × (List (Int × (ByteArray × (Int × Int))))))) → Option (Bool) := fun (a0_0, a0_1, a0_2, a0_3) =>
  Option.bind (spec_l1In a0_0 (1 : Int) (4 : Int)) fun r0 =>
    bif (!r0) then
      some false
    else
      Option.bind (spec_l3Marks a0_0 a0_1) fun r1 =>
        bif (!r1) then
          some false
        else
          Option.bind (spec_l3Marks a0_0 a0_2) fun r2 =>
            bif (!r2) then
              some false
            else
              bif (decide ((((List.length a0_3) : Nat) : Int) > (24 : Int))) then
                some false
              else
                Option.bind (loopF spec_AutomatonValid_l4 ((a0_0, a0_1, a0_2, a0_3, ()), a0_3, (((List.length a0_3) : Nat) : Int), (0 : Int), ())) fun r3 =>
                  (match r3 with
                  | .inl (d4, _) =>
                      some d4
                  | .inr _ =>
                      some true)
noncomputable def A78 : FnA := ⟨[.v (.pair (.int .i64) (.pair (.sl (.int .i64)) (.pair (.sl (.int .i64)) (.sl (.pair (.int .i64) (.pair .str (.pair (.int .i64) (.int .i64))))))))], true, [.bool], fun x => spec_AutomatonValid x.1⟩
theorem spec_AutomatonValid_eq : fnF E78 L78_1 [.v (.pair (.int .i64) (.pair (.sl (.int .i64)) (.pair (.sl (.int .i64)) (.sl (.pair (.int .i64) (.pair .str (.pair (.int .i64) (.int .i64))))))))] true [.bool] f78.ntmps f78.results.toList (codeOf f78) = fun x => spec_AutomatonValid x.1 := by kernel_rfl
theorem A78_ok : FnOk prog 78 A78 := by
  have h := fnOk_of_run (P := prog) (E := E78) (tysOk_of tyl_ok) E78_ok (L := L78_1) (ps := [.v (.pair (.int .i64) (.pair (.sl (.int .i64)) (.pair (.sl (.int .i64)) (.sl (.pair (.int .i64) (.pair .str (.pair (.int .i64) (.int .i64))))))))]) (own := true) (outs := [.bool]) func78 (c := codeOf f78) (by kernel_rfl) (codeOk_in (L := L78_1) (tysOk_of tyl_ok) E78_ok mixed (c := codeOf f78) (bs := [loopOf f78 4]) (by kernel_rfl) (allCons (loop78_4 rfl) allNil) (by kernel_rfl))
  rw [spec_AutomatonValid_eq] at h
  exact h
/-! spec.l4Words -/
noncomputable def E80 : Env := ⟨ty0, fun _ => none, fun _ => none, fun _ => none⟩
theorem E80_ok : FnsOk prog E80 := (noFns _ _)
noncomputable def L80_0 : Nat → Option LoopD := fun _ => none
def sh80_7 : List Fm := [d, d, d, .cell (.own .str 100300 true), d, .cell (.val (.int .i64)), d, d, d, .cell (.val (.int .i64)), .cell (.val (.int .i64)), d, d, d, d, d, d, .cell (.val (.sl .str)), .cell (.val (.int .i64)), .cell (.val (.int .i64)), d, d, d, d, d, d, d, d, d, d, d, d, d, d]
def xs80_7 : List (Ex × List Fm) := [(.exit 2, [d, d, d, .cell (.own .str 100300 true), d, .cell (.val (.int .i64)), d, d, d, .cell (.val (.int .i64)), .cell (.val (.int .i64)), d, d, d, d, d, d, d, d, d, d, d, d, d, d, d, d, d, d, d, d, d, d, d])]
noncomputable def spec_l4Words_l7 : ((List ByteArray) × Int × Int × Int × (List ByteArray) × Int × Int × Unit) → Option (((List ByteArray) × Int × Int × Int × (List ByteArray) × Int × Int × Unit) ⊕ (((List ByteArray) × Int × Int × Int × Unit))) := fun (v3, v5, v9, v10, v17, v18, v19, _) =>
  bif (decide (v19 < v18)) then
    if (((0 : Int) ≤ v19) ∧ (v19 < (((List.length v17) : Nat) : Int))) then
      if (((ByteArray.size (List.getD v17 (Int.toNat v19) (⟨Array.empty⟩ : ByteArray))) + (ByteArray.size (⟨#[(97 : UInt8)]⟩ : ByteArray))) ≤ 9223372036854775807) then
        if (((ByteArray.size (List.getD v17 (Int.toNat v19) (⟨Array.empty⟩ : ByteArray))) + (ByteArray.size (⟨#[(98 : UInt8)]⟩ : ByteArray))) ≤ 9223372036854775807) then
          if (((0 + (List.length v3)) = (List.length v3)) ∧ ((((List.length v3) + (List.length (List.take 2 (List.drop 0 [((List.getD v17 (Int.toNat v19) (⟨Array.empty⟩ : ByteArray)) ++ (⟨#[(97 : UInt8)]⟩ : ByteArray)), ((List.getD v17 (Int.toNat v19) (⟨Array.empty⟩ : ByteArray)) ++ (⟨#[(98 : UInt8)]⟩ : ByteArray))])))) * 16) ≤ 140737488355328)) then
            if ((0 + ((List.length v3) + (List.length (List.take 2 (List.drop 0 [((List.getD v17 (Int.toNat v19) (⟨Array.empty⟩ : ByteArray)) ++ (⟨#[(97 : UInt8)]⟩ : ByteArray)), ((List.getD v17 (Int.toNat v19) (⟨Array.empty⟩ : ByteArray)) ++ (⟨#[(98 : UInt8)]⟩ : ByteArray))]))))) = (List.length ((List.drop 0 v3) ++ (List.take 2 (List.drop 0 [((List.getD v17 (Int.toNat v19) (⟨Array.empty⟩ : ByteArray)) ++ (⟨#[(97 : UInt8)]⟩ : ByteArray)), ((List.getD v17 (Int.toNat v19) (⟨Array.empty⟩ : ByteArray)) ++ (⟨#[(98 : UInt8)]⟩ : ByteArray))]))))) then
              some (Sum.inl ((List.drop 0 ((List.drop 0 v3) ++ (List.take 2 (List.drop 0 [((List.getD v17 (Int.toNat v19) (⟨Array.empty⟩ : ByteArray)) ++ (⟨#[(97 : UInt8)]⟩ : ByteArray)), ((List.getD v17 (Int.toNat v19) (⟨Array.empty⟩ : ByteArray)) ++ (⟨#[(98 : UInt8)]⟩ : ByteArray))])))), v5, v9, v10, v17, v18, (IntKind.wrap .i64 (v19 + (1 : Int))), ()))
            else
              none
          else
            none
        else
          none
      else
        none
    else
      none
  else
    if ((0 + (List.length v3)) = (List.length v3)) then
      some (Sum.inr ((List.drop 0 v3), v5, v9, v10, ()))
    else
      none
theorem spec_l4Words_l7_eq : loopStep E80 L80_0 (loopOf f80 7) sh80_7 xs80_7 = spec_l4Words_l7 := by kernel_rfl
theorem loop80_7 {L : Nat → Option LoopD} (h : L 7 = some ⟨sh80_7, xs80_7, spec_l4Words_l7⟩) : LoopOk prog L (loopOf f80 7) :=
  loopOk (tysOk_of tyl_ok) E80_ok (codeOk_in (L := L80_0) (tysOk_of tyl_ok) E80_ok mixed (c := loopOf f80 7) (bs := []) (by kernel_rfl) allNil (by kernel_rfl)) (by kernel_rfl) (by kernel_rfl) spec_l4Words_l7_eq (by rw [show firstId (loopOf f80 7) = 7 from by kernel_rfl]; exact h)
noncomputable def L80_1 : Nat → Option LoopD := fun n => ifEq n 7 (some ⟨sh80_7, xs80_7, spec_l4Words_l7⟩) (L80_0 n)
def sh80_4 : List Fm := [d, d, d, .cell (.own .str 100300 true), .cell (.val (.int .i64)), d, d, d, d, .cell (.val (.int .i64)), .cell (.val (.int .i64)), d, d, d, d, d, d, d, d, d, d, d, d, d, d, d, d, d, d, d, d, d, d, d]
def xs80_4 : List (Ex × List Fm) := [(.exit 0, [d, d, d, .cell (.val (.sl .str)), d, d, d, d, d, d, d, d, d, d, d, d, d, d, d, d, d, d, d, d, d, d, d, d, d, d, d, d, d, d])]
noncomputable def spec_l4Words_l4 : ((List ByteArray) × Int × Int × Int × Unit) → Option (((List ByteArray) × Int × Int × Int × Unit) ⊕ (((List ByteArray) × Unit))) := fun (v3, v4, v9, v10, _) =>
  bif (decide (v10 < v9)) then
    if (((0 : Int) ≤ v4) ∧ ((v4 ≤ (((List.length v3) : Nat) : Int)) ∧ ((((List.length v3) : Nat) : Int) ≤ (((List.length v3) : Nat) : Int)))) then
      if ((0 + (List.length v3)) = (List.length v3)) then
        Option.bind (loopF spec_l4Words_l7 ((List.drop 0 v3), (((List.length v3) : Nat) : Int), v9, v10, (List.take ((Int.toNat (((List.length v3) : Nat) : Int)) - (Int.toNat v4)) (List.drop (0 + (Int.toNat v4)) v3)), ((((Int.toNat (((List.length v3) : Nat) : Int)) - (Int.toNat v4)) : Nat) : Int), (0 : Int), ())) fun (r0, r1, r2, r3, _) =>
          if ((0 + (List.length r0)) = (List.length r0)) then
            some (Sum.inl ((List.drop 0 r0), r1, r2, (IntKind.wrap .i64 (r3 + (1 : Int))), ()))
          else
            none
      else
        none
    else
      none
  else
    some (Sum.inr ((List.take (List.length v3) (List.drop 0 v3)), ()))
theorem spec_l4Words_l4_eq : loopStep E80 L80_1 (loopOf f80 4) sh80_4 xs80_4 = spec_l4Words_l4 := by kernel_rfl
theorem loop80_4 {L : Nat → Option LoopD} (h : L 4 = some ⟨sh80_4, xs80_4, spec_l4Words_l4⟩) : LoopOk prog L (loopOf f80 4) :=
  loopOk (tysOk_of tyl_ok) E80_ok (codeOk_in (L := L80_1) (tysOk_of tyl_ok) E80_ok mixed (c := loopOf f80 4) (bs := [loopOf f80 7]) (by kernel_rfl) (allCons (loop80_7 rfl) allNil) (by kernel_rfl)) (by kernel_rfl) (by kernel_rfl) spec_l4Words_l4_eq (by rw [show firstId (loopOf f80 4) = 4 from by kernel_rfl]; exact h)
noncomputable def L80_2 : Nat → Option LoopD := fun n => ifEq n 4 (some ⟨sh80_4, xs80_4, spec_l4Words_l4⟩) (L80_1 n)
noncomputable def spec_l4Words : Int → Option ((List ByteArray)) := fun a0 =>
  if ((0 + 1) = (List.length [(⟨#[]⟩ : ByteArray)])) then
    Option.bind (loopF spec_l4Words_l4 ((List.drop 0 [(⟨#[]⟩ : ByteArray)]), (0 : Int), a0, (0 : Int), ())) fun (r0, _) =>
      some r0
  else
    none
noncomputable def A80 : FnA := ⟨[.v (.int .i64)], false, [.sl .str], fun x => spec_l4Words x.1⟩
theorem spec_l4Words_eq : fnF E80 L80_2 [.v (.int .i64)] false [.sl .str] f80.ntmps f80.results.toList (codeOf f80) = fun x => spec_l4Words x.1 := by kernel_rfl
theorem A80_ok : FnOk prog 80 A80 := by
  have h := fnOk_of_run (P := prog) (E := E80) (tysOk_of tyl_ok) E80_ok (L := L80_2) (ps := [.v (.int .i64)]) (own := false) (outs := [.sl .str]) func80 (c := codeOf f80) (by kernel_rfl) (codeOk_in (L := L80_2) (tysOk_of tyl_ok) E80_ok mixed (c := codeOf f80) (bs := [loopOf f80 4]) (by kernel_rfl) (allCons (loop80_4 rfl) allNil) (by kernel_rfl))
  rw [spec_l4Words_eq] at h
  exact h
/-! spec.l2Unit -/
noncomputable def E106 : Env := ⟨ty0, fun _ => none, fun _ => none, fun _ => none⟩
theorem E106_ok : FnsOk prog E106 := (noFns _ _)
noncomputable def L106_0 : Nat → Option LoopD := fun _ => none
def sh106_3 : List Fm := [.cell (.val (.int .i64)), d, .box 100200 [.val (.int .i64), .own (.int .i64) 100202 false], .box 100300 [.val (.int .i64), .own (.int .i64) 100302 false], d, d, d, d, d, .cell (.val (.int .i64)), .cell (.val (.int .i64)), d, d, d, d, d, d, d, d, d, d, d, d, d, d, d, d, d, d, d, d, d]
def xs106_3 : List (Ex × List Fm) := [(.exit 0, [d, d, .box 100200 [.val (.int .i64), .own (.int .i64) 100202 false], .box 100300 [.val (.int .i64), .own (.int .i64) 100302 false], d, d, d, d, d, d, d, d, d, d, d, d, d, d, d, d, d, d, d, d, d, d, d, d, d, d, d, d])]
noncomputable def spec_l2Unit_l3 : (Int × (Int × (List Int) × Unit) × (Int × (List Int) × Unit) × Int × Int × Unit) → Option ((Int × (Int × (List Int) × Unit) × (Int × (List Int) × Unit) × Int × Int × Unit) ⊕ (((Int × (List Int) × Unit) × (Int × (List Int) × Unit) × Unit))) := fun (v0, (v2_0, v2_1, _), (v3_0, v3_1, _), v9, v10, _) =>
  bif (decide (v10 < v9)) then
    if (v0 = (0 : Int)) then
      none
    else
      if (v0 = (0 : Int)) then
        none
      else
        bif ((IntKind.wrap .i64 (Int.tdiv v10 v0)) == (Int.tmod v10 v0)) then
          if (((0 + (List.length v3_1)) = (List.length v3_1)) ∧ ((((List.length v3_1) + (List.length (List.take 1 (List.drop 0 [(0 : Int)])))) * 8) ≤ 140737488355328)) then
            some (Sum.inl (v0, (v2_0, (List.take (List.length v2_1) (List.drop 0 v2_1)), ()), (v3_0, (List.take ((List.length v3_1) + (List.length (List.take 1 (List.drop 0 [(0 : Int)])))) (List.drop 0 ((List.drop 0 v3_1) ++ (List.take 1 (List.drop 0 [(0 : Int)]))))), ()), v9, (IntKind.wrap .i64 (v10 + (1 : Int))), ()))
          else
            none
        else
          if (((0 + (List.length v3_1)) = (List.length v3_1)) ∧ ((((List.length v3_1) + (List.length (List.take 1 (List.drop 0 [(1000000 : Int)])))) * 8) ≤ 140737488355328)) then
            some (Sum.inl (v0, (v2_0, (List.take (List.length v2_1) (List.drop 0 v2_1)), ()), (v3_0, (List.take ((List.length v3_1) + (List.length (List.take 1 (List.drop 0 [(1000000 : Int)])))) (List.drop 0 ((List.drop 0 v3_1) ++ (List.take 1 (List.drop 0 [(1000000 : Int)]))))), ()), v9, (IntKind.wrap .i64 (v10 + (1 : Int))), ()))
          else
            none
  else
    some (Sum.inr ((v2_0, (List.take (List.length v2_1) (List.drop 0 v2_1)), ()), (v3_0, (List.take (List.length v3_1) (List.drop 0 v3_1)), ()), ()))
theorem spec_l2Unit_l3_eq : loopStep E106 L106_0 (loopOf f106 3) sh106_3 xs106_3 = spec_l2Unit_l3 := by kernel_rfl
theorem loop106_3 {L : Nat → Option LoopD} (h : L 3 = some ⟨sh106_3, xs106_3, spec_l2Unit_l3⟩) : LoopOk prog L (loopOf f106 3) :=
  loopOk (tysOk_of tyl_ok) E106_ok (codeOk_in (L := L106_0) (tysOk_of tyl_ok) E106_ok mixed (c := loopOf f106 3) (bs := []) (by kernel_rfl) allNil (by kernel_rfl)) (by kernel_rfl) (by kernel_rfl) spec_l2Unit_l3_eq (by rw [show firstId (loopOf f106 3) = 3 from by kernel_rfl]; exact h)
noncomputable def L106_1 : Nat → Option LoopD := fun n => ifEq n 3 (some ⟨sh106_3, xs106_3, spec_l2Unit_l3⟩) (L106_0 n)
noncomputable def spec_l2Unit : Int → Option ((Int × (List Int))) := fun a0 =>
  Option.bind (loopF spec_l2Unit_l3 (a0, ((0 : Int), [], ()), (a0, [], ()), (IntKind.wrap .i64 (a0 * a0)), (0 : Int), ())) fun ((r0, r1, _), (r2, r3, _), _) =>
    some (r2, (List.take (List.length r3) (List.drop 0 r3)))
noncomputable def A106 : FnA := ⟨[.v (.int .i64)], true, [.pair (.int .i64) (.sl (.int .i64))], fun x => spec_l2Unit x.1⟩
theorem spec_l2Unit_eq : fnF E106 L106_1 [.v (.int .i64)] true [.pair (.int .i64) (.sl (.int .i64))] f106.ntmps f106.results.toList (codeOf f106) = fun x => spec_l2Unit x.1 := by kernel_rfl
theorem A106_ok : FnOk prog 106 A106 := by
  have h := fnOk_of_run (P := prog) (E := E106) (tysOk_of tyl_ok) E106_ok (L := L106_1) (ps := [.v (.int .i64)]) (own := true) (outs := [.pair (.int .i64) (.sl (.int .i64))]) func106 (c := codeOf f106) (by kernel_rfl) (codeOk_in (L := L106_1) (tysOk_of tyl_ok) E106_ok mixed (c := codeOf f106) (bs := [loopOf f106 3]) (by kernel_rfl) (allCons (loop106_3 rfl) allNil) (by kernel_rfl))
  rw [spec_l2Unit_eq] at h
  exact h
/-! spec.l3Matrix -/
noncomputable def E105 : Env := ⟨ty0, fun _ => none, fun _ => none, fun _ => none⟩
theorem E105_ok : FnsOk prog E105 := (noFns _ _)
noncomputable def L105_0 : Nat → Option LoopD := fun _ => none
def sh105_3 : List Fm := [d, .cell (.val .str), .box 100200 [.val (.int .i64), .val (.sl (.int .i64)), .val (.sl (.int .i64)), .val (.sl (.pair (.int .i64) (.pair .str (.pair (.int .i64) (.int .i64)))))], d, .box 100400 [.val (.int .i64), .own (.int .i64) 100402 false], .box 100500 [.val (.int .i64), .own (.int .i64) 100502 false], d, d, d, d, d, d, d, d, d, .cell (.val (.int .i64)), .cell (.val (.int .i64)), d, d, d, d, d, d, d, d, d, d, d, d, d, d, d, d, d, d, d, d, d, d, d, d, d, d, d, d, d, d, d, d, d]
def xs105_3 : List (Ex × List Fm) := [(.exit 0, [d, .cell (.val .str), .box 100200 [.val (.int .i64), .val (.sl (.int .i64)), .val (.sl (.int .i64)), .val (.sl (.pair (.int .i64) (.pair .str (.pair (.int .i64) (.int .i64)))))], d, .box 100400 [.val (.int .i64), .own (.int .i64) 100402 false], .box 100500 [.val (.int .i64), .own (.int .i64) 100502 false], d, d, d, d, d, d, d, d, d, d, d, d, d, d, d, d, d, d, d, d, d, d, d, d, d, d, d, d, d, d, d, d, d, d, d, d, d, d, d, d, d, d, d, d])]
noncomputable def spec_l3Matrix_l3 : (ByteArray × (Int × (List Int) × (List Int) × (List (Int × (ByteArray × (Int × Int)))) × Unit) × (Int × (List Int) × Unit) × (Int × (List Int) × Unit) × Int × Int × Unit) → Option ((ByteArray × (Int × (List Int) × (List Int) × (List (Int × (ByteArray × (Int × Int)))) × Unit) × (Int × (List Int) × Unit) × (Int × (List Int) × Unit) × Int × Int × Unit) ⊕ ((ByteArray × (Int × (List Int) × (List Int) × (List (Int × (ByteArray × (Int × Int)))) × Unit) × (Int × (List Int) × Unit) × (Int × (List Int) × Unit) × Unit))) := fun (v1, (v2_0, v2_1, v2_2, v2_3, _), (v4_0, v4_1, _), (v5_0, v5_1, _), v15, v16, _) =>
  bif (decide (v16 < v15)) then
    if (((0 + (List.length v5_1)) = (List.length v5_1)) ∧ ((((List.length v5_1) + (List.length (List.take 1 (List.drop 0 [(1000000 : Int)])))) * 8) ≤ 140737488355328)) then
      some (Sum.inl (v1, (v2_0, v2_1, v2_2, v2_3, ()), (v4_0, (List.take (List.length v4_1) (List.drop 0 v4_1)), ()), (v5_0, (List.take ((List.length v5_1) + (List.length (List.take 1 (List.drop 0 [(1000000 : Int)])))) (List.drop 0 ((List.drop 0 v5_1) ++ (List.take 1 (List.drop 0 [(1000000 : Int)]))))), ()), v15, (IntKind.wrap .i64 (v16 + (1 : Int))), ()))
    else
      none
  else
    some (Sum.inr (v1, (v2_0, v2_1, v2_2, v2_3, ()), (v4_0, (List.take (List.length v4_1) (List.drop 0 v4_1)), ()), (v5_0, (List.take (List.length v5_1) (List.drop 0 v5_1)), ()), ()))
theorem spec_l3Matrix_l3_eq : loopStep E105 L105_0 (loopOf f105 3) sh105_3 xs105_3 = spec_l3Matrix_l3 := by kernel_rfl
theorem loop105_3 {L : Nat → Option LoopD} (h : L 3 = some ⟨sh105_3, xs105_3, spec_l3Matrix_l3⟩) : LoopOk prog L (loopOf f105 3) :=
  loopOk (tysOk_of tyl_ok) E105_ok (codeOk_in (L := L105_0) (tysOk_of tyl_ok) E105_ok mixed (c := loopOf f105 3) (bs := []) (by kernel_rfl) allNil (by kernel_rfl)) (by kernel_rfl) (by kernel_rfl) spec_l3Matrix_l3_eq (by rw [show firstId (loopOf f105 3) = 3 from by kernel_rfl]; exact h)
noncomputable def L105_1 : Nat → Option LoopD := fun n => ifEq n 3 (some ⟨sh105_3, xs105_3, spec_l3Matrix_l3⟩) (L105_0 n)
def sh105_7 : List Fm := [d, .cell (.val .str), .box 100200 [.val (.int .i64), .val (.sl (.int .i64)), .val (.sl (.int .i64)), .val (.sl (.pair (.int .i64) (.pair .str (.pair (.int .i64) (.int .i64)))))], d, .box 100400 [.val (.int .i64), .own (.int .i64) 100402 false], .box 100500 [.val (.int .i64), .own (.int .i64) 100502 false], d, d, d, d, d, d, d, d, d, d, d, d, d, d, d, d, d, d, d, .cell (.val (.sl (.pair (.int .i64) (.pair .str (.pair (.int .i64) (.int .i64)))))), .cell (.val (.int .i64)), .cell (.val (.int .i64)), d, d, d, d, d, d, d, d, d, d, d, d, d, d, d, d, d, d, d, d, d, d]
def xs105_7 : List (Ex × List Fm) := [(.exit 2, [d, d, d, d, .box 100400 [.val (.int .i64), .own (.int .i64) 100402 false], .box 100500 [.val (.int .i64), .own (.int .i64) 100502 false], d, d, d, d, d, d, d, d, d, d, d, d, d, d, d, d, d, d, d, d, d, d, d, d, d, d, d, d, d, d, d, d, d, d, d, d, d, d, d, d, d, d, d, d])]
noncomputable def spec_l3Matrix_l7 : (ByteArray × (Int × (List Int) × (List Int) × (List (Int × (ByteArray × (Int × Int)))) × Unit) × (Int × (List Int) × Unit) × (Int × (List Int) × Unit) × (List (Int × (ByteArray × (Int × Int)))) × Int × Int × Unit) → Option ((ByteArray × (Int × (List Int) × (List Int) × (List (Int × (ByteArray × (Int × Int)))) × Unit) × (Int × (List Int) × Unit) × (Int × (List Int) × Unit) × (List (Int × (ByteArray × (Int × Int)))) × Int × Int × Unit) ⊕ (((Int × (List Int) × Unit) × (Int × (List Int) × Unit) × Unit))) := fun (v1, (v2_0, v2_1, v2_2, v2_3, _), (v4_0, v4_1, _), (v5_0, v5_1, _), v25, v26, v27, _) =>
  bif (decide (v27 < v26)) then
    if (((0 : Int) ≤ v27) ∧ (v27 < (((List.length v25) : Nat) : Int))) then
      bif ((ByteArray.toList (List.getD v25 (Int.toNat v27) ((0 : Int), (⟨Array.empty⟩ : ByteArray), (0 : Int), (0 : Int))).2.1) == (ByteArray.toList v1)) then
        if (((0 : Int) ≤ (IntKind.wrap .i64 ((IntKind.wrap .i64 ((List.getD v25 (Int.toNat v27) ((0 : Int), (⟨Array.empty⟩ : ByteArray), (0 : Int), (0 : Int))).1 * v2_0)) + (List.getD v25 (Int.toNat v27) ((0 : Int), (⟨Array.empty⟩ : ByteArray), (0 : Int), (0 : Int))).2.2.1))) ∧ ((IntKind.wrap .i64 ((IntKind.wrap .i64 ((List.getD v25 (Int.toNat v27) ((0 : Int), (⟨Array.empty⟩ : ByteArray), (0 : Int), (0 : Int))).1 * v2_0)) + (List.getD v25 (Int.toNat v27) ((0 : Int), (⟨Array.empty⟩ : ByteArray), (0 : Int), (0 : Int))).2.2.1)) < (((List.length v5_1) : Nat) : Int))) then
          some (Sum.inl (v1, (v2_0, v2_1, v2_2, v2_3, ()), (v4_0, (List.take (List.length v4_1) (List.drop 0 v4_1)), ()), (v5_0, (List.take (List.length v5_1) (List.drop 0 (List.set v5_1 (0 + (Int.toNat (IntKind.wrap .i64 ((IntKind.wrap .i64 ((List.getD v25 (Int.toNat v27) ((0 : Int), (⟨Array.empty⟩ : ByteArray), (0 : Int), (0 : Int))).1 * v2_0)) + (List.getD v25 (Int.toNat v27) ((0 : Int), (⟨Array.empty⟩ : ByteArray), (0 : Int), (0 : Int))).2.2.1)))) (List.getD v25 (Int.toNat v27) ((0 : Int), (⟨Array.empty⟩ : ByteArray), (0 : Int), (0 : Int))).2.2.2))), ()), v25, v26, (IntKind.wrap .i64 (v27 + (1 : Int))), ()))
        else
          none
      else
        some (Sum.inl (v1, (v2_0, v2_1, v2_2, v2_3, ()), (v4_0, (List.take (List.length v4_1) (List.drop 0 v4_1)), ()), (v5_0, (List.take (List.length v5_1) (List.drop 0 v5_1)), ()), v25, v26, (IntKind.wrap .i64 (v27 + (1 : Int))), ()))
    else
      none
  else
    some (Sum.inr ((v4_0, (List.take (List.length v4_1) (List.drop 0 v4_1)), ()), (v5_0, (List.take (List.length v5_1) (List.drop 0 v5_1)), ()), ()))
theorem spec_l3Matrix_l7_eq : loopStep E105 L105_1 (loopOf f105 7) sh105_7 xs105_7 = spec_l3Matrix_l7 := by kernel_rfl
theorem loop105_7 {L : Nat → Option LoopD} (h : L 7 = some ⟨sh105_7, xs105_7, spec_l3Matrix_l7⟩) : LoopOk prog L (loopOf f105 7) :=
  loopOk (tysOk_of tyl_ok) E105_ok (codeOk_in (L := L105_1) (tysOk_of tyl_ok) E105_ok mixed (c := loopOf f105 7) (bs := []) (by kernel_rfl) allNil (by kernel_rfl)) (by kernel_rfl) (by kernel_rfl) spec_l3Matrix_l7_eq (by rw [show firstId (loopOf f105 7) = 7 from by kernel_rfl]; exact h)
noncomputable def L105_2 : Nat → Option LoopD := fun n => ifEq n 7 (some ⟨sh105_7, xs105_7, spec_l3Matrix_l7⟩) (L105_1 n)
noncomputable def spec_l3Matrix : (Int × ((List Int) × ((List Int) × (List (Int × (ByteArray × (Int × Int))))))) → ByteArray → Option ((Int × (List Int))) := fun (a0_0, a0_1, a0_2, a0_3) a1 =>
  Option.bind (loopF spec_l3Matrix_l3 (a1, (a0_0, a0_1, a0_2, a0_3, ()), ((0 : Int), [], ()), (a0_0, [], ()), (IntKind.wrap .i64 (a0_0 * a0_0)), (0 : Int), ())) fun (r0, (r1, r2, r3, r4, _), (r5, r6, _), (r7, r8, _), _) =>
    Option.bind (loopF spec_l3Matrix_l7 (r0, (r1, r2, r3, r4, ()), (r5, (List.take (List.length r6) (List.drop 0 r6)), ()), (r7, (List.take (List.length r8) (List.drop 0 r8)), ()), r4, (((List.length r4) : Nat) : Int), (0 : Int), ())) fun ((r9, r10, _), (r11, r12, _), _) =>
      some (r11, (List.take (List.length r12) (List.drop 0 r12)))
noncomputable def A105 : FnA := ⟨[.v (.pair (.int .i64) (.pair (.sl (.int .i64)) (.pair (.sl (.int .i64)) (.sl (.pair (.int .i64) (.pair .str (.pair (.int .i64) (.int .i64)))))))), .v .str], true, [.pair (.int .i64) (.sl (.int .i64))], fun x => spec_l3Matrix x.1 x.2.1⟩
theorem spec_l3Matrix_eq : fnF E105 L105_2 [.v (.pair (.int .i64) (.pair (.sl (.int .i64)) (.pair (.sl (.int .i64)) (.sl (.pair (.int .i64) (.pair .str (.pair (.int .i64) (.int .i64)))))))), .v .str] true [.pair (.int .i64) (.sl (.int .i64))] f105.ntmps f105.results.toList (codeOf f105) = fun x => spec_l3Matrix x.1 x.2.1 := by kernel_rfl
theorem A105_ok : FnOk prog 105 A105 := by
  have h := fnOk_of_run (P := prog) (E := E105) (tysOk_of tyl_ok) E105_ok (L := L105_2) (ps := [.v (.pair (.int .i64) (.pair (.sl (.int .i64)) (.pair (.sl (.int .i64)) (.sl (.pair (.int .i64) (.pair .str (.pair (.int .i64) (.int .i64)))))))), .v .str]) (own := true) (outs := [.pair (.int .i64) (.sl (.int .i64))]) func105 (c := codeOf f105) (by kernel_rfl) (codeOk_in (L := L105_2) (tysOk_of tyl_ok) E105_ok mixed (c := codeOf f105) (bs := [loopOf f105 3, loopOf f105 7]) (by kernel_rfl) (allCons (loop105_3 rfl) (allCons (loop105_7 rfl) allNil)) (by kernel_rfl))
  rw [spec_l3Matrix_eq] at h
  exact h
/-! spec.l1Add -/
noncomputable def E136 : Env := ⟨ty0, fun _ => none, fun _ => none, fun _ => none⟩
theorem E136_ok : FnsOk prog E136 := (noFns _ _)
noncomputable def L136_0 : Nat → Option LoopD := fun _ => none
noncomputable def spec_l1Add : Int → Int → Option (Int) := fun a0 a1 =>
  some (if ((1000000 : Int) < (IntKind.wrap .i64 (a0 + a1))) then (1000000 : Int) else (IntKind.wrap .i64 (a0 + a1)))
noncomputable def A136 : FnA := ⟨[.v (.int .i64), .v (.int .i64)], true, [.int .i64], fun x => spec_l1Add x.1 x.2.1⟩
theorem spec_l1Add_eq : fnF E136 L136_0 [.v (.int .i64), .v (.int .i64)] true [.int .i64] f136.ntmps f136.results.toList (codeOf f136) = fun x => spec_l1Add x.1 x.2.1 := by kernel_rfl
theorem A136_ok : FnOk prog 136 A136 := by
  have h := fnOk_of_run (P := prog) (E := E136) (tysOk_of tyl_ok) E136_ok (L := L136_0) (ps := [.v (.int .i64), .v (.int .i64)]) (own := true) (outs := [.int .i64]) func136 (c := codeOf f136) (by kernel_rfl) (codeOk_in (L := L136_0) (tysOk_of tyl_ok) E136_ok mixed (c := codeOf f136) (bs := []) (by kernel_rfl) allNil (by kernel_rfl))
  rw [spec_l1Add_eq] at h
  exact h
/-! spec.l2Mul -/
noncomputable def E108 : Env := ⟨ty0, fun g => ifEq g 136 (some A136) (none), fun _ => none, fun _ => none⟩
theorem E108_ok : FnsOk prog E108 := (oneFn A136_ok func136 (by kernel_rfl) (by kernel_rfl) (noFns _ _))
noncomputable def L108_0 : Nat → Option LoopD := fun _ => none
def sh108_8 : List Fm := [d, d, .box 100200 [.val (.int .i64), .val (.sl (.int .i64))], .box 100300 [.val (.int .i64), .val (.sl (.int .i64))], .box 100400 [.val (.int .i64), .own (.int .i64) 100402 false], .box 100500 [.val (.int .i64), .own (.int .i64) 100502 false], d, .cell (.val (.int .i64)), .cell (.val (.int .i64)), .cell (.val (.int .i64)), d, d, d, d, d, d, d, d, .cell (.val (.int .i64)), .cell (.val (.int .i64)), d, d, d, d, d, d, d, d, d, d, d, .cell (.val (.int .i64)), .cell (.val (.int .i64)), d, d, d, d, d, d, d, d, d, d, d, d, d, d, d, d, d, d, d, d, d, d, d, d, d, d, d, d, d, d, d, d, d, d]
def xs108_8 : List (Ex × List Fm) := [(.exit 2, [d, d, .box 100200 [.val (.int .i64), .val (.sl (.int .i64))], .box 100300 [.val (.int .i64), .val (.sl (.int .i64))], .box 100400 [.val (.int .i64), .own (.int .i64) 100402 false], .box 100500 [.val (.int .i64), .own (.int .i64) 100502 false], d, d, d, .cell (.val (.int .i64)), d, d, d, d, d, d, d, d, .cell (.val (.int .i64)), .cell (.val (.int .i64)), d, d, d, d, d, d, d, d, d, d, d, d, d, d, d, d, d, d, d, d, d, d, d, d, d, d, d, d, d, d, d, d, d, d, d, d, d, d, d, d, d, d, d, d, d, d, d])]
noncomputable def spec_l2Mul_l8 : ((Int × (List Int) × Unit) × (Int × (List Int) × Unit) × (Int × (List Int) × Unit) × (Int × (List Int) × Unit) × Int × Int × Int × Int × Int × Int × Int × Unit) → Option (((Int × (List Int) × Unit) × (Int × (List Int) × Unit) × (Int × (List Int) × Unit) × (Int × (List Int) × Unit) × Int × Int × Int × Int × Int × Int × Int × Unit) ⊕ (((Int × (List Int) × Unit) × (Int × (List Int) × Unit) × (Int × (List Int) × Unit) × (Int × (List Int) × Unit) × Int × Int × Int × Unit))) := fun ((v2_0, v2_1, _), (v3_0, v3_1, _), (v4_0, v4_1, _), (v5_0, v5_1, _), v7, v8, v9, v18, v19, v31, v32, _) =>
  bif (decide (v32 < v31)) then
    if (((0 : Int) ≤ (IntKind.wrap .i64 ((IntKind.wrap .i64 (v7 * v2_0)) + v32))) ∧ ((IntKind.wrap .i64 ((IntKind.wrap .i64 (v7 * v2_0)) + v32)) < (((List.length v2_1) : Nat) : Int))) then
      if (((0 : Int) ≤ (IntKind.wrap .i64 ((IntKind.wrap .i64 (v32 * v2_0)) + v8))) ∧ ((IntKind.wrap .i64 ((IntKind.wrap .i64 (v32 * v2_0)) + v8)) < (((List.length v3_1) : Nat) : Int))) then
        Option.bind (spec_l1Add (List.getD v2_1 (Int.toNat (IntKind.wrap .i64 ((IntKind.wrap .i64 (v7 * v2_0)) + v32))) (0 : Int)) (List.getD v3_1 (Int.toNat (IntKind.wrap .i64 ((IntKind.wrap .i64 (v32 * v2_0)) + v8))) (0 : Int))) fun r0 =>
          some (Sum.inl ((v2_0, v2_1, ()), (v3_0, v3_1, ()), (v4_0, (List.take (List.length v4_1) (List.drop 0 v4_1)), ()), (v5_0, (List.take (List.length v5_1) (List.drop 0 v5_1)), ()), v7, v8, (if (r0 < v9) then r0 else v9), v18, v19, v31, (IntKind.wrap .i64 (v32 + (1 : Int))), ()))
      else
        none
    else
      none
  else
    some (Sum.inr ((v2_0, v2_1, ()), (v3_0, v3_1, ()), (v4_0, (List.take (List.length v4_1) (List.drop 0 v4_1)), ()), (v5_0, (List.take (List.length v5_1) (List.drop 0 v5_1)), ()), v9, v18, v19, ()))
theorem spec_l2Mul_l8_eq : loopStep E108 L108_0 (loopOf f108 8) sh108_8 xs108_8 = spec_l2Mul_l8 := by kernel_rfl
theorem loop108_8 {L : Nat → Option LoopD} (h : L 8 = some ⟨sh108_8, xs108_8, spec_l2Mul_l8⟩) : LoopOk prog L (loopOf f108 8) :=
  loopOk (tysOk_of tyl_ok) E108_ok (codeOk_in (L := L108_0) (tysOk_of tyl_ok) E108_ok mixed (c := loopOf f108 8) (bs := []) (by kernel_rfl) allNil (by kernel_rfl)) (by kernel_rfl) (by kernel_rfl) spec_l2Mul_l8_eq (by rw [show firstId (loopOf f108 8) = 8 from by kernel_rfl]; exact h)
noncomputable def L108_1 : Nat → Option LoopD := fun n => ifEq n 8 (some ⟨sh108_8, xs108_8, spec_l2Mul_l8⟩) (L108_0 n)
def sh108_3 : List Fm := [d, d, .box 100200 [.val (.int .i64), .val (.sl (.int .i64))], .box 100300 [.val (.int .i64), .val (.sl (.int .i64))], .box 100400 [.val (.int .i64), .own (.int .i64) 100402 false], .box 100500 [.val (.int .i64), .own (.int .i64) 100502 false], d, d, d, d, d, d, d, d, d, d, d, d, .cell (.val (.int .i64)), .cell (.val (.int .i64)), d, d, d, d, d, d, d, d, d, d, d, d, d, d, d, d, d, d, d, d, d, d, d, d, d, d, d, d, d, d, d, d, d, d, d, d, d, d, d, d, d, d, d, d, d, d, d]
def xs108_3 : List (Ex × List Fm) := [(.exit 0, [d, d, d, d, .box 100400 [.val (.int .i64), .own (.int .i64) 100402 false], .box 100500 [.val (.int .i64), .own (.int .i64) 100502 false], d, d, d, d, d, d, d, d, d, d, d, d, d, d, d, d, d, d, d, d, d, d, d, d, d, d, d, d, d, d, d, d, d, d, d, d, d, d, d, d, d, d, d, d, d, d, d, d, d, d, d, d, d, d, d, d, d, d, d, d, d])]
noncomputable def spec_l2Mul_l3 : ((Int × (List Int) × Unit) × (Int × (List Int) × Unit) × (Int × (List Int) × Unit) × (Int × (List Int) × Unit) × Int × Int × Unit) → Option (((Int × (List Int) × Unit) × (Int × (List Int) × Unit) × (Int × (List Int) × Unit) × (Int × (List Int) × Unit) × Int × Int × Unit) ⊕ (((Int × (List Int) × Unit) × (Int × (List Int) × Unit) × Unit))) := fun ((v2_0, v2_1, _), (v3_0, v3_1, _), (v4_0, v4_1, _), (v5_0, v5_1, _), v18, v19, _) =>
  bif (decide (v19 < v18)) then
    if (v2_0 = (0 : Int)) then
      none
    else
      if (v2_0 = (0 : Int)) then
        none
      else
        Option.bind (loopF spec_l2Mul_l8 ((v2_0, v2_1, ()), (v3_0, v3_1, ()), (v4_0, (List.take (List.length v4_1) (List.drop 0 v4_1)), ()), (v5_0, (List.take (List.length v5_1) (List.drop 0 v5_1)), ()), (IntKind.wrap .i64 (Int.tdiv v19 v2_0)), (Int.tmod v19 v2_0), (1000000 : Int), v18, v19, v2_0, (0 : Int), ())) fun ((r0, r1, _), (r2, r3, _), (r4, r5, _), (r6, r7, _), r8, r9, r10, _) =>
          if (((0 + (List.length r7)) = (List.length r7)) ∧ ((((List.length r7) + (List.length (List.take 1 (List.drop 0 [r8])))) * 8) ≤ 140737488355328)) then
            some (Sum.inl ((r0, r1, ()), (r2, r3, ()), (r4, (List.take (List.length r5) (List.drop 0 r5)), ()), (r6, (List.take ((List.length r7) + (List.length (List.take 1 (List.drop 0 [r8])))) (List.drop 0 ((List.drop 0 r7) ++ (List.take 1 (List.drop 0 [r8]))))), ()), r9, (IntKind.wrap .i64 (r10 + (1 : Int))), ()))
          else
            none
  else
    some (Sum.inr ((v4_0, (List.take (List.length v4_1) (List.drop 0 v4_1)), ()), (v5_0, (List.take (List.length v5_1) (List.drop 0 v5_1)), ()), ()))
theorem spec_l2Mul_l3_eq : loopStep E108 L108_1 (loopOf f108 3) sh108_3 xs108_3 = spec_l2Mul_l3 := by kernel_rfl
theorem loop108_3 {L : Nat → Option LoopD} (h : L 3 = some ⟨sh108_3, xs108_3, spec_l2Mul_l3⟩) : LoopOk prog L (loopOf f108 3) :=
  loopOk (tysOk_of tyl_ok) E108_ok (codeOk_in (L := L108_1) (tysOk_of tyl_ok) E108_ok mixed (c := loopOf f108 3) (bs := [loopOf f108 8]) (by kernel_rfl) (allCons (loop108_8 rfl) allNil) (by kernel_rfl)) (by kernel_rfl) (by kernel_rfl) spec_l2Mul_l3_eq (by rw [show firstId (loopOf f108 3) = 3 from by kernel_rfl]; exact h)
noncomputable def L108_2 : Nat → Option LoopD := fun n => ifEq n 3 (some ⟨sh108_3, xs108_3, spec_l2Mul_l3⟩) (L108_1 n)
noncomputable def spec_l2Mul : (Int × (List Int)) → (Int × (List Int)) → Option ((Int × (List Int))) := fun (a0_0, a0_1) (a1_0, a1_1) =>
  Option.bind (loopF spec_l2Mul_l3 ((a0_0, a0_1, ()), (a1_0, a1_1, ()), ((0 : Int), [], ()), (a0_0, [], ()), (IntKind.wrap .i64 (a0_0 * a0_0)), (0 : Int), ())) fun ((r0, r1, _), (r2, r3, _), _) =>
    some (r2, (List.take (List.length r3) (List.drop 0 r3)))
noncomputable def A108 : FnA := ⟨[.v (.pair (.int .i64) (.sl (.int .i64))), .v (.pair (.int .i64) (.sl (.int .i64)))], true, [.pair (.int .i64) (.sl (.int .i64))], fun x => spec_l2Mul x.1 x.2.1⟩
theorem spec_l2Mul_eq : fnF E108 L108_2 [.v (.pair (.int .i64) (.sl (.int .i64))), .v (.pair (.int .i64) (.sl (.int .i64)))] true [.pair (.int .i64) (.sl (.int .i64))] f108.ntmps f108.results.toList (codeOf f108) = fun x => spec_l2Mul x.1 x.2.1 := by kernel_rfl
theorem A108_ok : FnOk prog 108 A108 := by
  have h := fnOk_of_run (P := prog) (E := E108) (tysOk_of tyl_ok) E108_ok (L := L108_2) (ps := [.v (.pair (.int .i64) (.sl (.int .i64))), .v (.pair (.int .i64) (.sl (.int .i64)))]) (own := true) (outs := [.pair (.int .i64) (.sl (.int .i64))]) func108 (c := codeOf f108) (by kernel_rfl) (codeOk_in (L := L108_2) (tysOk_of tyl_ok) E108_ok mixed (c := codeOf f108) (bs := [loopOf f108 3]) (by kernel_rfl) (allCons (loop108_3 rfl) allNil) (by kernel_rfl))
  rw [spec_l2Mul_eq] at h
  exact h
/-! spec.l4Matrix -/
noncomputable def E131 : Env := ⟨ty0, fun g => ifEq g 106 (some A106) (ifEq g 105 (some A105) (ifEq g 108 (some A108) (none))), fun _ => none, fun _ => none⟩
theorem E131_ok : FnsOk prog E131 := (oneFn A106_ok func106 (by kernel_rfl) (by kernel_rfl) (oneFn A105_ok func105 (by kernel_rfl) (by kernel_rfl) (oneFn A108_ok func108 (by kernel_rfl) (by kernel_rfl) (noFns _ _))))
noncomputable def L131_0 : Nat → Option LoopD := fun _ => none
def sh131_4 : List Fm := [d, .cell (.val .str), d, d, .box 100400 [.val (.int .i64), .own (.int .i64) 100402 false], .box 100500 [.val (.int .i64), .own (.int .i64) 100502 false], .box 100600 [.val (.int .i64), .own (.int .i64) 100602 false], .box 100700 [.val (.int .i64), .own (.int .i64) 100702 false], d, d, d, d, d, d, d, d, d, .cell (.val (.int .i64)), .cell (.val (.int .i64)), d, d, d, d, d, d, d, d, d, d, d, d, d, d]
def xs131_4 : List (Ex × List Fm) := [(.exit 0, [d, d, d, d, .box 100400 [.val (.int .i64), .own (.int .i64) 100402 false], .box 100500 [.val (.int .i64), .own (.int .i64) 100502 false], d, d, d, d, d, d, d, d, d, d, d, d, d, d, d, d, d, d, d, d, d, d, d, d, d, d, d])]
noncomputable def spec_l4Matrix_l4 : (ByteArray × (Int × (List Int) × Unit) × (Int × (List Int) × Unit) × (Int × (List Int) × Unit) × (Int × (List Int) × Unit) × Int × Int × Unit) → Option ((ByteArray × (Int × (List Int) × Unit) × (Int × (List Int) × Unit) × (Int × (List Int) × Unit) × (Int × (List Int) × Unit) × Int × Int × Unit) ⊕ (((Int × (List Int) × Unit) × (Int × (List Int) × Unit) × Unit))) := fun (v1, (v4_0, v4_1, _), (v5_0, v5_1, _), (v6_0, v6_1, _), (v7_0, v7_1, _), v17, v18, _) =>
  bif (decide (v18 < v17)) then
    if (((0 : Int) ≤ v18) ∧ (v18 < (((ByteArray.size v1) : Nat) : Int))) then
      bif ((((UInt8.toNat (Array.getD (ByteArray.data v1) (Int.toNat v18) (0 : UInt8))) : Nat) : Int) == (97 : Int)) then
        Option.bind (spec_l2Mul (v5_0, (List.take (List.length v5_1) (List.drop 0 v5_1))) (v6_0, (List.take (List.length v6_1) (List.drop 0 v6_1)))) fun (r0, r1) =>
          some (Sum.inl (v1, (v4_0, (List.take (List.length v4_1) (List.drop 0 v4_1)), ()), (r0, (List.take (List.length r1) (List.drop 0 r1)), ()), (v6_0, (List.take (List.length v6_1) (List.drop 0 v6_1)), ()), (v7_0, (List.take (List.length v7_1) (List.drop 0 v7_1)), ()), v17, (IntKind.wrap .i64 (v18 + (1 : Int))), ()))
      else
        Option.bind (spec_l2Mul (v5_0, (List.take (List.length v5_1) (List.drop 0 v5_1))) (v7_0, (List.take (List.length v7_1) (List.drop 0 v7_1)))) fun (r2, r3) =>
          some (Sum.inl (v1, (v4_0, (List.take (List.length v4_1) (List.drop 0 v4_1)), ()), (r2, (List.take (List.length r3) (List.drop 0 r3)), ()), (v6_0, (List.take (List.length v6_1) (List.drop 0 v6_1)), ()), (v7_0, (List.take (List.length v7_1) (List.drop 0 v7_1)), ()), v17, (IntKind.wrap .i64 (v18 + (1 : Int))), ()))
    else
      none
  else
    some (Sum.inr ((v4_0, (List.take (List.length v4_1) (List.drop 0 v4_1)), ()), (v5_0, (List.take (List.length v5_1) (List.drop 0 v5_1)), ()), ()))
theorem spec_l4Matrix_l4_eq : loopStep E131 L131_0 (loopOf f131 4) sh131_4 xs131_4 = spec_l4Matrix_l4 := by kernel_rfl
theorem loop131_4 {L : Nat → Option LoopD} (h : L 4 = some ⟨sh131_4, xs131_4, spec_l4Matrix_l4⟩) : LoopOk prog L (loopOf f131 4) :=
  loopOk (tysOk_of tyl_ok) E131_ok (codeOk_in (L := L131_0) (tysOk_of tyl_ok) E131_ok mixed (c := loopOf f131 4) (bs := []) (by kernel_rfl) allNil (by kernel_rfl)) (by kernel_rfl) (by kernel_rfl) spec_l4Matrix_l4_eq (by rw [show firstId (loopOf f131 4) = 4 from by kernel_rfl]; exact h)
noncomputable def L131_1 : Nat → Option LoopD := fun n => ifEq n 4 (some ⟨sh131_4, xs131_4, spec_l4Matrix_l4⟩) (L131_0 n)
noncomputable def spec_l4Matrix : (Int × ((List Int) × ((List Int) × (List (Int × (ByteArray × (Int × Int))))))) → ByteArray → Option ((Int × (List Int))) := fun (a0_0, a0_1, a0_2, a0_3) a1 =>
  Option.bind (spec_l2Unit a0_0) fun (r0, r1) =>
    Option.bind (spec_l3Matrix (a0_0, a0_1, a0_2, a0_3) (⟨#[(97 : UInt8)]⟩ : ByteArray)) fun (r2, r3) =>
      Option.bind (spec_l3Matrix (a0_0, a0_1, a0_2, a0_3) (⟨#[(98 : UInt8)]⟩ : ByteArray)) fun (r4, r5) =>
        Option.bind (loopF spec_l4Matrix_l4 (a1, ((0 : Int), [], ()), (r0, (List.take (List.length r1) (List.drop 0 r1)), ()), (r2, (List.take (List.length r3) (List.drop 0 r3)), ()), (r4, (List.take (List.length r5) (List.drop 0 r5)), ()), (((ByteArray.size a1) : Nat) : Int), (0 : Int), ())) fun ((r6, r7, _), (r8, r9, _), _) =>
          some (r8, (List.take (List.length r9) (List.drop 0 r9)))
noncomputable def A131 : FnA := ⟨[.v (.pair (.int .i64) (.pair (.sl (.int .i64)) (.pair (.sl (.int .i64)) (.sl (.pair (.int .i64) (.pair .str (.pair (.int .i64) (.int .i64)))))))), .v .str], true, [.pair (.int .i64) (.sl (.int .i64))], fun x => spec_l4Matrix x.1 x.2.1⟩
theorem spec_l4Matrix_eq : fnF E131 L131_1 [.v (.pair (.int .i64) (.pair (.sl (.int .i64)) (.pair (.sl (.int .i64)) (.sl (.pair (.int .i64) (.pair .str (.pair (.int .i64) (.int .i64)))))))), .v .str] true [.pair (.int .i64) (.sl (.int .i64))] f131.ntmps f131.results.toList (codeOf f131) = fun x => spec_l4Matrix x.1 x.2.1 := by kernel_rfl
theorem A131_ok : FnOk prog 131 A131 := by
  have h := fnOk_of_run (P := prog) (E := E131) (tysOk_of tyl_ok) E131_ok (L := L131_1) (ps := [.v (.pair (.int .i64) (.pair (.sl (.int .i64)) (.pair (.sl (.int .i64)) (.sl (.pair (.int .i64) (.pair .str (.pair (.int .i64) (.int .i64)))))))), .v .str]) (own := true) (outs := [.pair (.int .i64) (.sl (.int .i64))]) func131 (c := codeOf f131) (by kernel_rfl) (codeOk_in (L := L131_1) (tysOk_of tyl_ok) E131_ok mixed (c := codeOf f131) (bs := [loopOf f131 4]) (by kernel_rfl) (allCons (loop131_4 rfl) allNil) (by kernel_rfl))
  rw [spec_l4Matrix_eq] at h
  exact h
/-! spec.l4Least -/
noncomputable def E107 : Env := ⟨ty0, fun _ => none, fun _ => none, fun _ => none⟩
theorem E107_ok : FnsOk prog E107 := (noFns _ _)
noncomputable def L107_0 : Nat → Option LoopD := fun _ => none
def sh107_6 : List Fm := [d, d, .box 100200 [.val (.int .i64), .val (.sl (.int .i64)), .val (.sl (.int .i64)), .val (.sl (.pair (.int .i64) (.pair .str (.pair (.int .i64) (.int .i64)))))], .box 100300 [.val (.int .i64), .val (.sl (.int .i64))], d, .cell (.val (.int .i64)), d, .cell (.val (.int .i64)), d, d, d, .cell (.val (.sl (.int .i64))), .cell (.val (.int .i64)), .cell (.val (.int .i64)), d, d, d, d, .cell (.val (.sl (.int .i64))), .cell (.val (.int .i64)), .cell (.val (.int .i64)), d, d, d, d, d, d, d, d, d, d, d, d, d, d, d, d, d, d]
def xs107_6 : List (Ex × List Fm) := [(.exit 2, [d, d, .box 100200 [.val (.int .i64), .val (.sl (.int .i64)), .val (.sl (.int .i64)), .val (.sl (.pair (.int .i64) (.pair .str (.pair (.int .i64) (.int .i64)))))], .box 100300 [.val (.int .i64), .val (.sl (.int .i64))], d, .cell (.val (.int .i64)), d, d, d, d, d, .cell (.val (.sl (.int .i64))), .cell (.val (.int .i64)), .cell (.val (.int .i64)), d, d, d, d, d, d, d, d, d, d, d, d, d, d, d, d, d, d, d, d, d, d, d, d, d])]
noncomputable def spec_l4Least_l6 : ((Int × (List Int) × (List Int) × (List (Int × (ByteArray × (Int × Int)))) × Unit) × (Int × (List Int) × Unit) × Int × Int × (List Int) × Int × Int × (List Int) × Int × Int × Unit) → Option (((Int × (List Int) × (List Int) × (List (Int × (ByteArray × (Int × Int)))) × Unit) × (Int × (List Int) × Unit) × Int × Int × (List Int) × Int × Int × (List Int) × Int × Int × Unit) ⊕ (((Int × (List Int) × (List Int) × (List (Int × (ByteArray × (Int × Int)))) × Unit) × (Int × (List Int) × Unit) × Int × (List Int) × Int × Int × Unit))) := fun ((v2_0, v2_1, v2_2, v2_3, _), (v3_0, v3_1, _), v5, v7, v11, v12, v13, v18, v19, v20, _) =>
  bif (decide (v20 < v19)) then
    if (((0 : Int) ≤ v20) ∧ (v20 < (((List.length v18) : Nat) : Int))) then
      if (((0 : Int) ≤ (IntKind.wrap .i64 ((IntKind.wrap .i64 (v7 * v2_0)) + (List.getD v18 (Int.toNat v20) (0 : Int))))) ∧ ((IntKind.wrap .i64 ((IntKind.wrap .i64 (v7 * v2_0)) + (List.getD v18 (Int.toNat v20) (0 : Int)))) < (((List.length v3_1) : Nat) : Int))) then
        some (Sum.inl ((v2_0, v2_1, v2_2, v2_3, ()), (v3_0, v3_1, ()), (if ((List.getD v3_1 (Int.toNat (IntKind.wrap .i64 ((IntKind.wrap .i64 (v7 * v2_0)) + (List.getD v18 (Int.toNat v20) (0 : Int))))) (0 : Int)) < v5) then (List.getD v3_1 (Int.toNat (IntKind.wrap .i64 ((IntKind.wrap .i64 (v7 * v2_0)) + (List.getD v18 (Int.toNat v20) (0 : Int))))) (0 : Int)) else v5), v7, v11, v12, v13, v18, v19, (IntKind.wrap .i64 (v20 + (1 : Int))), ()))
      else
        none
    else
      none
  else
    some (Sum.inr ((v2_0, v2_1, v2_2, v2_3, ()), (v3_0, v3_1, ()), v5, v11, v12, v13, ()))
theorem spec_l4Least_l6_eq : loopStep E107 L107_0 (loopOf f107 6) sh107_6 xs107_6 = spec_l4Least_l6 := by kernel_rfl
theorem loop107_6 {L : Nat → Option LoopD} (h : L 6 = some ⟨sh107_6, xs107_6, spec_l4Least_l6⟩) : LoopOk prog L (loopOf f107 6) :=
  loopOk (tysOk_of tyl_ok) E107_ok (codeOk_in (L := L107_0) (tysOk_of tyl_ok) E107_ok mixed (c := loopOf f107 6) (bs := []) (by kernel_rfl) allNil (by kernel_rfl)) (by kernel_rfl) (by kernel_rfl) spec_l4Least_l6_eq (by rw [show firstId (loopOf f107 6) = 6 from by kernel_rfl]; exact h)
noncomputable def L107_1 : Nat → Option LoopD := fun n => ifEq n 6 (some ⟨sh107_6, xs107_6, spec_l4Least_l6⟩) (L107_0 n)
def sh107_3 : List Fm := [d, d, .box 100200 [.val (.int .i64), .val (.sl (.int .i64)), .val (.sl (.int .i64)), .val (.sl (.pair (.int .i64) (.pair .str (.pair (.int .i64) (.int .i64)))))], .box 100300 [.val (.int .i64), .val (.sl (.int .i64))], d, .cell (.val (.int .i64)), d, d, d, d, d, .cell (.val (.sl (.int .i64))), .cell (.val (.int .i64)), .cell (.val (.int .i64)), d, d, d, d, d, d, d, d, d, d, d, d, d, d, d, d, d, d, d, d, d, d, d, d, d]
def xs107_3 : List (Ex × List Fm) := [(.exit 0, [d, d, d, d, d, .cell (.val (.int .i64)), d, d, d, d, d, d, d, d, d, d, d, d, d, d, d, d, d, d, d, d, d, d, d, d, d, d, d, d, d, d, d, d, d])]
noncomputable def spec_l4Least_l3 : ((Int × (List Int) × (List Int) × (List (Int × (ByteArray × (Int × Int)))) × Unit) × (Int × (List Int) × Unit) × Int × (List Int) × Int × Int × Unit) → Option (((Int × (List Int) × (List Int) × (List (Int × (ByteArray × (Int × Int)))) × Unit) × (Int × (List Int) × Unit) × Int × (List Int) × Int × Int × Unit) ⊕ ((Int × Unit))) := fun ((v2_0, v2_1, v2_2, v2_3, _), (v3_0, v3_1, _), v5, v11, v12, v13, _) =>
  bif (decide (v13 < v12)) then
    if (((0 : Int) ≤ v13) ∧ (v13 < (((List.length v11) : Nat) : Int))) then
      Option.bind (loopF spec_l4Least_l6 ((v2_0, v2_1, v2_2, v2_3, ()), (v3_0, v3_1, ()), v5, (List.getD v11 (Int.toNat v13) (0 : Int)), v11, v12, v13, v2_2, (((List.length v2_2) : Nat) : Int), (0 : Int), ())) fun ((r0, r1, r2, r3, _), (r4, r5, _), r6, r7, r8, r9, _) =>
        some (Sum.inl ((r0, r1, r2, r3, ()), (r4, r5, ()), r6, r7, r8, (IntKind.wrap .i64 (r9 + (1 : Int))), ()))
    else
      none
  else
    some (Sum.inr (v5, ()))
theorem spec_l4Least_l3_eq : loopStep E107 L107_1 (loopOf f107 3) sh107_3 xs107_3 = spec_l4Least_l3 := by kernel_rfl
theorem loop107_3 {L : Nat → Option LoopD} (h : L 3 = some ⟨sh107_3, xs107_3, spec_l4Least_l3⟩) : LoopOk prog L (loopOf f107 3) :=
  loopOk (tysOk_of tyl_ok) E107_ok (codeOk_in (L := L107_1) (tysOk_of tyl_ok) E107_ok mixed (c := loopOf f107 3) (bs := [loopOf f107 6]) (by kernel_rfl) (allCons (loop107_6 rfl) allNil) (by kernel_rfl)) (by kernel_rfl) (by kernel_rfl) spec_l4Least_l3_eq (by rw [show firstId (loopOf f107 3) = 3 from by kernel_rfl]; exact h)
noncomputable def L107_2 : Nat → Option LoopD := fun n => ifEq n 3 (some ⟨sh107_3, xs107_3, spec_l4Least_l3⟩) (L107_1 n)
noncomputable def spec_l4Least : (Int × ((List Int) × ((List Int) × (List (Int × (ByteArray × (Int × Int))))))) → (Int × (List Int)) → Option (Int) := fun (a0_0, a0_1, a0_2, a0_3) (a1_0, a1_1) =>
  Option.bind (loopF spec_l4Least_l3 ((a0_0, a0_1, a0_2, a0_3, ()), (a1_0, a1_1, ()), (1000000 : Int), a0_1, (((List.length a0_1) : Nat) : Int), (0 : Int), ())) fun (r0, _) =>
    some r0
noncomputable def A107 : FnA := ⟨[.v (.pair (.int .i64) (.pair (.sl (.int .i64)) (.pair (.sl (.int .i64)) (.sl (.pair (.int .i64) (.pair .str (.pair (.int .i64) (.int .i64)))))))), .v (.pair (.int .i64) (.sl (.int .i64)))], true, [.int .i64], fun x => spec_l4Least x.1 x.2.1⟩
theorem spec_l4Least_eq : fnF E107 L107_2 [.v (.pair (.int .i64) (.pair (.sl (.int .i64)) (.pair (.sl (.int .i64)) (.sl (.pair (.int .i64) (.pair .str (.pair (.int .i64) (.int .i64)))))))), .v (.pair (.int .i64) (.sl (.int .i64)))] true [.int .i64] f107.ntmps f107.results.toList (codeOf f107) = fun x => spec_l4Least x.1 x.2.1 := by kernel_rfl
theorem A107_ok : FnOk prog 107 A107 := by
  have h := fnOk_of_run (P := prog) (E := E107) (tysOk_of tyl_ok) E107_ok (L := L107_2) (ps := [.v (.pair (.int .i64) (.pair (.sl (.int .i64)) (.pair (.sl (.int .i64)) (.sl (.pair (.int .i64) (.pair .str (.pair (.int .i64) (.int .i64)))))))), .v (.pair (.int .i64) (.sl (.int .i64)))]) (own := true) (outs := [.int .i64]) func107 (c := codeOf f107) (by kernel_rfl) (codeOk_in (L := L107_2) (tysOk_of tyl_ok) E107_ok mixed (c := codeOf f107) (bs := [loopOf f107 3]) (by kernel_rfl) (allCons (loop107_3 rfl) allNil) (by kernel_rfl))
  rw [spec_l4Least_eq] at h
  exact h
/-! spec.l4Cost -/
noncomputable def E81 : Env := ⟨ty0, fun g => ifEq g 131 (some A131) (ifEq g 107 (some A107) (none)), fun _ => none, fun _ => none⟩
theorem E81_ok : FnsOk prog E81 := (oneFn A131_ok func131 (by kernel_rfl) (by kernel_rfl) (oneFn A107_ok func107 (by kernel_rfl) (by kernel_rfl) (noFns _ _)))
noncomputable def L81_0 : Nat → Option LoopD := fun _ => none
noncomputable def spec_l4Cost : (Int × ((List Int) × ((List Int) × (List (Int × (ByteArray × (Int × Int))))))) → ByteArray → Option (Int) := fun (a0_0, a0_1, a0_2, a0_3) a1 =>
  Option.bind (spec_l4Matrix (a0_0, a0_1, a0_2, a0_3) a1) fun (r0, r1) =>
    Option.bind (spec_l4Least (a0_0, a0_1, a0_2, a0_3) (r0, (List.take (List.length r1) (List.drop 0 r1)))) fun r2 =>
      some r2
noncomputable def A81 : FnA := ⟨[.v (.pair (.int .i64) (.pair (.sl (.int .i64)) (.pair (.sl (.int .i64)) (.sl (.pair (.int .i64) (.pair .str (.pair (.int .i64) (.int .i64)))))))), .v .str], true, [.int .i64], fun x => spec_l4Cost x.1 x.2.1⟩
theorem spec_l4Cost_eq : fnF E81 L81_0 [.v (.pair (.int .i64) (.pair (.sl (.int .i64)) (.pair (.sl (.int .i64)) (.sl (.pair (.int .i64) (.pair .str (.pair (.int .i64) (.int .i64)))))))), .v .str] true [.int .i64] f81.ntmps f81.results.toList (codeOf f81) = fun x => spec_l4Cost x.1 x.2.1 := by kernel_rfl
theorem A81_ok : FnOk prog 81 A81 := by
  have h := fnOk_of_run (P := prog) (E := E81) (tysOk_of tyl_ok) E81_ok (L := L81_0) (ps := [.v (.pair (.int .i64) (.pair (.sl (.int .i64)) (.pair (.sl (.int .i64)) (.sl (.pair (.int .i64) (.pair .str (.pair (.int .i64) (.int .i64)))))))), .v .str]) (own := true) (outs := [.int .i64]) func81 (c := codeOf f81) (by kernel_rfl) (codeOk_in (L := L81_0) (tysOk_of tyl_ok) E81_ok mixed (c := codeOf f81) (bs := []) (by kernel_rfl) allNil (by kernel_rfl))
  rw [spec_l4Cost_eq] at h
  exact h
/-! spec.FreeWords -/
noncomputable def E21 : Env := ⟨ty0, fun g => ifEq g 78 (some A78) (ifEq g 79 (some A79) (ifEq g 80 (some A80) (ifEq g 81 (some A81) (none)))), fun _ => none, fun _ => none⟩
theorem E21_ok : FnsOk prog E21 := (oneFn A78_ok func78 (by kernel_rfl) (by kernel_rfl) (oneFn A79_ok func79 (by kernel_rfl) (by kernel_rfl) (oneFn A80_ok func80 (by kernel_rfl) (by kernel_rfl) (oneFn A81_ok func81 (by kernel_rfl) (by kernel_rfl) (noFns _ _)))))
noncomputable def L21_0 : Nat → Option LoopD := fun _ => none
def sh21_5 : List Fm := [d, d, .box 100200 [.val (.int .i64), .val (.sl (.int .i64)), .val (.sl (.int .i64)), .val (.sl (.pair (.int .i64) (.pair .str (.pair (.int .i64) (.int .i64)))))], d, d, d, .cell (.own .str 100600 false), d, d, d, d, d, d, d, d, d, d, d, d, d, .cell (.val (.sl .str)), .cell (.val (.int .i64)), .cell (.val (.int .i64)), d, d, d, d, d, d, d, d, d, d, d, d, d]
def xs21_5 : List (Ex × List Fm) := [(.exit 0, [d, d, d, d, d, d, .cell (.own .str 100600 false), d, d, d, d, d, d, d, d, d, d, d, d, d, d, d, d, d, d, d, d, d, d, d, d, d, d, d, d, d])]
noncomputable def spec_FreeWords_l5 : ((Int × (List Int) × (List Int) × (List (Int × (ByteArray × (Int × Int)))) × Unit) × (List ByteArray) × (List ByteArray) × Int × Int × Unit) → Option (((Int × (List Int) × (List Int) × (List (Int × (ByteArray × (Int × Int)))) × Unit) × (List ByteArray) × (List ByteArray) × Int × Int × Unit) ⊕ (((List ByteArray) × Unit))) := fun ((v2_0, v2_1, v2_2, v2_3, _), v6, v20, v21, v22, _) =>
  bif (decide (v22 < v21)) then
    if (((0 : Int) ≤ v22) ∧ (v22 < (((List.length v20) : Nat) : Int))) then
      Option.bind (spec_l4Cost (v2_0, v2_1, v2_2, v2_3) (List.getD v20 (Int.toNat v22) (⟨Array.empty⟩ : ByteArray))) fun r0 =>
        bif (r0 == (0 : Int)) then
          if (((0 + (List.length v6)) = (List.length v6)) ∧ ((((List.length v6) + (List.length (List.take 1 (List.drop 0 [(List.getD v20 (Int.toNat v22) (⟨Array.empty⟩ : ByteArray))])))) * 16) ≤ 140737488355328)) then
            some (Sum.inl ((v2_0, v2_1, v2_2, v2_3, ()), (List.take ((List.length v6) + (List.length (List.take 1 (List.drop 0 [(List.getD v20 (Int.toNat v22) (⟨Array.empty⟩ : ByteArray))])))) (List.drop 0 ((List.drop 0 v6) ++ (List.take 1 (List.drop 0 [(List.getD v20 (Int.toNat v22) (⟨Array.empty⟩ : ByteArray))]))))), v20, v21, (IntKind.wrap .i64 (v22 + (1 : Int))), ()))
          else
            none
        else
          some (Sum.inl ((v2_0, v2_1, v2_2, v2_3, ()), (List.take (List.length v6) (List.drop 0 v6)), v20, v21, (IntKind.wrap .i64 (v22 + (1 : Int))), ()))
    else
      none
  else
    some (Sum.inr ((List.take (List.length v6) (List.drop 0 v6)), ()))
theorem spec_FreeWords_l5_eq : loopStep E21 L21_0 (loopOf f21 5) sh21_5 xs21_5 = spec_FreeWords_l5 := by kernel_rfl
theorem loop21_5 {L : Nat → Option LoopD} (h : L 5 = some ⟨sh21_5, xs21_5, spec_FreeWords_l5⟩) : LoopOk prog L (loopOf f21 5) :=
  loopOk (tysOk_of tyl_ok) E21_ok (codeOk_in (L := L21_0) (tysOk_of tyl_ok) E21_ok mixed (c := loopOf f21 5) (bs := []) (by kernel_rfl) allNil (by kernel_rfl)) (by kernel_rfl) (by kernel_rfl) spec_FreeWords_l5_eq (by rw [show firstId (loopOf f21 5) = 5 from by kernel_rfl]; exact h)
noncomputable def L21_1 : Nat → Option LoopD := fun n => ifEq n 5 (some ⟨sh21_5, xs21_5, spec_FreeWords_l5⟩) (L21_0 n)
noncomputable def spec_FreeWords : (Int × ((List Int) × ((List Int) × (List (Int × (ByteArray × (Int × Int))))))) → Int → Option ((List ByteArray) × Bool) := fun (a0_0, a0_1, a0_2, a0_3) a1 =>
  Option.bind (spec_AutomatonValid (a0_0, a0_1, a0_2, a0_3)) fun r0 =>
    bif (!r0) then
      some ((List.take 0 (List.drop 0 [])), false)
    else
      Option.bind (spec_l1In a1 (0 : Int) (7 : Int)) fun r1 =>
        bif (!r1) then
          some ((List.take 0 (List.drop 0 [])), false)
        else
          Option.bind (spec_l4Words a1) fun r2 =>
            Option.bind (loopF spec_FreeWords_l5 ((a0_0, a0_1, a0_2, a0_3, ()), (List.take 0 (List.drop 0 [])), r2, (((List.length r2) : Nat) : Int), (0 : Int), ())) fun (r3, _) =>
              some ((List.take (List.length r3) (List.drop 0 r3)), true)
noncomputable def A21 : FnA := ⟨[.v (.pair (.int .i64) (.pair (.sl (.int .i64)) (.pair (.sl (.int .i64)) (.sl (.pair (.int .i64) (.pair .str (.pair (.int .i64) (.int .i64)))))))), .v (.int .i64)], true, [.sl .str, .bool], fun x => spec_FreeWords x.1 x.2.1⟩
theorem spec_FreeWords_eq : fnF E21 L21_1 [.v (.pair (.int .i64) (.pair (.sl (.int .i64)) (.pair (.sl (.int .i64)) (.sl (.pair (.int .i64) (.pair .str (.pair (.int .i64) (.int .i64)))))))), .v (.int .i64)] true [.sl .str, .bool] f21.ntmps f21.results.toList (codeOf f21) = fun x => spec_FreeWords x.1 x.2.1 := by kernel_rfl
theorem A21_ok : FnOk prog 21 A21 := by
  have h := fnOk_of_run (P := prog) (E := E21) (tysOk_of tyl_ok) E21_ok (L := L21_1) (ps := [.v (.pair (.int .i64) (.pair (.sl (.int .i64)) (.pair (.sl (.int .i64)) (.sl (.pair (.int .i64) (.pair .str (.pair (.int .i64) (.int .i64)))))))), .v (.int .i64)]) (own := true) (outs := [.sl .str, .bool]) func21 (c := codeOf f21) (by kernel_rfl) (codeOk_in (L := L21_1) (tysOk_of tyl_ok) E21_ok mixed (c := codeOf f21) (bs := [loopOf f21 5]) (by kernel_rfl) (allCons (loop21_5 rfl) allNil) (by kernel_rfl))
  rw [spec_FreeWords_eq] at h
  exact h
/-! impl.ShortWords -/
noncomputable def E40 : Env := ⟨ty0, fun _ => none, fun _ => none, fun _ => none⟩
theorem E40_ok : FnsOk prog E40 := (noFns _ _)
noncomputable def L40_0 : Nat → Option LoopD := fun _ => none
def sh40_8 : List Fm := [.cell (.val (.int .i64)), d, d, d, .cell (.own .str 100400 true), d, .cell (.val (.int .i64)), d, d, d, d, d, d, d, d, d, d, d, d, d, d, d, d, d, d, d, d, d, d, d, .cell (.val (.sl .str)), .cell (.val (.int .i64)), .cell (.val (.int .i64)), d, d, d, d, d, d, d, d, d, d, d, d, d]
def xs40_8 : List (Ex × List Fm) := [(.exit 2, [.cell (.val (.int .i64)), d, d, d, .cell (.own .str 100400 true), d, .cell (.val (.int .i64)), d, d, d, d, d, d, d, d, d, d, d, d, d, d, d, d, d, d, d, d, d, d, d, d, d, d, d, d, d, d, d, d, d, d, d, d, d, d, d])]
noncomputable def impl_ShortWords_l8 : (Int × (List ByteArray) × Int × (List ByteArray) × Int × Int × Unit) → Option ((Int × (List ByteArray) × Int × (List ByteArray) × Int × Int × Unit) ⊕ ((Int × (List ByteArray) × Int × Unit))) := fun (v0, v4, v6, v30, v31, v32, _) =>
  bif (decide (v32 < v31)) then
    if (((0 : Int) ≤ v32) ∧ (v32 < (((List.length v30) : Nat) : Int))) then
      if (((ByteArray.size (List.getD v30 (Int.toNat v32) (⟨Array.empty⟩ : ByteArray))) + (ByteArray.size (⟨#[(97 : UInt8)]⟩ : ByteArray))) ≤ 9223372036854775807) then
        if (((ByteArray.size (List.getD v30 (Int.toNat v32) (⟨Array.empty⟩ : ByteArray))) + (ByteArray.size (⟨#[(98 : UInt8)]⟩ : ByteArray))) ≤ 9223372036854775807) then
          if (((0 + (List.length v4)) = (List.length v4)) ∧ ((((List.length v4) + (List.length (List.take 2 (List.drop 0 [((List.getD v30 (Int.toNat v32) (⟨Array.empty⟩ : ByteArray)) ++ (⟨#[(97 : UInt8)]⟩ : ByteArray)), ((List.getD v30 (Int.toNat v32) (⟨Array.empty⟩ : ByteArray)) ++ (⟨#[(98 : UInt8)]⟩ : ByteArray))])))) * 16) ≤ 140737488355328)) then
            if ((0 + ((List.length v4) + (List.length (List.take 2 (List.drop 0 [((List.getD v30 (Int.toNat v32) (⟨Array.empty⟩ : ByteArray)) ++ (⟨#[(97 : UInt8)]⟩ : ByteArray)), ((List.getD v30 (Int.toNat v32) (⟨Array.empty⟩ : ByteArray)) ++ (⟨#[(98 : UInt8)]⟩ : ByteArray))]))))) = (List.length ((List.drop 0 v4) ++ (List.take 2 (List.drop 0 [((List.getD v30 (Int.toNat v32) (⟨Array.empty⟩ : ByteArray)) ++ (⟨#[(97 : UInt8)]⟩ : ByteArray)), ((List.getD v30 (Int.toNat v32) (⟨Array.empty⟩ : ByteArray)) ++ (⟨#[(98 : UInt8)]⟩ : ByteArray))]))))) then
              some (Sum.inl (v0, (List.drop 0 ((List.drop 0 v4) ++ (List.take 2 (List.drop 0 [((List.getD v30 (Int.toNat v32) (⟨Array.empty⟩ : ByteArray)) ++ (⟨#[(97 : UInt8)]⟩ : ByteArray)), ((List.getD v30 (Int.toNat v32) (⟨Array.empty⟩ : ByteArray)) ++ (⟨#[(98 : UInt8)]⟩ : ByteArray))])))), v6, v30, v31, (IntKind.wrap .i64 (v32 + (1 : Int))), ()))
            else
              none
          else
            none
        else
          none
      else
        none
    else
      none
  else
    if ((0 + (List.length v4)) = (List.length v4)) then
      some (Sum.inr (v0, (List.drop 0 v4), v6, ()))
    else
      none
theorem impl_ShortWords_l8_eq : loopStep E40 L40_0 (loopOf f40 8) sh40_8 xs40_8 = impl_ShortWords_l8 := by kernel_rfl
theorem loop40_8 {L : Nat → Option LoopD} (h : L 8 = some ⟨sh40_8, xs40_8, impl_ShortWords_l8⟩) : LoopOk prog L (loopOf f40 8) :=
  loopOk (tysOk_of tyl_ok) E40_ok (codeOk_in (L := L40_0) (tysOk_of tyl_ok) E40_ok mixed (c := loopOf f40 8) (bs := []) (by kernel_rfl) allNil (by kernel_rfl)) (by kernel_rfl) (by kernel_rfl) impl_ShortWords_l8_eq (by rw [show firstId (loopOf f40 8) = 8 from by kernel_rfl]; exact h)
noncomputable def L40_1 : Nat → Option LoopD := fun n => ifEq n 8 (some ⟨sh40_8, xs40_8, impl_ShortWords_l8⟩) (L40_0 n)
def sh40_5 : List Fm := [.cell (.val (.int .i64)), d, d, d, .cell (.own .str 100400 true), .cell (.val (.int .i64)), d, d, d, d, d, d, d, d, d, d, d, d, d, d, d, d, d, d, d, d, d, d, d, d, d, d, d, d, d, d, d, d, d, d, d, d, d, d, d, d]
def xs40_5 : List (Ex × List Fm) := [(.exit 0, [d, d, d, d, .cell (.val (.sl .str)), d, d, d, d, d, d, d, d, d, d, d, d, d, d, d, d, d, d, d, d, d, d, d, d, d, d, d, d, d, d, d, d, d, d, d, d, d, d, d, d, d])]
noncomputable def impl_ShortWords_l5 : (Int × (List ByteArray) × Int × Unit) → Option ((Int × (List ByteArray) × Int × Unit) ⊕ (((List ByteArray) × Unit))) := fun (v0, v4, v5, _) =>
  if (((0 : Int) ≤ (IntKind.wrap .i64 ((((List.length v4) : Nat) : Int) - (1 : Int)))) ∧ ((IntKind.wrap .i64 ((((List.length v4) : Nat) : Int) - (1 : Int))) < (((List.length v4) : Nat) : Int))) then
    bif (decide ((((ByteArray.size (List.getD v4 (0 + (Int.toNat (IntKind.wrap .i64 ((((List.length v4) : Nat) : Int) - (1 : Int))))) (⟨Array.empty⟩ : ByteArray))) : Nat) : Int) < v0)) then
      if (((0 : Int) ≤ v5) ∧ ((v5 ≤ (((List.length v4) : Nat) : Int)) ∧ ((((List.length v4) : Nat) : Int) ≤ (((List.length v4) : Nat) : Int)))) then
        if ((0 + (List.length v4)) = (List.length v4)) then
          Option.bind (loopF impl_ShortWords_l8 (v0, (List.drop 0 v4), (((List.length v4) : Nat) : Int), (List.take ((Int.toNat (((List.length v4) : Nat) : Int)) - (Int.toNat v5)) (List.drop (0 + (Int.toNat v5)) v4)), ((((Int.toNat (((List.length v4) : Nat) : Int)) - (Int.toNat v5)) : Nat) : Int), (0 : Int), ())) fun (r0, r1, r2, _) =>
            if ((0 + (List.length r1)) = (List.length r1)) then
              some (Sum.inl (r0, (List.drop 0 r1), r2, ()))
            else
              none
        else
          none
      else
        none
    else
      some (Sum.inr ((List.take (List.length v4) (List.drop 0 v4)), ()))
  else
    none
theorem impl_ShortWords_l5_eq : loopStep E40 L40_1 (loopOf f40 5) sh40_5 xs40_5 = impl_ShortWords_l5 := by kernel_rfl
theorem loop40_5 {L : Nat → Option LoopD} (h : L 5 = some ⟨sh40_5, xs40_5, impl_ShortWords_l5⟩) : LoopOk prog L (loopOf f40 5) :=
  loopOk (tysOk_of tyl_ok) E40_ok (codeOk_in (L := L40_1) (tysOk_of tyl_ok) E40_ok mixed (c := loopOf f40 5) (bs := [loopOf f40 8]) (by kernel_rfl) (allCons (loop40_8 rfl) allNil) (by kernel_rfl)) (by kernel_rfl) (by kernel_rfl) impl_ShortWords_l5_eq (by rw [show firstId (loopOf f40 5) = 5 from by kernel_rfl]; exact h)
noncomputable def L40_2 : Nat → Option LoopD := fun n => ifEq n 5 (some ⟨sh40_5, xs40_5, impl_ShortWords_l5⟩) (L40_1 n)
noncomputable def impl_ShortWords : Int → Option ((List ByteArray) × Bool) := fun a0 =>
  bif (decide (a0 < (0 : Int))) then
    some ([], false)
  else
    bif (decide (a0 > (7 : Int))) then
      some ([], false)
    else
      if ((0 + 1) = (List.length [(⟨#[]⟩ : ByteArray)])) then
        Option.bind (loopF impl_ShortWords_l5 (a0, (List.drop 0 [(⟨#[]⟩ : ByteArray)]), (0 : Int), ())) fun (r0, _) =>
          some (r0, true)
      else
        none
noncomputable def A40 : FnA := ⟨[.v (.int .i64)], false, [.sl .str, .bool], fun x => impl_ShortWords x.1⟩
theorem impl_ShortWords_eq : fnF E40 L40_2 [.v (.int .i64)] false [.sl .str, .bool] f40.ntmps f40.results.toList (codeOf f40) = fun x => impl_ShortWords x.1 := by kernel_rfl
theorem A40_ok : FnOk prog 40 A40 := by
  have h := fnOk_of_run (P := prog) (E := E40) (tysOk_of tyl_ok) E40_ok (L := L40_2) (ps := [.v (.int .i64)]) (own := false) (outs := [.sl .str, .bool]) func40 (c := codeOf f40) (by kernel_rfl) (codeOk_in (L := L40_2) (tysOk_of tyl_ok) E40_ok mixed (c := codeOf f40) (bs := [loopOf f40 5]) (by kernel_rfl) (allCons (loop40_5 rfl) allNil) (by kernel_rfl))
  rw [impl_ShortWords_eq] at h
  exact h
/-! impl.statesOk -/
noncomputable def E101 : Env := ⟨ty0, fun _ => none, fun _ => none, fun _ => none⟩
theorem E101_ok : FnsOk prog E101 := (noFns _ _)
noncomputable def L101_0 : Nat → Option LoopD := fun _ => none
def sh101_2 : List Fm := [.cell (.val (.sl (.int .i64))), .cell (.val (.int .i64)), d, d, d, d, d, .cell (.val (.sl (.int .i64))), .cell (.val (.int .i64)), .cell (.val (.int .i64)), d, d, d, d, d, d, d, d, d, d, d, d, d, d, d, d, d, d, d, d, d, d, d, d, d]
def xs101_2 : List (Ex × List Fm) := [(.ret, [d, d, d, d, .cell (.val .bool), d, d, d, d, d, d, d, d, d, d, d, d, d, d, d, d, d, d, d, d, d, d, d, d, d, d, d, d, d, d]), (.exit 0, [d, d, d, d, d, d, d, d, d, d, d, d, d, d, d, d, d, d, d, d, d, d, d, d, d, d, d, d, d, d, d, d, d, d, d])]
noncomputable def impl_statesOk_l2 : ((List Int) × Int × (List Int) × Int × Int × Unit) → Option (((List Int) × Int × (List Int) × Int × Int × Unit) ⊕ ((Bool × Unit) ⊕ (Unit))) := fun (v0, v1, v7, v8, v9, _) =>
  bif (decide (v9 < v8)) then
    if (((0 : Int) ≤ v9) ∧ (v9 < (((List.length v7) : Nat) : Int))) then
      bif (decide ((List.getD v7 (Int.toNat v9) (0 : Int)) < (0 : Int))) then
        some (Sum.inr (Sum.inl (false, ())))
      else
        bif (decide ((List.getD v7 (Int.toNat v9) (0 : Int)) ≥ v1)) then
          some (Sum.inr (Sum.inl (false, ())))
        else
          bif (decide (v9 > (0 : Int))) then
            if (((0 : Int) ≤ (IntKind.wrap .i64 (v9 - (1 : Int)))) ∧ ((IntKind.wrap .i64 (v9 - (1 : Int))) < (((List.length v0) : Nat) : Int))) then
              bif (decide ((List.getD v0 (Int.toNat (IntKind.wrap .i64 (v9 - (1 : Int)))) (0 : Int)) ≥ (List.getD v7 (Int.toNat v9) (0 : Int)))) then
                some (Sum.inr (Sum.inl (false, ())))
              else
                some (Sum.inl (v0, v1, v7, v8, (IntKind.wrap .i64 (v9 + (1 : Int))), ()))
            else
              none
          else
            some (Sum.inl (v0, v1, v7, v8, (IntKind.wrap .i64 (v9 + (1 : Int))), ()))
    else
      none
  else
    some (Sum.inr (Sum.inr ()))
theorem impl_statesOk_l2_eq : loopStep E101 L101_0 (loopOf f101 2) sh101_2 xs101_2 = impl_statesOk_l2 := by kernel_rfl
theorem loop101_2 {L : Nat → Option LoopD} (h : L 2 = some ⟨sh101_2, xs101_2, impl_statesOk_l2⟩) : LoopOk prog L (loopOf f101 2) :=
  loopOk (tysOk_of tyl_ok) E101_ok (codeOk_in (L := L101_0) (tysOk_of tyl_ok) E101_ok mixed (c := loopOf f101 2) (bs := []) (by kernel_rfl) allNil (by kernel_rfl)) (by kernel_rfl) (by kernel_rfl) impl_statesOk_l2_eq (by rw [show firstId (loopOf f101 2) = 2 from by kernel_rfl]; exact h)
noncomputable def L101_1 : Nat → Option LoopD := fun n => ifEq n 2 (some ⟨sh101_2, xs101_2, impl_statesOk_l2⟩) (L101_0 n)
noncomputable def impl_statesOk : (List Int) → Int → Option (Bool) := fun a0 a1 =>
  Option.bind (loopF impl_statesOk_l2 (a0, a1, a0, (((List.length a0) : Nat) : Int), (0 : Int), ())) fun r0 =>
    (match r0 with
    | .inl (d1, _) =>
        some d1
    | .inr _ =>
        some true)
noncomputable def A101 : FnA := ⟨[.v (.sl (.int .i64)), .v (.int .i64)], true, [.bool], fun x => impl_statesOk x.1 x.2.1⟩
theorem impl_statesOk_eq : fnF E101 L101_1 [.v (.sl (.int .i64)), .v (.int .i64)] true [.bool] f101.ntmps f101.results.toList (codeOf f101) = fun x => impl_statesOk x.1 x.2.1 := by kernel_rfl
theorem A101_ok : FnOk prog 101 A101 := by
  have h := fnOk_of_run (P := prog) (E := E101) (tysOk_of tyl_ok) E101_ok (L := L101_1) (ps := [.v (.sl (.int .i64)), .v (.int .i64)]) (own := true) (outs := [.bool]) func101 (c := codeOf f101) (by kernel_rfl) (codeOk_in (L := L101_1) (tysOk_of tyl_ok) E101_ok mixed (c := codeOf f101) (bs := [loopOf f101 2]) (by kernel_rfl) (allCons (loop101_2 rfl) allNil) (by kernel_rfl))
  rw [impl_statesOk_eq] at h
  exact h
/-! cmp.isNaN[int] -/
noncomputable def E174 : Env := ⟨ty0, fun _ => none, fun _ => none, fun _ => none⟩
theorem E174_ok : FnsOk prog E174 := (noFns _ _)
noncomputable def L174_0 : Nat → Option LoopD := fun _ => none
noncomputable def cmp_isNaN : Int → Option (Bool) := fun a0 =>
  some (a0 != a0)
noncomputable def A174 : FnA := ⟨[.v (.int .i64)], true, [.bool], fun x => cmp_isNaN x.1⟩
theorem cmp_isNaN_eq : fnF E174 L174_0 [.v (.int .i64)] true [.bool] f174.ntmps f174.results.toList (codeOf f174) = fun x => cmp_isNaN x.1 := by kernel_rfl
theorem A174_ok : FnOk prog 174 A174 := by
  have h := fnOk_of_run (P := prog) (E := E174) (tysOk_of tyl_ok) E174_ok (L := L174_0) (ps := [.v (.int .i64)]) (own := true) (outs := [.bool]) func174 (c := codeOf f174) (by kernel_rfl) (codeOk_in (L := L174_0) (tysOk_of tyl_ok) E174_ok mixed (c := codeOf f174) (bs := []) (by kernel_rfl) allNil (by kernel_rfl))
  rw [cmp_isNaN_eq] at h
  exact h
/-! cmp.Compare[int] -/
noncomputable def E145 : Env := ⟨ty0, fun g => ifEq g 174 (some A174) (none), fun _ => none, fun _ => none⟩
theorem E145_ok : FnsOk prog E145 := (oneFn A174_ok func174 (by kernel_rfl) (by kernel_rfl) (noFns _ _))
noncomputable def L145_0 : Nat → Option LoopD := fun _ => none
noncomputable def cmp_Compare : Int → Int → Option (Int) := fun a0 a1 =>
  Option.bind (cmp_isNaN a0) fun r0 =>
    Option.bind (cmp_isNaN a1) fun r1 =>
      bif r0 then
        bif r1 then
          some (0 : Int)
        else
          some (-1 : Int)
      else
        bif r1 then
          some (1 : Int)
        else
          bif (decide (a0 < a1)) then
            some (-1 : Int)
          else
            bif (decide (a0 > a1)) then
              some (1 : Int)
            else
              some (0 : Int)
noncomputable def A145 : FnA := ⟨[.v (.int .i64), .v (.int .i64)], true, [.int .i64], fun x => cmp_Compare x.1 x.2.1⟩
theorem cmp_Compare_eq : fnF E145 L145_0 [.v (.int .i64), .v (.int .i64)] true [.int .i64] f145.ntmps f145.results.toList (codeOf f145) = fun x => cmp_Compare x.1 x.2.1 := by kernel_rfl
theorem A145_ok : FnOk prog 145 A145 := by
  have h := fnOk_of_run (P := prog) (E := E145) (tysOk_of tyl_ok) E145_ok (L := L145_0) (ps := [.v (.int .i64), .v (.int .i64)]) (own := true) (outs := [.int .i64]) func145 (c := codeOf f145) (by kernel_rfl) (codeOk_in (L := L145_0) (tysOk_of tyl_ok) E145_ok mixed (c := codeOf f145) (bs := []) (by kernel_rfl) allNil (by kernel_rfl))
  rw [cmp_Compare_eq] at h
  exact h
/-! cmp.Or[int] -/
noncomputable def E144 : Env := ⟨ty0, fun _ => none, fun _ => none, fun _ => none⟩
theorem E144_ok : FnsOk prog E144 := (noFns _ _)
noncomputable def L144_0 : Nat → Option LoopD := fun _ => none
def sh144_3 : List Fm := [d, d, d, .cell (.val (.int .i64)), d, d, .cell (.val (.sl (.int .i64))), .cell (.val (.int .i64)), .cell (.val (.int .i64)), d, d, d, d, d, d, d, d, d]
def xs144_3 : List (Ex × List Fm) := [(.ret, [d, d, .cell (.val (.int .i64)), d, d, d, d, d, d, d, d, d, d, d, d, d, d, d]), (.exit 0, [d, d, d, .cell (.val (.int .i64)), d, d, d, d, d, d, d, d, d, d, d, d, d, d])]
noncomputable def cmp_Or_l3 : (Int × (List Int) × Int × Int × Unit) → Option ((Int × (List Int) × Int × Int × Unit) ⊕ ((Int × Unit) ⊕ (Int × Unit))) := fun (v3, v6, v7, v8, _) =>
  bif (decide (v8 < v7)) then
    if (((0 : Int) ≤ v8) ∧ (v8 < (((List.length v6) : Nat) : Int))) then
      bif ((List.getD v6 (Int.toNat v8) (0 : Int)) != v3) then
        some (Sum.inr (Sum.inl ((List.getD v6 (Int.toNat v8) (0 : Int)), ())))
      else
        some (Sum.inl (v3, v6, v7, (IntKind.wrap .i64 (v8 + (1 : Int))), ()))
    else
      none
  else
    some (Sum.inr (Sum.inr (v3, ())))
theorem cmp_Or_l3_eq : loopStep E144 L144_0 (loopOf f144 3) sh144_3 xs144_3 = cmp_Or_l3 := by kernel_rfl
theorem loop144_3 {L : Nat → Option LoopD} (h : L 3 = some ⟨sh144_3, xs144_3, cmp_Or_l3⟩) : LoopOk prog L (loopOf f144 3) :=
  loopOk (tysOk_of tyl_ok) E144_ok (codeOk_in (L := L144_0) (tysOk_of tyl_ok) E144_ok mixed (c := loopOf f144 3) (bs := []) (by kernel_rfl) allNil (by kernel_rfl)) (by kernel_rfl) (by kernel_rfl) cmp_Or_l3_eq (by rw [show firstId (loopOf f144 3) = 3 from by kernel_rfl]; exact h)
noncomputable def L144_1 : Nat → Option LoopD := fun n => ifEq n 3 (some ⟨sh144_3, xs144_3, cmp_Or_l3⟩) (L144_0 n)
noncomputable def cmp_Or : (List Int) → Option (Int) := fun a0 =>
  Option.bind (loopF cmp_Or_l3 ((0 : Int), a0, (((List.length a0) : Nat) : Int), (0 : Int), ())) fun r0 =>
    (match r0 with
    | .inl (d1, _) =>
        some d1
    | .inr (d2, _) =>
        some d2)
noncomputable def A144 : FnA := ⟨[.v (.sl (.int .i64))], true, [.int .i64], fun x => cmp_Or x.1⟩
theorem cmp_Or_eq : fnF E144 L144_1 [.v (.sl (.int .i64))] true [.int .i64] f144.ntmps f144.results.toList (codeOf f144) = fun x => cmp_Or x.1 := by kernel_rfl
theorem A144_ok : FnOk prog 144 A144 := by
  have h := fnOk_of_run (P := prog) (E := E144) (tysOk_of tyl_ok) E144_ok (L := L144_1) (ps := [.v (.sl (.int .i64))]) (own := true) (outs := [.int .i64]) func144 (c := codeOf f144) (by kernel_rfl) (codeOk_in (L := L144_1) (tysOk_of tyl_ok) E144_ok mixed (c := codeOf f144) (bs := [loopOf f144 3]) (by kernel_rfl) (allCons (loop144_3 rfl) allNil) (by kernel_rfl))
  rw [cmp_Or_eq] at h
  exact h
/-! impl.stepOrder -/
noncomputable def E102 : Env := ⟨ty0, fun g => ifEq g 145 (some A145) (ifEq g 146 (some A146) (ifEq g 144 (some A144) (none))), fun _ => none, fun _ => none⟩
theorem E102_ok : FnsOk prog E102 := (oneFn A145_ok func145 (by kernel_rfl) (by kernel_rfl) (oneFn A146_ok func146 (by kernel_rfl) (by kernel_rfl) (oneFn A144_ok func144 (by kernel_rfl) (by kernel_rfl) (noFns _ _))))
noncomputable def L102_0 : Nat → Option LoopD := fun _ => none
noncomputable def impl_stepOrder : (Int × (ByteArray × (Int × Int))) → (Int × (ByteArray × (Int × Int))) → Option (Int) := fun (a0_0, a0_1, a0_2, a0_3) (a1_0, a1_1, a1_2, a1_3) =>
  Option.bind (cmp_Compare a0_0 a1_0) fun r0 =>
    Option.bind (strings_Compare a0_1 a1_1) fun r1 =>
      Option.bind (cmp_Compare a0_2 a1_2) fun r2 =>
        Option.bind (cmp_Or (List.take 3 (List.drop 0 [r0, r1, r2]))) fun r3 =>
          some r3
noncomputable def A102 : FnA := ⟨[.v (.pair (.int .i64) (.pair .str (.pair (.int .i64) (.int .i64)))), .v (.pair (.int .i64) (.pair .str (.pair (.int .i64) (.int .i64))))], true, [.int .i64], fun x => impl_stepOrder x.1 x.2.1⟩
theorem impl_stepOrder_eq : fnF E102 L102_0 [.v (.pair (.int .i64) (.pair .str (.pair (.int .i64) (.int .i64)))), .v (.pair (.int .i64) (.pair .str (.pair (.int .i64) (.int .i64))))] true [.int .i64] f102.ntmps f102.results.toList (codeOf f102) = fun x => impl_stepOrder x.1 x.2.1 := by kernel_rfl
theorem A102_ok : FnOk prog 102 A102 := by
  have h := fnOk_of_run (P := prog) (E := E102) (tysOk_of tyl_ok) E102_ok (L := L102_0) (ps := [.v (.pair (.int .i64) (.pair .str (.pair (.int .i64) (.int .i64)))), .v (.pair (.int .i64) (.pair .str (.pair (.int .i64) (.int .i64))))]) (own := true) (outs := [.int .i64]) func102 (c := codeOf f102) (by kernel_rfl) (codeOk_in (L := L102_0) (tysOk_of tyl_ok) E102_ok mixed (c := codeOf f102) (bs := []) (by kernel_rfl) allNil (by kernel_rfl))
  rw [impl_stepOrder_eq] at h
  exact h
/-! impl.AutomatonValid -/
noncomputable def E60 : Env := ⟨ty0, fun g => ifEq g 101 (some A101) (ifEq g 102 (some A102) (none)), fun _ => none, fun _ => none⟩
theorem E60_ok : FnsOk prog E60 := (oneFn A101_ok func101 (by kernel_rfl) (by kernel_rfl) (oneFn A102_ok func102 (by kernel_rfl) (by kernel_rfl) (noFns _ _)))
noncomputable def L60_0 : Nat → Option LoopD := fun _ => none
def sh60_4 : List Fm := [d, .box 100100 [.val (.int .i64), .val (.sl (.int .i64)), .val (.sl (.int .i64)), .val (.sl (.pair (.int .i64) (.pair .str (.pair (.int .i64) (.int .i64)))))], d, d, d, d, d, d, d, d, d, d, d, d, d, d, d, d, d, d, d, d, d, d, d, d, d, d, d, d, d, d, d, d, d, d, .cell (.val (.sl (.pair (.int .i64) (.pair .str (.pair (.int .i64) (.int .i64)))))), .cell (.val (.int .i64)), .cell (.val (.int .i64)), d, d, d, d, d, d, d, d, d, d, d, d, d, d, d, d, d, d, d, d, d, d, d, d, d, d, d, d, d, d, d, d, d, d, d, d, d, d, d, d, d, d, d, d, d, d, d, d, d, d, d, d, d, d, d, d, d, d, d, d, d, d]
def xs60_4 : List (Ex × List Fm) := [(.ret, [d, d, .cell (.val .bool), d, d, d, d, d, d, d, d, d, d, d, d, d, d, d, d, d, d, d, d, d, d, d, d, d, d, d, d, d, d, d, d, d, d, d, d, d, d, d, d, d, d, d, d, d, d, d, d, d, d, d, d, d, d, d, d, d, d, d, d, d, d, d, d, d, d, d, d, d, d, d, d, d, d, d, d, d, d, d, d, d, d, d, d, d, d, d, d, d, d, d, d, d, d, d, d, d, d]), (.exit 0, [d, d, d, d, d, d, d, d, d, d, d, d, d, d, d, d, d, d, d, d, d, d, d, d, d, d, d, d, d, d, d, d, d, d, d, d, d, d, d, d, d, d, d, d, d, d, d, d, d, d, d, d, d, d, d, d, d, d, d, d, d, d, d, d, d, d, d, d, d, d, d, d, d, d, d, d, d, d, d, d, d, d, d, d, d, d, d, d, d, d, d, d, d, d, d, d, d, d, d, d, d])]
noncomputable def impl_AutomatonValid_l4 : ((Int × (List Int) × (List Int) × (List (Int × (ByteArray × (Int × Int)))) × Unit) × (List (Int × (ByteArray × (Int × Int)))) × Int × Int × Unit) → Option (((Int × (List Int) × (List Int) × (List (Int × (ByteArray × (Int × Int)))) × Unit) × (List (Int × (ByteArray × (Int × Int)))) × Int × Int × Unit) ⊕ ((Bool × Unit) ⊕ (Unit))) := fun ((v1_0, v1_1, v1_2, v1_3, _), v36, v37, v38, _) =>
  bif (decide (v38 < v37)) then
    if (((0 : Int) ≤ v38) ∧ (v38 < (((List.length v36) : Nat) : Int))) then
      bif (decide ((List.getD v36 (Int.toNat v38) ((0 : Int), (⟨Array.empty⟩ : ByteArray), (0 : Int), (0 : Int))).1 < (0 : Int))) then
        some (Sum.inr (Sum.inl (false, ())))
      else
        bif (decide ((List.getD v36 (Int.toNat v38) ((0 : Int), (⟨Array.empty⟩ : ByteArray), (0 : Int), (0 : Int))).1 ≥ v1_0)) then
          some (Sum.inr (Sum.inl (false, ())))
        else
          bif (decide ((List.getD v36 (Int.toNat v38) ((0 : Int), (⟨Array.empty⟩ : ByteArray), (0 : Int), (0 : Int))).2.2.1 < (0 : Int))) then
            some (Sum.inr (Sum.inl (false, ())))
          else
            bif (decide ((List.getD v36 (Int.toNat v38) ((0 : Int), (⟨Array.empty⟩ : ByteArray), (0 : Int), (0 : Int))).2.2.1 ≥ v1_0)) then
              some (Sum.inr (Sum.inl (false, ())))
            else
              bif (!((ByteArray.toList (List.getD v36 (Int.toNat v38) ((0 : Int), (⟨Array.empty⟩ : ByteArray), (0 : Int), (0 : Int))).2.1) == (ByteArray.toList (⟨#[(97 : UInt8)]⟩ : ByteArray)))) then
                bif (!((ByteArray.toList (List.getD v36 (Int.toNat v38) ((0 : Int), (⟨Array.empty⟩ : ByteArray), (0 : Int), (0 : Int))).2.1) == (ByteArray.toList (⟨#[(98 : UInt8)]⟩ : ByteArray)))) then
                  some (Sum.inr (Sum.inl (false, ())))
                else
                  bif (decide ((List.getD v36 (Int.toNat v38) ((0 : Int), (⟨Array.empty⟩ : ByteArray), (0 : Int), (0 : Int))).2.2.2 < (0 : Int))) then
                    some (Sum.inr (Sum.inl (false, ())))
                  else
                    bif (decide ((List.getD v36 (Int.toNat v38) ((0 : Int), (⟨Array.empty⟩ : ByteArray), (0 : Int), (0 : Int))).2.2.2 > (3 : Int))) then
                      some (Sum.inr (Sum.inl (false, ())))
                    else
                      bif (decide (v38 > (0 : Int))) then
                        if (((0 : Int) ≤ (IntKind.wrap .i64 (v38 - (1 : Int)))) ∧ ((IntKind.wrap .i64 (v38 - (1 : Int))) < (((List.length v1_3) : Nat) : Int))) then
                          Option.bind (impl_stepOrder (List.getD v1_3 (Int.toNat (IntKind.wrap .i64 (v38 - (1 : Int)))) ((0 : Int), (⟨Array.empty⟩ : ByteArray), (0 : Int), (0 : Int))) ((List.getD v36 (Int.toNat v38) ((0 : Int), (⟨Array.empty⟩ : ByteArray), (0 : Int), (0 : Int))).1, (List.getD v36 (Int.toNat v38) ((0 : Int), (⟨Array.empty⟩ : ByteArray), (0 : Int), (0 : Int))).2.1, (List.getD v36 (Int.toNat v38) ((0 : Int), (⟨Array.empty⟩ : ByteArray), (0 : Int), (0 : Int))).2.2.1, (List.getD v36 (Int.toNat v38) ((0 : Int), (⟨Array.empty⟩ : ByteArray), (0 : Int), (0 : Int))).2.2.2)) fun r0 =>
                            bif (decide (r0 ≥ (0 : Int))) then
                              some (Sum.inr (Sum.inl (false, ())))
                            else
                              some (Sum.inl ((v1_0, v1_1, v1_2, v1_3, ()), v36, v37, (IntKind.wrap .i64 (v38 + (1 : Int))), ()))
                        else
                          none
                      else
                        some (Sum.inl ((v1_0, v1_1, v1_2, v1_3, ()), v36, v37, (IntKind.wrap .i64 (v38 + (1 : Int))), ()))
              else
                bif (decide ((List.getD v36 (Int.toNat v38) ((0 : Int), (⟨Array.empty⟩ : ByteArray), (0 : Int), (0 : Int))).2.2.2 < (0 : Int))) then
                  some (Sum.inr (Sum.inl (false, ())))
                else
                  bif (decide ((List.getD v36 (Int.toNat v38) ((0 : Int), (⟨Array.empty⟩ : ByteArray), (0 : Int), (0 : Int))).2.2.2 > (3 : Int))) then
                    some (Sum.inr (Sum.inl (false, ())))
                  else
                    bif (decide (v38 > (0 : Int))) then
                      if (((0 : Int) ≤ (IntKind.wrap .i64 (v38 - (1 : Int)))) ∧ ((IntKind.wrap .i64 (v38 - (1 : Int))) < (((List.length v1_3) : Nat) : Int))) then
                        Option.bind (impl_stepOrder (List.getD v1_3 (Int.toNat (IntKind.wrap .i64 (v38 - (1 : Int)))) ((0 : Int), (⟨Array.empty⟩ : ByteArray), (0 : Int), (0 : Int))) ((List.getD v36 (Int.toNat v38) ((0 : Int), (⟨Array.empty⟩ : ByteArray), (0 : Int), (0 : Int))).1, (List.getD v36 (Int.toNat v38) ((0 : Int), (⟨Array.empty⟩ : ByteArray), (0 : Int), (0 : Int))).2.1, (List.getD v36 (Int.toNat v38) ((0 : Int), (⟨Array.empty⟩ : ByteArray), (0 : Int), (0 : Int))).2.2.1, (List.getD v36 (Int.toNat v38) ((0 : Int), (⟨Array.empty⟩ : ByteArray), (0 : Int), (0 : Int))).2.2.2)) fun r1 =>
                          bif (decide (r1 ≥ (0 : Int))) then
                            some (Sum.inr (Sum.inl (false, ())))
                          else
                            some (Sum.inl ((v1_0, v1_1, v1_2, v1_3, ()), v36, v37, (IntKind.wrap .i64 (v38 + (1 : Int))), ()))
                      else
                        none
                    else
                      some (Sum.inl ((v1_0, v1_1, v1_2, v1_3, ()), v36, v37, (IntKind.wrap .i64 (v38 + (1 : Int))), ()))
    else
      none
  else
    some (Sum.inr (Sum.inr ()))
theorem impl_AutomatonValid_l4_eq : loopStep E60 L60_0 (loopOf f60 4) sh60_4 xs60_4 = impl_AutomatonValid_l4 := by kernel_rfl
theorem loop60_4 {L : Nat → Option LoopD} (h : L 4 = some ⟨sh60_4, xs60_4, impl_AutomatonValid_l4⟩) : LoopOk prog L (loopOf f60 4) :=
  loopOk (tysOk_of tyl_ok) E60_ok (codeOk_in (L := L60_0) (tysOk_of tyl_ok) E60_ok mixed (c := loopOf f60 4) (bs := []) (by kernel_rfl) allNil (by kernel_rfl)) (by kernel_rfl) (by kernel_rfl) impl_AutomatonValid_l4_eq (by rw [show firstId (loopOf f60 4) = 4 from by kernel_rfl]; exact h)
noncomputable def L60_1 : Nat → Option LoopD := fun n => ifEq n 4 (some ⟨sh60_4, xs60_4, impl_AutomatonValid_l4⟩) (L60_0 n)
noncomputable def impl_AutomatonValid : (Int × ((List Int) × ((List Int) × (List (Int × (ByteArray × (Int × Int))))))) → Option (Bool) := fun (a0_0, a0_1, a0_2, a0_3) =>
  bif (decide (a0_0 < (1 : Int))) then
    some false
  else
    bif (decide (a0_0 > (4 : Int))) then
      some false
    else
      bif (decide ((((List.length a0_3) : Nat) : Int) > (24 : Int))) then
        some false
      else
        Option.bind (impl_statesOk a0_1 a0_0) fun r0 =>
          bif (!r0) then
            some false
          else
            Option.bind (impl_statesOk a0_2 a0_0) fun r1 =>
              bif (!r1) then
                some false
              else
                Option.bind (loopF impl_AutomatonValid_l4 ((a0_0, a0_1, a0_2, a0_3, ()), a0_3, (((List.length a0_3) : Nat) : Int), (0 : Int), ())) fun r2 =>
                  (match r2 with
                  | .inl (d3, _) =>
                      some d3
                  | .inr _ =>
                      some true)
noncomputable def A60 : FnA := ⟨[.v (.pair (.int .i64) (.pair (.sl (.int .i64)) (.pair (.sl (.int .i64)) (.sl (.pair (.int .i64) (.pair .str (.pair (.int .i64) (.int .i64))))))))], true, [.bool], fun x => impl_AutomatonValid x.1⟩
theorem impl_AutomatonValid_eq : fnF E60 L60_1 [.v (.pair (.int .i64) (.pair (.sl (.int .i64)) (.pair (.sl (.int .i64)) (.sl (.pair (.int .i64) (.pair .str (.pair (.int .i64) (.int .i64))))))))] true [.bool] f60.ntmps f60.results.toList (codeOf f60) = fun x => impl_AutomatonValid x.1 := by kernel_rfl
theorem A60_ok : FnOk prog 60 A60 := by
  have h := fnOk_of_run (P := prog) (E := E60) (tysOk_of tyl_ok) E60_ok (L := L60_1) (ps := [.v (.pair (.int .i64) (.pair (.sl (.int .i64)) (.pair (.sl (.int .i64)) (.sl (.pair (.int .i64) (.pair .str (.pair (.int .i64) (.int .i64))))))))]) (own := true) (outs := [.bool]) func60 (c := codeOf f60) (by kernel_rfl) (codeOk_in (L := L60_1) (tysOk_of tyl_ok) E60_ok mixed (c := codeOf f60) (bs := [loopOf f60 4]) (by kernel_rfl) (allCons (loop60_4 rfl) allNil) (by kernel_rfl))
  rw [impl_AutomatonValid_eq] at h
  exact h
/-! impl.WordValid -/
noncomputable def E95 : Env := ⟨ty0, fun _ => none, fun _ => none, fun _ => none⟩
theorem E95_ok : FnsOk prog E95 := (noFns _ _)
noncomputable def L95_0 : Nat → Option LoopD := fun _ => none
def sh95_2 : List Fm := [.cell (.val .str), d, d, d, d, .cell (.val (.int .i64)), .cell (.val (.int .i64)), d, d, d, d, d, d, d, d, d, d, d, d, d, d, d, d]
def xs95_2 : List (Ex × List Fm) := [(.ret, [d, d, .cell (.val .bool), d, d, d, d, d, d, d, d, d, d, d, d, d, d, d, d, d, d, d, d]), (.exit 0, [.cell (.val .str), d, d, d, d, d, d, d, d, d, d, d, d, d, d, d, d, d, d, d, d, d, d])]
noncomputable def impl_WordValid_l2 : (ByteArray × Int × Int × Unit) → Option ((ByteArray × Int × Int × Unit) ⊕ ((Bool × Unit) ⊕ (ByteArray × Unit))) := fun (v0, v5, v6, _) =>
  bif (decide (v6 < v5)) then
    if (((0 : Int) ≤ v6) ∧ (v6 < (((ByteArray.size v0) : Nat) : Int))) then
      bif ((((UInt8.toNat (Array.getD (ByteArray.data v0) (Int.toNat v6) (0 : UInt8))) : Nat) : Int) != (97 : Int)) then
        if (((0 : Int) ≤ v6) ∧ (v6 < (((ByteArray.size v0) : Nat) : Int))) then
          bif ((((UInt8.toNat (Array.getD (ByteArray.data v0) (Int.toNat v6) (0 : UInt8))) : Nat) : Int) != (98 : Int)) then
            some (Sum.inr (Sum.inl (false, ())))
          else
            some (Sum.inl (v0, v5, (IntKind.wrap .i64 (v6 + (1 : Int))), ()))
        else
          none
      else
        some (Sum.inl (v0, v5, (IntKind.wrap .i64 (v6 + (1 : Int))), ()))
    else
      none
  else
    some (Sum.inr (Sum.inr (v0, ())))
theorem impl_WordValid_l2_eq : loopStep E95 L95_0 (loopOf f95 2) sh95_2 xs95_2 = impl_WordValid_l2 := by kernel_rfl
theorem loop95_2 {L : Nat → Option LoopD} (h : L 2 = some ⟨sh95_2, xs95_2, impl_WordValid_l2⟩) : LoopOk prog L (loopOf f95 2) :=
  loopOk (tysOk_of tyl_ok) E95_ok (codeOk_in (L := L95_0) (tysOk_of tyl_ok) E95_ok mixed (c := loopOf f95 2) (bs := []) (by kernel_rfl) allNil (by kernel_rfl)) (by kernel_rfl) (by kernel_rfl) impl_WordValid_l2_eq (by rw [show firstId (loopOf f95 2) = 2 from by kernel_rfl]; exact h)
noncomputable def L95_1 : Nat → Option LoopD := fun n => ifEq n 2 (some ⟨sh95_2, xs95_2, impl_WordValid_l2⟩) (L95_0 n)
noncomputable def impl_WordValid : ByteArray → Option (Bool) := fun a0 =>
  Option.bind (loopF impl_WordValid_l2 (a0, (((ByteArray.size a0) : Nat) : Int), (0 : Int), ())) fun r0 =>
    (match r0 with
    | .inl (d1, _) =>
        some d1
    | .inr (d2, _) =>
        some (decide ((((ByteArray.size d2) : Nat) : Int) ≤ (1000 : Int))))
noncomputable def A95 : FnA := ⟨[.v .str], true, [.bool], fun x => impl_WordValid x.1⟩
theorem impl_WordValid_eq : fnF E95 L95_1 [.v .str] true [.bool] f95.ntmps f95.results.toList (codeOf f95) = fun x => impl_WordValid x.1 := by kernel_rfl
theorem A95_ok : FnOk prog 95 A95 := by
  have h := fnOk_of_run (P := prog) (E := E95) (tysOk_of tyl_ok) E95_ok (L := L95_1) (ps := [.v .str]) (own := true) (outs := [.bool]) func95 (c := codeOf f95) (by kernel_rfl) (codeOk_in (L := L95_1) (tysOk_of tyl_ok) E95_ok mixed (c := codeOf f95) (bs := [loopOf f95 2]) (by kernel_rfl) (allCons (loop95_2 rfl) allNil) (by kernel_rfl))
  rw [impl_WordValid_eq] at h
  exact h
/-! math/bits.Mul64 -/
noncomputable def E191 : Env := ⟨ty0, fun _ => none, fun _ => none, fun _ => none⟩
theorem E191_ok : FnsOk prog E191 := (noFns _ _)
noncomputable def L191_0 : Nat → Option LoopD := fun _ => none
noncomputable def bits_Mul64 : Int → Int → Option (Int × Int) := fun a0 a1 =>
  if ((32 : Int) < (0 : Int)) then
    none
  else
    if ((32 : Int) < (0 : Int)) then
      none
    else
      if ((32 : Int) < (0 : Int)) then
        none
      else
        if ((32 : Int) < (0 : Int)) then
          none
        else
          if ((32 : Int) < (0 : Int)) then
            none
          else
            some ((IntKind.wrap .u64 ((IntKind.wrap .u64 ((IntKind.wrap .u64 ((Int.fdiv a0 ((2 : Int) ^ (Min.min (Int.toNat (32 : Int)) (IntKind.bits .u64)))) * (Int.fdiv a1 ((2 : Int) ^ (Min.min (Int.toNat (32 : Int)) (IntKind.bits .u64)))))) + (Int.fdiv (IntKind.wrap .u64 ((IntKind.wrap .u64 ((Int.fdiv a0 ((2 : Int) ^ (Min.min (Int.toNat (32 : Int)) (IntKind.bits .u64)))) * ((((BitVec.toNat ((BitVec.ofInt (IntKind.bits .u64) a1) &&& (BitVec.ofInt (IntKind.bits .u64) (4294967295 : Int)))) % (Int.natAbs ((2 : Int) ^ (IntKind.bits .u64)))) : Nat) : Int))) + (Int.fdiv (IntKind.wrap .u64 (((((BitVec.toNat ((BitVec.ofInt (IntKind.bits .u64) a0) &&& (BitVec.ofInt (IntKind.bits .u64) (4294967295 : Int)))) % (Int.natAbs ((2 : Int) ^ (IntKind.bits .u64)))) : Nat) : Int) * ((((BitVec.toNat ((BitVec.ofInt (IntKind.bits .u64) a1) &&& (BitVec.ofInt (IntKind.bits .u64) (4294967295 : Int)))) % (Int.natAbs ((2 : Int) ^ (IntKind.bits .u64)))) : Nat) : Int))) ((2 : Int) ^ (Min.min (Int.toNat (32 : Int)) (IntKind.bits .u64)))))) ((2 : Int) ^ (Min.min (Int.toNat (32 : Int)) (IntKind.bits .u64)))))) + (Int.fdiv (IntKind.wrap .u64 (((((BitVec.toNat ((BitVec.ofInt (IntKind.bits .u64) (IntKind.wrap .u64 ((IntKind.wrap .u64 ((Int.fdiv a0 ((2 : Int) ^ (Min.min (Int.toNat (32 : Int)) (IntKind.bits .u64)))) * ((((BitVec.toNat ((BitVec.ofInt (IntKind.bits .u64) a1) &&& (BitVec.ofInt (IntKind.bits .u64) (4294967295 : Int)))) % (Int.natAbs ((2 : Int) ^ (IntKind.bits .u64)))) : Nat) : Int))) + (Int.fdiv (IntKind.wrap .u64 (((((BitVec.toNat ((BitVec.ofInt (IntKind.bits .u64) a0) &&& (BitVec.ofInt (IntKind.bits .u64) (4294967295 : Int)))) % (Int.natAbs ((2 : Int) ^ (IntKind.bits .u64)))) : Nat) : Int) * ((((BitVec.toNat ((BitVec.ofInt (IntKind.bits .u64) a1) &&& (BitVec.ofInt (IntKind.bits .u64) (4294967295 : Int)))) % (Int.natAbs ((2 : Int) ^ (IntKind.bits .u64)))) : Nat) : Int))) ((2 : Int) ^ (Min.min (Int.toNat (32 : Int)) (IntKind.bits .u64))))))) &&& (BitVec.ofInt (IntKind.bits .u64) (4294967295 : Int)))) % (Int.natAbs ((2 : Int) ^ (IntKind.bits .u64)))) : Nat) : Int) + (IntKind.wrap .u64 (((((BitVec.toNat ((BitVec.ofInt (IntKind.bits .u64) a0) &&& (BitVec.ofInt (IntKind.bits .u64) (4294967295 : Int)))) % (Int.natAbs ((2 : Int) ^ (IntKind.bits .u64)))) : Nat) : Int) * (Int.fdiv a1 ((2 : Int) ^ (Min.min (Int.toNat (32 : Int)) (IntKind.bits .u64)))))))) ((2 : Int) ^ (Min.min (Int.toNat (32 : Int)) (IntKind.bits .u64)))))), (IntKind.wrap .u64 (a0 * a1)))
noncomputable def A191 : FnA := ⟨[.v (.int .u64), .v (.int .u64)], true, [.int .u64, .int .u64], fun x => bits_Mul64 x.1 x.2.1⟩
theorem bits_Mul64_eq : fnF E191 L191_0 [.v (.int .u64), .v (.int .u64)] true [.int .u64, .int .u64] f191.ntmps f191.results.toList (codeOf f191) = fun x => bits_Mul64 x.1 x.2.1 := by kernel_rfl
theorem A191_ok : FnOk prog 191 A191 := by
  have h := fnOk_of_run (P := prog) (E := E191) (tysOk_of tyl_ok) E191_ok (L := L191_0) (ps := [.v (.int .u64), .v (.int .u64)]) (own := true) (outs := [.int .u64, .int .u64]) func191 (c := codeOf f191) (by kernel_rfl) (codeOk_in (L := L191_0) (tysOk_of tyl_ok) E191_ok mixed (c := codeOf f191) (bs := []) (by kernel_rfl) allNil (by kernel_rfl))
  rw [bits_Mul64_eq] at h
  exact h
/-! math/bits.Mul -/
noncomputable def E165 : Env := ⟨ty0, fun g => ifEq g 191 (some A191) (none), fun _ => none, fun _ => none⟩
theorem E165_ok : FnsOk prog E165 := (oneFn A191_ok func191 (by kernel_rfl) (by kernel_rfl) (noFns _ _))
noncomputable def L165_0 : Nat → Option LoopD := fun _ => none
noncomputable def bits_Mul : Int → Int → Option (Int × Int) := fun a0 a1 =>
  Option.bind (bits_Mul64 a0 a1) fun (r0, r1) =>
    some (r0, r1)
noncomputable def A165 : FnA := ⟨[.v (.int .u64), .v (.int .u64)], true, [.int .u64, .int .u64], fun x => bits_Mul x.1 x.2.1⟩
theorem bits_Mul_eq : fnF E165 L165_0 [.v (.int .u64), .v (.int .u64)] true [.int .u64, .int .u64] f165.ntmps f165.results.toList (codeOf f165) = fun x => bits_Mul x.1 x.2.1 := by kernel_rfl
theorem A165_ok : FnOk prog 165 A165 := by
  have h := fnOk_of_run (P := prog) (E := E165) (tysOk_of tyl_ok) E165_ok (L := L165_0) (ps := [.v (.int .u64), .v (.int .u64)]) (own := true) (outs := [.int .u64, .int .u64]) func165 (c := codeOf f165) (by kernel_rfl) (codeOk_in (L := L165_0) (tysOk_of tyl_ok) E165_ok mixed (c := codeOf f165) (bs := []) (by kernel_rfl) allNil (by kernel_rfl))
  rw [bits_Mul_eq] at h
  exact h
/-! slices.Repeat[[]int,int] -/
noncomputable def E134 : Env := ⟨ty0, fun g => ifEq g 165 (some A165) (none), fun _ => none, fun _ => none⟩
theorem E134_ok : FnsOk prog E134 := (oneFn A165_ok func165 (by kernel_rfl) (by kernel_rfl) (noFns _ _))
noncomputable def L134_0 : Nat → Option LoopD := fun _ => none
def sh134_8 : List Fm := [d, d, d, d, d, d, d, .cell (.own (.int .i64) 100700 false), .cell (.val (.int .i64)), d, d, d, d, d, d, d, d, d, d, d, d, d, d, d, d, d, d, d, d, d, d, d, d, d, d, d, d, d, d, d, d, d, d, d, d, d, d, d]
def xs134_8 : List (Ex × List Fm) := [(.exit 0, [d, d, d, d, d, d, d, .cell (.own (.int .i64) 100700 false), d, d, d, d, d, d, d, d, d, d, d, d, d, d, d, d, d, d, d, d, d, d, d, d, d, d, d, d, d, d, d, d, d, d, d, d, d, d, d, d])]
noncomputable def slices_Repeat_l8 : ((List Int) × Int × Unit) → Option (((List Int) × Int × Unit) ⊕ (((List Int) × Unit))) := fun (v7, v8, _) =>
  bif (decide (v8 < (((List.length v7) : Nat) : Int))) then
    if (((0 : Int) ≤ v8) ∧ (v8 ≤ (((List.length v7) : Nat) : Int))) then
      if (((0 : Int) ≤ v8) ∧ (v8 ≤ (((List.length v7) : Nat) : Int))) then
        some (Sum.inl ((List.take (List.length v7) (List.drop 0 ((List.take (0 + (Int.toNat v8)) v7) ++ ((List.take ((List.length v7) - (Int.toNat v8)) (List.take ((Int.toNat v8) - 0) (List.drop (0 + 0) v7))) ++ (List.drop ((0 + (Int.toNat v8)) + (List.length (List.take ((List.length v7) - (Int.toNat v8)) (List.take ((Int.toNat v8) - 0) (List.drop (0 + 0) v7))))) v7))))), (IntKind.wrap .i64 (v8 + (((List.length (List.take ((List.length v7) - (Int.toNat v8)) (List.take ((Int.toNat v8) - 0) (List.drop (0 + 0) v7)))) : Nat) : Int))), ()))
      else
        none
    else
      none
  else
    some (Sum.inr ((List.take (List.length v7) (List.drop 0 v7)), ()))
theorem slices_Repeat_l8_eq : loopStep E134 L134_0 (loopOf f134 8) sh134_8 xs134_8 = slices_Repeat_l8 := by kernel_rfl
theorem loop134_8 {L : Nat → Option LoopD} (h : L 8 = some ⟨sh134_8, xs134_8, slices_Repeat_l8⟩) : LoopOk prog L (loopOf f134 8) :=
  loopOk (tysOk_of tyl_ok) E134_ok (codeOk_in (L := L134_0) (tysOk_of tyl_ok) E134_ok mixed (c := loopOf f134 8) (bs := []) (by kernel_rfl) allNil (by kernel_rfl)) (by kernel_rfl) (by kernel_rfl) slices_Repeat_l8_eq (by rw [show firstId (loopOf f134 8) = 8 from by kernel_rfl]; exact h)
noncomputable def L134_1 : Nat → Option LoopD := fun n => ifEq n 8 (some ⟨sh134_8, xs134_8, slices_Repeat_l8⟩) (L134_0 n)
noncomputable def slices_Repeat : (List Int) → Int → Option ((List Int)) := fun a0 a1 =>
  bif (decide (a1 < (0 : Int))) then
    none
  else
    Option.bind (bits_Mul (IntKind.wrap .u64 (((List.length a0) : Nat) : Int)) (IntKind.wrap .u64 a1)) fun (r0, r1) =>
      bif (decide (r0 > (0 : Int))) then
        none
      else
        bif (decide (r1 > (9223372036854775807 : Int))) then
          none
        else
          if (((0 : Int) ≤ (IntKind.wrap .i64 r1)) ∧ (((IntKind.wrap .i64 r1) = (IntKind.wrap .i64 r1)) ∧ (((IntKind.wrap .i64 r1) * ((8 : Nat) : Int)) ≤ (140737488355328 : Int)))) then
            Option.bind (loopF slices_Repeat_l8 ((List.take (Int.toNat (IntKind.wrap .i64 r1)) (List.drop 0 ((List.take 0 (List.replicate (Int.toNat (IntKind.wrap .i64 r1)) (0 : Int))) ++ ((List.take (Int.toNat (IntKind.wrap .i64 r1)) a0) ++ (List.drop (0 + (List.length (List.take (Int.toNat (IntKind.wrap .i64 r1)) a0))) (List.replicate (Int.toNat (IntKind.wrap .i64 r1)) (0 : Int))))))), (((List.length (List.take (Int.toNat (IntKind.wrap .i64 r1)) a0)) : Nat) : Int), ())) fun (r2, _) =>
              some (List.take (List.length r2) (List.drop 0 r2))
          else
            none
noncomputable def A134 : FnA := ⟨[.v (.sl (.int .i64)), .v (.int .i64)], true, [.sl (.int .i64)], fun x => slices_Repeat x.1 x.2.1⟩
theorem slices_Repeat_eq : fnF E134 L134_1 [.v (.sl (.int .i64)), .v (.int .i64)] true [.sl (.int .i64)] f134.ntmps f134.results.toList (codeOf f134) = fun x => slices_Repeat x.1 x.2.1 := by kernel_rfl
theorem A134_ok : FnOk prog 134 A134 := by
  have h := fnOk_of_run (P := prog) (E := E134) (tysOk_of tyl_ok) E134_ok (L := L134_1) (ps := [.v (.sl (.int .i64)), .v (.int .i64)]) (own := true) (outs := [.sl (.int .i64)]) func134 (c := codeOf f134) (by kernel_rfl) (codeOk_in (L := L134_1) (tysOk_of tyl_ok) E134_ok mixed (c := codeOf f134) (bs := [loopOf f134 8]) (by kernel_rfl) (allCons (loop134_8 rfl) allNil) (by kernel_rfl))
  rw [slices_Repeat_eq] at h
  exact h
/-! impl.toEnd -/
noncomputable def E96 : Env := ⟨ty0, fun g => ifEq g 134 (some A134) (none), fun _ => none, fun _ => none⟩
theorem E96_ok : FnsOk prog E96 := (oneFn A134_ok func134 (by kernel_rfl) (by kernel_rfl) (noFns _ _))
noncomputable def L96_0 : Nat → Option LoopD := fun _ => none
def sh96_3 : List Fm := [d, .cell (.val .str), .box 100200 [.val (.int .i64), .val (.sl (.int .i64)), .val (.sl (.int .i64)), .val (.sl (.pair (.int .i64) (.pair .str (.pair (.int .i64) (.int .i64)))))], d, d, .cell (.own (.int .i64) 100500 false), d, d, d, d, d, d, d, d, d, d, d, d, .cell (.val (.sl (.int .i64))), .cell (.val (.int .i64)), .cell (.val (.int .i64)), d, d, d, d, d, d, d, d, d, d, d, d, d, d, d, d, d, d, d, d, d, d, d, d, d, d, d, d, d, d, d, d, d, d, d, d, d, d, d, d, d, d, d, d, d, d, d, d, d, d, d, d, d, d, d, d, d, d, d, d]
def xs96_3 : List (Ex × List Fm) := [(.exit 0, [d, .cell (.val .str), .box 100200 [.val (.int .i64), .val (.sl (.int .i64)), .val (.sl (.int .i64)), .val (.sl (.pair (.int .i64) (.pair .str (.pair (.int .i64) (.int .i64)))))], d, d, .cell (.own (.int .i64) 100500 false), d, d, d, d, d, d, d, d, d, d, d, d, d, d, d, d, d, d, d, d, d, d, d, d, d, d, d, d, d, d, d, d, d, d, d, d, d, d, d, d, d, d, d, d, d, d, d, d, d, d, d, d, d, d, d, d, d, d, d, d, d, d, d, d, d, d, d, d, d, d, d, d, d, d, d])]
noncomputable def impl_toEnd_l3 : (ByteArray × (Int × (List Int) × (List Int) × (List (Int × (ByteArray × (Int × Int)))) × Unit) × (List Int) × (List Int) × Int × Int × Unit) → Option ((ByteArray × (Int × (List Int) × (List Int) × (List (Int × (ByteArray × (Int × Int)))) × Unit) × (List Int) × (List Int) × Int × Int × Unit) ⊕ ((ByteArray × (Int × (List Int) × (List Int) × (List (Int × (ByteArray × (Int × Int)))) × Unit) × (List Int) × Unit))) := fun (v1, (v2_0, v2_1, v2_2, v2_3, _), v5, v18, v19, v20, _) =>
  bif (decide (v20 < v19)) then
    if (((0 : Int) ≤ v20) ∧ (v20 < (((List.length v18) : Nat) : Int))) then
      if (((0 : Int) ≤ (List.getD v18 (Int.toNat v20) (0 : Int))) ∧ ((List.getD v18 (Int.toNat v20) (0 : Int)) < (((List.length v5) : Nat) : Int))) then
        some (Sum.inl (v1, (v2_0, v2_1, v2_2, v2_3, ()), (List.take (List.length v5) (List.drop 0 (List.set v5 (0 + (Int.toNat (List.getD v18 (Int.toNat v20) (0 : Int)))) (0 : Int)))), v18, v19, (IntKind.wrap .i64 (v20 + (1 : Int))), ()))
      else
        none
    else
      none
  else
    some (Sum.inr (v1, (v2_0, v2_1, v2_2, v2_3, ()), (List.take (List.length v5) (List.drop 0 v5)), ()))
theorem impl_toEnd_l3_eq : loopStep E96 L96_0 (loopOf f96 3) sh96_3 xs96_3 = impl_toEnd_l3 := by kernel_rfl
theorem loop96_3 {L : Nat → Option LoopD} (h : L 3 = some ⟨sh96_3, xs96_3, impl_toEnd_l3⟩) : LoopOk prog L (loopOf f96 3) :=
  loopOk (tysOk_of tyl_ok) E96_ok (codeOk_in (L := L96_0) (tysOk_of tyl_ok) E96_ok mixed (c := loopOf f96 3) (bs := []) (by kernel_rfl) allNil (by kernel_rfl)) (by kernel_rfl) (by kernel_rfl) impl_toEnd_l3_eq (by rw [show firstId (loopOf f96 3) = 3 from by kernel_rfl]; exact h)
noncomputable def L96_1 : Nat → Option LoopD := fun n => ifEq n 3 (some ⟨sh96_3, xs96_3, impl_toEnd_l3⟩) (L96_0 n)
def sh96_13 : List Fm := [d, .cell (.val .str), .box 100200 [.val (.int .i64), .val (.sl (.int .i64)), .val (.sl (.int .i64)), .val (.sl (.pair (.int .i64) (.pair .str (.pair (.int .i64) (.int .i64)))))], d, d, .cell (.val (.sl (.int .i64))), d, d, .cell (.own (.sl (.int .i64)) 100800 false), .cell (.val (.int .i64)), .cell (.own (.int .i64) 101000 false), d, d, d, d, d, d, d, d, d, d, d, d, d, d, d, d, d, d, d, d, d, d, d, d, d, d, d, d, d, d, d, .cell (.val (.sl (.pair (.int .i64) (.pair .str (.pair (.int .i64) (.int .i64)))))), .cell (.val (.int .i64)), .cell (.val (.int .i64)), d, d, d, d, d, d, d, d, d, d, d, d, d, d, d, d, d, d, d, d, d, d, d, d, d, d, d, d, d, d, d, d, d, d, d, d]
def xs96_13 : List (Ex × List Fm) := [(.exit 4, [d, .cell (.val .str), .box 100200 [.val (.int .i64), .val (.sl (.int .i64)), .val (.sl (.int .i64)), .val (.sl (.pair (.int .i64) (.pair .str (.pair (.int .i64) (.int .i64)))))], d, d, d, d, d, .cell (.own (.sl (.int .i64)) 100800 false), .cell (.val (.int .i64)), .cell (.own (.int .i64) 101000 false), d, d, d, d, d, d, d, d, d, d, d, d, d, d, d, d, d, d, d, d, d, d, d, d, d, d, d, d, d, d, d, d, d, d, d, d, d, d, d, d, d, d, d, d, d, d, d, d, d, d, d, d, d, d, d, d, d, d, d, d, d, d, d, d, d, d, d, d, d, d])]
noncomputable def impl_toEnd_l13 : (ByteArray × (Int × (List Int) × (List Int) × (List (Int × (ByteArray × (Int × Int)))) × Unit) × (List Int) × (List (List Int)) × Int × (List Int) × (List (Int × (ByteArray × (Int × Int)))) × Int × Int × Unit) → Option ((ByteArray × (Int × (List Int) × (List Int) × (List (Int × (ByteArray × (Int × Int)))) × Unit) × (List Int) × (List (List Int)) × Int × (List Int) × (List (Int × (ByteArray × (Int × Int)))) × Int × Int × Unit) ⊕ ((ByteArray × (Int × (List Int) × (List Int) × (List (Int × (ByteArray × (Int × Int)))) × Unit) × (List (List Int)) × Int × (List Int) × Unit))) := fun (v1, (v2_0, v2_1, v2_2, v2_3, _), v5, v8, v9, v10, v42, v43, v44, _) =>
  bif (decide (v44 < v43)) then
    if (((0 : Int) ≤ v44) ∧ (v44 < (((List.length v42) : Nat) : Int))) then
      if (((0 : Int) ≤ v9) ∧ ((v9 ≤ (IntKind.wrap .i64 (v9 + (1 : Int)))) ∧ ((IntKind.wrap .i64 (v9 + (1 : Int))) ≤ (((ByteArray.size v1) : Nat) : Int)))) then
        bif ((ByteArray.toList (List.getD v42 (Int.toNat v44) ((0 : Int), (⟨Array.empty⟩ : ByteArray), (0 : Int), (0 : Int))).2.1) == (ByteArray.toList (ByteArray.extract v1 (Int.toNat v9) (Int.toNat (IntKind.wrap .i64 (v9 + (1 : Int))))))) then
          if (((0 : Int) ≤ (List.getD v42 (Int.toNat v44) ((0 : Int), (⟨Array.empty⟩ : ByteArray), (0 : Int), (0 : Int))).1) ∧ ((List.getD v42 (Int.toNat v44) ((0 : Int), (⟨Array.empty⟩ : ByteArray), (0 : Int), (0 : Int))).1 < (((List.length v10) : Nat) : Int))) then
            if (((0 : Int) ≤ (List.getD v42 (Int.toNat v44) ((0 : Int), (⟨Array.empty⟩ : ByteArray), (0 : Int), (0 : Int))).2.2.1) ∧ ((List.getD v42 (Int.toNat v44) ((0 : Int), (⟨Array.empty⟩ : ByteArray), (0 : Int), (0 : Int))).2.2.1 < (((List.length v5) : Nat) : Int))) then
              if (((0 : Int) ≤ (List.getD v42 (Int.toNat v44) ((0 : Int), (⟨Array.empty⟩ : ByteArray), (0 : Int), (0 : Int))).1) ∧ ((List.getD v42 (Int.toNat v44) ((0 : Int), (⟨Array.empty⟩ : ByteArray), (0 : Int), (0 : Int))).1 < (((List.length v10) : Nat) : Int))) then
                some (Sum.inl (v1, (v2_0, v2_1, v2_2, v2_3, ()), v5, (List.take (List.length v8) (List.drop 0 v8)), v9, (List.take (List.length v10) (List.drop 0 (List.set v10 (0 + (Int.toNat (List.getD v42 (Int.toNat v44) ((0 : Int), (⟨Array.empty⟩ : ByteArray), (0 : Int), (0 : Int))).1)) (if ((IntKind.wrap .i64 ((List.getD v42 (Int.toNat v44) ((0 : Int), (⟨Array.empty⟩ : ByteArray), (0 : Int), (0 : Int))).2.2.2 + (List.getD v5 (Int.toNat (List.getD v42 (Int.toNat v44) ((0 : Int), (⟨Array.empty⟩ : ByteArray), (0 : Int), (0 : Int))).2.2.1) (0 : Int)))) < (List.getD v10 (0 + (Int.toNat (List.getD v42 (Int.toNat v44) ((0 : Int), (⟨Array.empty⟩ : ByteArray), (0 : Int), (0 : Int))).1)) (0 : Int))) then (IntKind.wrap .i64 ((List.getD v42 (Int.toNat v44) ((0 : Int), (⟨Array.empty⟩ : ByteArray), (0 : Int), (0 : Int))).2.2.2 + (List.getD v5 (Int.toNat (List.getD v42 (Int.toNat v44) ((0 : Int), (⟨Array.empty⟩ : ByteArray), (0 : Int), (0 : Int))).2.2.1) (0 : Int)))) else (List.getD v10 (0 + (Int.toNat (List.getD v42 (Int.toNat v44) ((0 : Int), (⟨Array.empty⟩ : ByteArray), (0 : Int), (0 : Int))).1)) (0 : Int)))))), v42, v43, (IntKind.wrap .i64 (v44 + (1 : Int))), ()))
              else
                none
            else
              none
          else
            none
        else
          some (Sum.inl (v1, (v2_0, v2_1, v2_2, v2_3, ()), v5, (List.take (List.length v8) (List.drop 0 v8)), v9, (List.take (List.length v10) (List.drop 0 v10)), v42, v43, (IntKind.wrap .i64 (v44 + (1 : Int))), ()))
      else
        none
    else
      none
  else
    some (Sum.inr (v1, (v2_0, v2_1, v2_2, v2_3, ()), (List.take (List.length v8) (List.drop 0 v8)), v9, (List.take (List.length v10) (List.drop 0 v10)), ()))
theorem impl_toEnd_l13_eq : loopStep E96 L96_1 (loopOf f96 13) sh96_13 xs96_13 = impl_toEnd_l13 := by kernel_rfl
theorem loop96_13 {L : Nat → Option LoopD} (h : L 13 = some ⟨sh96_13, xs96_13, impl_toEnd_l13⟩) : LoopOk prog L (loopOf f96 13) :=
  loopOk (tysOk_of tyl_ok) E96_ok (codeOk_in (L := L96_1) (tysOk_of tyl_ok) E96_ok mixed (c := loopOf f96 13) (bs := []) (by kernel_rfl) allNil (by kernel_rfl)) (by kernel_rfl) (by kernel_rfl) impl_toEnd_l13_eq (by rw [show firstId (loopOf f96 13) = 13 from by kernel_rfl]; exact h)
noncomputable def L96_2 : Nat → Option LoopD := fun n => ifEq n 13 (some ⟨sh96_13, xs96_13, impl_toEnd_l13⟩) (L96_1 n)
def sh96_9 : List Fm := [d, .cell (.val .str), .box 100200 [.val (.int .i64), .val (.sl (.int .i64)), .val (.sl (.int .i64)), .val (.sl (.pair (.int .i64) (.pair .str (.pair (.int .i64) (.int .i64)))))], d, d, .cell (.val (.sl (.int .i64))), d, d, .cell (.own (.sl (.int .i64)) 100800 false), .cell (.val (.int .i64)), d, d, d, d, d, d, d, d, d, d, d, d, d, d, d, d, d, d, d, d, d, d, d, d, d, d, d, d, d, d, d, d, d, d, d, d, d, d, d, d, d, d, d, d, d, d, d, d, d, d, d, d, d, d, d, d, d, d, d, d, d, d, d, d, d, d, d, d, d, d, d]
def xs96_9 : List (Ex × List Fm) := [(.exit 2, [d, d, d, d, d, d, d, d, .cell (.own (.sl (.int .i64)) 100800 false), d, d, d, d, d, d, d, d, d, d, d, d, d, d, d, d, d, d, d, d, d, d, d, d, d, d, d, d, d, d, d, d, d, d, d, d, d, d, d, d, d, d, d, d, d, d, d, d, d, d, d, d, d, d, d, d, d, d, d, d, d, d, d, d, d, d, d, d, d, d, d, d])]
noncomputable def impl_toEnd_l9 : (ByteArray × (Int × (List Int) × (List Int) × (List (Int × (ByteArray × (Int × Int)))) × Unit) × (List Int) × (List (List Int)) × Int × Unit) → Option ((ByteArray × (Int × (List Int) × (List Int) × (List (Int × (ByteArray × (Int × Int)))) × Unit) × (List Int) × (List (List Int)) × Int × Unit) ⊕ (((List (List Int)) × Unit))) := fun (v1, (v2_0, v2_1, v2_2, v2_3, _), v5, v8, v9, _) =>
  bif (decide (v9 ≥ (0 : Int))) then
    Option.bind (slices_Repeat (List.take 1 (List.drop 0 [(1000000 : Int)])) v2_0) fun r0 =>
      Option.bind (loopF impl_toEnd_l13 (v1, (v2_0, v2_1, v2_2, v2_3, ()), v5, (List.take (List.length v8) (List.drop 0 v8)), v9, (List.take (List.length r0) (List.drop 0 r0)), v2_3, (((List.length v2_3) : Nat) : Int), (0 : Int), ())) fun (r1, (r2, r3, r4, r5, _), r6, r7, r8, _) =>
        if (((0 + (List.length r6)) = (List.length r6)) ∧ ((((List.length r6) + (List.length (List.take 1 (List.drop 0 [(List.take (List.length r8) (List.drop 0 r8))])))) * 24) ≤ 140737488355328)) then
          some (Sum.inl (r1, (r2, r3, r4, r5, ()), (List.take (List.length r8) (List.drop 0 r8)), (List.take ((List.length r6) + (List.length (List.take 1 (List.drop 0 [(List.take (List.length r8) (List.drop 0 r8))])))) (List.drop 0 ((List.drop 0 r6) ++ (List.take 1 (List.drop 0 [(List.take (List.length r8) (List.drop 0 r8))]))))), (IntKind.wrap .i64 (r7 - (1 : Int))), ()))
        else
          none
  else
    some (Sum.inr ((List.take (List.length v8) (List.drop 0 v8)), ()))
theorem impl_toEnd_l9_eq : loopStep E96 L96_2 (loopOf f96 9) sh96_9 xs96_9 = impl_toEnd_l9 := by kernel_rfl
theorem loop96_9 {L : Nat → Option LoopD} (h : L 9 = some ⟨sh96_9, xs96_9, impl_toEnd_l9⟩) : LoopOk prog L (loopOf f96 9) :=
  loopOk (tysOk_of tyl_ok) E96_ok (codeOk_in (L := L96_2) (tysOk_of tyl_ok) E96_ok mixed (c := loopOf f96 9) (bs := [loopOf f96 13]) (by kernel_rfl) (allCons (loop96_13 rfl) allNil) (by kernel_rfl)) (by kernel_rfl) (by kernel_rfl) impl_toEnd_l9_eq (by rw [show firstId (loopOf f96 9) = 9 from by kernel_rfl]; exact h)
noncomputable def L96_3 : Nat → Option LoopD := fun n => ifEq n 9 (some ⟨sh96_9, xs96_9, impl_toEnd_l9⟩) (L96_2 n)
noncomputable def impl_toEnd : (Int × ((List Int) × ((List Int) × (List (Int × (ByteArray × (Int × Int))))))) → ByteArray → Option ((List (List Int))) := fun (a0_0, a0_1, a0_2, a0_3) a1 =>
  Option.bind (slices_Repeat (List.take 1 (List.drop 0 [(1000000 : Int)])) a0_0) fun r0 =>
    Option.bind (loopF impl_toEnd_l3 (a1, (a0_0, a0_1, a0_2, a0_3, ()), (List.take (List.length r0) (List.drop 0 r0)), a0_2, (((List.length a0_2) : Nat) : Int), (0 : Int), ())) fun (r1, (r2, r3, r4, r5, _), r6, _) =>
      Option.bind (loopF impl_toEnd_l9 (r1, (r2, r3, r4, r5, ()), (List.take (List.length r6) (List.drop 0 r6)), (List.take 1 (List.drop 0 [(List.take (List.length r6) (List.drop 0 r6))])), (IntKind.wrap .i64 ((((ByteArray.size r1) : Nat) : Int) - (1 : Int))), ())) fun (r7, _) =>
        some (List.take (List.length r7) (List.drop 0 r7))
noncomputable def A96 : FnA := ⟨[.v (.pair (.int .i64) (.pair (.sl (.int .i64)) (.pair (.sl (.int .i64)) (.sl (.pair (.int .i64) (.pair .str (.pair (.int .i64) (.int .i64)))))))), .v .str], true, [.sl (.sl (.int .i64))], fun x => impl_toEnd x.1 x.2.1⟩
theorem impl_toEnd_eq : fnF E96 L96_3 [.v (.pair (.int .i64) (.pair (.sl (.int .i64)) (.pair (.sl (.int .i64)) (.sl (.pair (.int .i64) (.pair .str (.pair (.int .i64) (.int .i64)))))))), .v .str] true [.sl (.sl (.int .i64))] f96.ntmps f96.results.toList (codeOf f96) = fun x => impl_toEnd x.1 x.2.1 := by kernel_rfl
theorem A96_ok : FnOk prog 96 A96 := by
  have h := fnOk_of_run (P := prog) (E := E96) (tysOk_of tyl_ok) E96_ok (L := L96_3) (ps := [.v (.pair (.int .i64) (.pair (.sl (.int .i64)) (.pair (.sl (.int .i64)) (.sl (.pair (.int .i64) (.pair .str (.pair (.int .i64) (.int .i64)))))))), .v .str]) (own := true) (outs := [.sl (.sl (.int .i64))]) func96 (c := codeOf f96) (by kernel_rfl) (codeOk_in (L := L96_3) (tysOk_of tyl_ok) E96_ok mixed (c := codeOf f96) (bs := [loopOf f96 3, loopOf f96 9]) (by kernel_rfl) (allCons (loop96_3 rfl) (allCons (loop96_9 rfl) allNil)) (by kernel_rfl))
  rw [impl_toEnd_eq] at h
  exact h
/-! impl.CostOf -/
noncomputable def E41 : Env := ⟨ty0, fun g => ifEq g 60 (some A60) (ifEq g 95 (some A95) (ifEq g 96 (some A96) (none))), fun _ => none, fun _ => none⟩
theorem E41_ok : FnsOk prog E41 := (oneFn A60_ok func60 (by kernel_rfl) (by kernel_rfl) (oneFn A95_ok func95 (by kernel_rfl) (by kernel_rfl) (oneFn A96_ok func96 (by kernel_rfl) (by kernel_rfl) (noFns _ _))))
noncomputable def L41_0 : Nat → Option LoopD := fun _ => none
def sh41_6 : List Fm := [d, .cell (.val .str), d, d, d, .cell (.own (.sl (.int .i64)) 100500 false), .cell (.val (.int .i64)), d, d, d, d, d, d, d, d, d, d, d, d, d, d, .cell (.val (.sl (.int .i64))), .cell (.val (.int .i64)), .cell (.val (.int .i64)), d, d, d, d, d, d, d, d, d, d, d, d, d, d, d]
def xs41_6 : List (Ex × List Fm) := [(.exit 0, [d, d, d, d, d, d, .cell (.val (.int .i64)), d, d, d, d, d, d, d, d, d, d, d, d, d, d, d, d, d, d, d, d, d, d, d, d, d, d, d, d, d, d, d, d])]
noncomputable def impl_CostOf_l6 : (ByteArray × (List (List Int)) × Int × (List Int) × Int × Int × Unit) → Option ((ByteArray × (List (List Int)) × Int × (List Int) × Int × Int × Unit) ⊕ ((Int × Unit))) := fun (v1, v5, v6, v21, v22, v23, _) =>
  bif (decide (v23 < v22)) then
    if (((0 : Int) ≤ v23) ∧ (v23 < (((List.length v21) : Nat) : Int))) then
      if (((0 : Int) ≤ (((ByteArray.size v1) : Nat) : Int)) ∧ ((((ByteArray.size v1) : Nat) : Int) < (((List.length v5) : Nat) : Int))) then
        if (((0 : Int) ≤ (List.getD v21 (Int.toNat v23) (0 : Int))) ∧ ((List.getD v21 (Int.toNat v23) (0 : Int)) < (((List.length (List.getD v5 (0 + (Int.toNat (((ByteArray.size v1) : Nat) : Int))) [])) : Nat) : Int))) then
          some (Sum.inl (v1, (List.take (List.length v5) (List.drop 0 v5)), (if ((List.getD (List.getD v5 (0 + (Int.toNat (((ByteArray.size v1) : Nat) : Int))) []) (Int.toNat (List.getD v21 (Int.toNat v23) (0 : Int))) (0 : Int)) < v6) then (List.getD (List.getD v5 (0 + (Int.toNat (((ByteArray.size v1) : Nat) : Int))) []) (Int.toNat (List.getD v21 (Int.toNat v23) (0 : Int))) (0 : Int)) else v6), v21, v22, (IntKind.wrap .i64 (v23 + (1 : Int))), ()))
        else
          none
      else
        none
    else
      none
  else
    some (Sum.inr (v6, ()))
theorem impl_CostOf_l6_eq : loopStep E41 L41_0 (loopOf f41 6) sh41_6 xs41_6 = impl_CostOf_l6 := by kernel_rfl
theorem loop41_6 {L : Nat → Option LoopD} (h : L 6 = some ⟨sh41_6, xs41_6, impl_CostOf_l6⟩) : LoopOk prog L (loopOf f41 6) :=
  loopOk (tysOk_of tyl_ok) E41_ok (codeOk_in (L := L41_0) (tysOk_of tyl_ok) E41_ok mixed (c := loopOf f41 6) (bs := []) (by kernel_rfl) allNil (by kernel_rfl)) (by kernel_rfl) (by kernel_rfl) impl_CostOf_l6_eq (by rw [show firstId (loopOf f41 6) = 6 from by kernel_rfl]; exact h)
noncomputable def L41_1 : Nat → Option LoopD := fun n => ifEq n 6 (some ⟨sh41_6, xs41_6, impl_CostOf_l6⟩) (L41_0 n)
noncomputable def impl_CostOf : (Int × ((List Int) × ((List Int) × (List (Int × (ByteArray × (Int × Int))))))) → ByteArray → Option (Int) := fun (a0_0, a0_1, a0_2, a0_3) a1 =>
  Option.bind (impl_AutomatonValid (a0_0, a0_1, a0_2, a0_3)) fun r0 =>
    bif (!r0) then
      some (-1 : Int)
    else
      Option.bind (impl_WordValid a1) fun r1 =>
        bif (!r1) then
          some (-1 : Int)
        else
          Option.bind (impl_toEnd (a0_0, a0_1, a0_2, a0_3) a1) fun r2 =>
            Option.bind (loopF impl_CostOf_l6 (a1, (List.take (List.length r2) (List.drop 0 r2)), (1000000 : Int), a0_1, (((List.length a0_1) : Nat) : Int), (0 : Int), ())) fun (r3, _) =>
              some r3
noncomputable def A41 : FnA := ⟨[.v (.pair (.int .i64) (.pair (.sl (.int .i64)) (.pair (.sl (.int .i64)) (.sl (.pair (.int .i64) (.pair .str (.pair (.int .i64) (.int .i64)))))))), .v .str], true, [.int .i64], fun x => impl_CostOf x.1 x.2.1⟩
theorem impl_CostOf_eq : fnF E41 L41_1 [.v (.pair (.int .i64) (.pair (.sl (.int .i64)) (.pair (.sl (.int .i64)) (.sl (.pair (.int .i64) (.pair .str (.pair (.int .i64) (.int .i64)))))))), .v .str] true [.int .i64] f41.ntmps f41.results.toList (codeOf f41) = fun x => impl_CostOf x.1 x.2.1 := by kernel_rfl
theorem A41_ok : FnOk prog 41 A41 := by
  have h := fnOk_of_run (P := prog) (E := E41) (tysOk_of tyl_ok) E41_ok (L := L41_1) (ps := [.v (.pair (.int .i64) (.pair (.sl (.int .i64)) (.pair (.sl (.int .i64)) (.sl (.pair (.int .i64) (.pair .str (.pair (.int .i64) (.int .i64)))))))), .v .str]) (own := true) (outs := [.int .i64]) func41 (c := codeOf f41) (by kernel_rfl) (codeOk_in (L := L41_1) (tysOk_of tyl_ok) E41_ok mixed (c := codeOf f41) (bs := [loopOf f41 6]) (by kernel_rfl) (allCons (loop41_6 rfl) allNil) (by kernel_rfl))
  rw [impl_CostOf_eq] at h
  exact h
/-! impl.FreeWords -/
noncomputable def E23 : Env := ⟨ty0, fun g => ifEq g 40 (some A40) (ifEq g 60 (some A60) (ifEq g 41 (some A41) (none))), fun _ => none, fun _ => none⟩
theorem E23_ok : FnsOk prog E23 := (oneFn A40_ok func40 (by kernel_rfl) (by kernel_rfl) (oneFn A60_ok func60 (by kernel_rfl) (by kernel_rfl) (oneFn A41_ok func41 (by kernel_rfl) (by kernel_rfl) (noFns _ _))))
noncomputable def L23_0 : Nat → Option LoopD := fun _ => none
def sh23_6 : List Fm := [d, d, .box 100200 [.val (.int .i64), .val (.sl (.int .i64)), .val (.sl (.int .i64)), .val (.sl (.pair (.int .i64) (.pair .str (.pair (.int .i64) (.int .i64)))))], d, d, d, d, d, .cell (.own .str 100800 false), d, d, d, d, d, d, d, d, d, d, d, d, d, d, d, .cell (.val (.sl .str)), .cell (.val (.int .i64)), .cell (.val (.int .i64)), d, d, d, d, d, d, d, d, d, d, d, d, d]
def xs23_6 : List (Ex × List Fm) := [(.exit 0, [d, d, d, d, d, d, d, d, .cell (.own .str 100800 false), d, d, d, d, d, d, d, d, d, d, d, d, d, d, d, d, d, d, d, d, d, d, d, d, d, d, d, d, d, d, d])]
noncomputable def impl_FreeWords_l6 : ((Int × (List Int) × (List Int) × (List (Int × (ByteArray × (Int × Int)))) × Unit) × (List ByteArray) × (List ByteArray) × Int × Int × Unit) → Option (((Int × (List Int) × (List Int) × (List (Int × (ByteArray × (Int × Int)))) × Unit) × (List ByteArray) × (List ByteArray) × Int × Int × Unit) ⊕ (((List ByteArray) × Unit))) := fun ((v2_0, v2_1, v2_2, v2_3, _), v8, v24, v25, v26, _) =>
  bif (decide (v26 < v25)) then
    if (((0 : Int) ≤ v26) ∧ (v26 < (((List.length v24) : Nat) : Int))) then
      Option.bind (impl_CostOf (v2_0, v2_1, v2_2, v2_3) (List.getD v24 (Int.toNat v26) (⟨Array.empty⟩ : ByteArray))) fun r0 =>
        bif (r0 == (0 : Int)) then
          if (((0 + (List.length v8)) = (List.length v8)) ∧ ((((List.length v8) + (List.length (List.take 1 (List.drop 0 [(List.getD v24 (Int.toNat v26) (⟨Array.empty⟩ : ByteArray))])))) * 16) ≤ 140737488355328)) then
            some (Sum.inl ((v2_0, v2_1, v2_2, v2_3, ()), (List.take ((List.length v8) + (List.length (List.take 1 (List.drop 0 [(List.getD v24 (Int.toNat v26) (⟨Array.empty⟩ : ByteArray))])))) (List.drop 0 ((List.drop 0 v8) ++ (List.take 1 (List.drop 0 [(List.getD v24 (Int.toNat v26) (⟨Array.empty⟩ : ByteArray))]))))), v24, v25, (IntKind.wrap .i64 (v26 + (1 : Int))), ()))
          else
            none
        else
          some (Sum.inl ((v2_0, v2_1, v2_2, v2_3, ()), (List.take (List.length v8) (List.drop 0 v8)), v24, v25, (IntKind.wrap .i64 (v26 + (1 : Int))), ()))
    else
      none
  else
    some (Sum.inr ((List.take (List.length v8) (List.drop 0 v8)), ()))
theorem impl_FreeWords_l6_eq : loopStep E23 L23_0 (loopOf f23 6) sh23_6 xs23_6 = impl_FreeWords_l6 := by kernel_rfl
theorem loop23_6 {L : Nat → Option LoopD} (h : L 6 = some ⟨sh23_6, xs23_6, impl_FreeWords_l6⟩) : LoopOk prog L (loopOf f23 6) :=
  loopOk (tysOk_of tyl_ok) E23_ok (codeOk_in (L := L23_0) (tysOk_of tyl_ok) E23_ok mixed (c := loopOf f23 6) (bs := []) (by kernel_rfl) allNil (by kernel_rfl)) (by kernel_rfl) (by kernel_rfl) impl_FreeWords_l6_eq (by rw [show firstId (loopOf f23 6) = 6 from by kernel_rfl]; exact h)
noncomputable def L23_1 : Nat → Option LoopD := fun n => ifEq n 6 (some ⟨sh23_6, xs23_6, impl_FreeWords_l6⟩) (L23_0 n)
noncomputable def impl_FreeWords : (Int × ((List Int) × ((List Int) × (List (Int × (ByteArray × (Int × Int))))))) → Int → Option ((List ByteArray) × Bool) := fun (a0_0, a0_1, a0_2, a0_3) a1 =>
  Option.bind (impl_ShortWords a1) fun (r0, r1) =>
    bif (!r1) then
      some ([], false)
    else
      Option.bind (impl_AutomatonValid (a0_0, a0_1, a0_2, a0_3)) fun r2 =>
        bif (!r2) then
          some ([], false)
        else
          Option.bind (loopF impl_FreeWords_l6 ((a0_0, a0_1, a0_2, a0_3, ()), (List.take 0 (List.drop 0 [])), r0, (((List.length r0) : Nat) : Int), (0 : Int), ())) fun (r3, _) =>
            some ((List.take (List.length r3) (List.drop 0 r3)), true)
noncomputable def A23 : FnA := ⟨[.v (.pair (.int .i64) (.pair (.sl (.int .i64)) (.pair (.sl (.int .i64)) (.sl (.pair (.int .i64) (.pair .str (.pair (.int .i64) (.int .i64)))))))), .v (.int .i64)], true, [.sl .str, .bool], fun x => impl_FreeWords x.1 x.2.1⟩
theorem impl_FreeWords_eq : fnF E23 L23_1 [.v (.pair (.int .i64) (.pair (.sl (.int .i64)) (.pair (.sl (.int .i64)) (.sl (.pair (.int .i64) (.pair .str (.pair (.int .i64) (.int .i64)))))))), .v (.int .i64)] true [.sl .str, .bool] f23.ntmps f23.results.toList (codeOf f23) = fun x => impl_FreeWords x.1 x.2.1 := by kernel_rfl
theorem A23_ok : FnOk prog 23 A23 := by
  have h := fnOk_of_run (P := prog) (E := E23) (tysOk_of tyl_ok) E23_ok (L := L23_1) (ps := [.v (.pair (.int .i64) (.pair (.sl (.int .i64)) (.pair (.sl (.int .i64)) (.sl (.pair (.int .i64) (.pair .str (.pair (.int .i64) (.int .i64)))))))), .v (.int .i64)]) (own := true) (outs := [.sl .str, .bool]) func23 (c := codeOf f23) (by kernel_rfl) (codeOk_in (L := L23_1) (tysOk_of tyl_ok) E23_ok mixed (c := codeOf f23) (bs := [loopOf f23 6]) (by kernel_rfl) (allCons (loop23_6 rfl) allNil) (by kernel_rfl))
  rw [impl_FreeWords_eq] at h
  exact h
/-! laws.eqStringS -/
noncomputable def E24 : Env := ⟨ty0, fun _ => none, fun _ => none, fun _ => none⟩
theorem E24_ok : FnsOk prog E24 := (noFns _ _)
noncomputable def L24_0 : Nat → Option LoopD := fun _ => none
def sh24_4 : List Fm := [.cell (.val (.sl .str)), .cell (.val (.sl .str)), d, d, d, .cell (.val (.int .i64)), d, d, d, d, d, d, d, d, d, d, d, d, d, d, d, d, d, d, d, d]
def xs24_4 : List (Ex × List Fm) := [(.ret, [d, d, d, d, .cell (.val .bool), d, d, d, d, d, d, d, d, d, d, d, d, d, d, d, d, d, d, d, d, d]), (.exit 0, [d, d, d, d, d, d, d, d, d, d, d, d, d, d, d, d, d, d, d, d, d, d, d, d, d, d])]
noncomputable def laws_eqStringS_l4 : ((List ByteArray) × (List ByteArray) × Int × Unit) → Option (((List ByteArray) × (List ByteArray) × Int × Unit) ⊕ ((Bool × Unit) ⊕ (Unit))) := fun (v0, v1, v5, _) =>
  bif (decide (v5 < (((List.length v0) : Nat) : Int))) then
    if (((0 : Int) ≤ v5) ∧ (v5 < (((List.length v0) : Nat) : Int))) then
      if (((0 : Int) ≤ v5) ∧ (v5 < (((List.length v1) : Nat) : Int))) then
        bif (!((ByteArray.toList (List.getD v0 (Int.toNat v5) (⟨Array.empty⟩ : ByteArray))) == (ByteArray.toList (List.getD v1 (Int.toNat v5) (⟨Array.empty⟩ : ByteArray))))) then
          some (Sum.inr (Sum.inl (false, ())))
        else
          some (Sum.inl (v0, v1, (IntKind.wrap .i64 (v5 + (1 : Int))), ()))
      else
        none
    else
      none
  else
    some (Sum.inr (Sum.inr ()))
theorem laws_eqStringS_l4_eq : loopStep E24 L24_0 (loopOf f24 4) sh24_4 xs24_4 = laws_eqStringS_l4 := by kernel_rfl
theorem loop24_4 {L : Nat → Option LoopD} (h : L 4 = some ⟨sh24_4, xs24_4, laws_eqStringS_l4⟩) : LoopOk prog L (loopOf f24 4) :=
  loopOk (tysOk_of tyl_ok) E24_ok (codeOk_in (L := L24_0) (tysOk_of tyl_ok) E24_ok mixed (c := loopOf f24 4) (bs := []) (by kernel_rfl) allNil (by kernel_rfl)) (by kernel_rfl) (by kernel_rfl) laws_eqStringS_l4_eq (by rw [show firstId (loopOf f24 4) = 4 from by kernel_rfl]; exact h)
noncomputable def L24_1 : Nat → Option LoopD := fun n => ifEq n 4 (some ⟨sh24_4, xs24_4, laws_eqStringS_l4⟩) (L24_0 n)
noncomputable def laws_eqStringS : (List ByteArray) → (List ByteArray) → Option (Bool) := fun a0 a1 =>
  bif ((((List.length a0) : Nat) : Int) != (((List.length a1) : Nat) : Int)) then
    some false
  else
    Option.bind (loopF laws_eqStringS_l4 (a0, a1, (0 : Int), ())) fun r0 =>
      (match r0 with
      | .inl (d1, _) =>
          some d1
      | .inr _ =>
          some true)
noncomputable def A24 : FnA := ⟨[.v (.sl .str), .v (.sl .str)], true, [.bool], fun x => laws_eqStringS x.1 x.2.1⟩
theorem laws_eqStringS_eq : fnF E24 L24_1 [.v (.sl .str), .v (.sl .str)] true [.bool] f24.ntmps f24.results.toList (codeOf f24) = fun x => laws_eqStringS x.1 x.2.1 := by kernel_rfl
theorem A24_ok : FnOk prog 24 A24 := by
  have h := fnOk_of_run (P := prog) (E := E24) (tysOk_of tyl_ok) E24_ok (L := L24_1) (ps := [.v (.sl .str), .v (.sl .str)]) (own := true) (outs := [.bool]) func24 (c := codeOf f24) (by kernel_rfl) (codeOk_in (L := L24_1) (tysOk_of tyl_ok) E24_ok mixed (c := codeOf f24) (bs := [loopOf f24 4]) (by kernel_rfl) (allCons (loop24_4 rfl) allNil) (by kernel_rfl))
  rw [laws_eqStringS_eq] at h
  exact h
/-! laws.eqIntS -/
noncomputable def E31 : Env := ⟨ty0, fun _ => none, fun _ => none, fun _ => none⟩
theorem E31_ok : FnsOk prog E31 := (noFns _ _)
noncomputable def L31_0 : Nat → Option LoopD := fun _ => none
def sh31_4 : List Fm := [.cell (.val (.sl (.int .i64))), .cell (.val (.sl (.int .i64))), d, d, d, .cell (.val (.int .i64)), d, d, d, d, d, d, d, d, d, d, d, d, d, d, d, d, d, d, d, d]
def xs31_4 : List (Ex × List Fm) := [(.ret, [d, d, d, d, .cell (.val .bool), d, d, d, d, d, d, d, d, d, d, d, d, d, d, d, d, d, d, d, d, d]), (.exit 0, [d, d, d, d, d, d, d, d, d, d, d, d, d, d, d, d, d, d, d, d, d, d, d, d, d, d])]
noncomputable def laws_eqIntS_l4 : ((List Int) × (List Int) × Int × Unit) → Option (((List Int) × (List Int) × Int × Unit) ⊕ ((Bool × Unit) ⊕ (Unit))) := fun (v0, v1, v5, _) =>
  bif (decide (v5 < (((List.length v0) : Nat) : Int))) then
    if (((0 : Int) ≤ v5) ∧ (v5 < (((List.length v0) : Nat) : Int))) then
      if (((0 : Int) ≤ v5) ∧ (v5 < (((List.length v1) : Nat) : Int))) then
        bif ((List.getD v0 (Int.toNat v5) (0 : Int)) != (List.getD v1 (Int.toNat v5) (0 : Int))) then
          some (Sum.inr (Sum.inl (false, ())))
        else
          some (Sum.inl (v0, v1, (IntKind.wrap .i64 (v5 + (1 : Int))), ()))
      else
        none
    else
      none
  else
    some (Sum.inr (Sum.inr ()))
theorem laws_eqIntS_l4_eq : loopStep E31 L31_0 (loopOf f31 4) sh31_4 xs31_4 = laws_eqIntS_l4 := by kernel_rfl
theorem loop31_4 {L : Nat → Option LoopD} (h : L 4 = some ⟨sh31_4, xs31_4, laws_eqIntS_l4⟩) : LoopOk prog L (loopOf f31 4) :=
  loopOk (tysOk_of tyl_ok) E31_ok (codeOk_in (L := L31_0) (tysOk_of tyl_ok) E31_ok mixed (c := loopOf f31 4) (bs := []) (by kernel_rfl) allNil (by kernel_rfl)) (by kernel_rfl) (by kernel_rfl) laws_eqIntS_l4_eq (by rw [show firstId (loopOf f31 4) = 4 from by kernel_rfl]; exact h)
noncomputable def L31_1 : Nat → Option LoopD := fun n => ifEq n 4 (some ⟨sh31_4, xs31_4, laws_eqIntS_l4⟩) (L31_0 n)
noncomputable def laws_eqIntS : (List Int) → (List Int) → Option (Bool) := fun a0 a1 =>
  bif ((((List.length a0) : Nat) : Int) != (((List.length a1) : Nat) : Int)) then
    some false
  else
    Option.bind (loopF laws_eqIntS_l4 (a0, a1, (0 : Int), ())) fun r0 =>
      (match r0 with
      | .inl (d1, _) =>
          some d1
      | .inr _ =>
          some true)
noncomputable def A31 : FnA := ⟨[.v (.sl (.int .i64)), .v (.sl (.int .i64))], true, [.bool], fun x => laws_eqIntS x.1 x.2.1⟩
theorem laws_eqIntS_eq : fnF E31 L31_1 [.v (.sl (.int .i64)), .v (.sl (.int .i64))] true [.bool] f31.ntmps f31.results.toList (codeOf f31) = fun x => laws_eqIntS x.1 x.2.1 := by kernel_rfl
theorem A31_ok : FnOk prog 31 A31 := by
  have h := fnOk_of_run (P := prog) (E := E31) (tysOk_of tyl_ok) E31_ok (L := L31_1) (ps := [.v (.sl (.int .i64)), .v (.sl (.int .i64))]) (own := true) (outs := [.bool]) func31 (c := codeOf f31) (by kernel_rfl) (codeOk_in (L := L31_1) (tysOk_of tyl_ok) E31_ok mixed (c := codeOf f31) (bs := [loopOf f31 4]) (by kernel_rfl) (allCons (loop31_4 rfl) allNil) (by kernel_rfl))
  rw [laws_eqIntS_eq] at h
  exact h
/-! laws.eqStep -/
noncomputable def E133 : Env := ⟨ty0, fun _ => none, fun _ => none, fun _ => none⟩
theorem E133_ok : FnsOk prog E133 := (noFns _ _)
noncomputable def L133_0 : Nat → Option LoopD := fun _ => none
noncomputable def laws_eqStep : (Int × (ByteArray × (Int × Int))) → (Int × (ByteArray × (Int × Int))) → Option (Bool) := fun (a0_0, a0_1, a0_2, a0_3) (a1_0, a1_1, a1_2, a1_3) =>
  bif (a0_0 != a1_0) then
    some false
  else
    bif (!((ByteArray.toList a0_1) == (ByteArray.toList a1_1))) then
      some false
    else
      bif (a0_2 != a1_2) then
        some false
      else
        bif (a0_3 != a1_3) then
          some false
        else
          some true
noncomputable def A133 : FnA := ⟨[.v (.pair (.int .i64) (.pair .str (.pair (.int .i64) (.int .i64)))), .v (.pair (.int .i64) (.pair .str (.pair (.int .i64) (.int .i64))))], true, [.bool], fun x => laws_eqStep x.1 x.2.1⟩
theorem laws_eqStep_eq : fnF E133 L133_0 [.v (.pair (.int .i64) (.pair .str (.pair (.int .i64) (.int .i64)))), .v (.pair (.int .i64) (.pair .str (.pair (.int .i64) (.int .i64))))] true [.bool] f133.ntmps f133.results.toList (codeOf f133) = fun x => laws_eqStep x.1 x.2.1 := by kernel_rfl
theorem A133_ok : FnOk prog 133 A133 := by
  have h := fnOk_of_run (P := prog) (E := E133) (tysOk_of tyl_ok) E133_ok (L := L133_0) (ps := [.v (.pair (.int .i64) (.pair .str (.pair (.int .i64) (.int .i64)))), .v (.pair (.int .i64) (.pair .str (.pair (.int .i64) (.int .i64))))]) (own := true) (outs := [.bool]) func133 (c := codeOf f133) (by kernel_rfl) (codeOk_in (L := L133_0) (tysOk_of tyl_ok) E133_ok mixed (c := codeOf f133) (bs := []) (by kernel_rfl) allNil (by kernel_rfl))
  rw [laws_eqStep_eq] at h
  exact h
/-! laws.eqStepS -/
noncomputable def E84 : Env := ⟨ty0, fun g => ifEq g 133 (some A133) (none), fun _ => none, fun _ => none⟩
theorem E84_ok : FnsOk prog E84 := (oneFn A133_ok func133 (by kernel_rfl) (by kernel_rfl) (noFns _ _))
noncomputable def L84_0 : Nat → Option LoopD := fun _ => none
def sh84_4 : List Fm := [.cell (.val (.sl (.pair (.int .i64) (.pair .str (.pair (.int .i64) (.int .i64)))))), .cell (.val (.sl (.pair (.int .i64) (.pair .str (.pair (.int .i64) (.int .i64)))))), d, d, d, .cell (.val (.int .i64)), d, d, d, d, d, d, d, d, d, d, d, d, d, d, d, d, d, d, d, d, d]
def xs84_4 : List (Ex × List Fm) := [(.ret, [d, d, d, d, .cell (.val .bool), d, d, d, d, d, d, d, d, d, d, d, d, d, d, d, d, d, d, d, d, d, d]), (.exit 0, [d, d, d, d, d, d, d, d, d, d, d, d, d, d, d, d, d, d, d, d, d, d, d, d, d, d, d])]
noncomputable def laws_eqStepS_l4 : ((List (Int × (ByteArray × (Int × Int)))) × (List (Int × (ByteArray × (Int × Int)))) × Int × Unit) → Option (((List (Int × (ByteArray × (Int × Int)))) × (List (Int × (ByteArray × (Int × Int)))) × Int × Unit) ⊕ ((Bool × Unit) ⊕ (Unit))) := fun (v0, v1, v5, _) =>
  bif (decide (v5 < (((List.length v0) : Nat) : Int))) then
    if (((0 : Int) ≤ v5) ∧ (v5 < (((List.length v0) : Nat) : Int))) then
      if (((0 : Int) ≤ v5) ∧ (v5 < (((List.length v1) : Nat) : Int))) then
        Option.bind (laws_eqStep (List.getD v0 (Int.toNat v5) ((0 : Int), (⟨Array.empty⟩ : ByteArray), (0 : Int), (0 : Int))) (List.getD v1 (Int.toNat v5) ((0 : Int), (⟨Array.empty⟩ : ByteArray), (0 : Int), (0 : Int)))) fun r0 =>
          bif (!r0) then
            some (Sum.inr (Sum.inl (false, ())))
          else
            some (Sum.inl (v0, v1, (IntKind.wrap .i64 (v5 + (1 : Int))), ()))
      else
        none
    else
      none
  else
    some (Sum.inr (Sum.inr ()))
theorem laws_eqStepS_l4_eq : loopStep E84 L84_0 (loopOf f84 4) sh84_4 xs84_4 = laws_eqStepS_l4 := by kernel_rfl
theorem loop84_4 {L : Nat → Option LoopD} (h : L 4 = some ⟨sh84_4, xs84_4, laws_eqStepS_l4⟩) : LoopOk prog L (loopOf f84 4) :=
  loopOk (tysOk_of tyl_ok) E84_ok (codeOk_in (L := L84_0) (tysOk_of tyl_ok) E84_ok mixed (c := loopOf f84 4) (bs := []) (by kernel_rfl) allNil (by kernel_rfl)) (by kernel_rfl) (by kernel_rfl) laws_eqStepS_l4_eq (by rw [show firstId (loopOf f84 4) = 4 from by kernel_rfl]; exact h)
noncomputable def L84_1 : Nat → Option LoopD := fun n => ifEq n 4 (some ⟨sh84_4, xs84_4, laws_eqStepS_l4⟩) (L84_0 n)
noncomputable def laws_eqStepS : (List (Int × (ByteArray × (Int × Int)))) → (List (Int × (ByteArray × (Int × Int)))) → Option (Bool) := fun a0 a1 =>
  bif ((((List.length a0) : Nat) : Int) != (((List.length a1) : Nat) : Int)) then
    some false
  else
    Option.bind (loopF laws_eqStepS_l4 (a0, a1, (0 : Int), ())) fun r0 =>
      (match r0 with
      | .inl (d1, _) =>
          some d1
      | .inr _ =>
          some true)
noncomputable def A84 : FnA := ⟨[.v (.sl (.pair (.int .i64) (.pair .str (.pair (.int .i64) (.int .i64))))), .v (.sl (.pair (.int .i64) (.pair .str (.pair (.int .i64) (.int .i64)))))], true, [.bool], fun x => laws_eqStepS x.1 x.2.1⟩
theorem laws_eqStepS_eq : fnF E84 L84_1 [.v (.sl (.pair (.int .i64) (.pair .str (.pair (.int .i64) (.int .i64))))), .v (.sl (.pair (.int .i64) (.pair .str (.pair (.int .i64) (.int .i64)))))] true [.bool] f84.ntmps f84.results.toList (codeOf f84) = fun x => laws_eqStepS x.1 x.2.1 := by kernel_rfl
theorem A84_ok : FnOk prog 84 A84 := by
  have h := fnOk_of_run (P := prog) (E := E84) (tysOk_of tyl_ok) E84_ok (L := L84_1) (ps := [.v (.sl (.pair (.int .i64) (.pair .str (.pair (.int .i64) (.int .i64))))), .v (.sl (.pair (.int .i64) (.pair .str (.pair (.int .i64) (.int .i64)))))]) (own := true) (outs := [.bool]) func84 (c := codeOf f84) (by kernel_rfl) (codeOk_in (L := L84_1) (tysOk_of tyl_ok) E84_ok mixed (c := codeOf f84) (bs := [loopOf f84 4]) (by kernel_rfl) (allCons (loop84_4 rfl) allNil) (by kernel_rfl))
  rw [laws_eqStepS_eq] at h
  exact h
/-! laws.eqAutomaton -/
noncomputable def E25 : Env := ⟨ty0, fun g => ifEq g 31 (some A31) (ifEq g 84 (some A84) (none)), fun _ => none, fun _ => none⟩
theorem E25_ok : FnsOk prog E25 := (oneFn A31_ok func31 (by kernel_rfl) (by kernel_rfl) (oneFn A84_ok func84 (by kernel_rfl) (by kernel_rfl) (noFns _ _)))
noncomputable def L25_0 : Nat → Option LoopD := fun _ => none
noncomputable def laws_eqAutomaton : (Int × ((List Int) × ((List Int) × (List (Int × (ByteArray × (Int × Int))))))) → (Int × ((List Int) × ((List Int) × (List (Int × (ByteArray × (Int × Int))))))) → Option (Bool) := fun (a0_0, a0_1, a0_2, a0_3) (a1_0, a1_1, a1_2, a1_3) =>
  bif (a0_0 != a1_0) then
    some false
  else
    Option.bind (laws_eqIntS a0_1 a1_1) fun r0 =>
      bif (!r0) then
        some false
      else
        Option.bind (laws_eqIntS a0_2 a1_2) fun r1 =>
          bif (!r1) then
            some false
          else
            Option.bind (laws_eqStepS a0_3 a1_3) fun r2 =>
              bif (!r2) then
                some false
              else
                some true
noncomputable def A25 : FnA := ⟨[.v (.pair (.int .i64) (.pair (.sl (.int .i64)) (.pair (.sl (.int .i64)) (.sl (.pair (.int .i64) (.pair .str (.pair (.int .i64) (.int .i64)))))))), .v (.pair (.int .i64) (.pair (.sl (.int .i64)) (.pair (.sl (.int .i64)) (.sl (.pair (.int .i64) (.pair .str (.pair (.int .i64) (.int .i64))))))))], true, [.bool], fun x => laws_eqAutomaton x.1 x.2.1⟩
theorem laws_eqAutomaton_eq : fnF E25 L25_0 [.v (.pair (.int .i64) (.pair (.sl (.int .i64)) (.pair (.sl (.int .i64)) (.sl (.pair (.int .i64) (.pair .str (.pair (.int .i64) (.int .i64)))))))), .v (.pair (.int .i64) (.pair (.sl (.int .i64)) (.pair (.sl (.int .i64)) (.sl (.pair (.int .i64) (.pair .str (.pair (.int .i64) (.int .i64))))))))] true [.bool] f25.ntmps f25.results.toList (codeOf f25) = fun x => laws_eqAutomaton x.1 x.2.1 := by kernel_rfl
theorem A25_ok : FnOk prog 25 A25 := by
  have h := fnOk_of_run (P := prog) (E := E25) (tysOk_of tyl_ok) E25_ok (L := L25_0) (ps := [.v (.pair (.int .i64) (.pair (.sl (.int .i64)) (.pair (.sl (.int .i64)) (.sl (.pair (.int .i64) (.pair .str (.pair (.int .i64) (.int .i64)))))))), .v (.pair (.int .i64) (.pair (.sl (.int .i64)) (.pair (.sl (.int .i64)) (.sl (.pair (.int .i64) (.pair .str (.pair (.int .i64) (.int .i64))))))))]) (own := true) (outs := [.bool]) func25 (c := codeOf f25) (by kernel_rfl) (codeOk_in (L := L25_0) (tysOk_of tyl_ok) E25_ok mixed (c := codeOf f25) (bs := []) (by kernel_rfl) allNil (by kernel_rfl))
  rw [laws_eqAutomaton_eq] at h
  exact h
/-! laws.markIntS -/
noncomputable def E32 : Env := ⟨ty0, fun _ => none, fun _ => none, fun _ => none⟩
theorem E32_ok : FnsOk prog E32 := (noFns _ _)
noncomputable def L32_0 : Nat → Option LoopD := fun _ => none
def sh32_2 : List Fm := [.cell (.own (.int .i64) 200000 false), .cell (.val (.int .i64)), d, d, d, .cell (.val (.int .i64)), d, d, d, d, d, d, d, d, d, d, d, d, d]
def xs32_2 : List (Ex × List Fm) := [(.exit 0, [.cell (.own (.int .i64) 200000 false), .cell (.val (.int .i64)), d, d, d, d, d, d, d, d, d, d, d, d, d, d, d, d, d])]
noncomputable def laws_markIntS_l2 : ((List Int) × Int × Int × Unit) → Option (((List Int) × Int × Int × Unit) ⊕ (((List Int) × Int × Unit))) := fun (v0, v1, v5, _) =>
  bif (decide (v5 < (((List.length v0) : Nat) : Int))) then
    if (((0 : Int) ≤ v5) ∧ (v5 < (((List.length v0) : Nat) : Int))) then
      if ((List.length v0) = (List.length (List.set v0 (0 + (Int.toNat v5)) v1))) then
        some (Sum.inl ((List.set v0 (0 + (Int.toNat v5)) v1), (IntKind.wrap .i64 (v1 + (1 : Int))), (IntKind.wrap .i64 (v5 + (1 : Int))), ()))
      else
        none
    else
      none
  else
    if ((List.length v0) = (List.length v0)) then
      some (Sum.inr (v0, v1, ()))
    else
      none
theorem laws_markIntS_l2_eq : loopStep E32 L32_0 (loopOf f32 2) sh32_2 xs32_2 = laws_markIntS_l2 := by kernel_rfl
theorem loop32_2 {L : Nat → Option LoopD} (h : L 2 = some ⟨sh32_2, xs32_2, laws_markIntS_l2⟩) : LoopOk prog L (loopOf f32 2) :=
  loopOk (tysOk_of tyl_ok) E32_ok (codeOk_in (L := L32_0) (tysOk_of tyl_ok) E32_ok mixed (c := loopOf f32 2) (bs := []) (by kernel_rfl) allNil (by kernel_rfl)) (by kernel_rfl) (by kernel_rfl) laws_markIntS_l2_eq (by rw [show firstId (loopOf f32 2) = 2 from by kernel_rfl]; exact h)
noncomputable def L32_1 : Nat → Option LoopD := fun n => ifEq n 2 (some ⟨sh32_2, xs32_2, laws_markIntS_l2⟩) (L32_0 n)
noncomputable def laws_markIntS : (List Int) → Int → Option ((Int) × ((List Int) × Unit)) := fun a0 a1 =>
  if ((List.length a0) = (List.length a0)) then
    Option.bind (loopF laws_markIntS_l2 (a0, a1, (0 : Int), ())) fun (r0, r1, _) =>
      some (r1, r0, ())
  else
    none
noncomputable def A32 : FnM := ⟨[.io (.sl (.int .i64)), .v (.int .i64)], true, [.int .i64], fun x => laws_markIntS x.1 x.2.1⟩
theorem laws_markIntS_eq : fnMF E32 L32_1 [.io (.sl (.int .i64)), .v (.int .i64)] true [.int .i64] f32.ntmps f32.results.toList (codeOf f32) = fun x => laws_markIntS x.1 x.2.1 := by kernel_rfl
theorem A32_ok : FnMOk prog 32 A32 := by
  have h := fnMOk_of_run (P := prog) (E := E32) (tysOk_of tyl_ok) E32_ok (L := L32_1) (ps := [.io (.sl (.int .i64)), .v (.int .i64)]) (own := true) (outs := [.int .i64]) func32 (c := codeOf f32) (by kernel_rfl) (codeOk_in (L := L32_1) (tysOk_of tyl_ok) E32_ok mixed (c := codeOf f32) (bs := [loopOf f32 2]) (by kernel_rfl) (allCons (loop32_2 rfl) allNil) (by kernel_rfl)) (by kernel_rfl)
  rw [laws_markIntS_eq] at h
  exact h
/-! laws.markText -/
noncomputable def E86 : Env := ⟨ty0, fun _ => none, fun _ => none, fun _ => none⟩
theorem E86_ok : FnsOk prog E86 := (noFns _ _)
noncomputable def L86_0 : Nat → Option LoopD := fun _ => none
def sh86_4 : List Fm := [.cell (.val (.int .i64)), d, d, .cell (.val .str), d, d, d, d, d, d, d, d, d, d, d, d, d, d, d, d]
def xs86_4 : List (Ex × List Fm) := [(.exit 0, [d, d, d, .cell (.val .str), d, d, d, d, d, d, d, d, d, d, d, d, d, d, d, d])]
noncomputable def laws_markText_l4 : (Int × ByteArray × Unit) → Option ((Int × ByteArray × Unit) ⊕ ((ByteArray × Unit))) := fun (v0, v3, _) =>
  bif (decide (v0 > (0 : Int))) then
    if ((10 : Int) = (0 : Int)) then
      none
    else
      if (((ByteArray.size (strOfNums (List.take 1 (List.drop 0 [(IntKind.wrap .u8 (IntKind.wrap .i64 ((48 : Int) + (Int.tmod v0 (10 : Int)))))])))) + (ByteArray.size v3)) ≤ 9223372036854775807) then
        if ((10 : Int) = (0 : Int)) then
          none
        else
          some (Sum.inl ((IntKind.wrap .i64 (Int.tdiv v0 (10 : Int))), ((strOfNums (List.take 1 (List.drop 0 [(IntKind.wrap .u8 (IntKind.wrap .i64 ((48 : Int) + (Int.tmod v0 (10 : Int)))))]))) ++ v3), ()))
      else
        none
  else
    some (Sum.inr (v3, ()))
theorem laws_markText_l4_eq : loopStep E86 L86_0 (loopOf f86 4) sh86_4 xs86_4 = laws_markText_l4 := by kernel_rfl
theorem loop86_4 {L : Nat → Option LoopD} (h : L 4 = some ⟨sh86_4, xs86_4, laws_markText_l4⟩) : LoopOk prog L (loopOf f86 4) :=
  loopOk (tysOk_of tyl_ok) E86_ok (codeOk_in (L := L86_0) (tysOk_of tyl_ok) E86_ok mixed (c := loopOf f86 4) (bs := []) (by kernel_rfl) allNil (by kernel_rfl)) (by kernel_rfl) (by kernel_rfl) laws_markText_l4_eq (by rw [show firstId (loopOf f86 4) = 4 from by kernel_rfl]; exact h)
noncomputable def L86_1 : Nat → Option LoopD := fun n => ifEq n 4 (some ⟨sh86_4, xs86_4, laws_markText_l4⟩) (L86_0 n)
noncomputable def laws_markText : Int → Option (ByteArray) := fun a0 =>
  bif (decide (a0 ≤ (0 : Int))) then
    some (⟨#[(109 : UInt8), (48 : UInt8)]⟩ : ByteArray)
  else
    Option.bind (loopF laws_markText_l4 (a0, (⟨#[]⟩ : ByteArray), ())) fun (r0, _) =>
      if (((ByteArray.size (⟨#[(109 : UInt8)]⟩ : ByteArray)) + (ByteArray.size r0)) ≤ 9223372036854775807) then
        some ((⟨#[(109 : UInt8)]⟩ : ByteArray) ++ r0)
      else
        none
noncomputable def A86 : FnA := ⟨[.v (.int .i64)], true, [.str], fun x => laws_markText x.1⟩
theorem laws_markText_eq : fnF E86 L86_1 [.v (.int .i64)] true [.str] f86.ntmps f86.results.toList (codeOf f86) = fun x => laws_markText x.1 := by kernel_rfl
theorem A86_ok : FnOk prog 86 A86 := by
  have h := fnOk_of_run (P := prog) (E := E86) (tysOk_of tyl_ok) E86_ok (L := L86_1) (ps := [.v (.int .i64)]) (own := true) (outs := [.str]) func86 (c := codeOf f86) (by kernel_rfl) (codeOk_in (L := L86_1) (tysOk_of tyl_ok) E86_ok mixed (c := codeOf f86) (bs := [loopOf f86 4]) (by kernel_rfl) (allCons (loop86_4 rfl) allNil) (by kernel_rfl))
  rw [laws_markText_eq] at h
  exact h
/-! laws.markStepS -/
noncomputable def E85 : Env := ⟨ty0, fun g => ifEq g 86 (some A86) (none), fun _ => none, fun _ => none⟩
theorem E85_ok : FnsOk prog E85 := (oneFn A86_ok func86 (by kernel_rfl) (by kernel_rfl) (noFns _ _))
noncomputable def L85_0 : Nat → Option LoopD := fun _ => none
def sh85_2 : List Fm := [.cell (.own (.pair (.int .i64) (.pair .str (.pair (.int .i64) (.int .i64)))) 200000 false), .cell (.val (.int .i64)), d, d, d, .cell (.val (.int .i64)), d, d, d, d, d, d, d, d, d, d, d, d, d, d, d, d, d, d, d, d, d, d, d, d, d, d, d, d, d, d, d, d, d, d, d, d]
def xs85_2 : List (Ex × List Fm) := [(.exit 0, [.cell (.own (.pair (.int .i64) (.pair .str (.pair (.int .i64) (.int .i64)))) 200000 false), .cell (.val (.int .i64)), d, d, d, d, d, d, d, d, d, d, d, d, d, d, d, d, d, d, d, d, d, d, d, d, d, d, d, d, d, d, d, d, d, d, d, d, d, d, d, d])]
noncomputable def laws_markStepS_l2 : ((List (Int × (ByteArray × (Int × Int)))) × Int × Int × Unit) → Option (((List (Int × (ByteArray × (Int × Int)))) × Int × Int × Unit) ⊕ (((List (Int × (ByteArray × (Int × Int)))) × Int × Unit))) := fun (v0, v1, v5, _) =>
  bif (decide (v5 < (((List.length v0) : Nat) : Int))) then
    if (((0 : Int) ≤ v5) ∧ (v5 < (((List.length v0) : Nat) : Int))) then
      Option.bind (Option.some (List.set v0 (0 + (Int.toNat v5)) (v1, (List.getD v0 (0 + (Int.toNat v5)) ((0 : Int), (⟨Array.empty⟩ : ByteArray), (0 : Int), (0 : Int))).2))) fun r0 =>
        Option.bind (laws_markText (IntKind.wrap .i64 (v1 + (1 : Int)))) fun r1 =>
          if (((0 : Int) ≤ v5) ∧ (v5 < (((List.length v0) : Nat) : Int))) then
            Option.bind (Option.some (List.set r0 (0 + (Int.toNat v5)) ((List.getD r0 (0 + (Int.toNat v5)) ((0 : Int), (⟨Array.empty⟩ : ByteArray), (0 : Int), (0 : Int))).1, r1, (List.getD r0 (0 + (Int.toNat v5)) ((0 : Int), (⟨Array.empty⟩ : ByteArray), (0 : Int), (0 : Int))).2.2))) fun r2 =>
              if (((0 : Int) ≤ v5) ∧ (v5 < (((List.length v0) : Nat) : Int))) then
                Option.bind (Option.some (List.set r2 (0 + (Int.toNat v5)) ((List.getD r2 (0 + (Int.toNat v5)) ((0 : Int), (⟨Array.empty⟩ : ByteArray), (0 : Int), (0 : Int))).1, (List.getD r2 (0 + (Int.toNat v5)) ((0 : Int), (⟨Array.empty⟩ : ByteArray), (0 : Int), (0 : Int))).2.1, (IntKind.wrap .i64 ((IntKind.wrap .i64 (v1 + (1 : Int))) + (1 : Int))), (List.getD r2 (0 + (Int.toNat v5)) ((0 : Int), (⟨Array.empty⟩ : ByteArray), (0 : Int), (0 : Int))).2.2.2))) fun r3 =>
                  if (((0 : Int) ≤ v5) ∧ (v5 < (((List.length v0) : Nat) : Int))) then
                    Option.bind (Option.some (List.set r3 (0 + (Int.toNat v5)) ((List.getD r3 (0 + (Int.toNat v5)) ((0 : Int), (⟨Array.empty⟩ : ByteArray), (0 : Int), (0 : Int))).1, (List.getD r3 (0 + (Int.toNat v5)) ((0 : Int), (⟨Array.empty⟩ : ByteArray), (0 : Int), (0 : Int))).2.1, (List.getD r3 (0 + (Int.toNat v5)) ((0 : Int), (⟨Array.empty⟩ : ByteArray), (0 : Int), (0 : Int))).2.2.1, (IntKind.wrap .i64 ((IntKind.wrap .i64 ((IntKind.wrap .i64 (v1 + (1 : Int))) + (1 : Int))) + (1 : Int)))))) fun r4 =>
                      if ((List.length v0) = (List.length r4)) then
                        some (Sum.inl (r4, (IntKind.wrap .i64 ((IntKind.wrap .i64 ((IntKind.wrap .i64 ((IntKind.wrap .i64 (v1 + (1 : Int))) + (1 : Int))) + (1 : Int))) + (1 : Int))), (IntKind.wrap .i64 (v5 + (1 : Int))), ()))
                      else
                        none
                  else
                    none
              else
                none
          else
            none
    else
      none
  else
    if ((List.length v0) = (List.length v0)) then
      some (Sum.inr (v0, v1, ()))
    else
      none
theorem laws_markStepS_l2_eq : loopStep E85 L85_0 (loopOf f85 2) sh85_2 xs85_2 = laws_markStepS_l2 := by kernel_rfl
theorem loop85_2 {L : Nat → Option LoopD} (h : L 2 = some ⟨sh85_2, xs85_2, laws_markStepS_l2⟩) : LoopOk prog L (loopOf f85 2) :=
  loopOk (tysOk_of tyl_ok) E85_ok (codeOk_in (L := L85_0) (tysOk_of tyl_ok) E85_ok mixed (c := loopOf f85 2) (bs := []) (by kernel_rfl) allNil (by kernel_rfl)) (by kernel_rfl) (by kernel_rfl) laws_markStepS_l2_eq (by rw [show firstId (loopOf f85 2) = 2 from by kernel_rfl]; exact h)
noncomputable def L85_1 : Nat → Option LoopD := fun n => ifEq n 2 (some ⟨sh85_2, xs85_2, laws_markStepS_l2⟩) (L85_0 n)
noncomputable def laws_markStepS : (List (Int × (ByteArray × (Int × Int)))) → Int → Option ((Int) × ((List (Int × (ByteArray × (Int × Int)))) × Unit)) := fun a0 a1 =>
  if ((List.length a0) = (List.length a0)) then
    Option.bind (loopF laws_markStepS_l2 (a0, a1, (0 : Int), ())) fun (r0, r1, _) =>
      some (r1, r0, ())
  else
    none
noncomputable def A85 : FnM := ⟨[.io (.sl (.pair (.int .i64) (.pair .str (.pair (.int .i64) (.int .i64))))), .v (.int .i64)], true, [.int .i64], fun x => laws_markStepS x.1 x.2.1⟩
theorem laws_markStepS_eq : fnMF E85 L85_1 [.io (.sl (.pair (.int .i64) (.pair .str (.pair (.int .i64) (.int .i64))))), .v (.int .i64)] true [.int .i64] f85.ntmps f85.results.toList (codeOf f85) = fun x => laws_markStepS x.1 x.2.1 := by kernel_rfl
theorem A85_ok : FnMOk prog 85 A85 := by
  have h := fnMOk_of_run (P := prog) (E := E85) (tysOk_of tyl_ok) E85_ok (L := L85_1) (ps := [.io (.sl (.pair (.int .i64) (.pair .str (.pair (.int .i64) (.int .i64))))), .v (.int .i64)]) (own := true) (outs := [.int .i64]) func85 (c := codeOf f85) (by kernel_rfl) (codeOk_in (L := L85_1) (tysOk_of tyl_ok) E85_ok mixed (c := codeOf f85) (bs := [loopOf f85 2]) (by kernel_rfl) (allCons (loop85_2 rfl) allNil) (by kernel_rfl)) (by kernel_rfl)
  rw [laws_markStepS_eq] at h
  exact h
/-! laws.markAutomaton -/
noncomputable def E26 : Env := ⟨ty0, fun _ => none, fun g => ifEq g 32 (some A32) (ifEq g 85 (some A85) (none)), fun _ => none⟩
theorem E26_ok : FnsOk prog E26 := (oneMs A32_ok (by kernel_rfl) func32 (by kernel_rfl) (by kernel_rfl) (oneMs A85_ok (by kernel_rfl) func85 (by kernel_rfl) (by kernel_rfl) (noFns _ _)))
noncomputable def L26_0 : Nat → Option LoopD := fun _ => none
noncomputable def laws_markAutomaton : (Int × ((List Int) × ((List Int) × (List (Int × (ByteArray × (Int × Int))))))) → Int → Option ((Int) × ((Int × ((List Int) × ((List Int) × (List (Int × (ByteArray × (Int × Int))))))) × Unit)) := fun (a0_0, a0_1, a0_2, a0_3) a1 =>
  if ((List.length a0_1) = (List.length a0_1)) then
    Option.bind (laws_markIntS a0_1 a1) fun (r0, r1, _) =>
      if ((List.length a0_2) = (List.length a0_2)) then
        Option.bind (laws_markIntS a0_2 r0) fun (r2, r3, _) =>
          if ((List.length a0_3) = (List.length a0_3)) then
            Option.bind (laws_markStepS a0_3 r2) fun (r4, r5, _) =>
              some (r4, (a0_0, r1, r3, r5), ())
          else
            none
      else
        none
  else
    none
noncomputable def A26 : FnM := ⟨[.io (.pair (.int .i64) (.pair (.sl (.int .i64)) (.pair (.sl (.int .i64)) (.sl (.pair (.int .i64) (.pair .str (.pair (.int .i64) (.int .i64)))))))), .v (.int .i64)], true, [.int .i64], fun x => laws_markAutomaton x.1 x.2.1⟩
theorem laws_markAutomaton_eq : fnMF E26 L26_0 [.io (.pair (.int .i64) (.pair (.sl (.int .i64)) (.pair (.sl (.int .i64)) (.sl (.pair (.int .i64) (.pair .str (.pair (.int .i64) (.int .i64)))))))), .v (.int .i64)] true [.int .i64] f26.ntmps f26.results.toList (codeOf f26) = fun x => laws_markAutomaton x.1 x.2.1 := by kernel_rfl
theorem A26_ok : FnMOk prog 26 A26 := by
  have h := fnMOk_of_run (P := prog) (E := E26) (tysOk_of tyl_ok) E26_ok (L := L26_0) (ps := [.io (.pair (.int .i64) (.pair (.sl (.int .i64)) (.pair (.sl (.int .i64)) (.sl (.pair (.int .i64) (.pair .str (.pair (.int .i64) (.int .i64)))))))), .v (.int .i64)]) (own := true) (outs := [.int .i64]) func26 (c := codeOf f26) (by kernel_rfl) (codeOk_in (L := L26_0) (tysOk_of tyl_ok) E26_ok mixed (c := codeOf f26) (bs := []) (by kernel_rfl) allNil (by kernel_rfl)) (by kernel_rfl)
  rw [laws_markAutomaton_eq] at h
  exact h
/-! laws.markStringS -/
noncomputable def E27 : Env := ⟨ty0, fun g => ifEq g 86 (some A86) (none), fun _ => none, fun _ => none⟩
theorem E27_ok : FnsOk prog E27 := (oneFn A86_ok func86 (by kernel_rfl) (by kernel_rfl) (noFns _ _))
noncomputable def L27_0 : Nat → Option LoopD := fun _ => none
def sh27_2 : List Fm := [.cell (.own .str 200000 false), .cell (.val (.int .i64)), d, d, d, .cell (.val (.int .i64)), d, d, d, d, d, d, d, d, d, d, d, d, d, d]
def xs27_2 : List (Ex × List Fm) := [(.exit 0, [.cell (.own .str 200000 false), .cell (.val (.int .i64)), d, d, d, d, d, d, d, d, d, d, d, d, d, d, d, d, d, d])]
noncomputable def laws_markStringS_l2 : ((List ByteArray) × Int × Int × Unit) → Option (((List ByteArray) × Int × Int × Unit) ⊕ (((List ByteArray) × Int × Unit))) := fun (v0, v1, v5, _) =>
  bif (decide (v5 < (((List.length v0) : Nat) : Int))) then
    Option.bind (laws_markText v1) fun r0 =>
      if (((0 : Int) ≤ v5) ∧ (v5 < (((List.length v0) : Nat) : Int))) then
        if ((List.length v0) = (List.length (List.set v0 (0 + (Int.toNat v5)) r0))) then
          some (Sum.inl ((List.set v0 (0 + (Int.toNat v5)) r0), (IntKind.wrap .i64 (v1 + (1 : Int))), (IntKind.wrap .i64 (v5 + (1 : Int))), ()))
        else
          none
      else
        none
  else
    if ((List.length v0) = (List.length v0)) then
      some (Sum.inr (v0, v1, ()))
    else
      none
theorem laws_markStringS_l2_eq : loopStep E27 L27_0 (loopOf f27 2) sh27_2 xs27_2 = laws_markStringS_l2 := by kernel_rfl
theorem loop27_2 {L : Nat → Option LoopD} (h : L 2 = some ⟨sh27_2, xs27_2, laws_markStringS_l2⟩) : LoopOk prog L (loopOf f27 2) :=
  loopOk (tysOk_of tyl_ok) E27_ok (codeOk_in (L := L27_0) (tysOk_of tyl_ok) E27_ok mixed (c := loopOf f27 2) (bs := []) (by kernel_rfl) allNil (by kernel_rfl)) (by kernel_rfl) (by kernel_rfl) laws_markStringS_l2_eq (by rw [show firstId (loopOf f27 2) = 2 from by kernel_rfl]; exact h)
noncomputable def L27_1 : Nat → Option LoopD := fun n => ifEq n 2 (some ⟨sh27_2, xs27_2, laws_markStringS_l2⟩) (L27_0 n)
noncomputable def laws_markStringS : (List ByteArray) → Int → Option ((Int) × ((List ByteArray) × Unit)) := fun a0 a1 =>
  if ((List.length a0) = (List.length a0)) then
    Option.bind (loopF laws_markStringS_l2 (a0, a1, (0 : Int), ())) fun (r0, r1, _) =>
      some (r1, r0, ())
  else
    none
noncomputable def A27 : FnM := ⟨[.io (.sl .str), .v (.int .i64)], true, [.int .i64], fun x => laws_markStringS x.1 x.2.1⟩
theorem laws_markStringS_eq : fnMF E27 L27_1 [.io (.sl .str), .v (.int .i64)] true [.int .i64] f27.ntmps f27.results.toList (codeOf f27) = fun x => laws_markStringS x.1 x.2.1 := by kernel_rfl
theorem A27_ok : FnMOk prog 27 A27 := by
  have h := fnMOk_of_run (P := prog) (E := E27) (tysOk_of tyl_ok) E27_ok (L := L27_1) (ps := [.io (.sl .str), .v (.int .i64)]) (own := true) (outs := [.int .i64]) func27 (c := codeOf f27) (by kernel_rfl) (codeOk_in (L := L27_1) (tysOk_of tyl_ok) E27_ok mixed (c := codeOf f27) (bs := [loopOf f27 2]) (by kernel_rfl) (allCons (loop27_2 rfl) allNil) (by kernel_rfl)) (by kernel_rfl)
  rw [laws_markStringS_eq] at h
  exact h
/-! laws.heldStringS -/
noncomputable def E28 : Env := ⟨ty0, fun g => ifEq g 86 (some A86) (none), fun _ => none, fun _ => none⟩
theorem E28_ok : FnsOk prog E28 := (oneFn A86_ok func86 (by kernel_rfl) (by kernel_rfl) (noFns _ _))
noncomputable def L28_0 : Nat → Option LoopD := fun _ => none
def sh28_2 : List Fm := [.cell (.val (.sl .str)), .cell (.val (.int .i64)), d, d, d, .cell (.val (.int .i64)), d, d, d, d, d, d, d, d, d, d, d, d, d, d, d, d]
def xs28_2 : List (Ex × List Fm) := [(.ret, [d, d, d, d, .cell (.val (.int .i64)), d, d, d, d, d, d, d, d, d, d, d, d, d, d, d, d, d]), (.exit 0, [d, .cell (.val (.int .i64)), d, d, d, d, d, d, d, d, d, d, d, d, d, d, d, d, d, d, d, d])]
noncomputable def laws_heldStringS_l2 : ((List ByteArray) × Int × Int × Unit) → Option (((List ByteArray) × Int × Int × Unit) ⊕ ((Int × Unit) ⊕ (Int × Unit))) := fun (v0, v1, v5, _) =>
  bif (decide (v5 < (((List.length v0) : Nat) : Int))) then
    if (((0 : Int) ≤ v5) ∧ (v5 < (((List.length v0) : Nat) : Int))) then
      Option.bind (laws_markText v1) fun r0 =>
        bif (!((ByteArray.toList (List.getD v0 (Int.toNat v5) (⟨Array.empty⟩ : ByteArray))) == (ByteArray.toList r0))) then
          some (Sum.inr (Sum.inl ((-1 : Int), ())))
        else
          some (Sum.inl (v0, (IntKind.wrap .i64 (v1 + (1 : Int))), (IntKind.wrap .i64 (v5 + (1 : Int))), ()))
    else
      none
  else
    some (Sum.inr (Sum.inr (v1, ())))
theorem laws_heldStringS_l2_eq : loopStep E28 L28_0 (loopOf f28 2) sh28_2 xs28_2 = laws_heldStringS_l2 := by kernel_rfl
theorem loop28_2 {L : Nat → Option LoopD} (h : L 2 = some ⟨sh28_2, xs28_2, laws_heldStringS_l2⟩) : LoopOk prog L (loopOf f28 2) :=
  loopOk (tysOk_of tyl_ok) E28_ok (codeOk_in (L := L28_0) (tysOk_of tyl_ok) E28_ok mixed (c := loopOf f28 2) (bs := []) (by kernel_rfl) allNil (by kernel_rfl)) (by kernel_rfl) (by kernel_rfl) laws_heldStringS_l2_eq (by rw [show firstId (loopOf f28 2) = 2 from by kernel_rfl]; exact h)
noncomputable def L28_1 : Nat → Option LoopD := fun n => ifEq n 2 (some ⟨sh28_2, xs28_2, laws_heldStringS_l2⟩) (L28_0 n)
noncomputable def laws_heldStringS : (List ByteArray) → Int → Option (Int) := fun a0 a1 =>
  Option.bind (loopF laws_heldStringS_l2 (a0, a1, (0 : Int), ())) fun r0 =>
    (match r0 with
    | .inl (d1, _) =>
        some d1
    | .inr (d2, _) =>
        some d2)
noncomputable def A28 : FnA := ⟨[.v (.sl .str), .v (.int .i64)], true, [.int .i64], fun x => laws_heldStringS x.1 x.2.1⟩
theorem laws_heldStringS_eq : fnF E28 L28_1 [.v (.sl .str), .v (.int .i64)] true [.int .i64] f28.ntmps f28.results.toList (codeOf f28) = fun x => laws_heldStringS x.1 x.2.1 := by kernel_rfl
theorem A28_ok : FnOk prog 28 A28 := by
  have h := fnOk_of_run (P := prog) (E := E28) (tysOk_of tyl_ok) E28_ok (L := L28_1) (ps := [.v (.sl .str), .v (.int .i64)]) (own := true) (outs := [.int .i64]) func28 (c := codeOf f28) (by kernel_rfl) (codeOk_in (L := L28_1) (tysOk_of tyl_ok) E28_ok mixed (c := codeOf f28) (bs := [loopOf f28 2]) (by kernel_rfl) (allCons (loop28_2 rfl) allNil) (by kernel_rfl))
  rw [laws_heldStringS_eq] at h
  exact h
/-! laws.FnExactFreeWords -/
noncomputable def E4 : Env := ⟨ty0, fun g => ifEq g 20 (some A20) (ifEq g 22 (some A22) (ifEq g 21 (some A21) (ifEq g 23 (some A23) (ifEq g 24 (some A24) (ifEq g 25 (some A25) (ifEq g 28 (some A28) (none))))))), fun g => ifEq g 26 (some A26) (ifEq g 27 (some A27) (none)), fun _ => none⟩
theorem E4_ok : FnsOk prog E4 := (oneFn A20_ok func20 (by kernel_rfl) (by kernel_rfl) (oneFn A22_ok func22 (by kernel_rfl) (by kernel_rfl) (oneFn A21_ok func21 (by kernel_rfl) (by kernel_rfl) (oneFn A23_ok func23 (by kernel_rfl) (by kernel_rfl) (oneFn A24_ok func24 (by kernel_rfl) (by kernel_rfl) (oneFn A25_ok func25 (by kernel_rfl) (by kernel_rfl) (oneFn A28_ok func28 (by kernel_rfl) (by kernel_rfl) (oneMs A26_ok (by kernel_rfl) func26 (by kernel_rfl) (by kernel_rfl) (oneMs A27_ok (by kernel_rfl) func27 (by kernel_rfl) (by kernel_rfl) (noFns _ _))))))))))
noncomputable def L4_0 : Nat → Option LoopD := fun _ => none
noncomputable def laws_FnExactFreeWords : (Int × ((List Int) × ((List Int) × (List (Int × (ByteArray × (Int × Int))))))) → Int → Option (Bool) := fun (a0_0, a0_1, a0_2, a0_3) a1 =>
  Option.bind (laws_szAutomaton (a0_0, a0_1, a0_2, a0_3) (1048576 : Int)) fun r0 =>
    bif (decide (r0 < (0 : Int))) then
      some true
    else
      Option.bind (laws_toAutomaton (a0_0, a0_1, a0_2, a0_3)) fun (r1, r2, r3, r4) =>
        Option.bind (spec_FreeWords (r1, (List.take (List.length r2) (List.drop 0 r2)), (List.take (List.length r3) (List.drop 0 r3)), (List.take (List.length r4) (List.drop 0 r4))) a1) fun (r5, r6) =>
          Option.bind (laws_toAutomaton (a0_0, a0_1, a0_2, a0_3)) fun (r7, r8, r9, r10) =>
            Option.bind (impl_FreeWords (r7, (List.take (List.length r8) (List.drop 0 r8)), (List.take (List.length r9) (List.drop 0 r9)), (List.take (List.length r10) (List.drop 0 r10))) a1) fun (r11, r12) =>
              Option.bind (laws_eqStringS (List.take (List.length r11) (List.drop 0 r11)) (List.take (List.length r5) (List.drop 0 r5))) fun r13 =>
                bif (!r13) then
                  some false
                else
                  bif (!(r12 == r6)) then
                    some false
                  else
                    Option.bind (laws_toAutomaton (a0_0, a0_1, a0_2, a0_3)) fun (r14, r15, r16, r17) =>
                      Option.bind (laws_eqAutomaton (r7, (List.take (List.length r8) (List.drop 0 r8)), (List.take (List.length r9) (List.drop 0 r9)), (List.take (List.length r10) (List.drop 0 r10))) (r14, (List.take (List.length r15) (List.drop 0 r15)), (List.take (List.length r16) (List.drop 0 r16)), (List.take (List.length r17) (List.drop 0 r17)))) fun r18 =>
                        bif (!r18) then
                          some false
                        else
                          if ((List.length r8) = (List.length r8)) then
                            if ((List.length r9) = (List.length r9)) then
                              if ((List.length r10) = (List.length r10)) then
                                Option.bind (laws_markAutomaton (r7, r8, r9, r10) (1 : Int)) fun (r19, (r20, r21, r22, r23), _) =>
                                  bif (decide (r19 < (0 : Int))) then
                                    some false
                                  else
                                    Option.bind (laws_eqStringS (List.take (List.length r11) (List.drop 0 r11)) (List.take (List.length r5) (List.drop 0 r5))) fun r24 =>
                                      bif (!r24) then
                                        some false
                                      else
                                        bif (!(r12 == r6)) then
                                          some false
                                        else
                                          if ((List.length r11) = (List.length r11)) then
                                            Option.bind (laws_markStringS r11 (1 : Int)) fun (r25, r26, _) =>
                                              Option.bind (laws_heldStringS (List.take (List.length r11) (List.drop 0 r26)) (1 : Int)) fun r27 =>
                                                bif (decide (r27 < (0 : Int))) then
                                                  some false
                                                else
                                                  bif (r27 != r25) then
                                                    some false
                                                  else
                                                    Option.bind (laws_toAutomaton (a0_0, a0_1, a0_2, a0_3)) fun (r28, r29, r30, r31) =>
                                                      Option.bind (impl_FreeWords (r28, (List.take (List.length r29) (List.drop 0 r29)), (List.take (List.length r30) (List.drop 0 r30)), (List.take (List.length r31) (List.drop 0 r31))) a1) fun (r32, r33) =>
                                                        Option.bind (laws_eqStringS (List.take (List.length r32) (List.drop 0 r32)) (List.take (List.length r5) (List.drop 0 r5))) fun r34 =>
                                                          bif (!r34) then
                                                            some false
                                                          else
                                                            bif (!(r33 == r6)) then
                                                              some false
                                                            else
                                                              Option.bind (laws_heldStringS (List.take (List.length r11) (List.drop 0 r26)) (1 : Int)) fun r35 =>
                                                                bif (decide (r35 < (0 : Int))) then
                                                                  some false
                                                                else
                                                                  bif (r35 != r25) then
                                                                    some false
                                                                  else
                                                                    some true
                                          else
                                            none
                              else
                                none
                            else
                              none
                          else
                            none
noncomputable def A4 : FnA := ⟨[.v (.pair (.int .i64) (.pair (.sl (.int .i64)) (.pair (.sl (.int .i64)) (.sl (.pair (.int .i64) (.pair .str (.pair (.int .i64) (.int .i64)))))))), .v (.int .i64)], true, [.bool], fun x => laws_FnExactFreeWords x.1 x.2.1⟩
theorem laws_FnExactFreeWords_eq : fnF E4 L4_0 [.v (.pair (.int .i64) (.pair (.sl (.int .i64)) (.pair (.sl (.int .i64)) (.sl (.pair (.int .i64) (.pair .str (.pair (.int .i64) (.int .i64)))))))), .v (.int .i64)] true [.bool] f4.ntmps f4.results.toList (codeOf f4) = fun x => laws_FnExactFreeWords x.1 x.2.1 := by kernel_rfl
theorem A4_ok : FnOk prog 4 A4 := by
  have h := fnOk_of_run (P := prog) (E := E4) (tysOk_of tyl_ok) E4_ok (L := L4_0) (ps := [.v (.pair (.int .i64) (.pair (.sl (.int .i64)) (.pair (.sl (.int .i64)) (.sl (.pair (.int .i64) (.pair .str (.pair (.int .i64) (.int .i64)))))))), .v (.int .i64)]) (own := true) (outs := [.bool]) func4 (c := codeOf f4) (by kernel_rfl) (codeOk_in (L := L4_0) (tysOk_of tyl_ok) E4_ok mixed (c := codeOf f4) (bs := []) (by kernel_rfl) allNil (by kernel_rfl))
  rw [laws_FnExactFreeWords_eq] at h
  exact h
/-! spec.l11Short -/
noncomputable def E87 : Env := ⟨ty0, fun g => ifEq g 78 (some A78) (ifEq g 79 (some A79) (none)), fun _ => none, fun _ => none⟩
theorem E87_ok : FnsOk prog E87 := (oneFn A78_ok func78 (by kernel_rfl) (by kernel_rfl) (oneFn A79_ok func79 (by kernel_rfl) (by kernel_rfl) (noFns _ _)))
noncomputable def L87_0 : Nat → Option LoopD := fun _ => none
noncomputable def spec_l11Short : (Int × ((List Int) × ((List Int) × (List (Int × (ByteArray × (Int × Int))))))) → Int → Option (Bool) := fun (a0_0, a0_1, a0_2, a0_3) a1 =>
  Option.bind (spec_AutomatonValid (a0_0, a0_1, a0_2, a0_3)) fun r0 =>
    bif r0 then
      Option.bind (spec_l1In a1 (0 : Int) (7 : Int)) fun r1 =>
        some r1
    else
      some false
noncomputable def A87 : FnA := ⟨[.v (.pair (.int .i64) (.pair (.sl (.int .i64)) (.pair (.sl (.int .i64)) (.sl (.pair (.int .i64) (.pair .str (.pair (.int .i64) (.int .i64)))))))), .v (.int .i64)], true, [.bool], fun x => spec_l11Short x.1 x.2.1⟩
theorem spec_l11Short_eq : fnF E87 L87_0 [.v (.pair (.int .i64) (.pair (.sl (.int .i64)) (.pair (.sl (.int .i64)) (.sl (.pair (.int .i64) (.pair .str (.pair (.int .i64) (.int .i64)))))))), .v (.int .i64)] true [.bool] f87.ntmps f87.results.toList (codeOf f87) = fun x => spec_l11Short x.1 x.2.1 := by kernel_rfl
theorem A87_ok : FnOk prog 87 A87 := by
  have h := fnOk_of_run (P := prog) (E := E87) (tysOk_of tyl_ok) E87_ok (L := L87_0) (ps := [.v (.pair (.int .i64) (.pair (.sl (.int .i64)) (.pair (.sl (.int .i64)) (.sl (.pair (.int .i64) (.pair .str (.pair (.int .i64) (.int .i64)))))))), .v (.int .i64)]) (own := true) (outs := [.bool]) func87 (c := codeOf f87) (by kernel_rfl) (codeOk_in (L := L87_0) (tysOk_of tyl_ok) E87_ok mixed (c := codeOf f87) (bs := []) (by kernel_rfl) allNil (by kernel_rfl))
  rw [spec_l11Short_eq] at h
  exact h
/-! spec.GreatestOf -/
noncomputable def E29 : Env := ⟨ty0, fun g => ifEq g 87 (some A87) (ifEq g 80 (some A80) (ifEq g 81 (some A81) (none))), fun _ => none, fun _ => none⟩
theorem E29_ok : FnsOk prog E29 := (oneFn A87_ok func87 (by kernel_rfl) (by kernel_rfl) (oneFn A80_ok func80 (by kernel_rfl) (by kernel_rfl) (oneFn A81_ok func81 (by kernel_rfl) (by kernel_rfl) (noFns _ _))))
noncomputable def L29_0 : Nat → Option LoopD := fun _ => none
def sh29_6 : List Fm := [d, d, .box 100200 [.val (.int .i64), .val (.sl (.int .i64)), .val (.sl (.int .i64)), .val (.sl (.pair (.int .i64) (.pair .str (.pair (.int .i64) (.int .i64)))))], d, d, d, .cell (.own (.int .i64) 100600 false), .cell (.own .bool 100700 false), d, d, d, d, d, d, d, d, d, d, d, d, d, d, d, d, .cell (.val (.sl .str)), .cell (.val (.int .i64)), .cell (.val (.int .i64)), d, d, d, d, d, d, d, d, d, d, d, d, d, d, d, d, d, d, d, d, d, d, d, d, d, d, d, d, d, d, d, d, d, d, d, d, d, d, d]
def xs29_6 : List (Ex × List Fm) := [(.exit 0, [d, d, d, d, d, d, .cell (.own (.int .i64) 100600 false), .cell (.own .bool 100700 false), d, d, d, d, d, d, d, d, d, d, d, d, d, d, d, d, d, d, d, d, d, d, d, d, d, d, d, d, d, d, d, d, d, d, d, d, d, d, d, d, d, d, d, d, d, d, d, d, d, d, d, d, d, d, d, d, d, d])]
noncomputable def spec_GreatestOf_l6 : ((Int × (List Int) × (List Int) × (List (Int × (ByteArray × (Int × Int)))) × Unit) × (List Int) × (List Bool) × (List ByteArray) × Int × Int × Unit) → Option (((Int × (List Int) × (List Int) × (List (Int × (ByteArray × (Int × Int)))) × Unit) × (List Int) × (List Bool) × (List ByteArray) × Int × Int × Unit) ⊕ (((List Int) × (List Bool) × Unit))) := fun ((v2_0, v2_1, v2_2, v2_3, _), v6, v7, v24, v25, v26, _) =>
  bif (decide (v26 < v25)) then
    if (((0 : Int) ≤ v26) ∧ (v26 < (((List.length v24) : Nat) : Int))) then
      Option.bind (spec_l4Cost (v2_0, v2_1, v2_2, v2_3) (List.getD v24 (Int.toNat v26) (⟨Array.empty⟩ : ByteArray))) fun r0 =>
        bif (decide (r0 < (1000000 : Int))) then
          if (((0 : Int) ≤ (((ByteArray.size (List.getD v24 (Int.toNat v26) (⟨Array.empty⟩ : ByteArray))) : Nat) : Int)) ∧ ((((ByteArray.size (List.getD v24 (Int.toNat v26) (⟨Array.empty⟩ : ByteArray))) : Nat) : Int) < (((List.length v6) : Nat) : Int))) then
            if (((0 : Int) ≤ (((ByteArray.size (List.getD v24 (Int.toNat v26) (⟨Array.empty⟩ : ByteArray))) : Nat) : Int)) ∧ ((((ByteArray.size (List.getD v24 (Int.toNat v26) (⟨Array.empty⟩ : ByteArray))) : Nat) : Int) < (((List.length v6) : Nat) : Int))) then
              if (((0 : Int) ≤ (((ByteArray.size (List.getD v24 (Int.toNat v26) (⟨Array.empty⟩ : ByteArray))) : Nat) : Int)) ∧ ((((ByteArray.size (List.getD v24 (Int.toNat v26) (⟨Array.empty⟩ : ByteArray))) : Nat) : Int) < (((List.length v7) : Nat) : Int))) then
                some (Sum.inl ((v2_0, v2_1, v2_2, v2_3, ()), (List.take (List.length v6) (List.drop 0 (List.set v6 (0 + (Int.toNat (((ByteArray.size (List.getD v24 (Int.toNat v26) (⟨Array.empty⟩ : ByteArray))) : Nat) : Int))) (if (r0 > (List.getD v6 (0 + (Int.toNat (((ByteArray.size (List.getD v24 (Int.toNat v26) (⟨Array.empty⟩ : ByteArray))) : Nat) : Int))) (0 : Int))) then r0 else (List.getD v6 (0 + (Int.toNat (((ByteArray.size (List.getD v24 (Int.toNat v26) (⟨Array.empty⟩ : ByteArray))) : Nat) : Int))) (0 : Int)))))), (List.take (List.length v7) (List.drop 0 (List.set v7 (0 + (Int.toNat (((ByteArray.size (List.getD v24 (Int.toNat v26) (⟨Array.empty⟩ : ByteArray))) : Nat) : Int))) true))), v24, v25, (IntKind.wrap .i64 (v26 + (1 : Int))), ()))
              else
                none
            else
              none
          else
            none
        else
          some (Sum.inl ((v2_0, v2_1, v2_2, v2_3, ()), (List.take (List.length v6) (List.drop 0 v6)), (List.take (List.length v7) (List.drop 0 v7)), v24, v25, (IntKind.wrap .i64 (v26 + (1 : Int))), ()))
    else
      none
  else
    some (Sum.inr ((List.take (List.length v6) (List.drop 0 v6)), (List.take (List.length v7) (List.drop 0 v7)), ()))
theorem spec_GreatestOf_l6_eq : loopStep E29 L29_0 (loopOf f29 6) sh29_6 xs29_6 = spec_GreatestOf_l6 := by kernel_rfl
theorem loop29_6 {L : Nat → Option LoopD} (h : L 6 = some ⟨sh29_6, xs29_6, spec_GreatestOf_l6⟩) : LoopOk prog L (loopOf f29 6) :=
  loopOk (tysOk_of tyl_ok) E29_ok (codeOk_in (L := L29_0) (tysOk_of tyl_ok) E29_ok mixed (c := loopOf f29 6) (bs := []) (by kernel_rfl) allNil (by kernel_rfl)) (by kernel_rfl) (by kernel_rfl) spec_GreatestOf_l6_eq (by rw [show firstId (loopOf f29 6) = 6 from by kernel_rfl]; exact h)
noncomputable def L29_1 : Nat → Option LoopD := fun n => ifEq n 6 (some ⟨sh29_6, xs29_6, spec_GreatestOf_l6⟩) (L29_0 n)
def sh29_14 : List Fm := [d, d, d, d, d, d, .cell (.own (.int .i64) 100600 false), .cell (.own .bool 100700 false), d, d, d, d, d, d, d, d, d, d, d, d, d, d, d, d, d, d, d, d, d, d, d, d, d, d, d, d, d, d, d, d, d, d, d, d, d, d, d, d, d, d, d, d, .cell (.val (.int .i64)), .cell (.val (.int .i64)), d, d, d, d, d, d, d, d, d, d, d, d]
def xs29_14 : List (Ex × List Fm) := [(.exit 2, [d, d, d, d, d, d, .cell (.own (.int .i64) 100600 false), d, d, d, d, d, d, d, d, d, d, d, d, d, d, d, d, d, d, d, d, d, d, d, d, d, d, d, d, d, d, d, d, d, d, d, d, d, d, d, d, d, d, d, d, d, d, d, d, d, d, d, d, d, d, d, d, d, d, d])]
noncomputable def spec_GreatestOf_l14 : ((List Int) × (List Bool) × Int × Int × Unit) → Option (((List Int) × (List Bool) × Int × Int × Unit) ⊕ (((List Int) × Unit))) := fun (v6, v7, v52, v53, _) =>
  bif (decide (v53 < v52)) then
    if (((0 : Int) ≤ v53) ∧ (v53 < (((List.length v7) : Nat) : Int))) then
      bif (!(List.getD v7 (0 + (Int.toNat v53)) false)) then
        if (((0 : Int) ≤ v53) ∧ (v53 < (((List.length v6) : Nat) : Int))) then
          some (Sum.inl ((List.take (List.length v6) (List.drop 0 (List.set v6 (0 + (Int.toNat v53)) (1000000 : Int)))), (List.take (List.length v7) (List.drop 0 v7)), v52, (IntKind.wrap .i64 (v53 + (1 : Int))), ()))
        else
          none
      else
        some (Sum.inl ((List.take (List.length v6) (List.drop 0 v6)), (List.take (List.length v7) (List.drop 0 v7)), v52, (IntKind.wrap .i64 (v53 + (1 : Int))), ()))
    else
      none
  else
    some (Sum.inr ((List.take (List.length v6) (List.drop 0 v6)), ()))
theorem spec_GreatestOf_l14_eq : loopStep E29 L29_1 (loopOf f29 14) sh29_14 xs29_14 = spec_GreatestOf_l14 := by kernel_rfl
theorem loop29_14 {L : Nat → Option LoopD} (h : L 14 = some ⟨sh29_14, xs29_14, spec_GreatestOf_l14⟩) : LoopOk prog L (loopOf f29 14) :=
  loopOk (tysOk_of tyl_ok) E29_ok (codeOk_in (L := L29_1) (tysOk_of tyl_ok) E29_ok mixed (c := loopOf f29 14) (bs := []) (by kernel_rfl) allNil (by kernel_rfl)) (by kernel_rfl) (by kernel_rfl) spec_GreatestOf_l14_eq (by rw [show firstId (loopOf f29 14) = 14 from by kernel_rfl]; exact h)
noncomputable def L29_2 : Nat → Option LoopD := fun n => ifEq n 14 (some ⟨sh29_14, xs29_14, spec_GreatestOf_l14⟩) (L29_1 n)
noncomputable def spec_GreatestOf : (Int × ((List Int) × ((List Int) × (List (Int × (ByteArray × (Int × Int))))))) → Int → Option ((List Int) × Bool) := fun (a0_0, a0_1, a0_2, a0_3) a1 =>
  Option.bind (spec_l11Short (a0_0, a0_1, a0_2, a0_3) a1) fun r0 =>
    bif (!r0) then
      some ((List.take 0 (List.drop 0 [])), false)
    else
      if (((0 : Int) ≤ (IntKind.wrap .i64 (a1 + (1 : Int)))) ∧ (((IntKind.wrap .i64 (a1 + (1 : Int))) = (IntKind.wrap .i64 (a1 + (1 : Int)))) ∧ (((IntKind.wrap .i64 (a1 + (1 : Int))) * ((8 : Nat) : Int)) ≤ (140737488355328 : Int)))) then
        if (((0 : Int) ≤ (IntKind.wrap .i64 (a1 + (1 : Int)))) ∧ (((IntKind.wrap .i64 (a1 + (1 : Int))) = (IntKind.wrap .i64 (a1 + (1 : Int)))) ∧ (((IntKind.wrap .i64 (a1 + (1 : Int))) * ((1 : Nat) : Int)) ≤ (140737488355328 : Int)))) then
          Option.bind (spec_l4Words a1) fun r1 =>
            Option.bind (loopF spec_GreatestOf_l6 ((a0_0, a0_1, a0_2, a0_3, ()), (List.take (Int.toNat (IntKind.wrap .i64 (a1 + (1 : Int)))) (List.drop 0 (List.replicate (Int.toNat (IntKind.wrap .i64 (a1 + (1 : Int)))) (0 : Int)))), (List.take (Int.toNat (IntKind.wrap .i64 (a1 + (1 : Int)))) (List.drop 0 (List.replicate (Int.toNat (IntKind.wrap .i64 (a1 + (1 : Int)))) false))), r1, (((List.length r1) : Nat) : Int), (0 : Int), ())) fun (r2, r3, _) =>
              Option.bind (loopF spec_GreatestOf_l14 ((List.take (List.length r2) (List.drop 0 r2)), (List.take (List.length r3) (List.drop 0 r3)), (((List.length r2) : Nat) : Int), (0 : Int), ())) fun (r4, _) =>
                some ((List.take (List.length r4) (List.drop 0 r4)), true)
        else
          none
      else
        none
noncomputable def A29 : FnA := ⟨[.v (.pair (.int .i64) (.pair (.sl (.int .i64)) (.pair (.sl (.int .i64)) (.sl (.pair (.int .i64) (.pair .str (.pair (.int .i64) (.int .i64)))))))), .v (.int .i64)], true, [.sl (.int .i64), .bool], fun x => spec_GreatestOf x.1 x.2.1⟩
theorem spec_GreatestOf_eq : fnF E29 L29_2 [.v (.pair (.int .i64) (.pair (.sl (.int .i64)) (.pair (.sl (.int .i64)) (.sl (.pair (.int .i64) (.pair .str (.pair (.int .i64) (.int .i64)))))))), .v (.int .i64)] true [.sl (.int .i64), .bool] f29.ntmps f29.results.toList (codeOf f29) = fun x => spec_GreatestOf x.1 x.2.1 := by kernel_rfl
theorem A29_ok : FnOk prog 29 A29 := by
  have h := fnOk_of_run (P := prog) (E := E29) (tysOk_of tyl_ok) E29_ok (L := L29_2) (ps := [.v (.pair (.int .i64) (.pair (.sl (.int .i64)) (.pair (.sl (.int .i64)) (.sl (.pair (.int .i64) (.pair .str (.pair (.int .i64) (.int .i64)))))))), .v (.int .i64)]) (own := true) (outs := [.sl (.int .i64), .bool]) func29 (c := codeOf f29) (by kernel_rfl) (codeOk_in (L := L29_2) (tysOk_of tyl_ok) E29_ok mixed (c := codeOf f29) (bs := [loopOf f29 6, loopOf f29 14]) (by kernel_rfl) (allCons (loop29_6 rfl) (allCons (loop29_14 rfl) allNil)) (by kernel_rfl))
  rw [spec_GreatestOf_eq] at h
  exact h
/-! impl.short -/
noncomputable def E94 : Env := ⟨ty0, fun g => ifEq g 40 (some A40) (ifEq g 60 (some A60) (none)), fun _ => none, fun _ => none⟩
theorem E94_ok : FnsOk prog E94 := (oneFn A40_ok func40 (by kernel_rfl) (by kernel_rfl) (oneFn A60_ok func60 (by kernel_rfl) (by kernel_rfl) (noFns _ _)))
noncomputable def L94_0 : Nat → Option LoopD := fun _ => none
def sh94_3 : List Fm := [d, d, d, d, d, d, .cell (.val (.sl .str)), .cell (.val .bool), d, d, d, d, d, d, d, .cell (.val (.sl (.pair (.int .i64) (.pair (.sl (.int .i64)) (.pair (.sl (.int .i64)) (.sl (.pair (.int .i64) (.pair .str (.pair (.int .i64) (.int .i64)))))))))), .cell (.val (.int .i64)), .cell (.val (.int .i64)), d, d, d, d, d, d, d, d, d, d, d]
def xs94_3 : List (Ex × List Fm) := [(.exit 0, [d, d, d, d, d, d, .cell (.val (.sl .str)), .cell (.val .bool), d, d, d, d, d, d, d, d, d, d, d, d, d, d, d, d, d, d, d, d, d])]
noncomputable def impl_short_l3 : ((List ByteArray) × Bool × (List (Int × ((List Int) × ((List Int) × (List (Int × (ByteArray × (Int × Int)))))))) × Int × Int × Unit) → Option (((List ByteArray) × Bool × (List (Int × ((List Int) × ((List Int) × (List (Int × (ByteArray × (Int × Int)))))))) × Int × Int × Unit) ⊕ (((List ByteArray) × Bool × Unit))) := fun (v6, v7, v15, v16, v17, _) =>
  bif (decide (v17 < v16)) then
    if (((0 : Int) ≤ v17) ∧ (v17 < (((List.length v15) : Nat) : Int))) then
      bif v7 then
        Option.bind (impl_AutomatonValid ((List.getD v15 (Int.toNat v17) ((0 : Int), [], [], [])).1, (List.getD v15 (Int.toNat v17) ((0 : Int), [], [], [])).2.1, (List.getD v15 (Int.toNat v17) ((0 : Int), [], [], [])).2.2.1, (List.getD v15 (Int.toNat v17) ((0 : Int), [], [], [])).2.2.2)) fun r0 =>
          some (Sum.inl (v6, r0, v15, v16, (IntKind.wrap .i64 (v17 + (1 : Int))), ()))
      else
        some (Sum.inl (v6, false, v15, v16, (IntKind.wrap .i64 (v17 + (1 : Int))), ()))
    else
      none
  else
    some (Sum.inr (v6, v7, ()))
theorem impl_short_l3_eq : loopStep E94 L94_0 (loopOf f94 3) sh94_3 xs94_3 = impl_short_l3 := by kernel_rfl
theorem loop94_3 {L : Nat → Option LoopD} (h : L 3 = some ⟨sh94_3, xs94_3, impl_short_l3⟩) : LoopOk prog L (loopOf f94 3) :=
  loopOk (tysOk_of tyl_ok) E94_ok (codeOk_in (L := L94_0) (tysOk_of tyl_ok) E94_ok mixed (c := loopOf f94 3) (bs := []) (by kernel_rfl) allNil (by kernel_rfl)) (by kernel_rfl) (by kernel_rfl) impl_short_l3_eq (by rw [show firstId (loopOf f94 3) = 3 from by kernel_rfl]; exact h)
noncomputable def L94_1 : Nat → Option LoopD := fun n => ifEq n 3 (some ⟨sh94_3, xs94_3, impl_short_l3⟩) (L94_0 n)
noncomputable def impl_short : Int → (List (Int × ((List Int) × ((List Int) × (List (Int × (ByteArray × (Int × Int)))))))) → Option ((List ByteArray) × Bool) := fun a0 a1 =>
  Option.bind (impl_ShortWords a0) fun (r0, r1) =>
    Option.bind (loopF impl_short_l3 (r0, r1, a1, (((List.length a1) : Nat) : Int), (0 : Int), ())) fun (r2, r3, _) =>
      some (r2, r3)
noncomputable def A94 : FnA := ⟨[.v (.int .i64), .v (.sl (.pair (.int .i64) (.pair (.sl (.int .i64)) (.pair (.sl (.int .i64)) (.sl (.pair (.int .i64) (.pair .str (.pair (.int .i64) (.int .i64)))))))))], false, [.sl .str, .bool], fun x => impl_short x.1 x.2.1⟩
theorem impl_short_eq : fnF E94 L94_1 [.v (.int .i64), .v (.sl (.pair (.int .i64) (.pair (.sl (.int .i64)) (.pair (.sl (.int .i64)) (.sl (.pair (.int .i64) (.pair .str (.pair (.int .i64) (.int .i64)))))))))] false [.sl .str, .bool] f94.ntmps f94.results.toList (codeOf f94) = fun x => impl_short x.1 x.2.1 := by kernel_rfl
theorem A94_ok : FnOk prog 94 A94 := by
  have h := fnOk_of_run (P := prog) (E := E94) (tysOk_of tyl_ok) E94_ok (L := L94_1) (ps := [.v (.int .i64), .v (.sl (.pair (.int .i64) (.pair (.sl (.int .i64)) (.pair (.sl (.int .i64)) (.sl (.pair (.int .i64) (.pair .str (.pair (.int .i64) (.int .i64)))))))))]) (own := false) (outs := [.sl .str, .bool]) func94 (c := codeOf f94) (by kernel_rfl) (codeOk_in (L := L94_1) (tysOk_of tyl_ok) E94_ok mixed (c := codeOf f94) (bs := [loopOf f94 3]) (by kernel_rfl) (allCons (loop94_3 rfl) allNil) (by kernel_rfl))
  rw [impl_short_eq] at h
  exact h
/-! impl.byLength -/
noncomputable def E88 : Env := ⟨ty0, fun g => ifEq g 94 (some A94) (ifEq g 134 (some A134) (ifEq g 41 (some A41) (none))), fun _ => none, fun _ => none⟩
theorem E88_ok : FnsOk prog E88 := (oneFn A94_ok func94 (by kernel_rfl) (by kernel_rfl) (oneFn A134_ok func134 (by kernel_rfl) (by kernel_rfl) (oneFn A41_ok func41 (by kernel_rfl) (by kernel_rfl) (noFns _ _))))
noncomputable def L88_0 : Nat → Option LoopD := fun _ => none
def sh88_6 : List Fm := [d, d, .clo [.int .i64, .int .i64] .bool, .box 100300 [.val (.int .i64), .val (.sl (.int .i64)), .val (.sl (.int .i64)), .val (.sl (.pair (.int .i64) (.pair .str (.pair (.int .i64) (.int .i64)))))], d, d, d, d, d, d, .cell (.own (.int .i64) 101000 false), d, d, d, d, d, d, d, d, d, d, d, d, d, d, d, d, .cell (.val (.sl .str)), .cell (.val (.int .i64)), .cell (.val (.int .i64)), d, d, d, d, d, d, d, d, d, d, d, d, d, d, d, d, d, d, d, d, d, d, d, d, d, d, d, d, d, d, d, d, d]
def xs88_6 : List (Ex × List Fm) := [(.exit 0, [d, d, d, d, d, d, d, d, d, d, .cell (.own (.int .i64) 101000 false), d, d, d, d, d, d, d, d, d, d, d, d, d, d, d, d, d, d, d, d, d, d, d, d, d, d, d, d, d, d, d, d, d, d, d, d, d, d, d, d, d, d, d, d, d, d, d, d, d, d, d, d])]
noncomputable def impl_byLength_l6 : (((Int × Int × Unit) → Option (Bool)) × (Int × (List Int) × (List Int) × (List (Int × (ByteArray × (Int × Int)))) × Unit) × (List Int) × (List ByteArray) × Int × Int × Unit) → Option ((((Int × Int × Unit) → Option (Bool)) × (Int × (List Int) × (List Int) × (List (Int × (ByteArray × (Int × Int)))) × Unit) × (List Int) × (List ByteArray) × Int × Int × Unit) ⊕ (((List Int) × Unit))) := fun (v2, (v3_0, v3_1, v3_2, v3_3, _), v10, v27, v28, v29, _) =>
  bif (decide (v29 < v28)) then
    if (((0 : Int) ≤ v29) ∧ (v29 < (((List.length v27) : Nat) : Int))) then
      Option.bind (impl_CostOf (v3_0, v3_1, v3_2, v3_3) (List.getD v27 (Int.toNat v29) (⟨Array.empty⟩ : ByteArray))) fun r0 =>
        bif (decide (r0 < (1000000 : Int))) then
          if (((0 : Int) ≤ (((ByteArray.size (List.getD v27 (Int.toNat v29) (⟨Array.empty⟩ : ByteArray))) : Nat) : Int)) ∧ ((((ByteArray.size (List.getD v27 (Int.toNat v29) (⟨Array.empty⟩ : ByteArray))) : Nat) : Int) < (((List.length v10) : Nat) : Int))) then
            bif ((List.getD v10 (0 + (Int.toNat (((ByteArray.size (List.getD v27 (Int.toNat v29) (⟨Array.empty⟩ : ByteArray))) : Nat) : Int))) (0 : Int)) == (1000000 : Int)) then
              if (((0 : Int) ≤ (((ByteArray.size (List.getD v27 (Int.toNat v29) (⟨Array.empty⟩ : ByteArray))) : Nat) : Int)) ∧ ((((ByteArray.size (List.getD v27 (Int.toNat v29) (⟨Array.empty⟩ : ByteArray))) : Nat) : Int) < (((List.length v10) : Nat) : Int))) then
                some (Sum.inl (v2, (v3_0, v3_1, v3_2, v3_3, ()), (List.take (List.length v10) (List.drop 0 (List.set v10 (0 + (Int.toNat (((ByteArray.size (List.getD v27 (Int.toNat v29) (⟨Array.empty⟩ : ByteArray))) : Nat) : Int))) r0))), v27, v28, (IntKind.wrap .i64 (v29 + (1 : Int))), ()))
              else
                none
            else
              if (((0 : Int) ≤ (((ByteArray.size (List.getD v27 (Int.toNat v29) (⟨Array.empty⟩ : ByteArray))) : Nat) : Int)) ∧ ((((ByteArray.size (List.getD v27 (Int.toNat v29) (⟨Array.empty⟩ : ByteArray))) : Nat) : Int) < (((List.length v10) : Nat) : Int))) then
                Option.bind (v2 (r0, (List.getD v10 (0 + (Int.toNat (((ByteArray.size (List.getD v27 (Int.toNat v29) (⟨Array.empty⟩ : ByteArray))) : Nat) : Int))) (0 : Int)), ())) fun r1 =>
                  bif r1 then
                    if (((0 : Int) ≤ (((ByteArray.size (List.getD v27 (Int.toNat v29) (⟨Array.empty⟩ : ByteArray))) : Nat) : Int)) ∧ ((((ByteArray.size (List.getD v27 (Int.toNat v29) (⟨Array.empty⟩ : ByteArray))) : Nat) : Int) < (((List.length v10) : Nat) : Int))) then
                      some (Sum.inl (v2, (v3_0, v3_1, v3_2, v3_3, ()), (List.take (List.length v10) (List.drop 0 (List.set v10 (0 + (Int.toNat (((ByteArray.size (List.getD v27 (Int.toNat v29) (⟨Array.empty⟩ : ByteArray))) : Nat) : Int))) r0))), v27, v28, (IntKind.wrap .i64 (v29 + (1 : Int))), ()))
                    else
                      none
                  else
                    some (Sum.inl (v2, (v3_0, v3_1, v3_2, v3_3, ()), (List.take (List.length v10) (List.drop 0 v10)), v27, v28, (IntKind.wrap .i64 (v29 + (1 : Int))), ()))
              else
                none
          else
            none
        else
          some (Sum.inl (v2, (v3_0, v3_1, v3_2, v3_3, ()), (List.take (List.length v10) (List.drop 0 v10)), v27, v28, (IntKind.wrap .i64 (v29 + (1 : Int))), ()))
    else
      none
  else
    some (Sum.inr ((List.take (List.length v10) (List.drop 0 v10)), ()))
theorem impl_byLength_l6_eq : loopStep E88 L88_0 (loopOf f88 6) sh88_6 xs88_6 = impl_byLength_l6 := by kernel_rfl
theorem loop88_6 {L : Nat → Option LoopD} (h : L 6 = some ⟨sh88_6, xs88_6, impl_byLength_l6⟩) : LoopOk prog L (loopOf f88 6) :=
  loopOk (tysOk_of tyl_ok) E88_ok (codeOk_in (L := L88_0) (tysOk_of tyl_ok) E88_ok mixed (c := loopOf f88 6) (bs := []) (by kernel_rfl) allNil (by kernel_rfl)) (by kernel_rfl) (by kernel_rfl) impl_byLength_l6_eq (by rw [show firstId (loopOf f88 6) = 6 from by kernel_rfl]; exact h)
noncomputable def L88_1 : Nat → Option LoopD := fun n => ifEq n 6 (some ⟨sh88_6, xs88_6, impl_byLength_l6⟩) (L88_0 n)
noncomputable def impl_byLength : (Int × ((List Int) × ((List Int) × (List (Int × (ByteArray × (Int × Int))))))) → Int → ((Int × Int × Unit) → Option (Bool)) → Option ((List Int) × Bool) := fun (a0_0, a0_1, a0_2, a0_3) a1 a2 =>
  Option.bind (impl_short a1 (List.take 1 (List.drop 0 [(a0_0, a0_1, a0_2, a0_3)]))) fun (r0, r1) =>
    bif (!r1) then
      some ([], false)
    else
      Option.bind (slices_Repeat (List.take 1 (List.drop 0 [(1000000 : Int)])) (IntKind.wrap .i64 (a1 + (1 : Int)))) fun r2 =>
        Option.bind (loopF impl_byLength_l6 (a2, (a0_0, a0_1, a0_2, a0_3, ()), (List.take (List.length r2) (List.drop 0 r2)), r0, (((List.length r0) : Nat) : Int), (0 : Int), ())) fun (r3, _) =>
          some ((List.take (List.length r3) (List.drop 0 r3)), true)
noncomputable def A88 : FnA := ⟨[.v (.pair (.int .i64) (.pair (.sl (.int .i64)) (.pair (.sl (.int .i64)) (.sl (.pair (.int .i64) (.pair .str (.pair (.int .i64) (.int .i64)))))))), .v (.int .i64), .clo [.int .i64, .int .i64] .bool], true, [.sl (.int .i64), .bool], fun x => impl_byLength x.1 x.2.1 x.2.2.1⟩
theorem impl_byLength_eq : fnF E88 L88_1 [.v (.pair (.int .i64) (.pair (.sl (.int .i64)) (.pair (.sl (.int .i64)) (.sl (.pair (.int .i64) (.pair .str (.pair (.int .i64) (.int .i64)))))))), .v (.int .i64), .clo [.int .i64, .int .i64] .bool] true [.sl (.int .i64), .bool] f88.ntmps f88.results.toList (codeOf f88) = fun x => impl_byLength x.1 x.2.1 x.2.2.1 := by kernel_rfl
theorem A88_ok : FnOk prog 88 A88 := by
  have h := fnOk_of_run (P := prog) (E := E88) (tysOk_of tyl_ok) E88_ok (L := L88_1) (ps := [.v (.pair (.int .i64) (.pair (.sl (.int .i64)) (.pair (.sl (.int .i64)) (.sl (.pair (.int .i64) (.pair .str (.pair (.int .i64) (.int .i64)))))))), .v (.int .i64), .clo [.int .i64, .int .i64] .bool]) (own := true) (outs := [.sl (.int .i64), .bool]) func88 (c := codeOf f88) (by kernel_rfl) (codeOk_in (L := L88_1) (tysOk_of tyl_ok) E88_ok mixed (c := codeOf f88) (bs := [loopOf f88 6]) (by kernel_rfl) (allCons (loop88_6 rfl) allNil) (by kernel_rfl))
  rw [impl_byLength_eq] at h
  exact h
/-! impl.GreatestOf$1 -/
noncomputable def E89 : Env := ⟨ty0, fun _ => none, fun _ => none, fun _ => none⟩
theorem E89_ok : FnsOk prog E89 := (noFns _ _)
noncomputable def L89_0 : Nat → Option LoopD := fun _ => none
noncomputable def impl_GreatestOf_1 : Int → Int → Option (Bool) := fun a0 a1 =>
  some (decide (a0 > a1))
noncomputable def A89 : FnA := ⟨[.v (.int .i64), .v (.int .i64)], true, [.bool], fun x => impl_GreatestOf_1 x.1 x.2.1⟩
theorem impl_GreatestOf_1_eq : fnF E89 L89_0 [.v (.int .i64), .v (.int .i64)] true [.bool] f89.ntmps f89.results.toList (codeOf f89) = fun x => impl_GreatestOf_1 x.1 x.2.1 := by kernel_rfl
theorem A89_ok : FnOk prog 89 A89 := by
  have h := fnOk_of_run (P := prog) (E := E89) (tysOk_of tyl_ok) E89_ok (L := L89_0) (ps := [.v (.int .i64), .v (.int .i64)]) (own := true) (outs := [.bool]) func89 (c := codeOf f89) (by kernel_rfl) (codeOk_in (L := L89_0) (tysOk_of tyl_ok) E89_ok mixed (c := codeOf f89) (bs := []) (by kernel_rfl) allNil (by kernel_rfl))
  rw [impl_GreatestOf_1_eq] at h
  exact h
/-! impl.GreatestOf -/
noncomputable def E30 : Env := ⟨ty0, fun g => ifEq g 88 (some A88) (ifEq g 89 (some A89) (none)), fun _ => none, fun _ => none⟩
theorem E30_ok : FnsOk prog E30 := (oneFn A88_ok func88 (by kernel_rfl) (by kernel_rfl) (oneFn A89_ok func89 (by kernel_rfl) (by kernel_rfl) (noFns _ _)))
noncomputable def L30_0 : Nat → Option LoopD := fun _ => none
noncomputable def impl_GreatestOf : (Int × ((List Int) × ((List Int) × (List (Int × (ByteArray × (Int × Int))))))) → Int → Option ((List Int) × Bool) := fun (a0_0, a0_1, a0_2, a0_3) a1 =>
  Option.bind (impl_byLength (a0_0, a0_1, a0_2, a0_3) a1 (fun y0 => (impl_GreatestOf_1 y0.1 y0.2.1))) fun (r1, r2) =>
    some ((List.take (List.length r1) (List.drop 0 r1)), r2)
noncomputable def A30 : FnA := ⟨[.v (.pair (.int .i64) (.pair (.sl (.int .i64)) (.pair (.sl (.int .i64)) (.sl (.pair (.int .i64) (.pair .str (.pair (.int .i64) (.int .i64)))))))), .v (.int .i64)], true, [.sl (.int .i64), .bool], fun x => impl_GreatestOf x.1 x.2.1⟩
theorem impl_GreatestOf_eq : fnF E30 L30_0 [.v (.pair (.int .i64) (.pair (.sl (.int .i64)) (.pair (.sl (.int .i64)) (.sl (.pair (.int .i64) (.pair .str (.pair (.int .i64) (.int .i64)))))))), .v (.int .i64)] true [.sl (.int .i64), .bool] f30.ntmps f30.results.toList (codeOf f30) = fun x => impl_GreatestOf x.1 x.2.1 := by kernel_rfl
theorem A30_ok : FnOk prog 30 A30 := by
  have h := fnOk_of_run (P := prog) (E := E30) (tysOk_of tyl_ok) E30_ok (L := L30_0) (ps := [.v (.pair (.int .i64) (.pair (.sl (.int .i64)) (.pair (.sl (.int .i64)) (.sl (.pair (.int .i64) (.pair .str (.pair (.int .i64) (.int .i64)))))))), .v (.int .i64)]) (own := true) (outs := [.sl (.int .i64), .bool]) func30 (c := codeOf f30) (by kernel_rfl) (codeOk_in (L := L30_0) (tysOk_of tyl_ok) E30_ok mixed (c := codeOf f30) (bs := []) (by kernel_rfl) allNil (by kernel_rfl))
  rw [impl_GreatestOf_eq] at h
  exact h
/-! laws.heldIntS -/
noncomputable def E33 : Env := ⟨ty0, fun _ => none, fun _ => none, fun _ => none⟩
theorem E33_ok : FnsOk prog E33 := (noFns _ _)
noncomputable def L33_0 : Nat → Option LoopD := fun _ => none
def sh33_2 : List Fm := [.cell (.val (.sl (.int .i64))), .cell (.val (.int .i64)), d, d, d, .cell (.val (.int .i64)), d, d, d, d, d, d, d, d, d, d, d, d, d, d, d]
def xs33_2 : List (Ex × List Fm) := [(.ret, [d, d, d, d, .cell (.val (.int .i64)), d, d, d, d, d, d, d, d, d, d, d, d, d, d, d, d]), (.exit 0, [d, .cell (.val (.int .i64)), d, d, d, d, d, d, d, d, d, d, d, d, d, d, d, d, d, d, d])]
noncomputable def laws_heldIntS_l2 : ((List Int) × Int × Int × Unit) → Option (((List Int) × Int × Int × Unit) ⊕ ((Int × Unit) ⊕ (Int × Unit))) := fun (v0, v1, v5, _) =>
  bif (decide (v5 < (((List.length v0) : Nat) : Int))) then
    if (((0 : Int) ≤ v5) ∧ (v5 < (((List.length v0) : Nat) : Int))) then
      bif ((List.getD v0 (Int.toNat v5) (0 : Int)) != v1) then
        some (Sum.inr (Sum.inl ((-1 : Int), ())))
      else
        some (Sum.inl (v0, (IntKind.wrap .i64 (v1 + (1 : Int))), (IntKind.wrap .i64 (v5 + (1 : Int))), ()))
    else
      none
  else
    some (Sum.inr (Sum.inr (v1, ())))
theorem laws_heldIntS_l2_eq : loopStep E33 L33_0 (loopOf f33 2) sh33_2 xs33_2 = laws_heldIntS_l2 := by kernel_rfl
theorem loop33_2 {L : Nat → Option LoopD} (h : L 2 = some ⟨sh33_2, xs33_2, laws_heldIntS_l2⟩) : LoopOk prog L (loopOf f33 2) :=
  loopOk (tysOk_of tyl_ok) E33_ok (codeOk_in (L := L33_0) (tysOk_of tyl_ok) E33_ok mixed (c := loopOf f33 2) (bs := []) (by kernel_rfl) allNil (by kernel_rfl)) (by kernel_rfl) (by kernel_rfl) laws_heldIntS_l2_eq (by rw [show firstId (loopOf f33 2) = 2 from by kernel_rfl]; exact h)
noncomputable def L33_1 : Nat → Option LoopD := fun n => ifEq n 2 (some ⟨sh33_2, xs33_2, laws_heldIntS_l2⟩) (L33_0 n)
noncomputable def laws_heldIntS : (List Int) → Int → Option (Int) := fun a0 a1 =>
  Option.bind (loopF laws_heldIntS_l2 (a0, a1, (0 : Int), ())) fun r0 =>
    (match r0 with
    | .inl (d1, _) =>
        some d1
    | .inr (d2, _) =>
        some d2)
noncomputable def A33 : FnA := ⟨[.v (.sl (.int .i64)), .v (.int .i64)], true, [.int .i64], fun x => laws_heldIntS x.1 x.2.1⟩
theorem laws_heldIntS_eq : fnF E33 L33_1 [.v (.sl (.int .i64)), .v (.int .i64)] true [.int .i64] f33.ntmps f33.results.toList (codeOf f33) = fun x => laws_heldIntS x.1 x.2.1 := by kernel_rfl
theorem A33_ok : FnOk prog 33 A33 := by
  have h := fnOk_of_run (P := prog) (E := E33) (tysOk_of tyl_ok) E33_ok (L := L33_1) (ps := [.v (.sl (.int .i64)), .v (.int .i64)]) (own := true) (outs := [.int .i64]) func33 (c := codeOf f33) (by kernel_rfl) (codeOk_in (L := L33_1) (tysOk_of tyl_ok) E33_ok mixed (c := codeOf f33) (bs := [loopOf f33 2]) (by kernel_rfl) (allCons (loop33_2 rfl) allNil) (by kernel_rfl))
  rw [laws_heldIntS_eq] at h
  exact h
end Go.Proofs.Ytooigaliccnldaa
