/- What Go functions that the laws reach compute, and that they do: written by a program of this session. -/
import Derived.Test.YtooigaliccnldaaCmp
import Derived.KernelRfl
set_option linter.unusedVariables false
namespace Go.Proofs.Ytooigaliccnldaa
open Go Go.Proofs.Ytooigaliccnldaa.Am Go.Proofs.Try
set_option maxRecDepth 100000
def tyl : List (Nat × TyD) := [(3, {kd := .int .i64}),
  (4, {kd := .bool}),
  (5, {kd := .int .u8}),
  (9, {kd := .str}),
  (22, {kd := .sl (.int .i64), elt := .int .i64, bytes := 8}),
  (29, {kd := .pair (.int .i64) (.sl (.int .i64)), flds := [(0, .int .i64), (1, .sl (.int .i64))]}),
  (39, {kd := .sl .str, elt := .str, bytes := 16}),
  (42, {kd := .sl (.pair (.int .i64) (.pair .str (.pair (.int .i64) (.int .i64)))), elt := .pair (.int .i64) (.pair .str (.pair (.int .i64) (.int .i64))), bytes := 40}),
  (44, {kd := .pair (.int .i64) (.pair (.sl (.int .i64)) (.pair (.sl (.int .i64)) (.sl (.pair (.int .i64) (.pair .str (.pair (.int .i64) (.int .i64))))))), flds := [(0, .int .i64), (1, .sl (.int .i64)), (2, .sl (.int .i64)), (3, .sl (.pair (.int .i64) (.pair .str (.pair (.int .i64) (.int .i64)))))]}),
  (57, {kd := .sl (.int .u8), elt := .int .u8, bytes := 1}),
  (94, {kd := .sl .bool, elt := .bool, bytes := 1}),
  (101, {kd := .sl (.sl (.int .i64)), elt := .sl (.int .i64), bytes := 24}),
  (109, {kd := .pair (.int .i64) (.pair .str (.pair (.int .i64) (.int .i64))), flds := [(0, .int .i64), (1, .str), (2, .int .i64), (3, .int .i64)]}),
  (135, {kd := .sl (.pair (.int .i64) (.pair (.sl (.int .i64)) (.pair (.sl (.int .i64)) (.sl (.pair (.int .i64) (.pair .str (.pair (.int .i64) (.int .i64)))))))), elt := .pair (.int .i64) (.pair (.sl (.int .i64)) (.pair (.sl (.int .i64)) (.sl (.pair (.int .i64) (.pair .str (.pair (.int .i64) (.int .i64))))))), bytes := 80}),
  (138, {kd := .pair (.sl (.int .u8)) (.int .i64), flds := [(0, .sl (.int .u8)), (1, .int .i64)]}),
  (157, {kd := .int .u64}),
  (185, {kd := .int .u64})]
def ty0 : Nat → Option TyD := assoc tyl
theorem tyl_ok : tysOkB prog tyl = true := by kernel_rfl
theorem mixed : prog.follows .mixedOrders = true := by kernel_rfl
abbrev d : Fm := .cell .drop
/-! spec.l13Open -/
noncomputable def E98 : Env := ⟨ty0, fun _ => none, fun _ => none, fun _ => none, fun _ => none⟩
theorem E98_ok : FnsOk prog E98 := (noFns _ _)
noncomputable def L98_0 : Nat → Option LoopD := fun _ => none
noncomputable def spec_l13Open : (List Int) → Option (((List Int) × Int)) := fun a0 =>
  bif (decide ((((List.length a0) : Nat) : Int) > (2000 : Int))) then
    if (((0 : Int) ≤ (2000 : Int)) ∧ ((2000 : Int) ≤ (((List.length a0) : Nat) : Int))) then
      some ((List.take ((Int.toNat (2000 : Int)) - 0) (List.drop 0 a0)), (0 : Int))
    else
      none
  else
    some (a0, (0 : Int))
noncomputable def A98 : FnB := ⟨[.v (.sl (.int .u8))], .pair (.sl (.int .u8)) (.int .i64), fun x => spec_l13Open x.1⟩
theorem spec_l13Open_eq : fnBF E98 L98_0 [.v (.sl (.int .u8))] (.pair (.sl (.int .u8)) (.int .i64)) f98.ntmps f98.results.toList (codeOf f98) = fun x => spec_l13Open x.1 := by kernel_rfl
theorem A98_ok : FnBOk prog 98 A98 := by
  have h := fnBOk_of_run (P := prog) (E := E98) (tysOk_of tyl_ok) E98_ok (L := L98_0) (ps := [.v (.sl (.int .u8))]) (k := .pair (.sl (.int .u8)) (.int .i64)) func98 (c := codeOf f98) (by kernel_rfl) (codeOk_in (L := L98_0) (tysOk_of tyl_ok) E98_ok mixed (c := codeOf f98) (bs := []) (by kernel_rfl) allNil (by kernel_rfl))
  rw [spec_l13Open_eq] at h
  exact h
/-! (*spec.l13Rd).pick -/
noncomputable def E141 : Env := ⟨ty0, fun _ => none, fun _ => none, fun _ => none, fun _ => none⟩
theorem E141_ok : FnsOk prog E141 := (noFns _ _)
noncomputable def L141_0 : Nat → Option LoopD := fun _ => none
noncomputable def spec_l13Rd_pick : ((List Int) × Int) → Int → Option ((Int) × (((List Int) × Int) × Unit)) := fun (a0_0, a0_1) a1 =>
  bif (decide (a1 < (1 : Int))) then
    some ((0 : Int), (a0_0, (IntKind.wrap .i64 (a0_1 + (1 : Int)))), ())
  else
    bif ((((List.length a0_0) : Nat) : Int) == (0 : Int)) then
      some ((0 : Int), (a0_0, (IntKind.wrap .i64 (a0_1 + (1 : Int)))), ())
    else
      bif (decide ((IntKind.wrap .i64 ((IntKind.wrap .i64 (a0_1 + (1 : Int))) - (1 : Int))) < (((List.length a0_0) : Nat) : Int))) then
        if (((0 : Int) ≤ (IntKind.wrap .i64 ((IntKind.wrap .i64 (a0_1 + (1 : Int))) - (1 : Int)))) ∧ ((IntKind.wrap .i64 ((IntKind.wrap .i64 (a0_1 + (1 : Int))) - (1 : Int))) < (((List.length a0_0) : Nat) : Int))) then
          if (a1 = (0 : Int)) then
            none
          else
            some ((Int.tmod (IntKind.wrap .i64 (List.getD a0_0 (Int.toNat (IntKind.wrap .i64 ((IntKind.wrap .i64 (a0_1 + (1 : Int))) - (1 : Int)))) (0 : Int))) a1), (a0_0, (IntKind.wrap .i64 (a0_1 + (1 : Int)))), ())
        else
          none
      else
        if ((((List.length a0_0) : Nat) : Int) = (0 : Int)) then
          none
        else
          if (((0 : Int) ≤ (Int.tmod (IntKind.wrap .i64 ((IntKind.wrap .i64 (a0_1 + (1 : Int))) - (1 : Int))) (((List.length a0_0) : Nat) : Int))) ∧ ((Int.tmod (IntKind.wrap .i64 ((IntKind.wrap .i64 (a0_1 + (1 : Int))) - (1 : Int))) (((List.length a0_0) : Nat) : Int)) < (((List.length a0_0) : Nat) : Int))) then
            if ((((List.length a0_0) : Nat) : Int) = (0 : Int)) then
              none
            else
              if (((0 : Int) ≤ (Int.tmod (IntKind.wrap .i64 ((IntKind.wrap .i64 ((IntKind.wrap .i64 ((IntKind.wrap .i64 (a0_1 + (1 : Int))) - (1 : Int))) * (7 : Int))) + (3 : Int))) (((List.length a0_0) : Nat) : Int))) ∧ ((Int.tmod (IntKind.wrap .i64 ((IntKind.wrap .i64 ((IntKind.wrap .i64 ((IntKind.wrap .i64 (a0_1 + (1 : Int))) - (1 : Int))) * (7 : Int))) + (3 : Int))) (((List.length a0_0) : Nat) : Int)) < (((List.length a0_0) : Nat) : Int))) then
                if ((((List.length a0_0) : Nat) : Int) = (0 : Int)) then
                  none
                else
                  if ((64 : Int) = (0 : Int)) then
                    none
                  else
                    if (a1 = (0 : Int)) then
                      none
                    else
                      some ((Int.tmod (Decidable.rec (fun y0 => ((((BitVec.toNat ((BitVec.ofInt (IntKind.bits .i64) (IntKind.wrap .i64 ((IntKind.wrap .i64 ((IntKind.wrap .i64 ((IntKind.wrap .i64 ((IntKind.wrap .i64 (List.getD a0_0 (Int.toNat (Int.tmod (IntKind.wrap .i64 ((IntKind.wrap .i64 (a0_1 + (1 : Int))) - (1 : Int))) (((List.length a0_0) : Nat) : Int))) (0 : Int))) * (131 : Int))) + (IntKind.wrap .i64 ((IntKind.wrap .i64 (List.getD a0_0 (Int.toNat (Int.tmod (IntKind.wrap .i64 ((IntKind.wrap .i64 ((IntKind.wrap .i64 ((IntKind.wrap .i64 (a0_1 + (1 : Int))) - (1 : Int))) * (7 : Int))) + (3 : Int))) (((List.length a0_0) : Nat) : Int))) (0 : Int))) * (1117 : Int))))) + (IntKind.wrap .i64 ((IntKind.wrap .i64 ((IntKind.wrap .i64 (a0_1 + (1 : Int))) - (1 : Int))) * (29 : Int))))) + (IntKind.wrap .i64 ((IntKind.wrap .i64 (Int.tdiv (IntKind.wrap .i64 ((IntKind.wrap .i64 (a0_1 + (1 : Int))) - (1 : Int))) (((List.length a0_0) : Nat) : Int))) * (53 : Int)))))) ^^^ (BitVec.ofInt (IntKind.bits .i64) (IntKind.wrap .i64 (Int.tdiv (IntKind.wrap .i64 ((IntKind.wrap .i64 ((IntKind.wrap .i64 ((IntKind.wrap .i64 ((IntKind.wrap .i64 (List.getD a0_0 (Int.toNat (Int.tmod (IntKind.wrap .i64 ((IntKind.wrap .i64 (a0_1 + (1 : Int))) - (1 : Int))) (((List.length a0_0) : Nat) : Int))) (0 : Int))) * (131 : Int))) + (IntKind.wrap .i64 ((IntKind.wrap .i64 (List.getD a0_0 (Int.toNat (Int.tmod (IntKind.wrap .i64 ((IntKind.wrap .i64 ((IntKind.wrap .i64 ((IntKind.wrap .i64 (a0_1 + (1 : Int))) - (1 : Int))) * (7 : Int))) + (3 : Int))) (((List.length a0_0) : Nat) : Int))) (0 : Int))) * (1117 : Int))))) + (IntKind.wrap .i64 ((IntKind.wrap .i64 ((IntKind.wrap .i64 (a0_1 + (1 : Int))) - (1 : Int))) * (29 : Int))))) + (IntKind.wrap .i64 ((IntKind.wrap .i64 (Int.tdiv (IntKind.wrap .i64 ((IntKind.wrap .i64 (a0_1 + (1 : Int))) - (1 : Int))) (((List.length a0_0) : Nat) : Int))) * (53 : Int))))) (64 : Int)))))) : Nat) : Int) % ((2 : Int) ^ (IntKind.bits .i64)))) (fun y1 => (((((BitVec.toNat ((BitVec.ofInt (IntKind.bits .i64) (IntKind.wrap .i64 ((IntKind.wrap .i64 ((IntKind.wrap .i64 ((IntKind.wrap .i64 ((IntKind.wrap .i64 (List.getD a0_0 (Int.toNat (Int.tmod (IntKind.wrap .i64 ((IntKind.wrap .i64 (a0_1 + (1 : Int))) - (1 : Int))) (((List.length a0_0) : Nat) : Int))) (0 : Int))) * (131 : Int))) + (IntKind.wrap .i64 ((IntKind.wrap .i64 (List.getD a0_0 (Int.toNat (Int.tmod (IntKind.wrap .i64 ((IntKind.wrap .i64 ((IntKind.wrap .i64 ((IntKind.wrap .i64 (a0_1 + (1 : Int))) - (1 : Int))) * (7 : Int))) + (3 : Int))) (((List.length a0_0) : Nat) : Int))) (0 : Int))) * (1117 : Int))))) + (IntKind.wrap .i64 ((IntKind.wrap .i64 ((IntKind.wrap .i64 (a0_1 + (1 : Int))) - (1 : Int))) * (29 : Int))))) + (IntKind.wrap .i64 ((IntKind.wrap .i64 (Int.tdiv (IntKind.wrap .i64 ((IntKind.wrap .i64 (a0_1 + (1 : Int))) - (1 : Int))) (((List.length a0_0) : Nat) : Int))) * (53 : Int)))))) ^^^ (BitVec.ofInt (IntKind.bits .i64) (IntKind.wrap .i64 (Int.tdiv (IntKind.wrap .i64 ((IntKind.wrap .i64 ((IntKind.wrap .i64 ((IntKind.wrap .i64 ((IntKind.wrap .i64 (List.getD a0_0 (Int.toNat (Int.tmod (IntKind.wrap .i64 ((IntKind.wrap .i64 (a0_1 + (1 : Int))) - (1 : Int))) (((List.length a0_0) : Nat) : Int))) (0 : Int))) * (131 : Int))) + (IntKind.wrap .i64 ((IntKind.wrap .i64 (List.getD a0_0 (Int.toNat (Int.tmod (IntKind.wrap .i64 ((IntKind.wrap .i64 ((IntKind.wrap .i64 ((IntKind.wrap .i64 (a0_1 + (1 : Int))) - (1 : Int))) * (7 : Int))) + (3 : Int))) (((List.length a0_0) : Nat) : Int))) (0 : Int))) * (1117 : Int))))) + (IntKind.wrap .i64 ((IntKind.wrap .i64 ((IntKind.wrap .i64 (a0_1 + (1 : Int))) - (1 : Int))) * (29 : Int))))) + (IntKind.wrap .i64 ((IntKind.wrap .i64 (Int.tdiv (IntKind.wrap .i64 ((IntKind.wrap .i64 (a0_1 + (1 : Int))) - (1 : Int))) (((List.length a0_0) : Nat) : Int))) * (53 : Int))))) (64 : Int)))))) : Nat) : Int) % ((2 : Int) ^ (IntKind.bits .i64))) - ((2 : Int) ^ (IntKind.bits .i64)))) (instDecidableEqBool ((IntKind.signed .i64) && (decide (((((BitVec.toNat ((BitVec.ofInt (IntKind.bits .i64) (IntKind.wrap .i64 ((IntKind.wrap .i64 ((IntKind.wrap .i64 ((IntKind.wrap .i64 ((IntKind.wrap .i64 (List.getD a0_0 (Int.toNat (Int.tmod (IntKind.wrap .i64 ((IntKind.wrap .i64 (a0_1 + (1 : Int))) - (1 : Int))) (((List.length a0_0) : Nat) : Int))) (0 : Int))) * (131 : Int))) + (IntKind.wrap .i64 ((IntKind.wrap .i64 (List.getD a0_0 (Int.toNat (Int.tmod (IntKind.wrap .i64 ((IntKind.wrap .i64 ((IntKind.wrap .i64 ((IntKind.wrap .i64 (a0_1 + (1 : Int))) - (1 : Int))) * (7 : Int))) + (3 : Int))) (((List.length a0_0) : Nat) : Int))) (0 : Int))) * (1117 : Int))))) + (IntKind.wrap .i64 ((IntKind.wrap .i64 ((IntKind.wrap .i64 (a0_1 + (1 : Int))) - (1 : Int))) * (29 : Int))))) + (IntKind.wrap .i64 ((IntKind.wrap .i64 (Int.tdiv (IntKind.wrap .i64 ((IntKind.wrap .i64 (a0_1 + (1 : Int))) - (1 : Int))) (((List.length a0_0) : Nat) : Int))) * (53 : Int)))))) ^^^ (BitVec.ofInt (IntKind.bits .i64) (IntKind.wrap .i64 (Int.tdiv (IntKind.wrap .i64 ((IntKind.wrap .i64 ((IntKind.wrap .i64 ((IntKind.wrap .i64 ((IntKind.wrap .i64 (List.getD a0_0 (Int.toNat (Int.tmod (IntKind.wrap .i64 ((IntKind.wrap .i64 (a0_1 + (1 : Int))) - (1 : Int))) (((List.length a0_0) : Nat) : Int))) (0 : Int))) * (131 : Int))) + (IntKind.wrap .i64 ((IntKind.wrap .i64 (List.getD a0_0 (Int.toNat (Int.tmod (IntKind.wrap .i64 ((IntKind.wrap .i64 ((IntKind.wrap .i64 ((IntKind.wrap .i64 (a0_1 + (1 : Int))) - (1 : Int))) * (7 : Int))) + (3 : Int))) (((List.length a0_0) : Nat) : Int))) (0 : Int))) * (1117 : Int))))) + (IntKind.wrap .i64 ((IntKind.wrap .i64 ((IntKind.wrap .i64 (a0_1 + (1 : Int))) - (1 : Int))) * (29 : Int))))) + (IntKind.wrap .i64 ((IntKind.wrap .i64 (Int.tdiv (IntKind.wrap .i64 ((IntKind.wrap .i64 (a0_1 + (1 : Int))) - (1 : Int))) (((List.length a0_0) : Nat) : Int))) * (53 : Int))))) (64 : Int)))))) : Nat) : Int) % ((2 : Int) ^ (IntKind.bits .i64))) ≥ ((2 : Int) ^ ((IntKind.bits .i64) - 1))))) true)) a1), (a0_0, (IntKind.wrap .i64 (a0_1 + (1 : Int)))), ())
              else
                none
          else
            none
noncomputable def A141 : FnM := ⟨[.bx (.pair (.sl (.int .u8)) (.int .i64)), .v (.int .i64)], true, [.int .i64], fun x => spec_l13Rd_pick x.1 x.2.1⟩
theorem spec_l13Rd_pick_eq : fnMF E141 L141_0 [.bx (.pair (.sl (.int .u8)) (.int .i64)), .v (.int .i64)] true [.int .i64] f141.ntmps f141.results.toList (codeOf f141) = fun x => spec_l13Rd_pick x.1 x.2.1 := by kernel_rfl
theorem A141_ok : FnMOk prog 141 A141 := by
  have h := fnMOk_of_run (P := prog) (E := E141) (tysOk_of tyl_ok) E141_ok (L := L141_0) (ps := [.bx (.pair (.sl (.int .u8)) (.int .i64)), .v (.int .i64)]) (own := true) (outs := [.int .i64]) func141 (c := codeOf f141) (by kernel_rfl) (codeOk_in (L := L141_0) (tysOk_of tyl_ok) E141_ok mixed (c := codeOf f141) (bs := []) (by kernel_rfl) allNil (by kernel_rfl)) (by kernel_rfl)
  rw [spec_l13Rd_pick_eq] at h
  exact h
/-! spec.l13Cut -/
noncomputable def E217 : Env := ⟨ty0, fun _ => none, fun _ => none, fun _ => none, fun _ => none⟩
theorem E217_ok : FnsOk prog E217 := (noFns _ _)
noncomputable def L217_0 : Nat → Option LoopD := fun _ => none
def sh217_4 : List Fm := [.cell (.val .str), .cell (.val (.int .u8)), d, d, d, .cell (.own .str 100500 false), .cell (.val (.int .i64)), .cell (.val (.int .i64)), d, d, d, d, d, d, d, d, d, d, d, d, d, d, d, d, d, d, d, d, d, d, d, d, d, d, d, d]
def xs217_4 : List (Ex × List Fm) := [(.exit 0, [d, d, d, d, d, .cell (.own .str 100500 false), d, d, d, d, d, d, d, d, d, d, d, d, d, d, d, d, d, d, d, d, d, d, d, d, d, d, d, d, d, d])]
noncomputable def spec_l13Cut_l4 : (ByteArray × Int × (List ByteArray) × Int × Int × Unit) → Option ((ByteArray × Int × (List ByteArray) × Int × Int × Unit) ⊕ (((List ByteArray) × Unit))) := fun (v0, v1, v5, v6, v7, _) =>
  bif (decide (v7 ≤ (((ByteArray.size v0) : Nat) : Int))) then
    bif (v7 == (((ByteArray.size v0) : Nat) : Int)) then
      if (((0 : Int) ≤ v6) ∧ ((v6 ≤ v7) ∧ (v7 ≤ (((ByteArray.size v0) : Nat) : Int)))) then
        if (((0 + (List.length v5)) = (List.length v5)) ∧ ((((List.length v5) + (List.length (List.take 1 (List.drop 0 [(ByteArray.extract v0 (Int.toNat v6) (Int.toNat v7))])))) * 16) ≤ 140737488355328)) then
          some (Sum.inl (v0, v1, (List.take ((List.length v5) + (List.length (List.take 1 (List.drop 0 [(ByteArray.extract v0 (Int.toNat v6) (Int.toNat v7))])))) (List.drop 0 ((List.drop 0 v5) ++ (List.take 1 (List.drop 0 [(ByteArray.extract v0 (Int.toNat v6) (Int.toNat v7))]))))), (IntKind.wrap .i64 (v7 + (1 : Int))), (IntKind.wrap .i64 (v7 + (1 : Int))), ()))
        else
          none
      else
        none
    else
      if (((0 : Int) ≤ v7) ∧ (v7 < (((ByteArray.size v0) : Nat) : Int))) then
        bif ((((UInt8.toNat (Array.getD (ByteArray.data v0) (Int.toNat v7) (0 : UInt8))) : Nat) : Int) == v1) then
          if (((0 : Int) ≤ v6) ∧ ((v6 ≤ v7) ∧ (v7 ≤ (((ByteArray.size v0) : Nat) : Int)))) then
            if (((0 + (List.length v5)) = (List.length v5)) ∧ ((((List.length v5) + (List.length (List.take 1 (List.drop 0 [(ByteArray.extract v0 (Int.toNat v6) (Int.toNat v7))])))) * 16) ≤ 140737488355328)) then
              some (Sum.inl (v0, v1, (List.take ((List.length v5) + (List.length (List.take 1 (List.drop 0 [(ByteArray.extract v0 (Int.toNat v6) (Int.toNat v7))])))) (List.drop 0 ((List.drop 0 v5) ++ (List.take 1 (List.drop 0 [(ByteArray.extract v0 (Int.toNat v6) (Int.toNat v7))]))))), (IntKind.wrap .i64 (v7 + (1 : Int))), (IntKind.wrap .i64 (v7 + (1 : Int))), ()))
            else
              none
          else
            none
        else
          some (Sum.inl (v0, v1, (List.take (List.length v5) (List.drop 0 v5)), v6, (IntKind.wrap .i64 (v7 + (1 : Int))), ()))
      else
        none
  else
    some (Sum.inr ((List.take (List.length v5) (List.drop 0 v5)), ()))
theorem spec_l13Cut_l4_eq : loopStep 36 E217 L217_0 (loopOf f217 4) sh217_4 xs217_4 = spec_l13Cut_l4 := by kernel_rfl
theorem loop217_4 {L : Nat → Option LoopD} (h : L 4 = some ⟨36, sh217_4, xs217_4, spec_l13Cut_l4⟩) : LoopOk prog L (loopOf f217 4) :=
  loopOk (tysOk_of tyl_ok) E217_ok (codeOk_in (L := L217_0) (tysOk_of tyl_ok) E217_ok mixed (c := loopOf f217 4) (bs := []) (by kernel_rfl) allNil (by kernel_rfl)) (by kernel_rfl) (by kernel_rfl) spec_l13Cut_l4_eq (by rw [show firstId (loopOf f217 4) = 4 from by kernel_rfl]; exact h)
noncomputable def L217_1 : Nat → Option LoopD := fun n => ifEq n 4 (some ⟨36, sh217_4, xs217_4, spec_l13Cut_l4⟩) (L217_0 n)
noncomputable def spec_l13Cut : ByteArray → Int → Option ((List ByteArray)) := fun a0 a1 =>
  Option.bind (loopF spec_l13Cut_l4 (a0, a1, (List.take 0 (List.drop 0 [])), (0 : Int), (0 : Int), ())) fun (r0, _) =>
    some (List.take (List.length r0) (List.drop 0 r0))
noncomputable def A217 : FnA := ⟨[.v .str, .v (.int .u8)], true, [.sl .str], fun x => spec_l13Cut x.1 x.2.1⟩
theorem spec_l13Cut_eq : fnF E217 L217_1 [.v .str, .v (.int .u8)] true [.sl .str] f217.ntmps f217.results.toList (codeOf f217) = fun x => spec_l13Cut x.1 x.2.1 := by kernel_rfl
theorem A217_ok : FnOk prog 217 A217 := by
  have h := fnOk_of_run (P := prog) (E := E217) (tysOk_of tyl_ok) E217_ok (L := L217_1) (ps := [.v .str, .v (.int .u8)]) (own := true) (outs := [.sl .str]) func217 (c := codeOf f217) (by kernel_rfl) (codeOk_in (L := L217_1) (tysOk_of tyl_ok) E217_ok mixed (c := codeOf f217) (bs := [loopOf f217 4]) (by kernel_rfl) (allCons (loop217_4 rfl) allNil) (by kernel_rfl))
  rw [spec_l13Cut_eq] at h
  exact h
/-! spec.l13Num -/
noncomputable def E218 : Env := ⟨ty0, fun _ => none, fun _ => none, fun _ => none, fun _ => none⟩
theorem E218_ok : FnsOk prog E218 := (noFns _ _)
noncomputable def L218_0 : Nat → Option LoopD := fun _ => none
def sh218_8 : List Fm := [.cell (.val .str), d, d, d, .cell (.val .bool), .cell (.val (.int .i64)), .cell (.val (.int .i64)), d, d, d, d, d, d, d, d, d, d, d, d, d, d, d, d, d, d, d, d, d, d, d, d, d, d, d, d, d, d, d, d, d, d, d, d, d, d, d, d, d, d, d, d, d, d, d, d, d, d, d, d, d, d, d, d, d, d, d, d]
def xs218_8 : List (Ex × List Fm) := [(.ret, [d, d, .cell (.val (.int .i64)), .cell (.val .bool), d, d, d, d, d, d, d, d, d, d, d, d, d, d, d, d, d, d, d, d, d, d, d, d, d, d, d, d, d, d, d, d, d, d, d, d, d, d, d, d, d, d, d, d, d, d, d, d, d, d, d, d, d, d, d, d, d, d, d, d, d, d, d]), (.exit 0, [d, d, d, d, .cell (.val .bool), .cell (.val (.int .i64)), d, d, d, d, d, d, d, d, d, d, d, d, d, d, d, d, d, d, d, d, d, d, d, d, d, d, d, d, d, d, d, d, d, d, d, d, d, d, d, d, d, d, d, d, d, d, d, d, d, d, d, d, d, d, d, d, d, d, d, d, d])]
noncomputable def spec_l13Num_l8 : (ByteArray × Bool × Int × Int × Unit) → Option ((ByteArray × Bool × Int × Int × Unit) ⊕ ((Int × Bool × Unit) ⊕ (Bool × Int × Unit))) := fun (v0, v4, v5, v6, _) =>
  bif (decide (v6 < (((ByteArray.size v0) : Nat) : Int))) then
    if (((0 : Int) ≤ v6) ∧ (v6 < (((ByteArray.size v0) : Nat) : Int))) then
      bif (decide ((((UInt8.toNat (Array.getD (ByteArray.data v0) (Int.toNat v6) (0 : UInt8))) : Nat) : Int) < (48 : Int))) then
        some (Sum.inr (Sum.inl ((0 : Int), false, ())))
      else
        if (((0 : Int) ≤ v6) ∧ (v6 < (((ByteArray.size v0) : Nat) : Int))) then
          bif (decide ((((UInt8.toNat (Array.getD (ByteArray.data v0) (Int.toNat v6) (0 : UInt8))) : Nat) : Int) > (57 : Int))) then
            some (Sum.inr (Sum.inl ((0 : Int), false, ())))
          else
            if (((0 : Int) ≤ v6) ∧ (v6 < (((ByteArray.size v0) : Nat) : Int))) then
              some (Sum.inl (v0, v4, (IntKind.wrap .i64 ((IntKind.wrap .i64 (v5 * (10 : Int))) + (IntKind.wrap .i64 (IntKind.wrap .u8 ((((UInt8.toNat (Array.getD (ByteArray.data v0) (Int.toNat v6) (0 : UInt8))) : Nat) : Int) - (48 : Int)))))), (IntKind.wrap .i64 (v6 + (1 : Int))), ()))
            else
              none
        else
          none
    else
      none
  else
    some (Sum.inr (Sum.inr (v4, v5, ())))
theorem spec_l13Num_l8_eq : loopStep 67 E218 L218_0 (loopOf f218 8) sh218_8 xs218_8 = spec_l13Num_l8 := by kernel_rfl
theorem loop218_8 {L : Nat → Option LoopD} (h : L 8 = some ⟨67, sh218_8, xs218_8, spec_l13Num_l8⟩) : LoopOk prog L (loopOf f218 8) :=
  loopOk (tysOk_of tyl_ok) E218_ok (codeOk_in (L := L218_0) (tysOk_of tyl_ok) E218_ok mixed (c := loopOf f218 8) (bs := []) (by kernel_rfl) allNil (by kernel_rfl)) (by kernel_rfl) (by kernel_rfl) spec_l13Num_l8_eq (by rw [show firstId (loopOf f218 8) = 8 from by kernel_rfl]; exact h)
noncomputable def L218_1 : Nat → Option LoopD := fun n => ifEq n 8 (some ⟨67, sh218_8, xs218_8, spec_l13Num_l8⟩) (L218_0 n)
noncomputable def spec_l13Num : ByteArray → Option (Int × Bool) := fun a0 =>
  bif (decide ((((ByteArray.size a0) : Nat) : Int) > (0 : Int))) then
    if (((0 : Int) ≤ (0 : Int)) ∧ ((0 : Int) < (((ByteArray.size a0) : Nat) : Int))) then
      bif ((((UInt8.toNat (Array.getD (ByteArray.data a0) (Int.toNat (0 : Int)) (0 : UInt8))) : Nat) : Int) == (45 : Int)) then
        if (((0 : Int) ≤ (1 : Int)) ∧ ((1 : Int) ≤ (((ByteArray.size a0) : Nat) : Int))) then
          bif ((((ByteArray.size (ByteArray.extract a0 (Int.toNat (1 : Int)) (ByteArray.size a0))) : Nat) : Int) == (0 : Int)) then
            some ((0 : Int), false)
          else
            bif (decide ((((ByteArray.size (ByteArray.extract a0 (Int.toNat (1 : Int)) (ByteArray.size a0))) : Nat) : Int) > (17 : Int))) then
              some ((0 : Int), false)
            else
              if (((0 : Int) ≤ (0 : Int)) ∧ ((0 : Int) < (((ByteArray.size (ByteArray.extract a0 (Int.toNat (1 : Int)) (ByteArray.size a0))) : Nat) : Int))) then
                bif ((((UInt8.toNat (Array.getD (ByteArray.data (ByteArray.extract a0 (Int.toNat (1 : Int)) (ByteArray.size a0))) (Int.toNat (0 : Int)) (0 : UInt8))) : Nat) : Int) == (48 : Int)) then
                  bif (decide ((((ByteArray.size (ByteArray.extract a0 (Int.toNat (1 : Int)) (ByteArray.size a0))) : Nat) : Int) > (1 : Int))) then
                    some ((0 : Int), false)
                  else
                    bif ((((UInt8.toNat (Array.getD (ByteArray.data a0) (Int.toNat (0 : Int)) (0 : UInt8))) : Nat) : Int) == (45 : Int)) then
                      some ((0 : Int), false)
                    else
                      Option.bind (loopF spec_l13Num_l8 ((ByteArray.extract a0 (Int.toNat (1 : Int)) (ByteArray.size a0)), ((((UInt8.toNat (Array.getD (ByteArray.data a0) (Int.toNat (0 : Int)) (0 : UInt8))) : Nat) : Int) == (45 : Int)), (0 : Int), (0 : Int), ())) fun r0 =>
                        (match r0 with
                        | .inl (d1, d2, _) =>
                            some (d1, d2)
                        | .inr (d3, d4, _) =>
                            bif d3 then
                              some ((IntKind.wrap .i64 ((0 : Int) - d4)), true)
                            else
                              some (d4, true))
                else
                  Option.bind (loopF spec_l13Num_l8 ((ByteArray.extract a0 (Int.toNat (1 : Int)) (ByteArray.size a0)), ((((UInt8.toNat (Array.getD (ByteArray.data a0) (Int.toNat (0 : Int)) (0 : UInt8))) : Nat) : Int) == (45 : Int)), (0 : Int), (0 : Int), ())) fun r5 =>
                    (match r5 with
                    | .inl (d6, d7, _) =>
                        some (d6, d7)
                    | .inr (d8, d9, _) =>
                        bif d8 then
                          some ((IntKind.wrap .i64 ((0 : Int) - d9)), true)
                        else
                          some (d9, true))
              else
                none
        else
          none
      else
        bif ((((ByteArray.size a0) : Nat) : Int) == (0 : Int)) then
          some ((0 : Int), false)
        else
          bif (decide ((((ByteArray.size a0) : Nat) : Int) > (17 : Int))) then
            some ((0 : Int), false)
          else
            if (((0 : Int) ≤ (0 : Int)) ∧ ((0 : Int) < (((ByteArray.size a0) : Nat) : Int))) then
              bif ((((UInt8.toNat (Array.getD (ByteArray.data a0) (Int.toNat (0 : Int)) (0 : UInt8))) : Nat) : Int) == (48 : Int)) then
                bif (decide ((((ByteArray.size a0) : Nat) : Int) > (1 : Int))) then
                  some ((0 : Int), false)
                else
                  bif ((((UInt8.toNat (Array.getD (ByteArray.data a0) (Int.toNat (0 : Int)) (0 : UInt8))) : Nat) : Int) == (45 : Int)) then
                    some ((0 : Int), false)
                  else
                    Option.bind (loopF spec_l13Num_l8 (a0, ((((UInt8.toNat (Array.getD (ByteArray.data a0) (Int.toNat (0 : Int)) (0 : UInt8))) : Nat) : Int) == (45 : Int)), (0 : Int), (0 : Int), ())) fun r10 =>
                      (match r10 with
                      | .inl (d11, d12, _) =>
                          some (d11, d12)
                      | .inr (d13, d14, _) =>
                          bif d13 then
                            some ((IntKind.wrap .i64 ((0 : Int) - d14)), true)
                          else
                            some (d14, true))
              else
                Option.bind (loopF spec_l13Num_l8 (a0, ((((UInt8.toNat (Array.getD (ByteArray.data a0) (Int.toNat (0 : Int)) (0 : UInt8))) : Nat) : Int) == (45 : Int)), (0 : Int), (0 : Int), ())) fun r15 =>
                  (match r15 with
                  | .inl (d16, d17, _) =>
                      some (d16, d17)
                  | .inr (d18, d19, _) =>
                      bif d18 then
                        some ((IntKind.wrap .i64 ((0 : Int) - d19)), true)
                      else
                        some (d19, true))
            else
              none
    else
      none
  else
    bif ((((ByteArray.size a0) : Nat) : Int) == (0 : Int)) then
      some ((0 : Int), false)
    else
      bif (decide ((((ByteArray.size a0) : Nat) : Int) > (17 : Int))) then
        some ((0 : Int), false)
      else
        if (((0 : Int) ≤ (0 : Int)) ∧ ((0 : Int) < (((ByteArray.size a0) : Nat) : Int))) then
          bif ((((UInt8.toNat (Array.getD (ByteArray.data a0) (Int.toNat (0 : Int)) (0 : UInt8))) : Nat) : Int) == (48 : Int)) then
            bif (decide ((((ByteArray.size a0) : Nat) : Int) > (1 : Int))) then
              some ((0 : Int), false)
            else
              Option.bind (loopF spec_l13Num_l8 (a0, false, (0 : Int), (0 : Int), ())) fun r20 =>
                (match r20 with
                | .inl (d21, d22, _) =>
                    some (d21, d22)
                | .inr (d23, d24, _) =>
                    bif d23 then
                      some ((IntKind.wrap .i64 ((0 : Int) - d24)), true)
                    else
                      some (d24, true))
          else
            Option.bind (loopF spec_l13Num_l8 (a0, false, (0 : Int), (0 : Int), ())) fun r25 =>
              (match r25 with
              | .inl (d26, d27, _) =>
                  some (d26, d27)
              | .inr (d28, d29, _) =>
                  bif d28 then
                    some ((IntKind.wrap .i64 ((0 : Int) - d29)), true)
                  else
                    some (d29, true))
        else
          none
noncomputable def A218 : FnA := ⟨[.v .str], true, [.int .i64, .bool], fun x => spec_l13Num x.1⟩
theorem spec_l13Num_eq : fnF E218 L218_1 [.v .str] true [.int .i64, .bool] f218.ntmps f218.results.toList (codeOf f218) = fun x => spec_l13Num x.1 := by kernel_rfl
theorem A218_ok : FnOk prog 218 A218 := by
  have h := fnOk_of_run (P := prog) (E := E218) (tysOk_of tyl_ok) E218_ok (L := L218_1) (ps := [.v .str]) (own := true) (outs := [.int .i64, .bool]) func218 (c := codeOf f218) (by kernel_rfl) (codeOk_in (L := L218_1) (tysOk_of tyl_ok) E218_ok mixed (c := codeOf f218) (bs := [loopOf f218 8]) (by kernel_rfl) (allCons (loop218_8 rfl) allNil) (by kernel_rfl))
  rw [spec_l13Num_eq] at h
  exact h
/-! spec.l3Read -/
noncomputable def E219 : Env := ⟨ty0, fun g => ifEq g 217 (some A217) (ifEq g 218 (some A218) (none)), fun _ => none, fun _ => none, fun _ => none⟩
theorem E219_ok : FnsOk prog E219 := (oneFn A217_ok func217 (by kernel_rfl) (by kernel_rfl) (oneFn A218_ok func218 (by kernel_rfl) (by kernel_rfl) (noFns _ _)))
noncomputable def L219_0 : Nat → Option LoopD := fun _ => none
def sh219_5 : List Fm := [d, d, d, d, .cell (.own (.int .i64) 100400 false), d, d, d, d, d, d, d, d, d, .cell (.own .str 101400 false), .cell (.val (.int .i64)), .cell (.val (.int .i64)), d, d, d, d, d, d, d, d, d, d, d, d, d, d, d, d, d]
def xs219_5 : List (Ex × List Fm) := [(.ret, [d, d, .cell (.own (.int .i64) 100200 false), .cell (.val .bool), d, d, d, d, d, d, d, d, d, d, d, d, d, d, d, d, d, d, d, d, d, d, d, d, d, d, d, d, d, d]), (.exit 0, [d, d, d, d, .cell (.own (.int .i64) 100400 false), d, d, d, d, d, d, d, d, d, d, d, d, d, d, d, d, d, d, d, d, d, d, d, d, d, d, d, d, d])]
noncomputable def spec_l3Read_l5 : ((List Int) × (List ByteArray) × Int × Int × Unit) → Option (((List Int) × (List ByteArray) × Int × Int × Unit) ⊕ (((List Int) × Bool × Unit) ⊕ ((List Int) × Unit))) := fun (v4, v14, v15, v16, _) =>
  bif (decide (v16 < v15)) then
    if (((0 : Int) ≤ v16) ∧ (v16 < (((List.length v14) : Nat) : Int))) then
      Option.bind (spec_l13Num (List.getD v14 (0 + (Int.toNat v16)) (⟨Array.empty⟩ : ByteArray))) fun (r0, r1) =>
        bif (!r1) then
          some (Sum.inr (Sum.inl ((List.take 0 (List.drop 0 [])), false, ())))
        else
          if (((0 + (List.length v4)) = (List.length v4)) ∧ ((((List.length v4) + (List.length (List.take 1 (List.drop 0 [r0])))) * 8) ≤ 140737488355328)) then
            some (Sum.inl ((List.take ((List.length v4) + (List.length (List.take 1 (List.drop 0 [r0])))) (List.drop 0 ((List.drop 0 v4) ++ (List.take 1 (List.drop 0 [r0]))))), (List.take (List.length v14) (List.drop 0 v14)), v15, (IntKind.wrap .i64 (v16 + (1 : Int))), ()))
          else
            none
    else
      none
  else
    some (Sum.inr (Sum.inr ((List.take (List.length v4) (List.drop 0 v4)), ())))
theorem spec_l3Read_l5_eq : loopStep 34 E219 L219_0 (loopOf f219 5) sh219_5 xs219_5 = spec_l3Read_l5 := by kernel_rfl
theorem loop219_5 {L : Nat → Option LoopD} (h : L 5 = some ⟨34, sh219_5, xs219_5, spec_l3Read_l5⟩) : LoopOk prog L (loopOf f219 5) :=
  loopOk (tysOk_of tyl_ok) E219_ok (codeOk_in (L := L219_0) (tysOk_of tyl_ok) E219_ok mixed (c := loopOf f219 5) (bs := []) (by kernel_rfl) allNil (by kernel_rfl)) (by kernel_rfl) (by kernel_rfl) spec_l3Read_l5_eq (by rw [show firstId (loopOf f219 5) = 5 from by kernel_rfl]; exact h)
noncomputable def L219_1 : Nat → Option LoopD := fun n => ifEq n 5 (some ⟨34, sh219_5, xs219_5, spec_l3Read_l5⟩) (L219_0 n)
noncomputable def spec_l3Read : ByteArray → Option ((List Int) × Bool) := fun a0 =>
  bif ((ByteArray.toList a0) == (ByteArray.toList (⟨#[]⟩ : ByteArray))) then
    some ((List.take 0 (List.drop 0 [])), true)
  else
    Option.bind (spec_l13Cut a0 (32 : Int)) fun r0 =>
      Option.bind (loopF spec_l3Read_l5 ((List.take 0 (List.drop 0 [])), (List.take (List.length r0) (List.drop 0 r0)), (((List.length r0) : Nat) : Int), (0 : Int), ())) fun r1 =>
        (match r1 with
        | .inl (d2, d3, _) =>
            some ((List.take (List.length d2) (List.drop 0 d2)), d3)
        | .inr (d4, _) =>
            some ((List.take (List.length d4) (List.drop 0 d4)), true))
noncomputable def A219 : FnA := ⟨[.v .str], true, [.sl (.int .i64), .bool], fun x => spec_l3Read x.1⟩
theorem spec_l3Read_eq : fnF E219 L219_1 [.v .str] true [.sl (.int .i64), .bool] f219.ntmps f219.results.toList (codeOf f219) = fun x => spec_l3Read x.1 := by kernel_rfl
theorem A219_ok : FnOk prog 219 A219 := by
  have h := fnOk_of_run (P := prog) (E := E219) (tysOk_of tyl_ok) E219_ok (L := L219_1) (ps := [.v .str]) (own := true) (outs := [.sl (.int .i64), .bool]) func219 (c := codeOf f219) (by kernel_rfl) (codeOk_in (L := L219_1) (tysOk_of tyl_ok) E219_ok mixed (c := codeOf f219) (bs := [loopOf f219 5]) (by kernel_rfl) (allCons (loop219_5 rfl) allNil) (by kernel_rfl))
  rw [spec_l3Read_eq] at h
  exact h
/-! spec.l1In -/
noncomputable def E79 : Env := ⟨ty0, fun _ => none, fun _ => none, fun _ => none, fun _ => none⟩
theorem E79_ok : FnsOk prog E79 := (noFns _ _)
noncomputable def L79_0 : Nat → Option LoopD := fun _ => none
noncomputable def spec_l1In : Int → Int → Int → Option (Bool) := fun a0 a1 a2 =>
  bif (decide (a0 ≥ a1)) then
    some (decide (a0 ≤ a2))
  else
    some false
noncomputable def A79 : FnA := ⟨[.v (.int .i64), .v (.int .i64), .v (.int .i64)], true, [.bool], fun x => spec_l1In x.1 x.2.1 x.2.2.1⟩
theorem spec_l1In_eq : fnF E79 L79_0 [.v (.int .i64), .v (.int .i64), .v (.int .i64)] true [.bool] f79.ntmps f79.results.toList (codeOf f79) = fun x => spec_l1In x.1 x.2.1 x.2.2.1 := by kernel_rfl
theorem A79_ok : FnOk prog 79 A79 := by
  have h := fnOk_of_run (P := prog) (E := E79) (tysOk_of tyl_ok) E79_ok (L := L79_0) (ps := [.v (.int .i64), .v (.int .i64), .v (.int .i64)]) (own := true) (outs := [.bool]) func79 (c := codeOf f79) (by kernel_rfl) (codeOk_in (L := L79_0) (tysOk_of tyl_ok) E79_ok mixed (c := codeOf f79) (bs := []) (by kernel_rfl) allNil (by kernel_rfl))
  rw [spec_l1In_eq] at h
  exact h
/-! spec.l3Marks -/
noncomputable def E128 : Env := ⟨ty0, fun g => ifEq g 79 (some A79) (none), fun _ => none, fun _ => none, fun _ => none⟩
theorem E128_ok : FnsOk prog E128 := (oneFn A79_ok func79 (by kernel_rfl) (by kernel_rfl) (noFns _ _))
noncomputable def L128_0 : Nat → Option LoopD := fun _ => none
def sh128_2 : List Fm := [.cell (.val (.int .i64)), .cell (.val (.sl (.int .i64))), d, d, d, d, d, .cell (.val (.sl (.int .i64))), .cell (.val (.int .i64)), .cell (.val (.int .i64)), d, d, d, d, d, d, d, d, d, d, d, d, d, d, d, d, d, d, d, d, d, d, d]
def xs128_2 : List (Ex × List Fm) := [(.ret, [d, d, d, d, .cell (.val .bool), d, d, d, d, d, d, d, d, d, d, d, d, d, d, d, d, d, d, d, d, d, d, d, d, d, d, d, d]), (.exit 0, [d, d, d, d, d, d, d, d, d, d, d, d, d, d, d, d, d, d, d, d, d, d, d, d, d, d, d, d, d, d, d, d, d])]
noncomputable def spec_l3Marks_l2 : (Int × (List Int) × (List Int) × Int × Int × Unit) → Option ((Int × (List Int) × (List Int) × Int × Int × Unit) ⊕ ((Bool × Unit) ⊕ (Unit))) := fun (v0, v1, v7, v8, v9, _) =>
  bif (decide (v9 < v8)) then
    if (((0 : Int) ≤ v9) ∧ (v9 < (((List.length v7) : Nat) : Int))) then
      Option.bind (spec_l1In (List.getD v7 (Int.toNat v9) (0 : Int)) (0 : Int) (IntKind.wrap .i64 (v0 - (1 : Int)))) fun r0 =>
        bif (!r0) then
          some (Sum.inr (Sum.inl (false, ())))
        else
          bif (decide (v9 > (0 : Int))) then
            if (((0 : Int) ≤ (IntKind.wrap .i64 (v9 - (1 : Int)))) ∧ ((IntKind.wrap .i64 (v9 - (1 : Int))) < (((List.length v1) : Nat) : Int))) then
              bif (decide ((List.getD v1 (Int.toNat (IntKind.wrap .i64 (v9 - (1 : Int)))) (0 : Int)) ≥ (List.getD v7 (Int.toNat v9) (0 : Int)))) then
                some (Sum.inr (Sum.inl (false, ())))
              else
                some (Sum.inl (v0, v1, v7, v8, (IntKind.wrap .i64 (v9 + (1 : Int))), ()))
            else
              none
          else
            some (Sum.inl (v0, v1, v7, v8, (IntKind.wrap .i64 (v9 + (1 : Int))), ()))
    else
      none
  else
    some (Sum.inr (Sum.inr ()))
theorem spec_l3Marks_l2_eq : loopStep 33 E128 L128_0 (loopOf f128 2) sh128_2 xs128_2 = spec_l3Marks_l2 := by kernel_rfl
theorem loop128_2 {L : Nat → Option LoopD} (h : L 2 = some ⟨33, sh128_2, xs128_2, spec_l3Marks_l2⟩) : LoopOk prog L (loopOf f128 2) :=
  loopOk (tysOk_of tyl_ok) E128_ok (codeOk_in (L := L128_0) (tysOk_of tyl_ok) E128_ok mixed (c := loopOf f128 2) (bs := []) (by kernel_rfl) allNil (by kernel_rfl)) (by kernel_rfl) (by kernel_rfl) spec_l3Marks_l2_eq (by rw [show firstId (loopOf f128 2) = 2 from by kernel_rfl]; exact h)
noncomputable def L128_1 : Nat → Option LoopD := fun n => ifEq n 2 (some ⟨33, sh128_2, xs128_2, spec_l3Marks_l2⟩) (L128_0 n)
noncomputable def spec_l3Marks : Int → (List Int) → Option (Bool) := fun a0 a1 =>
  Option.bind (loopF spec_l3Marks_l2 (a0, a1, a1, (((List.length a1) : Nat) : Int), (0 : Int), ())) fun r0 =>
    (match r0 with
    | .inl (d1, _) =>
        some d1
    | .inr _ =>
        some true)
noncomputable def A128 : FnA := ⟨[.v (.int .i64), .v (.sl (.int .i64))], true, [.bool], fun x => spec_l3Marks x.1 x.2.1⟩
theorem spec_l3Marks_eq : fnF E128 L128_1 [.v (.int .i64), .v (.sl (.int .i64))] true [.bool] f128.ntmps f128.results.toList (codeOf f128) = fun x => spec_l3Marks x.1 x.2.1 := by kernel_rfl
theorem A128_ok : FnOk prog 128 A128 := by
  have h := fnOk_of_run (P := prog) (E := E128) (tysOk_of tyl_ok) E128_ok (L := L128_1) (ps := [.v (.int .i64), .v (.sl (.int .i64))]) (own := true) (outs := [.bool]) func128 (c := codeOf f128) (by kernel_rfl) (codeOk_in (L := L128_1) (tysOk_of tyl_ok) E128_ok mixed (c := codeOf f128) (bs := [loopOf f128 2]) (by kernel_rfl) (allCons (loop128_2 rfl) allNil) (by kernel_rfl))
  rw [spec_l3Marks_eq] at h
  exact h
/-! spec.l3Step -/
noncomputable def E129 : Env := ⟨ty0, fun g => ifEq g 79 (some A79) (none), fun _ => none, fun _ => none, fun _ => none⟩
theorem E129_ok : FnsOk prog E129 := (oneFn A79_ok func79 (by kernel_rfl) (by kernel_rfl) (noFns _ _))
noncomputable def L129_0 : Nat → Option LoopD := fun _ => none
noncomputable def spec_l3Step : Int → (Int × (ByteArray × (Int × Int))) → Option (Bool) := fun a0 (a1_0, a1_1, a1_2, a1_3) =>
  Option.bind (spec_l1In a1_0 (0 : Int) (IntKind.wrap .i64 (a0 - (1 : Int)))) fun r0 =>
    bif r0 then
      Option.bind (spec_l1In a1_2 (0 : Int) (IntKind.wrap .i64 (a0 - (1 : Int)))) fun r1 =>
        bif r1 then
          Option.bind (spec_l1In a1_3 (0 : Int) (3 : Int)) fun r2 =>
            bif r2 then
              bif ((ByteArray.toList a1_1) == (ByteArray.toList (⟨#[(97 : UInt8)]⟩ : ByteArray))) then
                some true
              else
                some ((ByteArray.toList a1_1) == (ByteArray.toList (⟨#[(98 : UInt8)]⟩ : ByteArray)))
            else
              some false
        else
          some false
    else
      some false
noncomputable def A129 : FnA := ⟨[.v (.int .i64), .v (.pair (.int .i64) (.pair .str (.pair (.int .i64) (.int .i64))))], true, [.bool], fun x => spec_l3Step x.1 x.2.1⟩
theorem spec_l3Step_eq : fnF E129 L129_0 [.v (.int .i64), .v (.pair (.int .i64) (.pair .str (.pair (.int .i64) (.int .i64))))] true [.bool] f129.ntmps f129.results.toList (codeOf f129) = fun x => spec_l3Step x.1 x.2.1 := by kernel_rfl
theorem A129_ok : FnOk prog 129 A129 := by
  have h := fnOk_of_run (P := prog) (E := E129) (tysOk_of tyl_ok) E129_ok (L := L129_0) (ps := [.v (.int .i64), .v (.pair (.int .i64) (.pair .str (.pair (.int .i64) (.int .i64))))]) (own := true) (outs := [.bool]) func129 (c := codeOf f129) (by kernel_rfl) (codeOk_in (L := L129_0) (tysOk_of tyl_ok) E129_ok mixed (c := codeOf f129) (bs := []) (by kernel_rfl) allNil (by kernel_rfl))
  rw [spec_l3Step_eq] at h
  exact h
/-! spec.l3Before -/
noncomputable def E130 : Env := ⟨ty0, fun _ => none, fun _ => none, fun _ => none, fun _ => none⟩
theorem E130_ok : FnsOk prog E130 := (noFns _ _)
noncomputable def L130_0 : Nat → Option LoopD := fun _ => none
noncomputable def spec_l3Before : (Int × (ByteArray × (Int × Int))) → (Int × (ByteArray × (Int × Int))) → Option (Bool) := fun (a0_0, a0_1, a0_2, a0_3) (a1_0, a1_1, a1_2, a1_3) =>
  bif (a0_0 != a1_0) then
    some (decide (a0_0 < a1_0))
  else
    bif (!((ByteArray.toList a0_1) == (ByteArray.toList a1_1))) then
      some (Op.bytesLess (ByteArray.toList a0_1) (ByteArray.toList a1_1))
    else
      some (decide (a0_2 < a1_2))
noncomputable def A130 : FnA := ⟨[.v (.pair (.int .i64) (.pair .str (.pair (.int .i64) (.int .i64)))), .v (.pair (.int .i64) (.pair .str (.pair (.int .i64) (.int .i64))))], true, [.bool], fun x => spec_l3Before x.1 x.2.1⟩
theorem spec_l3Before_eq : fnF E130 L130_0 [.v (.pair (.int .i64) (.pair .str (.pair (.int .i64) (.int .i64)))), .v (.pair (.int .i64) (.pair .str (.pair (.int .i64) (.int .i64))))] true [.bool] f130.ntmps f130.results.toList (codeOf f130) = fun x => spec_l3Before x.1 x.2.1 := by kernel_rfl
theorem A130_ok : FnOk prog 130 A130 := by
  have h := fnOk_of_run (P := prog) (E := E130) (tysOk_of tyl_ok) E130_ok (L := L130_0) (ps := [.v (.pair (.int .i64) (.pair .str (.pair (.int .i64) (.int .i64)))), .v (.pair (.int .i64) (.pair .str (.pair (.int .i64) (.int .i64))))]) (own := true) (outs := [.bool]) func130 (c := codeOf f130) (by kernel_rfl) (codeOk_in (L := L130_0) (tysOk_of tyl_ok) E130_ok mixed (c := codeOf f130) (bs := []) (by kernel_rfl) allNil (by kernel_rfl))
  rw [spec_l3Before_eq] at h
  exact h
/-! spec.AutomatonValid -/
noncomputable def E78 : Env := ⟨ty0, fun g => ifEq g 79 (some A79) (ifEq g 128 (some A128) (ifEq g 129 (some A129) (ifEq g 130 (some A130) (none)))), fun _ => none, fun _ => none, fun _ => none⟩
theorem E78_ok : FnsOk prog E78 := (oneFn A79_ok func79 (by kernel_rfl) (by kernel_rfl) (oneFn A128_ok func128 (by kernel_rfl) (by kernel_rfl) (oneFn A129_ok func129 (by kernel_rfl) (by kernel_rfl) (oneFn A130_ok func130 (by kernel_rfl) (by kernel_rfl) (noFns _ _)))))
noncomputable def L78_0 : Nat → Option LoopD := fun _ => none
def sh78_4 : List Fm := [d, .box 100100 [.val (.int .i64), .val (.sl (.int .i64)), .val (.sl (.int .i64)), .val (.sl (.pair (.int .i64) (.pair .str (.pair (.int .i64) (.int .i64)))))], d, d, d, d, d, d, d, d, d, d, d, d, d, d, d, d, d, d, d, d, d, d, d, d, d, d, d, d, d, d, .cell (.val (.sl (.pair (.int .i64) (.pair .str (.pair (.int .i64) (.int .i64)))))), .cell (.val (.int .i64)), .cell (.val (.int .i64)), d, d, d, d, d, d, d, d, d, d, d, d, d, d, d, d, d, d, d, d, d, d, d, d, d]
def xs78_4 : List (Ex × List Fm) := [(.ret, [d, d, .cell (.val .bool), d, d, d, d, d, d, d, d, d, d, d, d, d, d, d, d, d, d, d, d, d, d, d, d, d, d, d, d, d, d, d, d, d, d, d, d, d, d, d, d, d, d, d, d, d, d, d, d, d, d, d, d, d, d, d, d, d]), (.exit 0, [d, d, d, d, d, d, d, d, d, d, d, d, d, d, d, d, d, d, d, d, d, d, d, d, d, d, d, d, d, d, d, d, d, d, d, d, d, d, d, d, d, d, d, d, d, d, d, d, d, d, d, d, d, d, d, d, d, d, d, d])]
noncomputable def spec_AutomatonValid_l4 : ((Int × (List Int) × (List Int) × (List (Int × (ByteArray × (Int × Int)))) × Unit) × (List (Int × (ByteArray × (Int × Int)))) × Int × Int × Unit) → Option (((Int × (List Int) × (List Int) × (List (Int × (ByteArray × (Int × Int)))) × Unit) × (List (Int × (ByteArray × (Int × Int)))) × Int × Int × Unit) ⊕ ((Bool × Unit) ⊕ (Unit))) := fun ((v1_0, v1_1, v1_2, v1_3, _), v32, v33, v34, _) =>
  bif (decide (v34 < v33)) then
    if (((0 : Int) ≤ v34) ∧ (v34 < (((List.length v32) : Nat) : Int))) then
      Option.bind (spec_l3Step v1_0 ((List.getD v32 (Int.toNat v34) ((0 : Int), (⟨Array.empty⟩ : ByteArray), (0 : Int), (0 : Int))).1, (List.getD v32 (Int.toNat v34) ((0 : Int), (⟨Array.empty⟩ : ByteArray), (0 : Int), (0 : Int))).2.1, (List.getD v32 (Int.toNat v34) ((0 : Int), (⟨Array.empty⟩ : ByteArray), (0 : Int), (0 : Int))).2.2.1, (List.getD v32 (Int.toNat v34) ((0 : Int), (⟨Array.empty⟩ : ByteArray), (0 : Int), (0 : Int))).2.2.2)) fun r0 =>
        bif (!r0) then
          some (Sum.inr (Sum.inl (false, ())))
        else
          bif (decide (v34 > (0 : Int))) then
            if (((0 : Int) ≤ (IntKind.wrap .i64 (v34 - (1 : Int)))) ∧ ((IntKind.wrap .i64 (v34 - (1 : Int))) < (((List.length v1_3) : Nat) : Int))) then
              Option.bind (spec_l3Before (List.getD v1_3 (Int.toNat (IntKind.wrap .i64 (v34 - (1 : Int)))) ((0 : Int), (⟨Array.empty⟩ : ByteArray), (0 : Int), (0 : Int))) ((List.getD v32 (Int.toNat v34) ((0 : Int), (⟨Array.empty⟩ : ByteArray), (0 : Int), (0 : Int))).1, (List.getD v32 (Int.toNat v34) ((0 : Int), (⟨Array.empty⟩ : ByteArray), (0 : Int), (0 : Int))).2.1, (List.getD v32 (Int.toNat v34) ((0 : Int), (⟨Array.empty⟩ : ByteArray), (0 : Int), (0 : Int))).2.2.1, (List.getD v32 (Int.toNat v34) ((0 : Int), (⟨Array.empty⟩ : ByteArray), (0 : Int), (0 : Int))).2.2.2)) fun r1 =>
                bif (!r1) then
                  some (Sum.inr (Sum.inl (false, ())))
                else
                  some (Sum.inl ((v1_0, v1_1, v1_2, v1_3, ()), v32, v33, (IntKind.wrap .i64 (v34 + (1 : Int))), ()))
            else
              none
          else
            some (Sum.inl ((v1_0, v1_1, v1_2, v1_3, ()), v32, v33, (IntKind.wrap .i64 (v34 + (1 : Int))), ()))
    else
      none
  else
    some (Sum.inr (Sum.inr ()))
theorem spec_AutomatonValid_l4_eq : loopStep 60 E78 L78_0 (loopOf f78 4) sh78_4 xs78_4 = spec_AutomatonValid_l4 := by kernel_rfl
theorem loop78_4 {L : Nat → Option LoopD} (h : L 4 = some ⟨60, sh78_4, xs78_4, spec_AutomatonValid_l4⟩) : LoopOk prog L (loopOf f78 4) :=
  loopOk (tysOk_of tyl_ok) E78_ok (codeOk_in (L := L78_0) (tysOk_of tyl_ok) E78_ok mixed (c := loopOf f78 4) (bs := []) (by kernel_rfl) allNil (by kernel_rfl)) (by kernel_rfl) (by kernel_rfl) spec_AutomatonValid_l4_eq (by rw [show firstId (loopOf f78 4) = 4 from by kernel_rfl]; exact h)
noncomputable def L78_1 : Nat → Option LoopD := fun n => ifEq n 4 (some ⟨60, sh78_4, xs78_4, spec_AutomatonValid_l4⟩) (L78_0 n)
noncomputable def spec_AutomatonValid : (Int × ((List Int) × ((List Int) × (List (Int × (ByteArray × (Int × Int))))))) → Option (Bool) := fun (a0_0, a0_1, a0_2, a0_3) =>
  Option.bind (spec_l1In a0_0 (1 : Int) (4 : Int)) fun r0 =>
    bif (!r0) then
      some false
    else
      Option.bind (spec_l3Marks a0_0 a0_1) fun r1 =>
        bif (!r1) then
          some false
        else
          Option.bind (spec_l3Marks a0_0 a0_2) fun r2 =>
            bif (!r2) then
              some false
            else
              bif (decide ((((List.length a0_3) : Nat) : Int) > (24 : Int))) then
                some false
              else
                Option.bind (loopF spec_AutomatonValid_l4 ((a0_0, a0_1, a0_2, a0_3, ()), a0_3, (((List.length a0_3) : Nat) : Int), (0 : Int), ())) fun r3 =>
                  (match r3 with
                  | .inl (d4, _) =>
                      some d4
                  | .inr _ =>
                      some true)
noncomputable def A78 : FnA := ⟨[.v (.pair (.int .i64) (.pair (.sl (.int .i64)) (.pair (.sl (.int .i64)) (.sl (.pair (.int .i64) (.pair .str (.pair (.int .i64) (.int .i64))))))))], true, [.bool], fun x => spec_AutomatonValid x.1⟩
theorem spec_AutomatonValid_eq : fnF E78 L78_1 [.v (.pair (.int .i64) (.pair (.sl (.int .i64)) (.pair (.sl (.int .i64)) (.sl (.pair (.int .i64) (.pair .str (.pair (.int .i64) (.int .i64))))))))] true [.bool] f78.ntmps f78.results.toList (codeOf f78) = fun x => spec_AutomatonValid x.1 := by kernel_rfl
theorem A78_ok : FnOk prog 78 A78 := by
  have h := fnOk_of_run (P := prog) (E := E78) (tysOk_of tyl_ok) E78_ok (L := L78_1) (ps := [.v (.pair (.int .i64) (.pair (.sl (.int .i64)) (.pair (.sl (.int .i64)) (.sl (.pair (.int .i64) (.pair .str (.pair (.int .i64) (.int .i64))))))))]) (own := true) (outs := [.bool]) func78 (c := codeOf f78) (by kernel_rfl) (codeOk_in (L := L78_1) (tysOk_of tyl_ok) E78_ok mixed (c := codeOf f78) (bs := [loopOf f78 4]) (by kernel_rfl) (allCons (loop78_4 rfl) allNil) (by kernel_rfl))
  rw [spec_AutomatonValid_eq] at h
  exact h
/-! spec.ParseAutomaton -/
noncomputable def E210 : Env := ⟨ty0, fun g => ifEq g 217 (some A217) (ifEq g 218 (some A218) (ifEq g 219 (some A219) (ifEq g 78 (some A78) (none)))), fun _ => none, fun _ => none, fun _ => none⟩
theorem E210_ok : FnsOk prog E210 := (oneFn A217_ok func217 (by kernel_rfl) (by kernel_rfl) (oneFn A218_ok func218 (by kernel_rfl) (by kernel_rfl) (oneFn A219_ok func219 (by kernel_rfl) (by kernel_rfl) (oneFn A78_ok func78 (by kernel_rfl) (by kernel_rfl) (noFns _ _)))))
noncomputable def L210_0 : Nat → Option LoopD := fun _ => none
def sh210_11 : List Fm := [d, d, .box 100200 [.val (.int .i64), .own (.int .i64) 100202 false, .own (.int .i64) 100203 false, .own (.pair (.int .i64) (.pair .str (.pair (.int .i64) (.int .i64)))) 100204 false], d, d, d, d, d, d, d, d, .box 101100 [.val (.int .i64), .own (.int .i64) 101102 false, .own (.int .i64) 101103 false, .own (.pair (.int .i64) (.pair .str (.pair (.int .i64) (.int .i64)))) 101104 false], .cell (.val .bool), d, d, d, d, d, d, d, d, d, d, d, d, d, d, d, d, d, d, d, d, d, d, d, d, d, d, d, d, d, d, d, d, d, d, d, d, d, d, d, d, d, d, d, d, d, d, d, d, d, d, d, d, d, d, .cell (.own .str 106700 false), .cell (.val (.int .i64)), .cell (.val (.int .i64)), d, d, d, d, d, d, d, d, d, d, d, d, d, d, d, d, d, d, d, d, d, d, d, d, d, d, d, d, d, d, d, d, d, d, d, d, d, d, d, d, d, d, d, d, d, d, d, d, d, d, d, d, d, d, d, d, d, d, d, d, d]
def xs210_11 : List (Ex × List Fm) := [(.ret, [d, d, .box 100200 [.val (.int .i64), .own (.int .i64) 100202 false, .own (.int .i64) 100203 false, .own (.pair (.int .i64) (.pair .str (.pair (.int .i64) (.int .i64)))) 100204 false], .cell (.val .bool), d, d, d, d, d, d, d, d, d, d, d, d, d, d, d, d, d, d, d, d, d, d, d, d, d, d, d, d, d, d, d, d, d, d, d, d, d, d, d, d, d, d, d, d, d, d, d, d, d, d, d, d, d, d, d, d, d, d, d, d, d, d, d, d, d, d, d, d, d, d, d, d, d, d, d, d, d, d, d, d, d, d, d, d, d, d, d, d, d, d, d, d, d, d, d, d, d, d, d, d, d, d, d, d, d, d, d, d, d, d, d, d, d, d, d, d, d, d, d, d, d, d, d, d, d, d, d]), (.exit 0, [d, d, .box 100200 [.val (.int .i64), .own (.int .i64) 100202 false, .own (.int .i64) 100203 false, .own (.pair (.int .i64) (.pair .str (.pair (.int .i64) (.int .i64)))) 100204 false], d, d, d, d, d, d, d, d, .box 101100 [.val (.int .i64), .own (.int .i64) 101102 false, .own (.int .i64) 101103 false, .own (.pair (.int .i64) (.pair .str (.pair (.int .i64) (.int .i64)))) 101104 false], .cell (.val .bool), d, d, d, d, d, d, d, d, d, d, d, d, d, d, d, d, d, d, d, d, d, d, d, d, d, d, d, d, d, d, d, d, d, d, d, d, d, d, d, d, d, d, d, d, d, d, d, d, d, d, d, d, d, d, d, d, d, d, d, d, d, d, d, d, d, d, d, d, d, d, d, d, d, d, d, d, d, d, d, d, d, d, d, d, d, d, d, d, d, d, d, d, d, d, d, d, d, d, d, d, d, d, d, d, d, d, d, d, d, d, d, d, d, d, d, d, d, d])]
noncomputable def spec_ParseAutomaton_l11 : ((Int × (List Int) × (List Int) × (List (Int × (ByteArray × (Int × Int)))) × Unit) × (Int × (List Int) × (List Int) × (List (Int × (ByteArray × (Int × Int)))) × Unit) × Bool × (List ByteArray) × Int × Int × Unit) → Option (((Int × (List Int) × (List Int) × (List (Int × (ByteArray × (Int × Int)))) × Unit) × (Int × (List Int) × (List Int) × (List (Int × (ByteArray × (Int × Int)))) × Unit) × Bool × (List ByteArray) × Int × Int × Unit) ⊕ (((Int × (List Int) × (List Int) × (List (Int × (ByteArray × (Int × Int)))) × Unit) × Bool × Unit) ⊕ ((Int × (List Int) × (List Int) × (List (Int × (ByteArray × (Int × Int)))) × Unit) × (Int × (List Int) × (List Int) × (List (Int × (ByteArray × (Int × Int)))) × Unit) × Bool × Unit))) := fun ((v2_0, v2_1, v2_2, v2_3, _), (v11_0, v11_1, v11_2, v11_3, _), v12, v67, v68, v69, _) =>
  bif (decide (v69 < v68)) then
    if (((0 : Int) ≤ v69) ∧ (v69 < (((List.length v67) : Nat) : Int))) then
      bif ((((ByteArray.size (List.getD v67 (0 + (Int.toNat v69)) (⟨Array.empty⟩ : ByteArray))) : Nat) : Int) != (5 : Int)) then
        some (Sum.inr (Sum.inl (((0 : Int), [], [], [], ()), false, ())))
      else
        if (((0 : Int) ≤ (3 : Int)) ∧ ((3 : Int) < (((ByteArray.size (List.getD v67 (0 + (Int.toNat v69)) (⟨Array.empty⟩ : ByteArray))) : Nat) : Int))) then
          bif ((((UInt8.toNat (Array.getD (ByteArray.data (List.getD v67 (0 + (Int.toNat v69)) (⟨Array.empty⟩ : ByteArray))) (Int.toNat (3 : Int)) (0 : UInt8))) : Nat) : Int) != (58 : Int)) then
            some (Sum.inr (Sum.inl (((0 : Int), [], [], [], ()), false, ())))
          else
            if (((0 : Int) ≤ (1 : Int)) ∧ ((1 : Int) ≤ (((ByteArray.size (List.getD v67 (0 + (Int.toNat v69)) (⟨Array.empty⟩ : ByteArray))) : Nat) : Int))) then
              Option.bind (spec_l13Num (ByteArray.extract (List.getD v67 (0 + (Int.toNat v69)) (⟨Array.empty⟩ : ByteArray)) 0 (Int.toNat (1 : Int)))) fun (r0, r1) =>
                if (((0 : Int) ≤ (2 : Int)) ∧ (((2 : Int) ≤ (3 : Int)) ∧ ((3 : Int) ≤ (((ByteArray.size (List.getD v67 (0 + (Int.toNat v69)) (⟨Array.empty⟩ : ByteArray))) : Nat) : Int)))) then
                  Option.bind (spec_l13Num (ByteArray.extract (List.getD v67 (0 + (Int.toNat v69)) (⟨Array.empty⟩ : ByteArray)) (Int.toNat (2 : Int)) (Int.toNat (3 : Int)))) fun (r2, r3) =>
                    if (((0 : Int) ≤ (4 : Int)) ∧ ((4 : Int) ≤ (((ByteArray.size (List.getD v67 (0 + (Int.toNat v69)) (⟨Array.empty⟩ : ByteArray))) : Nat) : Int))) then
                      Option.bind (spec_l13Num (ByteArray.extract (List.getD v67 (0 + (Int.toNat v69)) (⟨Array.empty⟩ : ByteArray)) (Int.toNat (4 : Int)) (ByteArray.size (List.getD v67 (0 + (Int.toNat v69)) (⟨Array.empty⟩ : ByteArray))))) fun (r4, r5) =>
                        bif v12 then
                          bif r1 then
                            bif r3 then
                              if (((0 : Int) ≤ (1 : Int)) ∧ (((1 : Int) ≤ (2 : Int)) ∧ ((2 : Int) ≤ (((ByteArray.size (List.getD v67 (0 + (Int.toNat v69)) (⟨Array.empty⟩ : ByteArray))) : Nat) : Int)))) then
                                if (((0 + (List.length v11_3)) = (List.length v11_3)) ∧ ((((List.length v11_3) + (List.length (List.take 1 (List.drop 0 [(r0, (ByteArray.extract (List.getD v67 (0 + (Int.toNat v69)) (⟨Array.empty⟩ : ByteArray)) (Int.toNat (1 : Int)) (Int.toNat (2 : Int))), r2, r4)])))) * 40) ≤ 140737488355328)) then
                                  some (Sum.inl ((v2_0, (List.take (List.length v2_1) (List.drop 0 v2_1)), (List.take (List.length v2_2) (List.drop 0 v2_2)), (List.take (List.length v2_3) (List.drop 0 v2_3)), ()), (v11_0, (List.take (List.length v11_1) (List.drop 0 v11_1)), (List.take (List.length v11_2) (List.drop 0 v11_2)), (List.take ((List.length v11_3) + (List.length (List.take 1 (List.drop 0 [(r0, (ByteArray.extract (List.getD v67 (0 + (Int.toNat v69)) (⟨Array.empty⟩ : ByteArray)) (Int.toNat (1 : Int)) (Int.toNat (2 : Int))), r2, r4)])))) (List.drop 0 ((List.drop 0 v11_3) ++ (List.take 1 (List.drop 0 [(r0, (ByteArray.extract (List.getD v67 (0 + (Int.toNat v69)) (⟨Array.empty⟩ : ByteArray)) (Int.toNat (1 : Int)) (Int.toNat (2 : Int))), r2, r4)]))))), ()), r5, (List.take (List.length v67) (List.drop 0 v67)), v68, (IntKind.wrap .i64 (v69 + (1 : Int))), ()))
                                else
                                  none
                              else
                                none
                            else
                              if (((0 : Int) ≤ (1 : Int)) ∧ (((1 : Int) ≤ (2 : Int)) ∧ ((2 : Int) ≤ (((ByteArray.size (List.getD v67 (0 + (Int.toNat v69)) (⟨Array.empty⟩ : ByteArray))) : Nat) : Int)))) then
                                if (((0 + (List.length v11_3)) = (List.length v11_3)) ∧ ((((List.length v11_3) + (List.length (List.take 1 (List.drop 0 [(r0, (ByteArray.extract (List.getD v67 (0 + (Int.toNat v69)) (⟨Array.empty⟩ : ByteArray)) (Int.toNat (1 : Int)) (Int.toNat (2 : Int))), r2, r4)])))) * 40) ≤ 140737488355328)) then
                                  some (Sum.inl ((v2_0, (List.take (List.length v2_1) (List.drop 0 v2_1)), (List.take (List.length v2_2) (List.drop 0 v2_2)), (List.take (List.length v2_3) (List.drop 0 v2_3)), ()), (v11_0, (List.take (List.length v11_1) (List.drop 0 v11_1)), (List.take (List.length v11_2) (List.drop 0 v11_2)), (List.take ((List.length v11_3) + (List.length (List.take 1 (List.drop 0 [(r0, (ByteArray.extract (List.getD v67 (0 + (Int.toNat v69)) (⟨Array.empty⟩ : ByteArray)) (Int.toNat (1 : Int)) (Int.toNat (2 : Int))), r2, r4)])))) (List.drop 0 ((List.drop 0 v11_3) ++ (List.take 1 (List.drop 0 [(r0, (ByteArray.extract (List.getD v67 (0 + (Int.toNat v69)) (⟨Array.empty⟩ : ByteArray)) (Int.toNat (1 : Int)) (Int.toNat (2 : Int))), r2, r4)]))))), ()), false, (List.take (List.length v67) (List.drop 0 v67)), v68, (IntKind.wrap .i64 (v69 + (1 : Int))), ()))
                                else
                                  none
                              else
                                none
                          else
                            if (((0 : Int) ≤ (1 : Int)) ∧ (((1 : Int) ≤ (2 : Int)) ∧ ((2 : Int) ≤ (((ByteArray.size (List.getD v67 (0 + (Int.toNat v69)) (⟨Array.empty⟩ : ByteArray))) : Nat) : Int)))) then
                              if (((0 + (List.length v11_3)) = (List.length v11_3)) ∧ ((((List.length v11_3) + (List.length (List.take 1 (List.drop 0 [(r0, (ByteArray.extract (List.getD v67 (0 + (Int.toNat v69)) (⟨Array.empty⟩ : ByteArray)) (Int.toNat (1 : Int)) (Int.toNat (2 : Int))), r2, r4)])))) * 40) ≤ 140737488355328)) then
                                some (Sum.inl ((v2_0, (List.take (List.length v2_1) (List.drop 0 v2_1)), (List.take (List.length v2_2) (List.drop 0 v2_2)), (List.take (List.length v2_3) (List.drop 0 v2_3)), ()), (v11_0, (List.take (List.length v11_1) (List.drop 0 v11_1)), (List.take (List.length v11_2) (List.drop 0 v11_2)), (List.take ((List.length v11_3) + (List.length (List.take 1 (List.drop 0 [(r0, (ByteArray.extract (List.getD v67 (0 + (Int.toNat v69)) (⟨Array.empty⟩ : ByteArray)) (Int.toNat (1 : Int)) (Int.toNat (2 : Int))), r2, r4)])))) (List.drop 0 ((List.drop 0 v11_3) ++ (List.take 1 (List.drop 0 [(r0, (ByteArray.extract (List.getD v67 (0 + (Int.toNat v69)) (⟨Array.empty⟩ : ByteArray)) (Int.toNat (1 : Int)) (Int.toNat (2 : Int))), r2, r4)]))))), ()), false, (List.take (List.length v67) (List.drop 0 v67)), v68, (IntKind.wrap .i64 (v69 + (1 : Int))), ()))
                              else
                                none
                            else
                              none
                        else
                          if (((0 : Int) ≤ (1 : Int)) ∧ (((1 : Int) ≤ (2 : Int)) ∧ ((2 : Int) ≤ (((ByteArray.size (List.getD v67 (0 + (Int.toNat v69)) (⟨Array.empty⟩ : ByteArray))) : Nat) : Int)))) then
                            if (((0 + (List.length v11_3)) = (List.length v11_3)) ∧ ((((List.length v11_3) + (List.length (List.take 1 (List.drop 0 [(r0, (ByteArray.extract (List.getD v67 (0 + (Int.toNat v69)) (⟨Array.empty⟩ : ByteArray)) (Int.toNat (1 : Int)) (Int.toNat (2 : Int))), r2, r4)])))) * 40) ≤ 140737488355328)) then
                              some (Sum.inl ((v2_0, (List.take (List.length v2_1) (List.drop 0 v2_1)), (List.take (List.length v2_2) (List.drop 0 v2_2)), (List.take (List.length v2_3) (List.drop 0 v2_3)), ()), (v11_0, (List.take (List.length v11_1) (List.drop 0 v11_1)), (List.take (List.length v11_2) (List.drop 0 v11_2)), (List.take ((List.length v11_3) + (List.length (List.take 1 (List.drop 0 [(r0, (ByteArray.extract (List.getD v67 (0 + (Int.toNat v69)) (⟨Array.empty⟩ : ByteArray)) (Int.toNat (1 : Int)) (Int.toNat (2 : Int))), r2, r4)])))) (List.drop 0 ((List.drop 0 v11_3) ++ (List.take 1 (List.drop 0 [(r0, (ByteArray.extract (List.getD v67 (0 + (Int.toNat v69)) (⟨Array.empty⟩ : ByteArray)) (Int.toNat (1 : Int)) (Int.toNat (2 : Int))), r2, r4)]))))), ()), false, (List.take (List.length v67) (List.drop 0 v67)), v68, (IntKind.wrap .i64 (v69 + (1 : Int))), ()))
                            else
                              none
                          else
                            none
                    else
                      none
                else
                  none
            else
              none
        else
          none
    else
      none
  else
    some (Sum.inr (Sum.inr ((v2_0, (List.take (List.length v2_1) (List.drop 0 v2_1)), (List.take (List.length v2_2) (List.drop 0 v2_2)), (List.take (List.length v2_3) (List.drop 0 v2_3)), ()), (v11_0, (List.take (List.length v11_1) (List.drop 0 v11_1)), (List.take (List.length v11_2) (List.drop 0 v11_2)), (List.take (List.length v11_3) (List.drop 0 v11_3)), ()), v12, ())))
theorem spec_ParseAutomaton_l11_eq : loopStep 131 E210 L210_0 (loopOf f210 11) sh210_11 xs210_11 = spec_ParseAutomaton_l11 := by kernel_rfl
theorem loop210_11 {L : Nat → Option LoopD} (h : L 11 = some ⟨131, sh210_11, xs210_11, spec_ParseAutomaton_l11⟩) : LoopOk prog L (loopOf f210 11) :=
  loopOk (tysOk_of tyl_ok) E210_ok (codeOk_in (L := L210_0) (tysOk_of tyl_ok) E210_ok mixed (c := loopOf f210 11) (bs := []) (by kernel_rfl) allNil (by kernel_rfl)) (by kernel_rfl) (by kernel_rfl) spec_ParseAutomaton_l11_eq (by rw [show firstId (loopOf f210 11) = 11 from by kernel_rfl]; exact h)
noncomputable def L210_1 : Nat → Option LoopD := fun n => ifEq n 11 (some ⟨131, sh210_11, xs210_11, spec_ParseAutomaton_l11⟩) (L210_0 n)
noncomputable def spec_ParseAutomaton : ByteArray → Option ((Int × ((List Int) × ((List Int) × (List (Int × (ByteArray × (Int × Int))))))) × Bool) := fun a0 =>
  Option.bind (spec_l13Cut a0 (59 : Int)) fun r0 =>
    bif ((((List.length r0) : Nat) : Int) != (4 : Int)) then
      some (((0 : Int), [], [], []), false)
    else
      if (((0 : Int) ≤ (0 : Int)) ∧ ((0 : Int) < (((List.length r0) : Nat) : Int))) then
        Option.bind (spec_l13Num (List.getD r0 (0 + (Int.toNat (0 : Int))) (⟨Array.empty⟩ : ByteArray))) fun (r1, r2) =>
          if (((0 : Int) ≤ (1 : Int)) ∧ ((1 : Int) < (((List.length r0) : Nat) : Int))) then
            Option.bind (spec_l3Read (List.getD r0 (0 + (Int.toNat (1 : Int))) (⟨Array.empty⟩ : ByteArray))) fun (r3, r4) =>
              if (((0 : Int) ≤ (2 : Int)) ∧ ((2 : Int) < (((List.length r0) : Nat) : Int))) then
                Option.bind (spec_l3Read (List.getD r0 (0 + (Int.toNat (2 : Int))) (⟨Array.empty⟩ : ByteArray))) fun (r5, r6) =>
                  bif r2 then
                    bif r4 then
                      if (((0 : Int) ≤ (3 : Int)) ∧ ((3 : Int) < (((List.length r0) : Nat) : Int))) then
                        bif (!((ByteArray.toList (List.getD r0 (0 + (Int.toNat (3 : Int))) (⟨Array.empty⟩ : ByteArray))) == (ByteArray.toList (⟨#[]⟩ : ByteArray)))) then
                          if (((0 : Int) ≤ (3 : Int)) ∧ ((3 : Int) < (((List.length r0) : Nat) : Int))) then
                            Option.bind (spec_l13Cut (List.getD r0 (0 + (Int.toNat (3 : Int))) (⟨Array.empty⟩ : ByteArray)) (32 : Int)) fun r7 =>
                              Option.bind (loopF spec_ParseAutomaton_l11 (((0 : Int), [], [], [], ()), (r1, (List.take (List.length r3) (List.drop 0 r3)), (List.take (List.length r5) (List.drop 0 r5)), (List.take 0 (List.drop 0 [])), ()), r6, (List.take (List.length r7) (List.drop 0 r7)), (((List.length r7) : Nat) : Int), (0 : Int), ())) fun r8 =>
                                (match r8 with
                                | .inl ((d9, d10, d11, d12, _), d13, _) =>
                                    some ((d9, (List.take (List.length d10) (List.drop 0 d10)), (List.take (List.length d11) (List.drop 0 d11)), (List.take (List.length d12) (List.drop 0 d12))), d13)
                                | .inr ((d14, d15, d16, d17, _), (d18, d19, d20, d21, _), d22, _) =>
                                    bif (!d22) then
                                      some (((0 : Int), [], [], []), false)
                                    else
                                      Option.bind (spec_AutomatonValid (d18, (List.take (List.length d19) (List.drop 0 d19)), (List.take (List.length d20) (List.drop 0 d20)), (List.take (List.length d21) (List.drop 0 d21)))) fun r23 =>
                                        bif (!r23) then
                                          some (((0 : Int), [], [], []), false)
                                        else
                                          some ((d18, (List.take (List.length d19) (List.drop 0 d19)), (List.take (List.length d20) (List.drop 0 d20)), (List.take (List.length d21) (List.drop 0 d21))), true))
                          else
                            none
                        else
                          bif (!r6) then
                            some (((0 : Int), [], [], []), false)
                          else
                            Option.bind (spec_AutomatonValid (r1, (List.take (List.length r3) (List.drop 0 r3)), (List.take (List.length r5) (List.drop 0 r5)), (List.take 0 (List.drop 0 [])))) fun r24 =>
                              bif (!r24) then
                                some (((0 : Int), [], [], []), false)
                              else
                                some ((r1, (List.take (List.length r3) (List.drop 0 r3)), (List.take (List.length r5) (List.drop 0 r5)), (List.take 0 (List.drop 0 []))), true)
                      else
                        none
                    else
                      if (((0 : Int) ≤ (3 : Int)) ∧ ((3 : Int) < (((List.length r0) : Nat) : Int))) then
                        bif (!((ByteArray.toList (List.getD r0 (0 + (Int.toNat (3 : Int))) (⟨Array.empty⟩ : ByteArray))) == (ByteArray.toList (⟨#[]⟩ : ByteArray)))) then
                          if (((0 : Int) ≤ (3 : Int)) ∧ ((3 : Int) < (((List.length r0) : Nat) : Int))) then
                            Option.bind (spec_l13Cut (List.getD r0 (0 + (Int.toNat (3 : Int))) (⟨Array.empty⟩ : ByteArray)) (32 : Int)) fun r25 =>
                              Option.bind (loopF spec_ParseAutomaton_l11 (((0 : Int), [], [], [], ()), (r1, (List.take (List.length r3) (List.drop 0 r3)), (List.take (List.length r5) (List.drop 0 r5)), (List.take 0 (List.drop 0 [])), ()), false, (List.take (List.length r25) (List.drop 0 r25)), (((List.length r25) : Nat) : Int), (0 : Int), ())) fun r26 =>
                                (match r26 with
                                | .inl ((d27, d28, d29, d30, _), d31, _) =>
                                    some ((d27, (List.take (List.length d28) (List.drop 0 d28)), (List.take (List.length d29) (List.drop 0 d29)), (List.take (List.length d30) (List.drop 0 d30))), d31)
                                | .inr ((d32, d33, d34, d35, _), (d36, d37, d38, d39, _), d40, _) =>
                                    bif (!d40) then
                                      some (((0 : Int), [], [], []), false)
                                    else
                                      Option.bind (spec_AutomatonValid (d36, (List.take (List.length d37) (List.drop 0 d37)), (List.take (List.length d38) (List.drop 0 d38)), (List.take (List.length d39) (List.drop 0 d39)))) fun r41 =>
                                        bif (!r41) then
                                          some (((0 : Int), [], [], []), false)
                                        else
                                          some ((d36, (List.take (List.length d37) (List.drop 0 d37)), (List.take (List.length d38) (List.drop 0 d38)), (List.take (List.length d39) (List.drop 0 d39))), true))
                          else
                            none
                        else
                          some (((0 : Int), [], [], []), false)
                      else
                        none
                  else
                    if (((0 : Int) ≤ (3 : Int)) ∧ ((3 : Int) < (((List.length r0) : Nat) : Int))) then
                      bif (!((ByteArray.toList (List.getD r0 (0 + (Int.toNat (3 : Int))) (⟨Array.empty⟩ : ByteArray))) == (ByteArray.toList (⟨#[]⟩ : ByteArray)))) then
                        if (((0 : Int) ≤ (3 : Int)) ∧ ((3 : Int) < (((List.length r0) : Nat) : Int))) then
                          Option.bind (spec_l13Cut (List.getD r0 (0 + (Int.toNat (3 : Int))) (⟨Array.empty⟩ : ByteArray)) (32 : Int)) fun r42 =>
                            Option.bind (loopF spec_ParseAutomaton_l11 (((0 : Int), [], [], [], ()), (r1, (List.take (List.length r3) (List.drop 0 r3)), (List.take (List.length r5) (List.drop 0 r5)), (List.take 0 (List.drop 0 [])), ()), false, (List.take (List.length r42) (List.drop 0 r42)), (((List.length r42) : Nat) : Int), (0 : Int), ())) fun r43 =>
                              (match r43 with
                              | .inl ((d44, d45, d46, d47, _), d48, _) =>
                                  some ((d44, (List.take (List.length d45) (List.drop 0 d45)), (List.take (List.length d46) (List.drop 0 d46)), (List.take (List.length d47) (List.drop 0 d47))), d48)
                              | .inr ((d49, d50, d51, d52, _), (d53, d54, d55, d56, _), d57, _) =>
                                  bif (!d57) then
                                    some (((0 : Int), [], [], []), false)
                                  else
                                    Option.bind (spec_AutomatonValid (d53, (List.take (List.length d54) (List.drop 0 d54)), (List.take (List.length d55) (List.drop 0 d55)), (List.take (List.length d56) (List.drop 0 d56)))) fun r58 =>
                                      bif (!r58) then
                                        some (((0 : Int), [], [], []), false)
                                      else
                                        some ((d53, (List.take (List.length d54) (List.drop 0 d54)), (List.take (List.length d55) (List.drop 0 d55)), (List.take (List.length d56) (List.drop 0 d56))), true))
                        else
                          none
                      else
                        some (((0 : Int), [], [], []), false)
                    else
                      none
              else
                none
          else
            none
      else
        none
noncomputable def A210 : FnA := ⟨[.v .str], true, [.pair (.int .i64) (.pair (.sl (.int .i64)) (.pair (.sl (.int .i64)) (.sl (.pair (.int .i64) (.pair .str (.pair (.int .i64) (.int .i64))))))), .bool], fun x => spec_ParseAutomaton x.1⟩
theorem spec_ParseAutomaton_eq : fnF E210 L210_1 [.v .str] true [.pair (.int .i64) (.pair (.sl (.int .i64)) (.pair (.sl (.int .i64)) (.sl (.pair (.int .i64) (.pair .str (.pair (.int .i64) (.int .i64))))))), .bool] f210.ntmps f210.results.toList (codeOf f210) = fun x => spec_ParseAutomaton x.1 := by kernel_rfl
theorem A210_ok : FnOk prog 210 A210 := by
  have h := fnOk_of_run (P := prog) (E := E210) (tysOk_of tyl_ok) E210_ok (L := L210_1) (ps := [.v .str]) (own := true) (outs := [.pair (.int .i64) (.pair (.sl (.int .i64)) (.pair (.sl (.int .i64)) (.sl (.pair (.int .i64) (.pair .str (.pair (.int .i64) (.int .i64))))))), .bool]) func210 (c := codeOf f210) (by kernel_rfl) (codeOk_in (L := L210_1) (tysOk_of tyl_ok) E210_ok mixed (c := codeOf f210) (bs := [loopOf f210 11]) (by kernel_rfl) (allCons (loop210_11 rfl) allNil) (by kernel_rfl))
  rw [spec_ParseAutomaton_eq] at h
  exact h
/-! spec.l3Known -/
noncomputable def E192 : Env := ⟨ty0, fun g => ifEq g 210 (some A210) (none), fun _ => none, fun _ => none, fun _ => none⟩
theorem E192_ok : FnsOk prog E192 := (oneFn A210_ok func210 (by kernel_rfl) (by kernel_rfl) (noFns _ _))
noncomputable def L192_0 : Nat → Option LoopD := fun _ => none
noncomputable def spec_l3Known : Int → Option ((Int × ((List Int) × ((List Int) × (List (Int × (ByteArray × (Int × Int)))))))) := fun a0 =>
  if (((9 : Nat) : Int) = (0 : Int)) then
    none
  else
    if (((0 : Int) ≤ (Int.tmod a0 ((9 : Nat) : Int))) ∧ ((Int.tmod a0 ((9 : Nat) : Int)) < ((9 : Nat) : Int))) then
      Option.bind (spec_ParseAutomaton (List.getD [(⟨#[(49 : UInt8), (59 : UInt8), (48 : UInt8), (59 : UInt8), (48 : UInt8), (59 : UInt8), (48 : UInt8), (97 : UInt8), (48 : UInt8), (58 : UInt8), (49 : UInt8), (32 : UInt8), (48 : UInt8), (98 : UInt8), (48 : UInt8), (58 : UInt8), (48 : UInt8)]⟩ : ByteArray), (⟨#[(50 : UInt8), (59 : UInt8), (48 : UInt8), (59 : UInt8), (49 : UInt8), (59 : UInt8), (48 : UInt8), (97 : UInt8), (48 : UInt8), (58 : UInt8), (48 : UInt8), (32 : UInt8), (48 : UInt8), (97 : UInt8), (49 : UInt8), (58 : UInt8), (49 : UInt8), (32 : UInt8), (49 : UInt8), (98 : UInt8), (49 : UInt8), (58 : UInt8), (48 : UInt8)]⟩ : ByteArray), (⟨#[(50 : UInt8), (59 : UInt8), (48 : UInt8), (32 : UInt8), (49 : UInt8), (59 : UInt8), (48 : UInt8), (32 : UInt8), (49 : UInt8), (59 : UInt8), (48 : UInt8), (97 : UInt8), (48 : UInt8), (58 : UInt8), (49 : UInt8), (32 : UInt8), (48 : UInt8), (98 : UInt8), (48 : UInt8), (58 : UInt8), (48 : UInt8), (32 : UInt8), (49 : UInt8), (97 : UInt8), (49 : UInt8), (58 : UInt8), (48 : UInt8), (32 : UInt8), (49 : UInt8), (98 : UInt8), (49 : UInt8), (58 : UInt8), (49 : UInt8)]⟩ : ByteArray), (⟨#[(51 : UInt8), (59 : UInt8), (48 : UInt8), (59 : UInt8), (48 : UInt8), (32 : UInt8), (50 : UInt8), (59 : UInt8), (48 : UInt8), (97 : UInt8), (48 : UInt8), (58 : UInt8), (48 : UInt8), (32 : UInt8), (48 : UInt8), (97 : UInt8), (49 : UInt8), (58 : UInt8), (48 : UInt8), (32 : UInt8), (48 : UInt8), (98 : UInt8), (48 : UInt8), (58 : UInt8), (49 : UInt8), (32 : UInt8), (49 : UInt8), (97 : UInt8), (49 : UInt8), (58 : UInt8), (49 : UInt8), (32 : UInt8), (49 : UInt8), (98 : UInt8), (50 : UInt8), (58 : UInt8), (48 : UInt8), (32 : UInt8), (50 : UInt8), (97 : UInt8), (50 : UInt8), (58 : UInt8), (48 : UInt8), (32 : UInt8), (50 : UInt8), (98 : UInt8), (50 : UInt8), (58 : UInt8), (48 : UInt8)]⟩ : ByteArray), (⟨#[(50 : UInt8), (59 : UInt8), (48 : UInt8), (59 : UInt8), (48 : UInt8), (59 : UInt8), (48 : UInt8), (97 : UInt8), (49 : UInt8), (58 : UInt8), (49 : UInt8), (32 : UInt8), (49 : UInt8), (98 : UInt8), (48 : UInt8), (58 : UInt8), (48 : UInt8)]⟩ : ByteArray), (⟨#[(51 : UInt8), (59 : UInt8), (48 : UInt8), (59 : UInt8), (50 : UInt8), (59 : UInt8), (48 : UInt8), (97 : UInt8), (48 : UInt8), (58 : UInt8), (48 : UInt8), (32 : UInt8), (48 : UInt8), (98 : UInt8), (48 : UInt8), (58 : UInt8), (48 : UInt8), (32 : UInt8), (48 : UInt8), (98 : UInt8), (49 : UInt8), (58 : UInt8), (48 : UInt8), (32 : UInt8), (49 : UInt8), (97 : UInt8), (49 : UInt8), (58 : UInt8), (49 : UInt8), (32 : UInt8), (49 : UInt8), (98 : UInt8), (50 : UInt8), (58 : UInt8), (48 : UInt8), (32 : UInt8), (50 : UInt8), (97 : UInt8), (50 : UInt8), (58 : UInt8), (48 : UInt8), (32 : UInt8), (50 : UInt8), (98 : UInt8), (50 : UInt8), (58 : UInt8), (48 : UInt8)]⟩ : ByteArray), (⟨#[(49 : UInt8), (59 : UInt8), (48 : UInt8), (59 : UInt8), (48 : UInt8), (59 : UInt8), (48 : UInt8), (97 : UInt8), (48 : UInt8), (58 : UInt8), (48 : UInt8)]⟩ : ByteArray), (⟨#[(50 : UInt8), (59 : UInt8), (48 : UInt8), (59 : UInt8), (48 : UInt8), (32 : UInt8), (49 : UInt8), (59 : UInt8), (48 : UInt8), (97 : UInt8), (48 : UInt8), (58 : UInt8), (48 : UInt8), (32 : UInt8), (48 : UInt8), (98 : UInt8), (49 : UInt8), (58 : UInt8), (49 : UInt8), (32 : UInt8), (49 : UInt8), (97 : UInt8), (48 : UInt8), (58 : UInt8), (48 : UInt8), (32 : UInt8), (49 : UInt8), (98 : UInt8), (49 : UInt8), (58 : UInt8), (48 : UInt8)]⟩ : ByteArray), (⟨#[(50 : UInt8), (59 : UInt8), (48 : UInt8), (59 : UInt8), (49 : UInt8), (59 : UInt8), (48 : UInt8), (97 : UInt8), (49 : UInt8), (58 : UInt8), (50 : UInt8), (32 : UInt8), (49 : UInt8), (97 : UInt8), (49 : UInt8), (58 : UInt8), (48 : UInt8), (32 : UInt8), (49 : UInt8), (98 : UInt8), (48 : UInt8), (58 : UInt8), (49 : UInt8)]⟩ : ByteArray)] (0 + (Int.toNat (Int.tmod a0 ((9 : Nat) : Int)))) (⟨Array.empty⟩ : ByteArray))) fun ((r0, r1, r2, r3), r4) =>
        some (r0, (List.take (List.length r1) (List.drop 0 r1)), (List.take (List.length r2) (List.drop 0 r2)), (List.take (List.length r3) (List.drop 0 r3)))
    else
      none
noncomputable def A192 : FnA := ⟨[.v (.int .i64)], true, [.pair (.int .i64) (.pair (.sl (.int .i64)) (.pair (.sl (.int .i64)) (.sl (.pair (.int .i64) (.pair .str (.pair (.int .i64) (.int .i64)))))))], fun x => spec_l3Known x.1⟩
theorem spec_l3Known_eq : fnF E192 L192_0 [.v (.int .i64)] true [.pair (.int .i64) (.pair (.sl (.int .i64)) (.pair (.sl (.int .i64)) (.sl (.pair (.int .i64) (.pair .str (.pair (.int .i64) (.int .i64)))))))] f192.ntmps f192.results.toList (codeOf f192) = fun x => spec_l3Known x.1 := by kernel_rfl
theorem A192_ok : FnOk prog 192 A192 := by
  have h := fnOk_of_run (P := prog) (E := E192) (tysOk_of tyl_ok) E192_ok (L := L192_0) (ps := [.v (.int .i64)]) (own := true) (outs := [.pair (.int .i64) (.pair (.sl (.int .i64)) (.pair (.sl (.int .i64)) (.sl (.pair (.int .i64) (.pair .str (.pair (.int .i64) (.int .i64)))))))]) func192 (c := codeOf f192) (by kernel_rfl) (codeOk_in (L := L192_0) (tysOk_of tyl_ok) E192_ok mixed (c := codeOf f192) (bs := []) (by kernel_rfl) allNil (by kernel_rfl))
  rw [spec_l3Known_eq] at h
  exact h
/-! spec.l3Some -/
noncomputable def E193 : Env := ⟨ty0, fun _ => none, fun g => ifEq g 141 (some A141) (none), fun _ => none, fun _ => none⟩
theorem E193_ok : FnsOk prog E193 := (oneMs A141_ok (by kernel_rfl) func141 (by kernel_rfl) (by kernel_rfl) (noFns _ _))
noncomputable def L193_0 : Nat → Option LoopD := fun _ => none
def sh193_3 : List Fm := [.box 200000 [.val (.sl (.int .u8)), .val (.int .i64)], d, d, d, d, .cell (.own (.int .i64) 100500 false), d, d, .cell (.val (.int .i64)), .cell (.val (.int .i64)), d, d, d, d, d, d, d, d, d, d, d]
def xs193_3 : List (Ex × List Fm) := [(.exit 0, [.box 200000 [.val (.sl (.int .u8)), .val (.int .i64)], d, d, d, d, .cell (.own (.int .i64) 100500 false), d, d, d, d, d, d, d, d, d, d, d, d, d, d, d])]
noncomputable def spec_l3Some_l3 : (((List Int) × Int × Unit) × (List Int) × Int × Int × Unit) → Option ((((List Int) × Int × Unit) × (List Int) × Int × Int × Unit) ⊕ ((((List Int) × Int × Unit) × (List Int) × Unit))) := fun ((v0_0, v0_1, _), v5, v8, v9, _) =>
  bif (decide (v9 < v8)) then
    Option.bind (spec_l13Rd_pick (v0_0, v0_1) (2 : Int)) fun (r0, (r1, r2), _) =>
      bif (r0 == (0 : Int)) then
        if (((0 + (List.length v5)) = (List.length v5)) ∧ ((((List.length v5) + (List.length (List.take 1 (List.drop 0 [v9])))) * 8) ≤ 140737488355328)) then
          some (Sum.inl ((r1, r2, ()), (List.take ((List.length v5) + (List.length (List.take 1 (List.drop 0 [v9])))) (List.drop 0 ((List.drop 0 v5) ++ (List.take 1 (List.drop 0 [v9]))))), v8, (IntKind.wrap .i64 (v9 + (1 : Int))), ()))
        else
          none
      else
        some (Sum.inl ((r1, r2, ()), (List.take (List.length v5) (List.drop 0 v5)), v8, (IntKind.wrap .i64 (v9 + (1 : Int))), ()))
  else
    some (Sum.inr ((v0_0, v0_1, ()), (List.take (List.length v5) (List.drop 0 v5)), ()))
theorem spec_l3Some_l3_eq : loopStep 21 E193 L193_0 (loopOf f193 3) sh193_3 xs193_3 = spec_l3Some_l3 := by kernel_rfl
theorem loop193_3 {L : Nat → Option LoopD} (h : L 3 = some ⟨21, sh193_3, xs193_3, spec_l3Some_l3⟩) : LoopOk prog L (loopOf f193 3) :=
  loopOk (tysOk_of tyl_ok) E193_ok (codeOk_in (L := L193_0) (tysOk_of tyl_ok) E193_ok mixed (c := loopOf f193 3) (bs := []) (by kernel_rfl) allNil (by kernel_rfl)) (by kernel_rfl) (by kernel_rfl) spec_l3Some_l3_eq (by rw [show firstId (loopOf f193 3) = 3 from by kernel_rfl]; exact h)
noncomputable def L193_1 : Nat → Option LoopD := fun n => ifEq n 3 (some ⟨21, sh193_3, xs193_3, spec_l3Some_l3⟩) (L193_0 n)
noncomputable def spec_l3Some : ((List Int) × Int) → Int → Option (((List Int)) × (((List Int) × Int) × Unit)) := fun (a0_0, a0_1) a1 =>
  Option.bind (loopF spec_l3Some_l3 ((a0_0, a0_1, ()), (List.take 0 (List.drop 0 [])), a1, (0 : Int), ())) fun ((r0, r1, _), r2, _) =>
    some ((List.take (List.length r2) (List.drop 0 r2)), (r0, r1), ())
noncomputable def A193 : FnM := ⟨[.bx (.pair (.sl (.int .u8)) (.int .i64)), .v (.int .i64)], true, [.sl (.int .i64)], fun x => spec_l3Some x.1 x.2.1⟩
theorem spec_l3Some_eq : fnMF E193 L193_1 [.bx (.pair (.sl (.int .u8)) (.int .i64)), .v (.int .i64)] true [.sl (.int .i64)] f193.ntmps f193.results.toList (codeOf f193) = fun x => spec_l3Some x.1 x.2.1 := by kernel_rfl
theorem A193_ok : FnMOk prog 193 A193 := by
  have h := fnMOk_of_run (P := prog) (E := E193) (tysOk_of tyl_ok) E193_ok (L := L193_1) (ps := [.bx (.pair (.sl (.int .u8)) (.int .i64)), .v (.int .i64)]) (own := true) (outs := [.sl (.int .i64)]) func193 (c := codeOf f193) (by kernel_rfl) (codeOk_in (L := L193_1) (tysOk_of tyl_ok) E193_ok mixed (c := codeOf f193) (bs := [loopOf f193 3]) (by kernel_rfl) (allCons (loop193_3 rfl) allNil) (by kernel_rfl)) (by kernel_rfl)
  rw [spec_l3Some_eq] at h
  exact h
/-! (*spec.l13Rd).of -/
noncomputable def E169 : Env := ⟨ty0, fun _ => none, fun g => ifEq g 141 (some A141) (none), fun _ => none, fun _ => none⟩
theorem E169_ok : FnsOk prog E169 := (oneMs A141_ok (by kernel_rfl) func141 (by kernel_rfl) (by kernel_rfl) (noFns _ _))
noncomputable def L169_0 : Nat → Option LoopD := fun _ => none
noncomputable def spec_l13Rd_of : ((List Int) × Int) → (List ByteArray) → Option ((ByteArray) × (((List Int) × Int) × Unit)) := fun (a0_0, a0_1) a1 =>
  Option.bind (spec_l13Rd_pick (a0_0, a0_1) (((List.length a1) : Nat) : Int)) fun (r0, (r1, r2), _) =>
    if (((0 : Int) ≤ r0) ∧ (r0 < (((List.length a1) : Nat) : Int))) then
      some ((List.getD a1 (Int.toNat r0) (⟨Array.empty⟩ : ByteArray)), (r1, r2), ())
    else
      none
noncomputable def A169 : FnM := ⟨[.bx (.pair (.sl (.int .u8)) (.int .i64)), .v (.sl .str)], true, [.str], fun x => spec_l13Rd_of x.1 x.2.1⟩
theorem spec_l13Rd_of_eq : fnMF E169 L169_0 [.bx (.pair (.sl (.int .u8)) (.int .i64)), .v (.sl .str)] true [.str] f169.ntmps f169.results.toList (codeOf f169) = fun x => spec_l13Rd_of x.1 x.2.1 := by kernel_rfl
theorem A169_ok : FnMOk prog 169 A169 := by
  have h := fnMOk_of_run (P := prog) (E := E169) (tysOk_of tyl_ok) E169_ok (L := L169_0) (ps := [.bx (.pair (.sl (.int .u8)) (.int .i64)), .v (.sl .str)]) (own := true) (outs := [.str]) func169 (c := codeOf f169) (by kernel_rfl) (codeOk_in (L := L169_0) (tysOk_of tyl_ok) E169_ok mixed (c := codeOf f169) (bs := []) (by kernel_rfl) allNil (by kernel_rfl)) (by kernel_rfl)
  rw [spec_l13Rd_of_eq] at h
  exact h
/-! (*spec.l13Rd).num -/
noncomputable def E140 : Env := ⟨ty0, fun _ => none, fun g => ifEq g 141 (some A141) (none), fun _ => none, fun _ => none⟩
theorem E140_ok : FnsOk prog E140 := (oneMs A141_ok (by kernel_rfl) func141 (by kernel_rfl) (by kernel_rfl) (noFns _ _))
noncomputable def L140_0 : Nat → Option LoopD := fun _ => none
noncomputable def spec_l13Rd_num : ((List Int) × Int) → (List Int) → Option ((Int) × (((List Int) × Int) × Unit)) := fun (a0_0, a0_1) a1 =>
  Option.bind (spec_l13Rd_pick (a0_0, a0_1) (((List.length a1) : Nat) : Int)) fun (r0, (r1, r2), _) =>
    if (((0 : Int) ≤ r0) ∧ (r0 < (((List.length a1) : Nat) : Int))) then
      some ((List.getD a1 (Int.toNat r0) (0 : Int)), (r1, r2), ())
    else
      none
noncomputable def A140 : FnM := ⟨[.bx (.pair (.sl (.int .u8)) (.int .i64)), .v (.sl (.int .i64))], true, [.int .i64], fun x => spec_l13Rd_num x.1 x.2.1⟩
theorem spec_l13Rd_num_eq : fnMF E140 L140_0 [.bx (.pair (.sl (.int .u8)) (.int .i64)), .v (.sl (.int .i64))] true [.int .i64] f140.ntmps f140.results.toList (codeOf f140) = fun x => spec_l13Rd_num x.1 x.2.1 := by kernel_rfl
theorem A140_ok : FnMOk prog 140 A140 := by
  have h := fnMOk_of_run (P := prog) (E := E140) (tysOk_of tyl_ok) E140_ok (L := L140_0) (ps := [.bx (.pair (.sl (.int .u8)) (.int .i64)), .v (.sl (.int .i64))]) (own := true) (outs := [.int .i64]) func140 (c := codeOf f140) (by kernel_rfl) (codeOk_in (L := L140_0) (tysOk_of tyl_ok) E140_ok mixed (c := codeOf f140) (bs := []) (by kernel_rfl) allNil (by kernel_rfl)) (by kernel_rfl)
  rw [spec_l13Rd_num_eq] at h
  exact h
/-! spec.l3Put -/
noncomputable def E194 : Env := ⟨ty0, fun g => ifEq g 130 (some A130) (none), fun _ => none, fun _ => none, fun _ => none⟩
theorem E194_ok : FnsOk prog E194 := (oneFn A130_ok func130 (by kernel_rfl) (by kernel_rfl) (noFns _ _))
noncomputable def L194_0 : Nat → Option LoopD := fun _ => none
def sh194_2 : List Fm := [.cell (.val (.sl (.pair (.int .i64) (.pair .str (.pair (.int .i64) (.int .i64)))))), d, d, .box 100300 [.val (.int .i64), .val .str, .val (.int .i64), .val (.int .i64)], d, .cell (.val (.int .i64)), d, d, d, d, d, d, d, d, d, d, d, d, d, d, d, d, d, d, d, d, d, d, d, d, d, d, d, d, d, d, d, d, d, d, d, d, d, d, d, d, d, d, d, d, d, d, d, d, d, d, d, d, d, d, d, d]
def xs194_2 : List (Ex × List Fm) := [(.exit 0, [.cell (.val (.sl (.pair (.int .i64) (.pair .str (.pair (.int .i64) (.int .i64)))))), d, d, .box 100300 [.val (.int .i64), .val .str, .val (.int .i64), .val (.int .i64)], d, .cell (.val (.int .i64)), d, d, d, d, d, d, d, d, d, d, d, d, d, d, d, d, d, d, d, d, d, d, d, d, d, d, d, d, d, d, d, d, d, d, d, d, d, d, d, d, d, d, d, d, d, d, d, d, d, d, d, d, d, d, d, d])]
noncomputable def spec_l3Put_l2 : ((List (Int × (ByteArray × (Int × Int)))) × (Int × ByteArray × Int × Int × Unit) × Int × Unit) → Option (((List (Int × (ByteArray × (Int × Int)))) × (Int × ByteArray × Int × Int × Unit) × Int × Unit) ⊕ (((List (Int × (ByteArray × (Int × Int)))) × (Int × ByteArray × Int × Int × Unit) × Int × Unit))) := fun (v0, (v3_0, v3_1, v3_2, v3_3, _), v5, _) =>
  bif (decide (v5 < (((List.length v0) : Nat) : Int))) then
    if (((0 : Int) ≤ v5) ∧ (v5 < (((List.length v0) : Nat) : Int))) then
      Option.bind (spec_l3Before (List.getD v0 (Int.toNat v5) ((0 : Int), (⟨Array.empty⟩ : ByteArray), (0 : Int), (0 : Int))) (v3_0, v3_1, v3_2, v3_3)) fun r0 =>
        bif r0 then
          some (Sum.inl (v0, (v3_0, v3_1, v3_2, v3_3, ()), (IntKind.wrap .i64 (v5 + (1 : Int))), ()))
        else
          some (Sum.inr (v0, (v3_0, v3_1, v3_2, v3_3, ()), v5, ()))
    else
      none
  else
    some (Sum.inr (v0, (v3_0, v3_1, v3_2, v3_3, ()), v5, ()))
theorem spec_l3Put_l2_eq : loopStep 62 E194 L194_0 (loopOf f194 2) sh194_2 xs194_2 = spec_l3Put_l2 := by kernel_rfl
theorem loop194_2 {L : Nat → Option LoopD} (h : L 2 = some ⟨62, sh194_2, xs194_2, spec_l3Put_l2⟩) : LoopOk prog L (loopOf f194 2) :=
  loopOk (tysOk_of tyl_ok) E194_ok (codeOk_in (L := L194_0) (tysOk_of tyl_ok) E194_ok mixed (c := loopOf f194 2) (bs := []) (by kernel_rfl) allNil (by kernel_rfl)) (by kernel_rfl) (by kernel_rfl) spec_l3Put_l2_eq (by rw [show firstId (loopOf f194 2) = 2 from by kernel_rfl]; exact h)
noncomputable def L194_1 : Nat → Option LoopD := fun n => ifEq n 2 (some ⟨62, sh194_2, xs194_2, spec_l3Put_l2⟩) (L194_0 n)
noncomputable def spec_l3Put : (List (Int × (ByteArray × (Int × Int)))) → (Int × (ByteArray × (Int × Int))) → Option ((List (Int × (ByteArray × (Int × Int))))) := fun a0 (a1_0, a1_1, a1_2, a1_3) =>
  Option.bind (loopF spec_l3Put_l2 (a0, (a1_0, a1_1, a1_2, a1_3, ()), (0 : Int), ())) fun (r0, (r1, r2, r3, r4, _), r5, _) =>
    bif (decide (r5 < (((List.length r0) : Nat) : Int))) then
      if (((0 : Int) ≤ r5) ∧ (r5 < (((List.length r0) : Nat) : Int))) then
        Option.bind (spec_l3Before (r1, r2, r3, r4) (List.getD r0 (Int.toNat r5) ((0 : Int), (⟨Array.empty⟩ : ByteArray), (0 : Int), (0 : Int)))) fun r6 =>
          bif (!r6) then
            if (((0 + 0) = (List.length ([] : List Unit))) ∧ (((0 + (List.length r0)) * 40) ≤ 140737488355328)) then
              if (((0 : Int) ≤ r5) ∧ (r5 < (((0 + (List.length r0)) : Nat) : Int))) then
                if (((0 : Int) ≤ r5) ∧ (r5 < (((0 + (List.length r0)) : Nat) : Int))) then
                  Option.bind (Option.some (List.set ((List.drop 0 []) ++ r0) (0 + (Int.toNat r5)) ((List.getD ((List.drop 0 []) ++ r0) (0 + (Int.toNat r5)) ((0 : Int), (⟨Array.empty⟩ : ByteArray), (0 : Int), (0 : Int))).1, (List.getD ((List.drop 0 []) ++ r0) (0 + (Int.toNat r5)) ((0 : Int), (⟨Array.empty⟩ : ByteArray), (0 : Int), (0 : Int))).2.1, (List.getD ((List.drop 0 []) ++ r0) (0 + (Int.toNat r5)) ((0 : Int), (⟨Array.empty⟩ : ByteArray), (0 : Int), (0 : Int))).2.2.1, (if (r4 < (List.getD ((List.drop 0 []) ++ r0) (0 + (Int.toNat r5)) ((0 : Int), (⟨Array.empty⟩ : ByteArray), (0 : Int), (0 : Int))).2.2.2) then r4 else (List.getD ((List.drop 0 []) ++ r0) (0 + (Int.toNat r5)) ((0 : Int), (⟨Array.empty⟩ : ByteArray), (0 : Int), (0 : Int))).2.2.2)))) fun r7 =>
                    some (List.take (0 + (List.length r0)) (List.drop 0 r7))
                else
                  none
              else
                none
            else
              none
          else
            if (((0 : Int) ≤ r5) ∧ (r5 ≤ (((List.length r0) : Nat) : Int))) then
              if (((0 + 0) = (List.length ([] : List Unit))) ∧ (((0 + (List.length (List.take ((Int.toNat r5) - 0) (List.drop 0 r0)))) * 40) ≤ 140737488355328)) then
                if (((0 + (0 + (List.length (List.take ((Int.toNat r5) - 0) (List.drop 0 r0))))) = (List.length ((List.drop 0 []) ++ (List.take ((Int.toNat r5) - 0) (List.drop 0 r0))))) ∧ ((((0 + (List.length (List.take ((Int.toNat r5) - 0) (List.drop 0 r0)))) + (List.length (List.take 1 (List.drop 0 [(r1, r2, r3, r4)])))) * 40) ≤ 140737488355328)) then
                  if (((0 : Int) ≤ r5) ∧ (r5 ≤ (((List.length r0) : Nat) : Int))) then
                    if (((0 + ((0 + (List.length (List.take ((Int.toNat r5) - 0) (List.drop 0 r0)))) + (List.length (List.take 1 (List.drop 0 [(r1, r2, r3, r4)]))))) = (List.length ((List.drop 0 ((List.drop 0 []) ++ (List.take ((Int.toNat r5) - 0) (List.drop 0 r0)))) ++ (List.take 1 (List.drop 0 [(r1, r2, r3, r4)]))))) ∧ (((((0 + (List.length (List.take ((Int.toNat r5) - 0) (List.drop 0 r0)))) + (List.length (List.take 1 (List.drop 0 [(r1, r2, r3, r4)])))) + (List.length (List.take ((List.length r0) - (Int.toNat r5)) (List.drop (Int.toNat r5) r0)))) * 40) ≤ 140737488355328)) then
                      some (List.take (((0 + (List.length (List.take ((Int.toNat r5) - 0) (List.drop 0 r0)))) + (List.length (List.take 1 (List.drop 0 [(r1, r2, r3, r4)])))) + (List.length (List.take ((List.length r0) - (Int.toNat r5)) (List.drop (Int.toNat r5) r0)))) (List.drop 0 ((List.drop 0 ((List.drop 0 ((List.drop 0 []) ++ (List.take ((Int.toNat r5) - 0) (List.drop 0 r0)))) ++ (List.take 1 (List.drop 0 [(r1, r2, r3, r4)])))) ++ (List.take ((List.length r0) - (Int.toNat r5)) (List.drop (Int.toNat r5) r0)))))
                    else
                      none
                  else
                    none
                else
                  none
              else
                none
            else
              none
      else
        none
    else
      if (((0 : Int) ≤ r5) ∧ (r5 ≤ (((List.length r0) : Nat) : Int))) then
        if (((0 + 0) = (List.length ([] : List Unit))) ∧ (((0 + (List.length (List.take ((Int.toNat r5) - 0) (List.drop 0 r0)))) * 40) ≤ 140737488355328)) then
          if (((0 + (0 + (List.length (List.take ((Int.toNat r5) - 0) (List.drop 0 r0))))) = (List.length ((List.drop 0 []) ++ (List.take ((Int.toNat r5) - 0) (List.drop 0 r0))))) ∧ ((((0 + (List.length (List.take ((Int.toNat r5) - 0) (List.drop 0 r0)))) + (List.length (List.take 1 (List.drop 0 [(r1, r2, r3, r4)])))) * 40) ≤ 140737488355328)) then
            if (((0 : Int) ≤ r5) ∧ (r5 ≤ (((List.length r0) : Nat) : Int))) then
              if (((0 + ((0 + (List.length (List.take ((Int.toNat r5) - 0) (List.drop 0 r0)))) + (List.length (List.take 1 (List.drop 0 [(r1, r2, r3, r4)]))))) = (List.length ((List.drop 0 ((List.drop 0 []) ++ (List.take ((Int.toNat r5) - 0) (List.drop 0 r0)))) ++ (List.take 1 (List.drop 0 [(r1, r2, r3, r4)]))))) ∧ (((((0 + (List.length (List.take ((Int.toNat r5) - 0) (List.drop 0 r0)))) + (List.length (List.take 1 (List.drop 0 [(r1, r2, r3, r4)])))) + (List.length (List.take ((List.length r0) - (Int.toNat r5)) (List.drop (Int.toNat r5) r0)))) * 40) ≤ 140737488355328)) then
                some (List.take (((0 + (List.length (List.take ((Int.toNat r5) - 0) (List.drop 0 r0)))) + (List.length (List.take 1 (List.drop 0 [(r1, r2, r3, r4)])))) + (List.length (List.take ((List.length r0) - (Int.toNat r5)) (List.drop (Int.toNat r5) r0)))) (List.drop 0 ((List.drop 0 ((List.drop 0 ((List.drop 0 []) ++ (List.take ((Int.toNat r5) - 0) (List.drop 0 r0)))) ++ (List.take 1 (List.drop 0 [(r1, r2, r3, r4)])))) ++ (List.take ((List.length r0) - (Int.toNat r5)) (List.drop (Int.toNat r5) r0)))))
              else
                none
            else
              none
          else
            none
        else
          none
      else
        none
noncomputable def A194 : FnA := ⟨[.v (.sl (.pair (.int .i64) (.pair .str (.pair (.int .i64) (.int .i64))))), .v (.pair (.int .i64) (.pair .str (.pair (.int .i64) (.int .i64))))], true, [.sl (.pair (.int .i64) (.pair .str (.pair (.int .i64) (.int .i64))))], fun x => spec_l3Put x.1 x.2.1⟩
theorem spec_l3Put_eq : fnF E194 L194_1 [.v (.sl (.pair (.int .i64) (.pair .str (.pair (.int .i64) (.int .i64))))), .v (.pair (.int .i64) (.pair .str (.pair (.int .i64) (.int .i64))))] true [.sl (.pair (.int .i64) (.pair .str (.pair (.int .i64) (.int .i64))))] f194.ntmps f194.results.toList (codeOf f194) = fun x => spec_l3Put x.1 x.2.1 := by kernel_rfl
theorem A194_ok : FnOk prog 194 A194 := by
  have h := fnOk_of_run (P := prog) (E := E194) (tysOk_of tyl_ok) E194_ok (L := L194_1) (ps := [.v (.sl (.pair (.int .i64) (.pair .str (.pair (.int .i64) (.int .i64))))), .v (.pair (.int .i64) (.pair .str (.pair (.int .i64) (.int .i64))))]) (own := true) (outs := [.sl (.pair (.int .i64) (.pair .str (.pair (.int .i64) (.int .i64))))]) func194 (c := codeOf f194) (by kernel_rfl) (codeOk_in (L := L194_1) (tysOk_of tyl_ok) E194_ok mixed (c := codeOf f194) (bs := [loopOf f194 2]) (by kernel_rfl) (allCons (loop194_2 rfl) allNil) (by kernel_rfl))
  rw [spec_l3Put_eq] at h
  exact h
/-! spec.l3Draw -/
noncomputable def E167 : Env := ⟨ty0, fun g => ifEq g 192 (some A192) (ifEq g 194 (some A194) (none)), fun g => ifEq g 141 (some A141) (ifEq g 193 (some A193) (ifEq g 169 (some A169) (ifEq g 140 (some A140) (none)))), fun _ => none, fun _ => none⟩
theorem E167_ok : FnsOk prog E167 := (oneFn A192_ok func192 (by kernel_rfl) (by kernel_rfl) (oneFn A194_ok func194 (by kernel_rfl) (by kernel_rfl) (oneMs A141_ok (by kernel_rfl) func141 (by kernel_rfl) (by kernel_rfl) (oneMs A193_ok (by kernel_rfl) func193 (by kernel_rfl) (by kernel_rfl) (oneMs A169_ok (by kernel_rfl) func169 (by kernel_rfl) (by kernel_rfl) (oneMs A140_ok (by kernel_rfl) func140 (by kernel_rfl) (by kernel_rfl) (noFns _ _)))))))
noncomputable def L167_0 : Nat → Option LoopD := fun _ => none
def sh167_8 : List Fm := [.box 200000 [.val (.sl (.int .u8)), .val (.int .i64)], d, d, d, .box 100400 [.val (.int .i64), .own (.int .i64) 100402 false, .own (.int .i64) 100403 false, .own (.pair (.int .i64) (.pair .str (.pair (.int .i64) (.int .i64)))) 100404 false], d, .cell (.val (.int .i64)), .box 100700 [.val (.int .i64), .own (.int .i64) 100702 false, .own (.int .i64) 100703 false, .own (.pair (.int .i64) (.pair .str (.pair (.int .i64) (.int .i64)))) 100704 false], d, d, d, d, d, d, d, d, d, d, d, d, d, d, d, d, d, d, d, d, d, d, d, d, d, d, d, d, d, d, .cell (.val (.int .i64)), .cell (.val (.int .i64)), d, d, d, d, d, d, d, d, d, d, d, d, d, d, d, d, d, d, d, d, d]
def xs167_8 : List (Ex × List Fm) := [(.exit 0, [.box 200000 [.val (.sl (.int .u8)), .val (.int .i64)], d, d, d, .box 100400 [.val (.int .i64), .own (.int .i64) 100402 false, .own (.int .i64) 100403 false, .own (.pair (.int .i64) (.pair .str (.pair (.int .i64) (.int .i64)))) 100404 false], d, d, .box 100700 [.val (.int .i64), .own (.int .i64) 100702 false, .own (.int .i64) 100703 false, .own (.pair (.int .i64) (.pair .str (.pair (.int .i64) (.int .i64)))) 100704 false], d, d, d, d, d, d, d, d, d, d, d, d, d, d, d, d, d, d, d, d, d, d, d, d, d, d, d, d, d, d, d, d, d, d, d, d, d, d, d, d, d, d, d, d, d, d, d, d, d, d, d, d, d])]
noncomputable def spec_l3Draw_l8 : (((List Int) × Int × Unit) × (Int × (List Int) × (List Int) × (List (Int × (ByteArray × (Int × Int)))) × Unit) × Int × (Int × (List Int) × (List Int) × (List (Int × (ByteArray × (Int × Int)))) × Unit) × Int × Int × Unit) → Option ((((List Int) × Int × Unit) × (Int × (List Int) × (List Int) × (List (Int × (ByteArray × (Int × Int)))) × Unit) × Int × (Int × (List Int) × (List Int) × (List (Int × (ByteArray × (Int × Int)))) × Unit) × Int × Int × Unit) ⊕ ((((List Int) × Int × Unit) × (Int × (List Int) × (List Int) × (List (Int × (ByteArray × (Int × Int)))) × Unit) × (Int × (List Int) × (List Int) × (List (Int × (ByteArray × (Int × Int)))) × Unit) × Unit))) := fun ((v0_0, v0_1, _), (v4_0, v4_1, v4_2, v4_3, _), v6, (v7_0, v7_1, v7_2, v7_3, _), v38, v39, _) =>
  bif (decide (v39 < v38)) then
    Option.bind (spec_l13Rd_pick (v0_0, v0_1) v6) fun (r0, (r1, r2), _) =>
      Option.bind (spec_l13Rd_of (r1, r2) (List.take 2 (List.drop 0 [(⟨#[(97 : UInt8)]⟩ : ByteArray), (⟨#[(98 : UInt8)]⟩ : ByteArray)]))) fun (r3, (r4, r5), _) =>
        Option.bind (spec_l13Rd_pick (r4, r5) v6) fun (r6, (r7, r8), _) =>
          Option.bind (spec_l13Rd_num (r7, r8) (List.take 6 (List.drop 0 [(0 : Int), (1 : Int), (0 : Int), (1 : Int), (2 : Int), (0 : Int)]))) fun (r9, (r10, r11), _) =>
            Option.bind (spec_l3Put (List.take (List.length v7_3) (List.drop 0 v7_3)) (r0, r3, r6, r9)) fun r12 =>
              some (Sum.inl ((r10, r11, ()), (v4_0, (List.take (List.length v4_1) (List.drop 0 v4_1)), (List.take (List.length v4_2) (List.drop 0 v4_2)), (List.take (List.length v4_3) (List.drop 0 v4_3)), ()), v6, (v7_0, (List.take (List.length v7_1) (List.drop 0 v7_1)), (List.take (List.length v7_2) (List.drop 0 v7_2)), (List.take (List.length r12) (List.drop 0 r12)), ()), v38, (IntKind.wrap .i64 (v39 + (1 : Int))), ()))
  else
    some (Sum.inr ((v0_0, v0_1, ()), (v4_0, (List.take (List.length v4_1) (List.drop 0 v4_1)), (List.take (List.length v4_2) (List.drop 0 v4_2)), (List.take (List.length v4_3) (List.drop 0 v4_3)), ()), (v7_0, (List.take (List.length v7_1) (List.drop 0 v7_1)), (List.take (List.length v7_2) (List.drop 0 v7_2)), (List.take (List.length v7_3) (List.drop 0 v7_3)), ()), ()))
theorem spec_l3Draw_l8_eq : loopStep 61 E167 L167_0 (loopOf f167 8) sh167_8 xs167_8 = spec_l3Draw_l8 := by kernel_rfl
theorem loop167_8 {L : Nat → Option LoopD} (h : L 8 = some ⟨61, sh167_8, xs167_8, spec_l3Draw_l8⟩) : LoopOk prog L (loopOf f167 8) :=
  loopOk (tysOk_of tyl_ok) E167_ok (codeOk_in (L := L167_0) (tysOk_of tyl_ok) E167_ok mixed (c := loopOf f167 8) (bs := []) (by kernel_rfl) allNil (by kernel_rfl)) (by kernel_rfl) (by kernel_rfl) spec_l3Draw_l8_eq (by rw [show firstId (loopOf f167 8) = 8 from by kernel_rfl]; exact h)
noncomputable def L167_1 : Nat → Option LoopD := fun n => ifEq n 8 (some ⟨61, sh167_8, xs167_8, spec_l3Draw_l8⟩) (L167_0 n)
noncomputable def spec_l3Draw : ((List Int) × Int) → Int → Option (((Int × ((List Int) × ((List Int) × (List (Int × (ByteArray × (Int × Int)))))))) × (((List Int) × Int) × Unit)) := fun (a0_0, a0_1) a1 =>
  Option.bind (spec_l13Rd_pick (a0_0, a0_1) (3 : Int)) fun (r0, (r1, r2), _) =>
    bif (r0 == (0 : Int)) then
      Option.bind (spec_l13Rd_pick (r1, r2) (9 : Int)) fun (r3, (r4, r5), _) =>
        Option.bind (spec_l3Known r3) fun (r6, r7, r8, r9) =>
          bif (decide (r6 ≤ a1)) then
            some ((r6, (List.take (List.length r7) (List.drop 0 r7)), (List.take (List.length r8) (List.drop 0 r8)), (List.take (List.length r9) (List.drop 0 r9))), (r4, r5), ())
          else
            Option.bind (spec_l13Rd_pick (r4, r5) a1) fun (r10, (r11, r12), _) =>
              Option.bind (spec_l3Some (r11, r12) (IntKind.wrap .i64 ((1 : Int) + r10))) fun (r13, (r14, r15), _) =>
                Option.bind (spec_l3Some (r14, r15) (IntKind.wrap .i64 ((1 : Int) + r10))) fun (r16, (r17, r18), _) =>
                  Option.bind (spec_l13Rd_pick (r17, r18) (IntKind.wrap .i64 ((IntKind.wrap .i64 ((2 : Int) * (IntKind.wrap .i64 ((1 : Int) + r10)))) + (1 : Int)))) fun (r19, (r20, r21), _) =>
                    Option.bind (loopF spec_l3Draw_l8 ((r20, r21, ()), ((0 : Int), [], [], [], ()), (IntKind.wrap .i64 ((1 : Int) + r10)), ((IntKind.wrap .i64 ((1 : Int) + r10)), (List.take (List.length r13) (List.drop 0 r13)), (List.take (List.length r16) (List.drop 0 r16)), (List.take 0 (List.drop 0 [])), ()), (IntKind.wrap .i64 ((1 : Int) + r19)), (0 : Int), ())) fun ((r22, r23, _), (r24, r25, r26, r27, _), (r28, r29, r30, r31, _), _) =>
                      some ((r28, (List.take (List.length r29) (List.drop 0 r29)), (List.take (List.length r30) (List.drop 0 r30)), (List.take (List.length r31) (List.drop 0 r31))), (r22, r23), ())
    else
      Option.bind (spec_l13Rd_pick (r1, r2) a1) fun (r32, (r33, r34), _) =>
        Option.bind (spec_l3Some (r33, r34) (IntKind.wrap .i64 ((1 : Int) + r32))) fun (r35, (r36, r37), _) =>
          Option.bind (spec_l3Some (r36, r37) (IntKind.wrap .i64 ((1 : Int) + r32))) fun (r38, (r39, r40), _) =>
            Option.bind (spec_l13Rd_pick (r39, r40) (IntKind.wrap .i64 ((IntKind.wrap .i64 ((2 : Int) * (IntKind.wrap .i64 ((1 : Int) + r32)))) + (1 : Int)))) fun (r41, (r42, r43), _) =>
              Option.bind (loopF spec_l3Draw_l8 ((r42, r43, ()), ((0 : Int), [], [], [], ()), (IntKind.wrap .i64 ((1 : Int) + r32)), ((IntKind.wrap .i64 ((1 : Int) + r32)), (List.take (List.length r35) (List.drop 0 r35)), (List.take (List.length r38) (List.drop 0 r38)), (List.take 0 (List.drop 0 [])), ()), (IntKind.wrap .i64 ((1 : Int) + r41)), (0 : Int), ())) fun ((r44, r45, _), (r46, r47, r48, r49, _), (r50, r51, r52, r53, _), _) =>
                some ((r50, (List.take (List.length r51) (List.drop 0 r51)), (List.take (List.length r52) (List.drop 0 r52)), (List.take (List.length r53) (List.drop 0 r53))), (r44, r45), ())
noncomputable def A167 : FnM := ⟨[.bx (.pair (.sl (.int .u8)) (.int .i64)), .v (.int .i64)], true, [.pair (.int .i64) (.pair (.sl (.int .i64)) (.pair (.sl (.int .i64)) (.sl (.pair (.int .i64) (.pair .str (.pair (.int .i64) (.int .i64)))))))], fun x => spec_l3Draw x.1 x.2.1⟩
theorem spec_l3Draw_eq : fnMF E167 L167_1 [.bx (.pair (.sl (.int .u8)) (.int .i64)), .v (.int .i64)] true [.pair (.int .i64) (.pair (.sl (.int .i64)) (.pair (.sl (.int .i64)) (.sl (.pair (.int .i64) (.pair .str (.pair (.int .i64) (.int .i64)))))))] f167.ntmps f167.results.toList (codeOf f167) = fun x => spec_l3Draw x.1 x.2.1 := by kernel_rfl
theorem A167_ok : FnMOk prog 167 A167 := by
  have h := fnMOk_of_run (P := prog) (E := E167) (tysOk_of tyl_ok) E167_ok (L := L167_1) (ps := [.bx (.pair (.sl (.int .u8)) (.int .i64)), .v (.int .i64)]) (own := true) (outs := [.pair (.int .i64) (.pair (.sl (.int .i64)) (.pair (.sl (.int .i64)) (.sl (.pair (.int .i64) (.pair .str (.pair (.int .i64) (.int .i64)))))))]) func167 (c := codeOf f167) (by kernel_rfl) (codeOk_in (L := L167_1) (tysOk_of tyl_ok) E167_ok mixed (c := codeOf f167) (bs := [loopOf f167 8]) (by kernel_rfl) (allCons (loop167_8 rfl) allNil) (by kernel_rfl)) (by kernel_rfl)
  rw [spec_l3Draw_eq] at h
  exact h
/-! spec.l3Bad -/
noncomputable def E166 : Env := ⟨ty0, fun _ => none, fun g => ifEq g 141 (some A141) (ifEq g 140 (some A140) (ifEq g 169 (some A169) (none))), fun _ => none, fun _ => none⟩
theorem E166_ok : FnsOk prog E166 := (oneMs A141_ok (by kernel_rfl) func141 (by kernel_rfl) (by kernel_rfl) (oneMs A140_ok (by kernel_rfl) func140 (by kernel_rfl) (by kernel_rfl) (oneMs A169_ok (by kernel_rfl) func169 (by kernel_rfl) (by kernel_rfl) (noFns _ _))))
noncomputable def L166_0 : Nat → Option LoopD := fun _ => none
noncomputable def spec_l3Bad : ((List Int) × Int) → (Int × ((List Int) × ((List Int) × (List (Int × (ByteArray × (Int × Int))))))) → Option (((Int × ((List Int) × ((List Int) × (List (Int × (ByteArray × (Int × Int)))))))) × (((List Int) × Int) × Unit)) := fun (a0_0, a0_1) (a1_0, a1_1, a1_2, a1_3) =>
  Option.bind (spec_l13Rd_pick (a0_0, a0_1) (36 : Int)) fun (r0, (r1, r2), _) =>
    bif (r0 == (0 : Int)) then
      Option.bind (spec_l13Rd_num (r1, r2) (List.take 5 (List.drop 0 [(0 : Int), (5 : Int), (-1 : Int), (1 : Int), (9223372036854775807 : Int)]))) fun (r3, (r4, r5), _) =>
        some ((r3, a1_1, a1_2, a1_3), (r4, r5), ())
    else
      bif (r0 == (1 : Int)) then
        if (((0 + 0) = (List.length ([] : List Unit))) ∧ (((0 + (List.length a1_3)) * 40) ≤ 140737488355328)) then
          Option.bind (spec_l13Rd_pick (r1, r2) (2 : Int)) fun (r6, (r7, r8), _) =>
            Option.bind (spec_l13Rd_of (r7, r8) (List.take 3 (List.drop 0 [(⟨#[(97 : UInt8)]⟩ : ByteArray), (⟨#[(99 : UInt8)]⟩ : ByteArray), (⟨#[]⟩ : ByteArray)]))) fun (r9, (r10, r11), _) =>
              Option.bind (spec_l13Rd_num (r10, r11) (List.take 3 (List.drop 0 [(0 : Int), (4 : Int), (-1 : Int)]))) fun (r12, (r13, r14), _) =>
                Option.bind (spec_l13Rd_num (r13, r14) (List.take 3 (List.drop 0 [(0 : Int), (4 : Int), (-1 : Int)]))) fun (r15, (r16, r17), _) =>
                  if (((0 + (0 + (List.length a1_3))) = (List.length ((List.drop 0 []) ++ a1_3))) ∧ ((((0 + (List.length a1_3)) + (List.length (List.take 1 (List.drop 0 [(r6, r9, r12, r15)])))) * 40) ≤ 140737488355328)) then
                    some ((a1_0, a1_1, a1_2, (List.take ((0 + (List.length a1_3)) + (List.length (List.take 1 (List.drop 0 [(r6, r9, r12, r15)])))) (List.drop 0 ((List.drop 0 ((List.drop 0 []) ++ a1_3)) ++ (List.take 1 (List.drop 0 [(r6, r9, r12, r15)])))))), (r16, r17), ())
                  else
                    none
        else
          none
      else
        bif (r0 == (2 : Int)) then
          if (((0 + 0) = (List.length ([] : List Unit))) ∧ (((0 + (List.length a1_1)) * 8) ≤ 140737488355328)) then
            Option.bind (spec_l13Rd_num (r1, r2) (List.take 3 (List.drop 0 [(0 : Int), (4 : Int), (-1 : Int)]))) fun (r18, (r19, r20), _) =>
              if (((0 + (0 + (List.length a1_1))) = (List.length ((List.drop 0 []) ++ a1_1))) ∧ ((((0 + (List.length a1_1)) + (List.length (List.take 1 (List.drop 0 [r18])))) * 8) ≤ 140737488355328)) then
                some ((a1_0, (List.take ((0 + (List.length a1_1)) + (List.length (List.take 1 (List.drop 0 [r18])))) (List.drop 0 ((List.drop 0 ((List.drop 0 []) ++ a1_1)) ++ (List.take 1 (List.drop 0 [r18]))))), a1_2, a1_3), (r19, r20), ())
              else
                none
          else
            none
        else
          some ((a1_0, a1_1, a1_2, a1_3), (r1, r2), ())
noncomputable def A166 : FnM := ⟨[.bx (.pair (.sl (.int .u8)) (.int .i64)), .v (.pair (.int .i64) (.pair (.sl (.int .i64)) (.pair (.sl (.int .i64)) (.sl (.pair (.int .i64) (.pair .str (.pair (.int .i64) (.int .i64))))))))], false, [.pair (.int .i64) (.pair (.sl (.int .i64)) (.pair (.sl (.int .i64)) (.sl (.pair (.int .i64) (.pair .str (.pair (.int .i64) (.int .i64)))))))], fun x => spec_l3Bad x.1 x.2.1⟩
theorem spec_l3Bad_eq : fnMF E166 L166_0 [.bx (.pair (.sl (.int .u8)) (.int .i64)), .v (.pair (.int .i64) (.pair (.sl (.int .i64)) (.pair (.sl (.int .i64)) (.sl (.pair (.int .i64) (.pair .str (.pair (.int .i64) (.int .i64))))))))] false [.pair (.int .i64) (.pair (.sl (.int .i64)) (.pair (.sl (.int .i64)) (.sl (.pair (.int .i64) (.pair .str (.pair (.int .i64) (.int .i64)))))))] f166.ntmps f166.results.toList (codeOf f166) = fun x => spec_l3Bad x.1 x.2.1 := by kernel_rfl
theorem A166_ok : FnMOk prog 166 A166 := by
  have h := fnMOk_of_run (P := prog) (E := E166) (tysOk_of tyl_ok) E166_ok (L := L166_0) (ps := [.bx (.pair (.sl (.int .u8)) (.int .i64)), .v (.pair (.int .i64) (.pair (.sl (.int .i64)) (.pair (.sl (.int .i64)) (.sl (.pair (.int .i64) (.pair .str (.pair (.int .i64) (.int .i64))))))))]) (own := false) (outs := [.pair (.int .i64) (.pair (.sl (.int .i64)) (.pair (.sl (.int .i64)) (.sl (.pair (.int .i64) (.pair .str (.pair (.int .i64) (.int .i64)))))))]) func166 (c := codeOf f166) (by kernel_rfl) (codeOk_in (L := L166_0) (tysOk_of tyl_ok) E166_ok mixed (c := codeOf f166) (bs := []) (by kernel_rfl) allNil (by kernel_rfl)) (by kernel_rfl)
  rw [spec_l3Bad_eq] at h
  exact h
/-! spec.l3Any -/
noncomputable def E137 : Env := ⟨ty0, fun _ => none, fun g => ifEq g 167 (some A167) (ifEq g 166 (some A166) (none)), fun _ => none, fun _ => none⟩
theorem E137_ok : FnsOk prog E137 := (oneMs A167_ok (by kernel_rfl) func167 (by kernel_rfl) (by kernel_rfl) (oneMs A166_ok (by kernel_rfl) func166 (by kernel_rfl) (by kernel_rfl) (noFns _ _)))
noncomputable def L137_0 : Nat → Option LoopD := fun _ => none
noncomputable def spec_l3Any : ((List Int) × Int) → Option (((Int × ((List Int) × ((List Int) × (List (Int × (ByteArray × (Int × Int)))))))) × (((List Int) × Int) × Unit)) := fun (a0_0, a0_1) =>
  Option.bind (spec_l3Draw (a0_0, a0_1) (3 : Int)) fun ((r0, r1, r2, r3), (r4, r5), _) =>
    Option.bind (spec_l3Bad (r4, r5) (r0, (List.take (List.length r1) (List.drop 0 r1)), (List.take (List.length r2) (List.drop 0 r2)), (List.take (List.length r3) (List.drop 0 r3)))) fun ((r6, r7, r8, r9), (r10, r11), _) =>
      some ((r6, r7, r8, r9), (r10, r11), ())
noncomputable def A137 : FnM := ⟨[.bx (.pair (.sl (.int .u8)) (.int .i64))], false, [.pair (.int .i64) (.pair (.sl (.int .i64)) (.pair (.sl (.int .i64)) (.sl (.pair (.int .i64) (.pair .str (.pair (.int .i64) (.int .i64)))))))], fun x => spec_l3Any x.1⟩
theorem spec_l3Any_eq : fnMF E137 L137_0 [.bx (.pair (.sl (.int .u8)) (.int .i64))] false [.pair (.int .i64) (.pair (.sl (.int .i64)) (.pair (.sl (.int .i64)) (.sl (.pair (.int .i64) (.pair .str (.pair (.int .i64) (.int .i64)))))))] f137.ntmps f137.results.toList (codeOf f137) = fun x => spec_l3Any x.1 := by kernel_rfl
theorem A137_ok : FnMOk prog 137 A137 := by
  have h := fnMOk_of_run (P := prog) (E := E137) (tysOk_of tyl_ok) E137_ok (L := L137_0) (ps := [.bx (.pair (.sl (.int .u8)) (.int .i64))]) (own := false) (outs := [.pair (.int .i64) (.pair (.sl (.int .i64)) (.pair (.sl (.int .i64)) (.sl (.pair (.int .i64) (.pair .str (.pair (.int .i64) (.int .i64)))))))]) func137 (c := codeOf f137) (by kernel_rfl) (codeOk_in (L := L137_0) (tysOk_of tyl_ok) E137_ok mixed (c := codeOf f137) (bs := []) (by kernel_rfl) allNil (by kernel_rfl)) (by kernel_rfl)
  rw [spec_l3Any_eq] at h
  exact h
/-! spec.l4Short -/
noncomputable def E138 : Env := ⟨ty0, fun _ => none, fun g => ifEq g 140 (some A140) (none), fun _ => none, fun _ => none⟩
theorem E138_ok : FnsOk prog E138 := (oneMs A140_ok (by kernel_rfl) func140 (by kernel_rfl) (by kernel_rfl) (noFns _ _))
noncomputable def L138_0 : Nat → Option LoopD := fun _ => none
noncomputable def spec_l4Short : ((List Int) × Int) → Option ((Int) × (((List Int) × Int) × Unit)) := fun (a0_0, a0_1) =>
  Option.bind (spec_l13Rd_num (a0_0, a0_1) (List.take 8 (List.drop 0 [(3 : Int), (2 : Int), (4 : Int), (1 : Int), (0 : Int), (5 : Int), (-1 : Int), (8 : Int)]))) fun (r0, (r1, r2), _) =>
    some (r0, (r1, r2), ())
noncomputable def A138 : FnM := ⟨[.bx (.pair (.sl (.int .u8)) (.int .i64))], true, [.int .i64], fun x => spec_l4Short x.1⟩
theorem spec_l4Short_eq : fnMF E138 L138_0 [.bx (.pair (.sl (.int .u8)) (.int .i64))] true [.int .i64] f138.ntmps f138.results.toList (codeOf f138) = fun x => spec_l4Short x.1 := by kernel_rfl
theorem A138_ok : FnMOk prog 138 A138 := by
  have h := fnMOk_of_run (P := prog) (E := E138) (tysOk_of tyl_ok) E138_ok (L := L138_0) (ps := [.bx (.pair (.sl (.int .u8)) (.int .i64))]) (own := true) (outs := [.int .i64]) func138 (c := codeOf f138) (by kernel_rfl) (codeOk_in (L := L138_0) (tysOk_of tyl_ok) E138_ok mixed (c := codeOf f138) (bs := []) (by kernel_rfl) allNil (by kernel_rfl)) (by kernel_rfl)
  rw [spec_l4Short_eq] at h
  exact h
/-! spec.DrawCostliestWord -/
noncomputable def E93 : Env := ⟨ty0, fun _ => none, fun g => ifEq g 137 (some A137) (ifEq g 138 (some A138) (none)), fun g => ifEq g 98 (some A98) (none), fun _ => none⟩
theorem E93_ok : FnsOk prog E93 := (oneBs A98_ok func98 (by kernel_rfl) (by kernel_rfl) (oneMs A137_ok (by kernel_rfl) func137 (by kernel_rfl) (by kernel_rfl) (oneMs A138_ok (by kernel_rfl) func138 (by kernel_rfl) (by kernel_rfl) (noFns _ _))))
noncomputable def L93_0 : Nat → Option LoopD := fun _ => none
noncomputable def spec_DrawCostliestWord : (List Int) → Option ((Int × ((List Int) × ((List Int) × (List (Int × (ByteArray × (Int × Int))))))) × Int) := fun a0 =>
  Option.bind (spec_l13Open a0) fun (r0, r1) =>
    Option.bind (spec_l3Any (r0, r1)) fun ((r2, r3, r4, r5), (r6, r7), _) =>
      Option.bind (spec_l4Short (r6, r7)) fun (r8, (r9, r10), _) =>
        some ((r2, r3, r4, r5), r8)
noncomputable def A93 : FnA := ⟨[.v (.sl (.int .u8))], false, [.pair (.int .i64) (.pair (.sl (.int .i64)) (.pair (.sl (.int .i64)) (.sl (.pair (.int .i64) (.pair .str (.pair (.int .i64) (.int .i64))))))), .int .i64], fun x => spec_DrawCostliestWord x.1⟩
theorem spec_DrawCostliestWord_eq : fnF E93 L93_0 [.v (.sl (.int .u8))] false [.pair (.int .i64) (.pair (.sl (.int .i64)) (.pair (.sl (.int .i64)) (.sl (.pair (.int .i64) (.pair .str (.pair (.int .i64) (.int .i64))))))), .int .i64] f93.ntmps f93.results.toList (codeOf f93) = fun x => spec_DrawCostliestWord x.1 := by kernel_rfl
theorem A93_ok : FnOk prog 93 A93 := by
  have h := fnOk_of_run (P := prog) (E := E93) (tysOk_of tyl_ok) E93_ok (L := L93_0) (ps := [.v (.sl (.int .u8))]) (own := false) (outs := [.pair (.int .i64) (.pair (.sl (.int .i64)) (.pair (.sl (.int .i64)) (.sl (.pair (.int .i64) (.pair .str (.pair (.int .i64) (.int .i64))))))), .int .i64]) func93 (c := codeOf f93) (by kernel_rfl) (codeOk_in (L := L93_0) (tysOk_of tyl_ok) E93_ok mixed (c := codeOf f93) (bs := []) (by kernel_rfl) allNil (by kernel_rfl))
  rw [spec_DrawCostliestWord_eq] at h
  exact h
/-! spec.DrawGreatestOf -/
noncomputable def E61 : Env := ⟨ty0, fun g => ifEq g 93 (some A93) (none), fun _ => none, fun _ => none, fun _ => none⟩
theorem E61_ok : FnsOk prog E61 := (oneFn A93_ok func93 (by kernel_rfl) (by kernel_rfl) (noFns _ _))
noncomputable def L61_0 : Nat → Option LoopD := fun _ => none
noncomputable def spec_DrawGreatestOf : (List Int) → Option ((Int × ((List Int) × ((List Int) × (List (Int × (ByteArray × (Int × Int))))))) × Int) := fun a0 =>
  Option.bind (spec_DrawCostliestWord a0) fun ((r0, r1, r2, r3), r4) =>
    some ((r0, r1, r2, r3), r4)
noncomputable def A61 : FnA := ⟨[.v (.sl (.int .u8))], false, [.pair (.int .i64) (.pair (.sl (.int .i64)) (.pair (.sl (.int .i64)) (.sl (.pair (.int .i64) (.pair .str (.pair (.int .i64) (.int .i64))))))), .int .i64], fun x => spec_DrawGreatestOf x.1⟩
theorem spec_DrawGreatestOf_eq : fnF E61 L61_0 [.v (.sl (.int .u8))] false [.pair (.int .i64) (.pair (.sl (.int .i64)) (.pair (.sl (.int .i64)) (.sl (.pair (.int .i64) (.pair .str (.pair (.int .i64) (.int .i64))))))), .int .i64] f61.ntmps f61.results.toList (codeOf f61) = fun x => spec_DrawGreatestOf x.1 := by kernel_rfl
theorem A61_ok : FnOk prog 61 A61 := by
  have h := fnOk_of_run (P := prog) (E := E61) (tysOk_of tyl_ok) E61_ok (L := L61_0) (ps := [.v (.sl (.int .u8))]) (own := false) (outs := [.pair (.int .i64) (.pair (.sl (.int .i64)) (.pair (.sl (.int .i64)) (.sl (.pair (.int .i64) (.pair .str (.pair (.int .i64) (.int .i64))))))), .int .i64]) func61 (c := codeOf f61) (by kernel_rfl) (codeOk_in (L := L61_0) (tysOk_of tyl_ok) E61_ok mixed (c := codeOf f61) (bs := []) (by kernel_rfl) allNil (by kernel_rfl))
  rw [spec_DrawGreatestOf_eq] at h
  exact h
/-! impl.ShortWords -/
noncomputable def E40 : Env := ⟨ty0, fun _ => none, fun _ => none, fun _ => none, fun _ => none⟩
theorem E40_ok : FnsOk prog E40 := (noFns _ _)
noncomputable def L40_0 : Nat → Option LoopD := fun _ => none
def sh40_8 : List Fm := [.cell (.val (.int .i64)), d, d, d, .cell (.own .str 100400 true), d, .cell (.val (.int .i64)), d, d, d, d, d, d, d, d, d, d, d, d, d, d, d, d, d, d, d, d, d, d, d, .cell (.val (.sl .str)), .cell (.val (.int .i64)), .cell (.val (.int .i64)), d, d, d, d, d, d, d, d, d, d, d, d, d]
def xs40_8 : List (Ex × List Fm) := [(.exit 2, [.cell (.val (.int .i64)), d, d, d, .cell (.own .str 100400 true), d, .cell (.val (.int .i64)), d, d, d, d, d, d, d, d, d, d, d, d, d, d, d, d, d, d, d, d, d, d, d, d, d, d, d, d, d, d, d, d, d, d, d, d, d, d, d])]
noncomputable def impl_ShortWords_l8 : (Int × (List ByteArray) × Int × (List ByteArray) × Int × Int × Unit) → Option ((Int × (List ByteArray) × Int × (List ByteArray) × Int × Int × Unit) ⊕ ((Int × (List ByteArray) × Int × Unit))) := fun (v0, v4, v6, v30, v31, v32, _) =>
  bif (decide (v32 < v31)) then
    if (((0 : Int) ≤ v32) ∧ (v32 < (((List.length v30) : Nat) : Int))) then
      if (((ByteArray.size (List.getD v30 (Int.toNat v32) (⟨Array.empty⟩ : ByteArray))) + (ByteArray.size (⟨#[(97 : UInt8)]⟩ : ByteArray))) ≤ 9223372036854775807) then
        if (((ByteArray.size (List.getD v30 (Int.toNat v32) (⟨Array.empty⟩ : ByteArray))) + (ByteArray.size (⟨#[(98 : UInt8)]⟩ : ByteArray))) ≤ 9223372036854775807) then
          if (((0 + (List.length v4)) = (List.length v4)) ∧ ((((List.length v4) + (List.length (List.take 2 (List.drop 0 [((List.getD v30 (Int.toNat v32) (⟨Array.empty⟩ : ByteArray)) ++ (⟨#[(97 : UInt8)]⟩ : ByteArray)), ((List.getD v30 (Int.toNat v32) (⟨Array.empty⟩ : ByteArray)) ++ (⟨#[(98 : UInt8)]⟩ : ByteArray))])))) * 16) ≤ 140737488355328)) then
            if ((0 + ((List.length v4) + (List.length (List.take 2 (List.drop 0 [((List.getD v30 (Int.toNat v32) (⟨Array.empty⟩ : ByteArray)) ++ (⟨#[(97 : UInt8)]⟩ : ByteArray)), ((List.getD v30 (Int.toNat v32) (⟨Array.empty⟩ : ByteArray)) ++ (⟨#[(98 : UInt8)]⟩ : ByteArray))]))))) = (List.length ((List.drop 0 v4) ++ (List.take 2 (List.drop 0 [((List.getD v30 (Int.toNat v32) (⟨Array.empty⟩ : ByteArray)) ++ (⟨#[(97 : UInt8)]⟩ : ByteArray)), ((List.getD v30 (Int.toNat v32) (⟨Array.empty⟩ : ByteArray)) ++ (⟨#[(98 : UInt8)]⟩ : ByteArray))]))))) then
              some (Sum.inl (v0, (List.drop 0 ((List.drop 0 v4) ++ (List.take 2 (List.drop 0 [((List.getD v30 (Int.toNat v32) (⟨Array.empty⟩ : ByteArray)) ++ (⟨#[(97 : UInt8)]⟩ : ByteArray)), ((List.getD v30 (Int.toNat v32) (⟨Array.empty⟩ : ByteArray)) ++ (⟨#[(98 : UInt8)]⟩ : ByteArray))])))), v6, v30, v31, (IntKind.wrap .i64 (v32 + (1 : Int))), ()))
            else
              none
          else
            none
        else
          none
      else
        none
    else
      none
  else
    if ((0 + (List.length v4)) = (List.length v4)) then
      some (Sum.inr (v0, (List.drop 0 v4), v6, ()))
    else
      none
theorem impl_ShortWords_l8_eq : loopStep 46 E40 L40_0 (loopOf f40 8) sh40_8 xs40_8 = impl_ShortWords_l8 := by kernel_rfl
theorem loop40_8 {L : Nat → Option LoopD} (h : L 8 = some ⟨46, sh40_8, xs40_8, impl_ShortWords_l8⟩) : LoopOk prog L (loopOf f40 8) :=
  loopOk (tysOk_of tyl_ok) E40_ok (codeOk_in (L := L40_0) (tysOk_of tyl_ok) E40_ok mixed (c := loopOf f40 8) (bs := []) (by kernel_rfl) allNil (by kernel_rfl)) (by kernel_rfl) (by kernel_rfl) impl_ShortWords_l8_eq (by rw [show firstId (loopOf f40 8) = 8 from by kernel_rfl]; exact h)
noncomputable def L40_1 : Nat → Option LoopD := fun n => ifEq n 8 (some ⟨46, sh40_8, xs40_8, impl_ShortWords_l8⟩) (L40_0 n)
def sh40_5 : List Fm := [.cell (.val (.int .i64)), d, d, d, .cell (.own .str 100400 true), .cell (.val (.int .i64)), d, d, d, d, d, d, d, d, d, d, d, d, d, d, d, d, d, d, d, d, d, d, d, d, d, d, d, d, d, d, d, d, d, d, d, d, d, d, d, d]
def xs40_5 : List (Ex × List Fm) := [(.exit 0, [d, d, d, d, .cell (.val (.sl .str)), d, d, d, d, d, d, d, d, d, d, d, d, d, d, d, d, d, d, d, d, d, d, d, d, d, d, d, d, d, d, d, d, d, d, d, d, d, d, d, d, d])]
noncomputable def impl_ShortWords_l5 : (Int × (List ByteArray) × Int × Unit) → Option ((Int × (List ByteArray) × Int × Unit) ⊕ (((List ByteArray) × Unit))) := fun (v0, v4, v5, _) =>
  if (((0 : Int) ≤ (IntKind.wrap .i64 ((((List.length v4) : Nat) : Int) - (1 : Int)))) ∧ ((IntKind.wrap .i64 ((((List.length v4) : Nat) : Int) - (1 : Int))) < (((List.length v4) : Nat) : Int))) then
    bif (decide ((((ByteArray.size (List.getD v4 (0 + (Int.toNat (IntKind.wrap .i64 ((((List.length v4) : Nat) : Int) - (1 : Int))))) (⟨Array.empty⟩ : ByteArray))) : Nat) : Int) < v0)) then
      if (((0 : Int) ≤ v5) ∧ ((v5 ≤ (((List.length v4) : Nat) : Int)) ∧ ((((List.length v4) : Nat) : Int) ≤ (((List.length v4) : Nat) : Int)))) then
        if ((0 + (List.length v4)) = (List.length v4)) then
          Option.bind (loopF impl_ShortWords_l8 (v0, (List.drop 0 v4), (((List.length v4) : Nat) : Int), (List.take ((Int.toNat (((List.length v4) : Nat) : Int)) - (Int.toNat v5)) (List.drop (0 + (Int.toNat v5)) v4)), ((((Int.toNat (((List.length v4) : Nat) : Int)) - (Int.toNat v5)) : Nat) : Int), (0 : Int), ())) fun (r0, r1, r2, _) =>
            if ((0 + (List.length r1)) = (List.length r1)) then
              some (Sum.inl (r0, (List.drop 0 r1), r2, ()))
            else
              none
        else
          none
      else
        none
    else
      some (Sum.inr ((List.take (List.length v4) (List.drop 0 v4)), ()))
  else
    none
theorem impl_ShortWords_l5_eq : loopStep 46 E40 L40_1 (loopOf f40 5) sh40_5 xs40_5 = impl_ShortWords_l5 := by kernel_rfl
theorem loop40_5 {L : Nat → Option LoopD} (h : L 5 = some ⟨46, sh40_5, xs40_5, impl_ShortWords_l5⟩) : LoopOk prog L (loopOf f40 5) :=
  loopOk (tysOk_of tyl_ok) E40_ok (codeOk_in (L := L40_1) (tysOk_of tyl_ok) E40_ok mixed (c := loopOf f40 5) (bs := [loopOf f40 8]) (by kernel_rfl) (allCons (loop40_8 rfl) allNil) (by kernel_rfl)) (by kernel_rfl) (by kernel_rfl) impl_ShortWords_l5_eq (by rw [show firstId (loopOf f40 5) = 5 from by kernel_rfl]; exact h)
noncomputable def L40_2 : Nat → Option LoopD := fun n => ifEq n 5 (some ⟨46, sh40_5, xs40_5, impl_ShortWords_l5⟩) (L40_1 n)
noncomputable def impl_ShortWords : Int → Option ((List ByteArray) × Bool) := fun a0 =>
  bif (decide (a0 < (0 : Int))) then
    some ([], false)
  else
    bif (decide (a0 > (7 : Int))) then
      some ([], false)
    else
      if ((0 + 1) = (List.length [(⟨#[]⟩ : ByteArray)])) then
        Option.bind (loopF impl_ShortWords_l5 (a0, (List.drop 0 [(⟨#[]⟩ : ByteArray)]), (0 : Int), ())) fun (r0, _) =>
          some (r0, true)
      else
        none
noncomputable def A40 : FnA := ⟨[.v (.int .i64)], false, [.sl .str, .bool], fun x => impl_ShortWords x.1⟩
theorem impl_ShortWords_eq : fnF E40 L40_2 [.v (.int .i64)] false [.sl .str, .bool] f40.ntmps f40.results.toList (codeOf f40) = fun x => impl_ShortWords x.1 := by kernel_rfl
theorem A40_ok : FnOk prog 40 A40 := by
  have h := fnOk_of_run (P := prog) (E := E40) (tysOk_of tyl_ok) E40_ok (L := L40_2) (ps := [.v (.int .i64)]) (own := false) (outs := [.sl .str, .bool]) func40 (c := codeOf f40) (by kernel_rfl) (codeOk_in (L := L40_2) (tysOk_of tyl_ok) E40_ok mixed (c := codeOf f40) (bs := [loopOf f40 5]) (by kernel_rfl) (allCons (loop40_5 rfl) allNil) (by kernel_rfl))
  rw [impl_ShortWords_eq] at h
  exact h
/-! impl.statesOk -/
noncomputable def E101 : Env := ⟨ty0, fun _ => none, fun _ => none, fun _ => none, fun _ => none⟩
theorem E101_ok : FnsOk prog E101 := (noFns _ _)
noncomputable def L101_0 : Nat → Option LoopD := fun _ => none
def sh101_2 : List Fm := [.cell (.val (.sl (.int .i64))), .cell (.val (.int .i64)), d, d, d, d, d, .cell (.val (.sl (.int .i64))), .cell (.val (.int .i64)), .cell (.val (.int .i64)), d, d, d, d, d, d, d, d, d, d, d, d, d, d, d, d, d, d, d, d, d, d, d, d, d]
def xs101_2 : List (Ex × List Fm) := [(.ret, [d, d, d, d, .cell (.val .bool), d, d, d, d, d, d, d, d, d, d, d, d, d, d, d, d, d, d, d, d, d, d, d, d, d, d, d, d, d, d]), (.exit 0, [d, d, d, d, d, d, d, d, d, d, d, d, d, d, d, d, d, d, d, d, d, d, d, d, d, d, d, d, d, d, d, d, d, d, d])]
noncomputable def impl_statesOk_l2 : ((List Int) × Int × (List Int) × Int × Int × Unit) → Option (((List Int) × Int × (List Int) × Int × Int × Unit) ⊕ ((Bool × Unit) ⊕ (Unit))) := fun (v0, v1, v7, v8, v9, _) =>
  bif (decide (v9 < v8)) then
    if (((0 : Int) ≤ v9) ∧ (v9 < (((List.length v7) : Nat) : Int))) then
      bif (decide ((List.getD v7 (Int.toNat v9) (0 : Int)) < (0 : Int))) then
        some (Sum.inr (Sum.inl (false, ())))
      else
        bif (decide ((List.getD v7 (Int.toNat v9) (0 : Int)) ≥ v1)) then
          some (Sum.inr (Sum.inl (false, ())))
        else
          bif (decide (v9 > (0 : Int))) then
            if (((0 : Int) ≤ (IntKind.wrap .i64 (v9 - (1 : Int)))) ∧ ((IntKind.wrap .i64 (v9 - (1 : Int))) < (((List.length v0) : Nat) : Int))) then
              bif (decide ((List.getD v0 (Int.toNat (IntKind.wrap .i64 (v9 - (1 : Int)))) (0 : Int)) ≥ (List.getD v7 (Int.toNat v9) (0 : Int)))) then
                some (Sum.inr (Sum.inl (false, ())))
              else
                some (Sum.inl (v0, v1, v7, v8, (IntKind.wrap .i64 (v9 + (1 : Int))), ()))
            else
              none
          else
            some (Sum.inl (v0, v1, v7, v8, (IntKind.wrap .i64 (v9 + (1 : Int))), ()))
    else
      none
  else
    some (Sum.inr (Sum.inr ()))
theorem impl_statesOk_l2_eq : loopStep 35 E101 L101_0 (loopOf f101 2) sh101_2 xs101_2 = impl_statesOk_l2 := by kernel_rfl
theorem loop101_2 {L : Nat → Option LoopD} (h : L 2 = some ⟨35, sh101_2, xs101_2, impl_statesOk_l2⟩) : LoopOk prog L (loopOf f101 2) :=
  loopOk (tysOk_of tyl_ok) E101_ok (codeOk_in (L := L101_0) (tysOk_of tyl_ok) E101_ok mixed (c := loopOf f101 2) (bs := []) (by kernel_rfl) allNil (by kernel_rfl)) (by kernel_rfl) (by kernel_rfl) impl_statesOk_l2_eq (by rw [show firstId (loopOf f101 2) = 2 from by kernel_rfl]; exact h)
noncomputable def L101_1 : Nat → Option LoopD := fun n => ifEq n 2 (some ⟨35, sh101_2, xs101_2, impl_statesOk_l2⟩) (L101_0 n)
noncomputable def impl_statesOk : (List Int) → Int → Option (Bool) := fun a0 a1 =>
  Option.bind (loopF impl_statesOk_l2 (a0, a1, a0, (((List.length a0) : Nat) : Int), (0 : Int), ())) fun r0 =>
    (match r0 with
    | .inl (d1, _) =>
        some d1
    | .inr _ =>
        some true)
noncomputable def A101 : FnA := ⟨[.v (.sl (.int .i64)), .v (.int .i64)], true, [.bool], fun x => impl_statesOk x.1 x.2.1⟩
theorem impl_statesOk_eq : fnF E101 L101_1 [.v (.sl (.int .i64)), .v (.int .i64)] true [.bool] f101.ntmps f101.results.toList (codeOf f101) = fun x => impl_statesOk x.1 x.2.1 := by kernel_rfl
theorem A101_ok : FnOk prog 101 A101 := by
  have h := fnOk_of_run (P := prog) (E := E101) (tysOk_of tyl_ok) E101_ok (L := L101_1) (ps := [.v (.sl (.int .i64)), .v (.int .i64)]) (own := true) (outs := [.bool]) func101 (c := codeOf f101) (by kernel_rfl) (codeOk_in (L := L101_1) (tysOk_of tyl_ok) E101_ok mixed (c := codeOf f101) (bs := [loopOf f101 2]) (by kernel_rfl) (allCons (loop101_2 rfl) allNil) (by kernel_rfl))
  rw [impl_statesOk_eq] at h
  exact h
/-! cmp.isNaN[int] -/
noncomputable def E174 : Env := ⟨ty0, fun _ => none, fun _ => none, fun _ => none, fun _ => none⟩
theorem E174_ok : FnsOk prog E174 := (noFns _ _)
noncomputable def L174_0 : Nat → Option LoopD := fun _ => none
noncomputable def cmp_isNaN : Int → Option (Bool) := fun a0 =>
  some (a0 != a0)
noncomputable def A174 : FnA := ⟨[.v (.int .i64)], true, [.bool], fun x => cmp_isNaN x.1⟩
theorem cmp_isNaN_eq : fnF E174 L174_0 [.v (.int .i64)] true [.bool] f174.ntmps f174.results.toList (codeOf f174) = fun x => cmp_isNaN x.1 := by kernel_rfl
theorem A174_ok : FnOk prog 174 A174 := by
  have h := fnOk_of_run (P := prog) (E := E174) (tysOk_of tyl_ok) E174_ok (L := L174_0) (ps := [.v (.int .i64)]) (own := true) (outs := [.bool]) func174 (c := codeOf f174) (by kernel_rfl) (codeOk_in (L := L174_0) (tysOk_of tyl_ok) E174_ok mixed (c := codeOf f174) (bs := []) (by kernel_rfl) allNil (by kernel_rfl))
  rw [cmp_isNaN_eq] at h
  exact h
/-! cmp.Compare[int] -/
noncomputable def E145 : Env := ⟨ty0, fun g => ifEq g 174 (some A174) (none), fun _ => none, fun _ => none, fun _ => none⟩
theorem E145_ok : FnsOk prog E145 := (oneFn A174_ok func174 (by kernel_rfl) (by kernel_rfl) (noFns _ _))
noncomputable def L145_0 : Nat → Option LoopD := fun _ => none
noncomputable def cmp_Compare : Int → Int → Option (Int) := fun a0 a1 =>
  Option.bind (cmp_isNaN a0) fun r0 =>
    Option.bind (cmp_isNaN a1) fun r1 =>
      bif r0 then
        bif r1 then
          some (0 : Int)
        else
          some (-1 : Int)
      else
        bif r1 then
          some (1 : Int)
        else
          bif (decide (a0 < a1)) then
            some (-1 : Int)
          else
            bif (decide (a0 > a1)) then
              some (1 : Int)
            else
              some (0 : Int)
noncomputable def A145 : FnA := ⟨[.v (.int .i64), .v (.int .i64)], true, [.int .i64], fun x => cmp_Compare x.1 x.2.1⟩
theorem cmp_Compare_eq : fnF E145 L145_0 [.v (.int .i64), .v (.int .i64)] true [.int .i64] f145.ntmps f145.results.toList (codeOf f145) = fun x => cmp_Compare x.1 x.2.1 := by kernel_rfl
theorem A145_ok : FnOk prog 145 A145 := by
  have h := fnOk_of_run (P := prog) (E := E145) (tysOk_of tyl_ok) E145_ok (L := L145_0) (ps := [.v (.int .i64), .v (.int .i64)]) (own := true) (outs := [.int .i64]) func145 (c := codeOf f145) (by kernel_rfl) (codeOk_in (L := L145_0) (tysOk_of tyl_ok) E145_ok mixed (c := codeOf f145) (bs := []) (by kernel_rfl) allNil (by kernel_rfl))
  rw [cmp_Compare_eq] at h
  exact h
/-! cmp.Or[int] -/
noncomputable def E144 : Env := ⟨ty0, fun _ => none, fun _ => none, fun _ => none, fun _ => none⟩
theorem E144_ok : FnsOk prog E144 := (noFns _ _)
noncomputable def L144_0 : Nat → Option LoopD := fun _ => none
def sh144_3 : List Fm := [d, d, d, .cell (.val (.int .i64)), d, d, .cell (.val (.sl (.int .i64))), .cell (.val (.int .i64)), .cell (.val (.int .i64)), d, d, d, d, d, d, d, d, d]
def xs144_3 : List (Ex × List Fm) := [(.ret, [d, d, .cell (.val (.int .i64)), d, d, d, d, d, d, d, d, d, d, d, d, d, d, d]), (.exit 0, [d, d, d, .cell (.val (.int .i64)), d, d, d, d, d, d, d, d, d, d, d, d, d, d])]
noncomputable def cmp_Or_l3 : (Int × (List Int) × Int × Int × Unit) → Option ((Int × (List Int) × Int × Int × Unit) ⊕ ((Int × Unit) ⊕ (Int × Unit))) := fun (v3, v6, v7, v8, _) =>
  bif (decide (v8 < v7)) then
    if (((0 : Int) ≤ v8) ∧ (v8 < (((List.length v6) : Nat) : Int))) then
      bif ((List.getD v6 (Int.toNat v8) (0 : Int)) != v3) then
        some (Sum.inr (Sum.inl ((List.getD v6 (Int.toNat v8) (0 : Int)), ())))
      else
        some (Sum.inl (v3, v6, v7, (IntKind.wrap .i64 (v8 + (1 : Int))), ()))
    else
      none
  else
    some (Sum.inr (Sum.inr (v3, ())))
theorem cmp_Or_l3_eq : loopStep 18 E144 L144_0 (loopOf f144 3) sh144_3 xs144_3 = cmp_Or_l3 := by kernel_rfl
theorem loop144_3 {L : Nat → Option LoopD} (h : L 3 = some ⟨18, sh144_3, xs144_3, cmp_Or_l3⟩) : LoopOk prog L (loopOf f144 3) :=
  loopOk (tysOk_of tyl_ok) E144_ok (codeOk_in (L := L144_0) (tysOk_of tyl_ok) E144_ok mixed (c := loopOf f144 3) (bs := []) (by kernel_rfl) allNil (by kernel_rfl)) (by kernel_rfl) (by kernel_rfl) cmp_Or_l3_eq (by rw [show firstId (loopOf f144 3) = 3 from by kernel_rfl]; exact h)
noncomputable def L144_1 : Nat → Option LoopD := fun n => ifEq n 3 (some ⟨18, sh144_3, xs144_3, cmp_Or_l3⟩) (L144_0 n)
noncomputable def cmp_Or : (List Int) → Option (Int) := fun a0 =>
  Option.bind (loopF cmp_Or_l3 ((0 : Int), a0, (((List.length a0) : Nat) : Int), (0 : Int), ())) fun r0 =>
    (match r0 with
    | .inl (d1, _) =>
        some d1
    | .inr (d2, _) =>
        some d2)
noncomputable def A144 : FnA := ⟨[.v (.sl (.int .i64))], true, [.int .i64], fun x => cmp_Or x.1⟩
theorem cmp_Or_eq : fnF E144 L144_1 [.v (.sl (.int .i64))] true [.int .i64] f144.ntmps f144.results.toList (codeOf f144) = fun x => cmp_Or x.1 := by kernel_rfl
theorem A144_ok : FnOk prog 144 A144 := by
  have h := fnOk_of_run (P := prog) (E := E144) (tysOk_of tyl_ok) E144_ok (L := L144_1) (ps := [.v (.sl (.int .i64))]) (own := true) (outs := [.int .i64]) func144 (c := codeOf f144) (by kernel_rfl) (codeOk_in (L := L144_1) (tysOk_of tyl_ok) E144_ok mixed (c := codeOf f144) (bs := [loopOf f144 3]) (by kernel_rfl) (allCons (loop144_3 rfl) allNil) (by kernel_rfl))
  rw [cmp_Or_eq] at h
  exact h
/-! impl.stepOrder -/
noncomputable def E102 : Env := ⟨ty0, fun g => ifEq g 145 (some A145) (ifEq g 146 (some A146) (ifEq g 144 (some A144) (none))), fun _ => none, fun _ => none, fun _ => none⟩
theorem E102_ok : FnsOk prog E102 := (oneFn A145_ok func145 (by kernel_rfl) (by kernel_rfl) (oneFn A146_ok func146 (by kernel_rfl) (by kernel_rfl) (oneFn A144_ok func144 (by kernel_rfl) (by kernel_rfl) (noFns _ _))))
noncomputable def L102_0 : Nat → Option LoopD := fun _ => none
noncomputable def impl_stepOrder : (Int × (ByteArray × (Int × Int))) → (Int × (ByteArray × (Int × Int))) → Option (Int) := fun (a0_0, a0_1, a0_2, a0_3) (a1_0, a1_1, a1_2, a1_3) =>
  Option.bind (cmp_Compare a0_0 a1_0) fun r0 =>
    Option.bind (strings_Compare a0_1 a1_1) fun r1 =>
      Option.bind (cmp_Compare a0_2 a1_2) fun r2 =>
        Option.bind (cmp_Or (List.take 3 (List.drop 0 [r0, r1, r2]))) fun r3 =>
          some r3
noncomputable def A102 : FnA := ⟨[.v (.pair (.int .i64) (.pair .str (.pair (.int .i64) (.int .i64)))), .v (.pair (.int .i64) (.pair .str (.pair (.int .i64) (.int .i64))))], true, [.int .i64], fun x => impl_stepOrder x.1 x.2.1⟩
theorem impl_stepOrder_eq : fnF E102 L102_0 [.v (.pair (.int .i64) (.pair .str (.pair (.int .i64) (.int .i64)))), .v (.pair (.int .i64) (.pair .str (.pair (.int .i64) (.int .i64))))] true [.int .i64] f102.ntmps f102.results.toList (codeOf f102) = fun x => impl_stepOrder x.1 x.2.1 := by kernel_rfl
theorem A102_ok : FnOk prog 102 A102 := by
  have h := fnOk_of_run (P := prog) (E := E102) (tysOk_of tyl_ok) E102_ok (L := L102_0) (ps := [.v (.pair (.int .i64) (.pair .str (.pair (.int .i64) (.int .i64)))), .v (.pair (.int .i64) (.pair .str (.pair (.int .i64) (.int .i64))))]) (own := true) (outs := [.int .i64]) func102 (c := codeOf f102) (by kernel_rfl) (codeOk_in (L := L102_0) (tysOk_of tyl_ok) E102_ok mixed (c := codeOf f102) (bs := []) (by kernel_rfl) allNil (by kernel_rfl))
  rw [impl_stepOrder_eq] at h
  exact h
/-! impl.AutomatonValid -/
noncomputable def E60 : Env := ⟨ty0, fun g => ifEq g 101 (some A101) (ifEq g 102 (some A102) (none)), fun _ => none, fun _ => none, fun _ => none⟩
theorem E60_ok : FnsOk prog E60 := (oneFn A101_ok func101 (by kernel_rfl) (by kernel_rfl) (oneFn A102_ok func102 (by kernel_rfl) (by kernel_rfl) (noFns _ _)))
noncomputable def L60_0 : Nat → Option LoopD := fun _ => none
def sh60_4 : List Fm := [d, .box 100100 [.val (.int .i64), .val (.sl (.int .i64)), .val (.sl (.int .i64)), .val (.sl (.pair (.int .i64) (.pair .str (.pair (.int .i64) (.int .i64)))))], d, d, d, d, d, d, d, d, d, d, d, d, d, d, d, d, d, d, d, d, d, d, d, d, d, d, d, d, d, d, d, d, d, d, .cell (.val (.sl (.pair (.int .i64) (.pair .str (.pair (.int .i64) (.int .i64)))))), .cell (.val (.int .i64)), .cell (.val (.int .i64)), d, d, d, d, d, d, d, d, d, d, d, d, d, d, d, d, d, d, d, d, d, d, d, d, d, d, d, d, d, d, d, d, d, d, d, d, d, d, d, d, d, d, d, d, d, d, d, d, d, d, d, d, d, d, d, d, d, d, d, d, d, d]
def xs60_4 : List (Ex × List Fm) := [(.ret, [d, d, .cell (.val .bool), d, d, d, d, d, d, d, d, d, d, d, d, d, d, d, d, d, d, d, d, d, d, d, d, d, d, d, d, d, d, d, d, d, d, d, d, d, d, d, d, d, d, d, d, d, d, d, d, d, d, d, d, d, d, d, d, d, d, d, d, d, d, d, d, d, d, d, d, d, d, d, d, d, d, d, d, d, d, d, d, d, d, d, d, d, d, d, d, d, d, d, d, d, d, d, d, d, d]), (.exit 0, [d, d, d, d, d, d, d, d, d, d, d, d, d, d, d, d, d, d, d, d, d, d, d, d, d, d, d, d, d, d, d, d, d, d, d, d, d, d, d, d, d, d, d, d, d, d, d, d, d, d, d, d, d, d, d, d, d, d, d, d, d, d, d, d, d, d, d, d, d, d, d, d, d, d, d, d, d, d, d, d, d, d, d, d, d, d, d, d, d, d, d, d, d, d, d, d, d, d, d, d, d])]
noncomputable def impl_AutomatonValid_l4 : ((Int × (List Int) × (List Int) × (List (Int × (ByteArray × (Int × Int)))) × Unit) × (List (Int × (ByteArray × (Int × Int)))) × Int × Int × Unit) → Option (((Int × (List Int) × (List Int) × (List (Int × (ByteArray × (Int × Int)))) × Unit) × (List (Int × (ByteArray × (Int × Int)))) × Int × Int × Unit) ⊕ ((Bool × Unit) ⊕ (Unit))) := fun ((v1_0, v1_1, v1_2, v1_3, _), v36, v37, v38, _) =>
  bif (decide (v38 < v37)) then
    if (((0 : Int) ≤ v38) ∧ (v38 < (((List.length v36) : Nat) : Int))) then
      bif (decide ((List.getD v36 (Int.toNat v38) ((0 : Int), (⟨Array.empty⟩ : ByteArray), (0 : Int), (0 : Int))).1 < (0 : Int))) then
        some (Sum.inr (Sum.inl (false, ())))
      else
        bif (decide ((List.getD v36 (Int.toNat v38) ((0 : Int), (⟨Array.empty⟩ : ByteArray), (0 : Int), (0 : Int))).1 ≥ v1_0)) then
          some (Sum.inr (Sum.inl (false, ())))
        else
          bif (decide ((List.getD v36 (Int.toNat v38) ((0 : Int), (⟨Array.empty⟩ : ByteArray), (0 : Int), (0 : Int))).2.2.1 < (0 : Int))) then
            some (Sum.inr (Sum.inl (false, ())))
          else
            bif (decide ((List.getD v36 (Int.toNat v38) ((0 : Int), (⟨Array.empty⟩ : ByteArray), (0 : Int), (0 : Int))).2.2.1 ≥ v1_0)) then
              some (Sum.inr (Sum.inl (false, ())))
            else
              bif (!((ByteArray.toList (List.getD v36 (Int.toNat v38) ((0 : Int), (⟨Array.empty⟩ : ByteArray), (0 : Int), (0 : Int))).2.1) == (ByteArray.toList (⟨#[(97 : UInt8)]⟩ : ByteArray)))) then
                bif (!((ByteArray.toList (List.getD v36 (Int.toNat v38) ((0 : Int), (⟨Array.empty⟩ : ByteArray), (0 : Int), (0 : Int))).2.1) == (ByteArray.toList (⟨#[(98 : UInt8)]⟩ : ByteArray)))) then
                  some (Sum.inr (Sum.inl (false, ())))
                else
                  bif (decide ((List.getD v36 (Int.toNat v38) ((0 : Int), (⟨Array.empty⟩ : ByteArray), (0 : Int), (0 : Int))).2.2.2 < (0 : Int))) then
                    some (Sum.inr (Sum.inl (false, ())))
                  else
                    bif (decide ((List.getD v36 (Int.toNat v38) ((0 : Int), (⟨Array.empty⟩ : ByteArray), (0 : Int), (0 : Int))).2.2.2 > (3 : Int))) then
                      some (Sum.inr (Sum.inl (false, ())))
                    else
                      bif (decide (v38 > (0 : Int))) then
                        if (((0 : Int) ≤ (IntKind.wrap .i64 (v38 - (1 : Int)))) ∧ ((IntKind.wrap .i64 (v38 - (1 : Int))) < (((List.length v1_3) : Nat) : Int))) then
                          Option.bind (impl_stepOrder (List.getD v1_3 (Int.toNat (IntKind.wrap .i64 (v38 - (1 : Int)))) ((0 : Int), (⟨Array.empty⟩ : ByteArray), (0 : Int), (0 : Int))) ((List.getD v36 (Int.toNat v38) ((0 : Int), (⟨Array.empty⟩ : ByteArray), (0 : Int), (0 : Int))).1, (List.getD v36 (Int.toNat v38) ((0 : Int), (⟨Array.empty⟩ : ByteArray), (0 : Int), (0 : Int))).2.1, (List.getD v36 (Int.toNat v38) ((0 : Int), (⟨Array.empty⟩ : ByteArray), (0 : Int), (0 : Int))).2.2.1, (List.getD v36 (Int.toNat v38) ((0 : Int), (⟨Array.empty⟩ : ByteArray), (0 : Int), (0 : Int))).2.2.2)) fun r0 =>
                            bif (decide (r0 ≥ (0 : Int))) then
                              some (Sum.inr (Sum.inl (false, ())))
                            else
                              some (Sum.inl ((v1_0, v1_1, v1_2, v1_3, ()), v36, v37, (IntKind.wrap .i64 (v38 + (1 : Int))), ()))
                        else
                          none
                      else
                        some (Sum.inl ((v1_0, v1_1, v1_2, v1_3, ()), v36, v37, (IntKind.wrap .i64 (v38 + (1 : Int))), ()))
              else
                bif (decide ((List.getD v36 (Int.toNat v38) ((0 : Int), (⟨Array.empty⟩ : ByteArray), (0 : Int), (0 : Int))).2.2.2 < (0 : Int))) then
                  some (Sum.inr (Sum.inl (false, ())))
                else
                  bif (decide ((List.getD v36 (Int.toNat v38) ((0 : Int), (⟨Array.empty⟩ : ByteArray), (0 : Int), (0 : Int))).2.2.2 > (3 : Int))) then
                    some (Sum.inr (Sum.inl (false, ())))
                  else
                    bif (decide (v38 > (0 : Int))) then
                      if (((0 : Int) ≤ (IntKind.wrap .i64 (v38 - (1 : Int)))) ∧ ((IntKind.wrap .i64 (v38 - (1 : Int))) < (((List.length v1_3) : Nat) : Int))) then
                        Option.bind (impl_stepOrder (List.getD v1_3 (Int.toNat (IntKind.wrap .i64 (v38 - (1 : Int)))) ((0 : Int), (⟨Array.empty⟩ : ByteArray), (0 : Int), (0 : Int))) ((List.getD v36 (Int.toNat v38) ((0 : Int), (⟨Array.empty⟩ : ByteArray), (0 : Int), (0 : Int))).1, (List.getD v36 (Int.toNat v38) ((0 : Int), (⟨Array.empty⟩ : ByteArray), (0 : Int), (0 : Int))).2.1, (List.getD v36 (Int.toNat v38) ((0 : Int), (⟨Array.empty⟩ : ByteArray), (0 : Int), (0 : Int))).2.2.1, (List.getD v36 (Int.toNat v38) ((0 : Int), (⟨Array.empty⟩ : ByteArray), (0 : Int), (0 : Int))).2.2.2)) fun r1 =>
                          bif (decide (r1 ≥ (0 : Int))) then
                            some (Sum.inr (Sum.inl (false, ())))
                          else
                            some (Sum.inl ((v1_0, v1_1, v1_2, v1_3, ()), v36, v37, (IntKind.wrap .i64 (v38 + (1 : Int))), ()))
                      else
                        none
                    else
                      some (Sum.inl ((v1_0, v1_1, v1_2, v1_3, ()), v36, v37, (IntKind.wrap .i64 (v38 + (1 : Int))), ()))
    else
      none
  else
    some (Sum.inr (Sum.inr ()))
theorem impl_AutomatonValid_l4_eq : loopStep 101 E60 L60_0 (loopOf f60 4) sh60_4 xs60_4 = impl_AutomatonValid_l4 := by kernel_rfl
theorem loop60_4 {L : Nat → Option LoopD} (h : L 4 = some ⟨101, sh60_4, xs60_4, impl_AutomatonValid_l4⟩) : LoopOk prog L (loopOf f60 4) :=
  loopOk (tysOk_of tyl_ok) E60_ok (codeOk_in (L := L60_0) (tysOk_of tyl_ok) E60_ok mixed (c := loopOf f60 4) (bs := []) (by kernel_rfl) allNil (by kernel_rfl)) (by kernel_rfl) (by kernel_rfl) impl_AutomatonValid_l4_eq (by rw [show firstId (loopOf f60 4) = 4 from by kernel_rfl]; exact h)
noncomputable def L60_1 : Nat → Option LoopD := fun n => ifEq n 4 (some ⟨101, sh60_4, xs60_4, impl_AutomatonValid_l4⟩) (L60_0 n)
noncomputable def impl_AutomatonValid : (Int × ((List Int) × ((List Int) × (List (Int × (ByteArray × (Int × Int))))))) → Option (Bool) := fun (a0_0, a0_1, a0_2, a0_3) =>
  bif (decide (a0_0 < (1 : Int))) then
    some false
  else
    bif (decide (a0_0 > (4 : Int))) then
      some false
    else
      bif (decide ((((List.length a0_3) : Nat) : Int) > (24 : Int))) then
        some false
      else
        Option.bind (impl_statesOk a0_1 a0_0) fun r0 =>
          bif (!r0) then
            some false
          else
            Option.bind (impl_statesOk a0_2 a0_0) fun r1 =>
              bif (!r1) then
                some false
              else
                Option.bind (loopF impl_AutomatonValid_l4 ((a0_0, a0_1, a0_2, a0_3, ()), a0_3, (((List.length a0_3) : Nat) : Int), (0 : Int), ())) fun r2 =>
                  (match r2 with
                  | .inl (d3, _) =>
                      some d3
                  | .inr _ =>
                      some true)
noncomputable def A60 : FnA := ⟨[.v (.pair (.int .i64) (.pair (.sl (.int .i64)) (.pair (.sl (.int .i64)) (.sl (.pair (.int .i64) (.pair .str (.pair (.int .i64) (.int .i64))))))))], true, [.bool], fun x => impl_AutomatonValid x.1⟩
theorem impl_AutomatonValid_eq : fnF E60 L60_1 [.v (.pair (.int .i64) (.pair (.sl (.int .i64)) (.pair (.sl (.int .i64)) (.sl (.pair (.int .i64) (.pair .str (.pair (.int .i64) (.int .i64))))))))] true [.bool] f60.ntmps f60.results.toList (codeOf f60) = fun x => impl_AutomatonValid x.1 := by kernel_rfl
theorem A60_ok : FnOk prog 60 A60 := by
  have h := fnOk_of_run (P := prog) (E := E60) (tysOk_of tyl_ok) E60_ok (L := L60_1) (ps := [.v (.pair (.int .i64) (.pair (.sl (.int .i64)) (.pair (.sl (.int .i64)) (.sl (.pair (.int .i64) (.pair .str (.pair (.int .i64) (.int .i64))))))))]) (own := true) (outs := [.bool]) func60 (c := codeOf f60) (by kernel_rfl) (codeOk_in (L := L60_1) (tysOk_of tyl_ok) E60_ok mixed (c := codeOf f60) (bs := [loopOf f60 4]) (by kernel_rfl) (allCons (loop60_4 rfl) allNil) (by kernel_rfl))
  rw [impl_AutomatonValid_eq] at h
  exact h
/-! impl.short -/
noncomputable def E94 : Env := ⟨ty0, fun g => ifEq g 40 (some A40) (ifEq g 60 (some A60) (none)), fun _ => none, fun _ => none, fun _ => none⟩
theorem E94_ok : FnsOk prog E94 := (oneFn A40_ok func40 (by kernel_rfl) (by kernel_rfl) (oneFn A60_ok func60 (by kernel_rfl) (by kernel_rfl) (noFns _ _)))
noncomputable def L94_0 : Nat → Option LoopD := fun _ => none
def sh94_3 : List Fm := [d, d, d, d, d, d, .cell (.val (.sl .str)), .cell (.val .bool), d, d, d, d, d, d, d, .cell (.val (.sl (.pair (.int .i64) (.pair (.sl (.int .i64)) (.pair (.sl (.int .i64)) (.sl (.pair (.int .i64) (.pair .str (.pair (.int .i64) (.int .i64)))))))))), .cell (.val (.int .i64)), .cell (.val (.int .i64)), d, d, d, d, d, d, d, d, d, d, d]
def xs94_3 : List (Ex × List Fm) := [(.exit 0, [d, d, d, d, d, d, .cell (.val (.sl .str)), .cell (.val .bool), d, d, d, d, d, d, d, d, d, d, d, d, d, d, d, d, d, d, d, d, d])]
noncomputable def impl_short_l3 : ((List ByteArray) × Bool × (List (Int × ((List Int) × ((List Int) × (List (Int × (ByteArray × (Int × Int)))))))) × Int × Int × Unit) → Option (((List ByteArray) × Bool × (List (Int × ((List Int) × ((List Int) × (List (Int × (ByteArray × (Int × Int)))))))) × Int × Int × Unit) ⊕ (((List ByteArray) × Bool × Unit))) := fun (v6, v7, v15, v16, v17, _) =>
  bif (decide (v17 < v16)) then
    if (((0 : Int) ≤ v17) ∧ (v17 < (((List.length v15) : Nat) : Int))) then
      bif v7 then
        Option.bind (impl_AutomatonValid ((List.getD v15 (Int.toNat v17) ((0 : Int), [], [], [])).1, (List.getD v15 (Int.toNat v17) ((0 : Int), [], [], [])).2.1, (List.getD v15 (Int.toNat v17) ((0 : Int), [], [], [])).2.2.1, (List.getD v15 (Int.toNat v17) ((0 : Int), [], [], [])).2.2.2)) fun r0 =>
          some (Sum.inl (v6, r0, v15, v16, (IntKind.wrap .i64 (v17 + (1 : Int))), ()))
      else
        some (Sum.inl (v6, false, v15, v16, (IntKind.wrap .i64 (v17 + (1 : Int))), ()))
    else
      none
  else
    some (Sum.inr (v6, v7, ()))
theorem impl_short_l3_eq : loopStep 29 E94 L94_0 (loopOf f94 3) sh94_3 xs94_3 = impl_short_l3 := by kernel_rfl
theorem loop94_3 {L : Nat → Option LoopD} (h : L 3 = some ⟨29, sh94_3, xs94_3, impl_short_l3⟩) : LoopOk prog L (loopOf f94 3) :=
  loopOk (tysOk_of tyl_ok) E94_ok (codeOk_in (L := L94_0) (tysOk_of tyl_ok) E94_ok mixed (c := loopOf f94 3) (bs := []) (by kernel_rfl) allNil (by kernel_rfl)) (by kernel_rfl) (by kernel_rfl) impl_short_l3_eq (by rw [show firstId (loopOf f94 3) = 3 from by kernel_rfl]; exact h)
noncomputable def L94_1 : Nat → Option LoopD := fun n => ifEq n 3 (some ⟨29, sh94_3, xs94_3, impl_short_l3⟩) (L94_0 n)
noncomputable def impl_short : Int → (List (Int × ((List Int) × ((List Int) × (List (Int × (ByteArray × (Int × Int)))))))) → Option ((List ByteArray) × Bool) := fun a0 a1 =>
  Option.bind (impl_ShortWords a0) fun (r0, r1) =>
    Option.bind (loopF impl_short_l3 (r0, r1, a1, (((List.length a1) : Nat) : Int), (0 : Int), ())) fun (r2, r3, _) =>
      some (r2, r3)
noncomputable def A94 : FnA := ⟨[.v (.int .i64), .v (.sl (.pair (.int .i64) (.pair (.sl (.int .i64)) (.pair (.sl (.int .i64)) (.sl (.pair (.int .i64) (.pair .str (.pair (.int .i64) (.int .i64)))))))))], false, [.sl .str, .bool], fun x => impl_short x.1 x.2.1⟩
theorem impl_short_eq : fnF E94 L94_1 [.v (.int .i64), .v (.sl (.pair (.int .i64) (.pair (.sl (.int .i64)) (.pair (.sl (.int .i64)) (.sl (.pair (.int .i64) (.pair .str (.pair (.int .i64) (.int .i64)))))))))] false [.sl .str, .bool] f94.ntmps f94.results.toList (codeOf f94) = fun x => impl_short x.1 x.2.1 := by kernel_rfl
theorem A94_ok : FnOk prog 94 A94 := by
  have h := fnOk_of_run (P := prog) (E := E94) (tysOk_of tyl_ok) E94_ok (L := L94_1) (ps := [.v (.int .i64), .v (.sl (.pair (.int .i64) (.pair (.sl (.int .i64)) (.pair (.sl (.int .i64)) (.sl (.pair (.int .i64) (.pair .str (.pair (.int .i64) (.int .i64)))))))))]) (own := false) (outs := [.sl .str, .bool]) func94 (c := codeOf f94) (by kernel_rfl) (codeOk_in (L := L94_1) (tysOk_of tyl_ok) E94_ok mixed (c := codeOf f94) (bs := [loopOf f94 3]) (by kernel_rfl) (allCons (loop94_3 rfl) allNil) (by kernel_rfl))
  rw [impl_short_eq] at h
  exact h
/-! math/bits.Mul64 -/
noncomputable def E191 : Env := ⟨ty0, fun _ => none, fun _ => none, fun _ => none, fun _ => none⟩
theorem E191_ok : FnsOk prog E191 := (noFns _ _)
noncomputable def L191_0 : Nat → Option LoopD := fun _ => none
noncomputable def bits_Mul64 : Int → Int → Option (Int × Int) := fun a0 a1 =>
  if ((32 : Int) < (0 : Int)) then
    none
  else
    if ((32 : Int) < (0 : Int)) then
      none
    else
      if ((32 : Int) < (0 : Int)) then
        none
      else
        if ((32 : Int) < (0 : Int)) then
          none
        else
          if ((32 : Int) < (0 : Int)) then
            none
          else
            some ((IntKind.wrap .u64 ((IntKind.wrap .u64 ((IntKind.wrap .u64 ((Int.fdiv a0 ((2 : Int) ^ (Min.min (Int.toNat (32 : Int)) (IntKind.bits .u64)))) * (Int.fdiv a1 ((2 : Int) ^ (Min.min (Int.toNat (32 : Int)) (IntKind.bits .u64)))))) + (Int.fdiv (IntKind.wrap .u64 ((IntKind.wrap .u64 ((Int.fdiv a0 ((2 : Int) ^ (Min.min (Int.toNat (32 : Int)) (IntKind.bits .u64)))) * ((((BitVec.toNat ((BitVec.ofInt (IntKind.bits .u64) a1) &&& (BitVec.ofInt (IntKind.bits .u64) (4294967295 : Int)))) % (Int.natAbs ((2 : Int) ^ (IntKind.bits .u64)))) : Nat) : Int))) + (Int.fdiv (IntKind.wrap .u64 (((((BitVec.toNat ((BitVec.ofInt (IntKind.bits .u64) a0) &&& (BitVec.ofInt (IntKind.bits .u64) (4294967295 : Int)))) % (Int.natAbs ((2 : Int) ^ (IntKind.bits .u64)))) : Nat) : Int) * ((((BitVec.toNat ((BitVec.ofInt (IntKind.bits .u64) a1) &&& (BitVec.ofInt (IntKind.bits .u64) (4294967295 : Int)))) % (Int.natAbs ((2 : Int) ^ (IntKind.bits .u64)))) : Nat) : Int))) ((2 : Int) ^ (Min.min (Int.toNat (32 : Int)) (IntKind.bits .u64)))))) ((2 : Int) ^ (Min.min (Int.toNat (32 : Int)) (IntKind.bits .u64)))))) + (Int.fdiv (IntKind.wrap .u64 (((((BitVec.toNat ((BitVec.ofInt (IntKind.bits .u64) (IntKind.wrap .u64 ((IntKind.wrap .u64 ((Int.fdiv a0 ((2 : Int) ^ (Min.min (Int.toNat (32 : Int)) (IntKind.bits .u64)))) * ((((BitVec.toNat ((BitVec.ofInt (IntKind.bits .u64) a1) &&& (BitVec.ofInt (IntKind.bits .u64) (4294967295 : Int)))) % (Int.natAbs ((2 : Int) ^ (IntKind.bits .u64)))) : Nat) : Int))) + (Int.fdiv (IntKind.wrap .u64 (((((BitVec.toNat ((BitVec.ofInt (IntKind.bits .u64) a0) &&& (BitVec.ofInt (IntKind.bits .u64) (4294967295 : Int)))) % (Int.natAbs ((2 : Int) ^ (IntKind.bits .u64)))) : Nat) : Int) * ((((BitVec.toNat ((BitVec.ofInt (IntKind.bits .u64) a1) &&& (BitVec.ofInt (IntKind.bits .u64) (4294967295 : Int)))) % (Int.natAbs ((2 : Int) ^ (IntKind.bits .u64)))) : Nat) : Int))) ((2 : Int) ^ (Min.min (Int.toNat (32 : Int)) (IntKind.bits .u64))))))) &&& (BitVec.ofInt (IntKind.bits .u64) (4294967295 : Int)))) % (Int.natAbs ((2 : Int) ^ (IntKind.bits .u64)))) : Nat) : Int) + (IntKind.wrap .u64 (((((BitVec.toNat ((BitVec.ofInt (IntKind.bits .u64) a0) &&& (BitVec.ofInt (IntKind.bits .u64) (4294967295 : Int)))) % (Int.natAbs ((2 : Int) ^ (IntKind.bits .u64)))) : Nat) : Int) * (Int.fdiv a1 ((2 : Int) ^ (Min.min (Int.toNat (32 : Int)) (IntKind.bits .u64)))))))) ((2 : Int) ^ (Min.min (Int.toNat (32 : Int)) (IntKind.bits .u64)))))), (IntKind.wrap .u64 (a0 * a1)))
noncomputable def A191 : FnA := ⟨[.v (.int .u64), .v (.int .u64)], true, [.int .u64, .int .u64], fun x => bits_Mul64 x.1 x.2.1⟩
theorem bits_Mul64_eq : fnF E191 L191_0 [.v (.int .u64), .v (.int .u64)] true [.int .u64, .int .u64] f191.ntmps f191.results.toList (codeOf f191) = fun x => bits_Mul64 x.1 x.2.1 := by kernel_rfl
theorem A191_ok : FnOk prog 191 A191 := by
  have h := fnOk_of_run (P := prog) (E := E191) (tysOk_of tyl_ok) E191_ok (L := L191_0) (ps := [.v (.int .u64), .v (.int .u64)]) (own := true) (outs := [.int .u64, .int .u64]) func191 (c := codeOf f191) (by kernel_rfl) (codeOk_in (L := L191_0) (tysOk_of tyl_ok) E191_ok mixed (c := codeOf f191) (bs := []) (by kernel_rfl) allNil (by kernel_rfl))
  rw [bits_Mul64_eq] at h
  exact h
/-! math/bits.Mul -/
noncomputable def E165 : Env := ⟨ty0, fun g => ifEq g 191 (some A191) (none), fun _ => none, fun _ => none, fun _ => none⟩
theorem E165_ok : FnsOk prog E165 := (oneFn A191_ok func191 (by kernel_rfl) (by kernel_rfl) (noFns _ _))
noncomputable def L165_0 : Nat → Option LoopD := fun _ => none
noncomputable def bits_Mul : Int → Int → Option (Int × Int) := fun a0 a1 =>
  Option.bind (bits_Mul64 a0 a1) fun (r0, r1) =>
    some (r0, r1)
noncomputable def A165 : FnA := ⟨[.v (.int .u64), .v (.int .u64)], true, [.int .u64, .int .u64], fun x => bits_Mul x.1 x.2.1⟩
theorem bits_Mul_eq : fnF E165 L165_0 [.v (.int .u64), .v (.int .u64)] true [.int .u64, .int .u64] f165.ntmps f165.results.toList (codeOf f165) = fun x => bits_Mul x.1 x.2.1 := by kernel_rfl
theorem A165_ok : FnOk prog 165 A165 := by
  have h := fnOk_of_run (P := prog) (E := E165) (tysOk_of tyl_ok) E165_ok (L := L165_0) (ps := [.v (.int .u64), .v (.int .u64)]) (own := true) (outs := [.int .u64, .int .u64]) func165 (c := codeOf f165) (by kernel_rfl) (codeOk_in (L := L165_0) (tysOk_of tyl_ok) E165_ok mixed (c := codeOf f165) (bs := []) (by kernel_rfl) allNil (by kernel_rfl))
  rw [bits_Mul_eq] at h
  exact h
/-! slices.Repeat[[]int,int] -/
noncomputable def E134 : Env := ⟨ty0, fun g => ifEq g 165 (some A165) (none), fun _ => none, fun _ => none, fun _ => none⟩
theorem E134_ok : FnsOk prog E134 := (oneFn A165_ok func165 (by kernel_rfl) (by kernel_rfl) (noFns _ _))
noncomputable def L134_0 : Nat → Option LoopD := fun _ => none
def sh134_8 : List Fm := [d, d, d, d, d, d, d, .cell (.own (.int .i64) 100700 false), .cell (.val (.int .i64)), d, d, d, d, d, d, d, d, d, d, d, d, d, d, d, d, d, d, d, d, d, d, d, d, d, d, d, d, d, d, d, d, d, d, d, d, d, d, d]
def xs134_8 : List (Ex × List Fm) := [(.exit 0, [d, d, d, d, d, d, d, .cell (.own (.int .i64) 100700 false), d, d, d, d, d, d, d, d, d, d, d, d, d, d, d, d, d, d, d, d, d, d, d, d, d, d, d, d, d, d, d, d, d, d, d, d, d, d, d, d])]
noncomputable def slices_Repeat_l8 : ((List Int) × Int × Unit) → Option (((List Int) × Int × Unit) ⊕ (((List Int) × Unit))) := fun (v7, v8, _) =>
  bif (decide (v8 < (((List.length v7) : Nat) : Int))) then
    if (((0 : Int) ≤ v8) ∧ (v8 ≤ (((List.length v7) : Nat) : Int))) then
      if (((0 : Int) ≤ v8) ∧ (v8 ≤ (((List.length v7) : Nat) : Int))) then
        some (Sum.inl ((List.take (List.length v7) (List.drop 0 ((List.take (0 + (Int.toNat v8)) v7) ++ ((List.take ((List.length v7) - (Int.toNat v8)) (List.take ((Int.toNat v8) - 0) (List.drop (0 + 0) v7))) ++ (List.drop ((0 + (Int.toNat v8)) + (List.length (List.take ((List.length v7) - (Int.toNat v8)) (List.take ((Int.toNat v8) - 0) (List.drop (0 + 0) v7))))) v7))))), (IntKind.wrap .i64 (v8 + (((List.length (List.take ((List.length v7) - (Int.toNat v8)) (List.take ((Int.toNat v8) - 0) (List.drop (0 + 0) v7)))) : Nat) : Int))), ()))
      else
        none
    else
      none
  else
    some (Sum.inr ((List.take (List.length v7) (List.drop 0 v7)), ()))
theorem slices_Repeat_l8_eq : loopStep 48 E134 L134_0 (loopOf f134 8) sh134_8 xs134_8 = slices_Repeat_l8 := by kernel_rfl
theorem loop134_8 {L : Nat → Option LoopD} (h : L 8 = some ⟨48, sh134_8, xs134_8, slices_Repeat_l8⟩) : LoopOk prog L (loopOf f134 8) :=
  loopOk (tysOk_of tyl_ok) E134_ok (codeOk_in (L := L134_0) (tysOk_of tyl_ok) E134_ok mixed (c := loopOf f134 8) (bs := []) (by kernel_rfl) allNil (by kernel_rfl)) (by kernel_rfl) (by kernel_rfl) slices_Repeat_l8_eq (by rw [show firstId (loopOf f134 8) = 8 from by kernel_rfl]; exact h)
noncomputable def L134_1 : Nat → Option LoopD := fun n => ifEq n 8 (some ⟨48, sh134_8, xs134_8, slices_Repeat_l8⟩) (L134_0 n)
noncomputable def slices_Repeat : (List Int) → Int → Option ((List Int)) := fun a0 a1 =>
  bif (decide (a1 < (0 : Int))) then
    none
  else
    Option.bind (bits_Mul (IntKind.wrap .u64 (((List.length a0) : Nat) : Int)) (IntKind.wrap .u64 a1)) fun (r0, r1) =>
      bif (decide (r0 > (0 : Int))) then
        none
      else
        bif (decide (r1 > (9223372036854775807 : Int))) then
          none
        else
          if (((0 : Int) ≤ (IntKind.wrap .i64 r1)) ∧ (((IntKind.wrap .i64 r1) = (IntKind.wrap .i64 r1)) ∧ (((IntKind.wrap .i64 r1) * ((8 : Nat) : Int)) ≤ (140737488355328 : Int)))) then
            Option.bind (loopF slices_Repeat_l8 ((List.take (Int.toNat (IntKind.wrap .i64 r1)) (List.drop 0 ((List.take 0 (List.replicate (Int.toNat (IntKind.wrap .i64 r1)) (0 : Int))) ++ ((List.take (Int.toNat (IntKind.wrap .i64 r1)) a0) ++ (List.drop (0 + (List.length (List.take (Int.toNat (IntKind.wrap .i64 r1)) a0))) (List.replicate (Int.toNat (IntKind.wrap .i64 r1)) (0 : Int))))))), (((List.length (List.take (Int.toNat (IntKind.wrap .i64 r1)) a0)) : Nat) : Int), ())) fun (r2, _) =>
              some (List.take (List.length r2) (List.drop 0 r2))
          else
            none
noncomputable def A134 : FnA := ⟨[.v (.sl (.int .i64)), .v (.int .i64)], true, [.sl (.int .i64)], fun x => slices_Repeat x.1 x.2.1⟩
theorem slices_Repeat_eq : fnF E134 L134_1 [.v (.sl (.int .i64)), .v (.int .i64)] true [.sl (.int .i64)] f134.ntmps f134.results.toList (codeOf f134) = fun x => slices_Repeat x.1 x.2.1 := by kernel_rfl
theorem A134_ok : FnOk prog 134 A134 := by
  have h := fnOk_of_run (P := prog) (E := E134) (tysOk_of tyl_ok) E134_ok (L := L134_1) (ps := [.v (.sl (.int .i64)), .v (.int .i64)]) (own := true) (outs := [.sl (.int .i64)]) func134 (c := codeOf f134) (by kernel_rfl) (codeOk_in (L := L134_1) (tysOk_of tyl_ok) E134_ok mixed (c := codeOf f134) (bs := [loopOf f134 8]) (by kernel_rfl) (allCons (loop134_8 rfl) allNil) (by kernel_rfl))
  rw [slices_Repeat_eq] at h
  exact h
/-! impl.WordValid -/
noncomputable def E95 : Env := ⟨ty0, fun _ => none, fun _ => none, fun _ => none, fun _ => none⟩
theorem E95_ok : FnsOk prog E95 := (noFns _ _)
noncomputable def L95_0 : Nat → Option LoopD := fun _ => none
def sh95_2 : List Fm := [.cell (.val .str), d, d, d, d, .cell (.val (.int .i64)), .cell (.val (.int .i64)), d, d, d, d, d, d, d, d, d, d, d, d, d, d, d, d]
def xs95_2 : List (Ex × List Fm) := [(.ret, [d, d, .cell (.val .bool), d, d, d, d, d, d, d, d, d, d, d, d, d, d, d, d, d, d, d, d]), (.exit 0, [.cell (.val .str), d, d, d, d, d, d, d, d, d, d, d, d, d, d, d, d, d, d, d, d, d, d])]
noncomputable def impl_WordValid_l2 : (ByteArray × Int × Int × Unit) → Option ((ByteArray × Int × Int × Unit) ⊕ ((Bool × Unit) ⊕ (ByteArray × Unit))) := fun (v0, v5, v6, _) =>
  bif (decide (v6 < v5)) then
    if (((0 : Int) ≤ v6) ∧ (v6 < (((ByteArray.size v0) : Nat) : Int))) then
      bif ((((UInt8.toNat (Array.getD (ByteArray.data v0) (Int.toNat v6) (0 : UInt8))) : Nat) : Int) != (97 : Int)) then
        if (((0 : Int) ≤ v6) ∧ (v6 < (((ByteArray.size v0) : Nat) : Int))) then
          bif ((((UInt8.toNat (Array.getD (ByteArray.data v0) (Int.toNat v6) (0 : UInt8))) : Nat) : Int) != (98 : Int)) then
            some (Sum.inr (Sum.inl (false, ())))
          else
            some (Sum.inl (v0, v5, (IntKind.wrap .i64 (v6 + (1 : Int))), ()))
        else
          none
      else
        some (Sum.inl (v0, v5, (IntKind.wrap .i64 (v6 + (1 : Int))), ()))
    else
      none
  else
    some (Sum.inr (Sum.inr (v0, ())))
theorem impl_WordValid_l2_eq : loopStep 23 E95 L95_0 (loopOf f95 2) sh95_2 xs95_2 = impl_WordValid_l2 := by kernel_rfl
theorem loop95_2 {L : Nat → Option LoopD} (h : L 2 = some ⟨23, sh95_2, xs95_2, impl_WordValid_l2⟩) : LoopOk prog L (loopOf f95 2) :=
  loopOk (tysOk_of tyl_ok) E95_ok (codeOk_in (L := L95_0) (tysOk_of tyl_ok) E95_ok mixed (c := loopOf f95 2) (bs := []) (by kernel_rfl) allNil (by kernel_rfl)) (by kernel_rfl) (by kernel_rfl) impl_WordValid_l2_eq (by rw [show firstId (loopOf f95 2) = 2 from by kernel_rfl]; exact h)
noncomputable def L95_1 : Nat → Option LoopD := fun n => ifEq n 2 (some ⟨23, sh95_2, xs95_2, impl_WordValid_l2⟩) (L95_0 n)
noncomputable def impl_WordValid : ByteArray → Option (Bool) := fun a0 =>
  Option.bind (loopF impl_WordValid_l2 (a0, (((ByteArray.size a0) : Nat) : Int), (0 : Int), ())) fun r0 =>
    (match r0 with
    | .inl (d1, _) =>
        some d1
    | .inr (d2, _) =>
        some (decide ((((ByteArray.size d2) : Nat) : Int) ≤ (1000 : Int))))
noncomputable def A95 : FnA := ⟨[.v .str], true, [.bool], fun x => impl_WordValid x.1⟩
theorem impl_WordValid_eq : fnF E95 L95_1 [.v .str] true [.bool] f95.ntmps f95.results.toList (codeOf f95) = fun x => impl_WordValid x.1 := by kernel_rfl
theorem A95_ok : FnOk prog 95 A95 := by
  have h := fnOk_of_run (P := prog) (E := E95) (tysOk_of tyl_ok) E95_ok (L := L95_1) (ps := [.v .str]) (own := true) (outs := [.bool]) func95 (c := codeOf f95) (by kernel_rfl) (codeOk_in (L := L95_1) (tysOk_of tyl_ok) E95_ok mixed (c := codeOf f95) (bs := [loopOf f95 2]) (by kernel_rfl) (allCons (loop95_2 rfl) allNil) (by kernel_rfl))
  rw [impl_WordValid_eq] at h
  exact h
/-! impl.toEnd -/
noncomputable def E96 : Env := ⟨ty0, fun g => ifEq g 134 (some A134) (none), fun _ => none, fun _ => none, fun _ => none⟩
theorem E96_ok : FnsOk prog E96 := (oneFn A134_ok func134 (by kernel_rfl) (by kernel_rfl) (noFns _ _))
noncomputable def L96_0 : Nat → Option LoopD := fun _ => none
def sh96_3 : List Fm := [d, .cell (.val .str), .box 100200 [.val (.int .i64), .val (.sl (.int .i64)), .val (.sl (.int .i64)), .val (.sl (.pair (.int .i64) (.pair .str (.pair (.int .i64) (.int .i64)))))], d, d, .cell (.own (.int .i64) 100500 false), d, d, d, d, d, d, d, d, d, d, d, d, .cell (.val (.sl (.int .i64))), .cell (.val (.int .i64)), .cell (.val (.int .i64)), d, d, d, d, d, d, d, d, d, d, d, d, d, d, d, d, d, d, d, d, d, d, d, d, d, d, d, d, d, d, d, d, d, d, d, d, d, d, d, d, d, d, d, d, d, d, d, d, d, d, d, d, d, d, d, d, d, d, d, d]
def xs96_3 : List (Ex × List Fm) := [(.exit 0, [d, .cell (.val .str), .box 100200 [.val (.int .i64), .val (.sl (.int .i64)), .val (.sl (.int .i64)), .val (.sl (.pair (.int .i64) (.pair .str (.pair (.int .i64) (.int .i64)))))], d, d, .cell (.own (.int .i64) 100500 false), d, d, d, d, d, d, d, d, d, d, d, d, d, d, d, d, d, d, d, d, d, d, d, d, d, d, d, d, d, d, d, d, d, d, d, d, d, d, d, d, d, d, d, d, d, d, d, d, d, d, d, d, d, d, d, d, d, d, d, d, d, d, d, d, d, d, d, d, d, d, d, d, d, d, d])]
noncomputable def impl_toEnd_l3 : (ByteArray × (Int × (List Int) × (List Int) × (List (Int × (ByteArray × (Int × Int)))) × Unit) × (List Int) × (List Int) × Int × Int × Unit) → Option ((ByteArray × (Int × (List Int) × (List Int) × (List (Int × (ByteArray × (Int × Int)))) × Unit) × (List Int) × (List Int) × Int × Int × Unit) ⊕ ((ByteArray × (Int × (List Int) × (List Int) × (List (Int × (ByteArray × (Int × Int)))) × Unit) × (List Int) × Unit))) := fun (v1, (v2_0, v2_1, v2_2, v2_3, _), v5, v18, v19, v20, _) =>
  bif (decide (v20 < v19)) then
    if (((0 : Int) ≤ v20) ∧ (v20 < (((List.length v18) : Nat) : Int))) then
      if (((0 : Int) ≤ (List.getD v18 (Int.toNat v20) (0 : Int))) ∧ ((List.getD v18 (Int.toNat v20) (0 : Int)) < (((List.length v5) : Nat) : Int))) then
        some (Sum.inl (v1, (v2_0, v2_1, v2_2, v2_3, ()), (List.take (List.length v5) (List.drop 0 (List.set v5 (0 + (Int.toNat (List.getD v18 (Int.toNat v20) (0 : Int)))) (0 : Int)))), v18, v19, (IntKind.wrap .i64 (v20 + (1 : Int))), ()))
      else
        none
    else
      none
  else
    some (Sum.inr (v1, (v2_0, v2_1, v2_2, v2_3, ()), (List.take (List.length v5) (List.drop 0 v5)), ()))
theorem impl_toEnd_l3_eq : loopStep 81 E96 L96_0 (loopOf f96 3) sh96_3 xs96_3 = impl_toEnd_l3 := by kernel_rfl
theorem loop96_3 {L : Nat → Option LoopD} (h : L 3 = some ⟨81, sh96_3, xs96_3, impl_toEnd_l3⟩) : LoopOk prog L (loopOf f96 3) :=
  loopOk (tysOk_of tyl_ok) E96_ok (codeOk_in (L := L96_0) (tysOk_of tyl_ok) E96_ok mixed (c := loopOf f96 3) (bs := []) (by kernel_rfl) allNil (by kernel_rfl)) (by kernel_rfl) (by kernel_rfl) impl_toEnd_l3_eq (by rw [show firstId (loopOf f96 3) = 3 from by kernel_rfl]; exact h)
noncomputable def L96_1 : Nat → Option LoopD := fun n => ifEq n 3 (some ⟨81, sh96_3, xs96_3, impl_toEnd_l3⟩) (L96_0 n)
def sh96_13 : List Fm := [d, .cell (.val .str), .box 100200 [.val (.int .i64), .val (.sl (.int .i64)), .val (.sl (.int .i64)), .val (.sl (.pair (.int .i64) (.pair .str (.pair (.int .i64) (.int .i64)))))], d, d, .cell (.val (.sl (.int .i64))), d, d, .cell (.own (.sl (.int .i64)) 100800 false), .cell (.val (.int .i64)), .cell (.own (.int .i64) 101000 false), d, d, d, d, d, d, d, d, d, d, d, d, d, d, d, d, d, d, d, d, d, d, d, d, d, d, d, d, d, d, d, .cell (.val (.sl (.pair (.int .i64) (.pair .str (.pair (.int .i64) (.int .i64)))))), .cell (.val (.int .i64)), .cell (.val (.int .i64)), d, d, d, d, d, d, d, d, d, d, d, d, d, d, d, d, d, d, d, d, d, d, d, d, d, d, d, d, d, d, d, d, d, d, d, d]
def xs96_13 : List (Ex × List Fm) := [(.exit 4, [d, .cell (.val .str), .box 100200 [.val (.int .i64), .val (.sl (.int .i64)), .val (.sl (.int .i64)), .val (.sl (.pair (.int .i64) (.pair .str (.pair (.int .i64) (.int .i64)))))], d, d, d, d, d, .cell (.own (.sl (.int .i64)) 100800 false), .cell (.val (.int .i64)), .cell (.own (.int .i64) 101000 false), d, d, d, d, d, d, d, d, d, d, d, d, d, d, d, d, d, d, d, d, d, d, d, d, d, d, d, d, d, d, d, d, d, d, d, d, d, d, d, d, d, d, d, d, d, d, d, d, d, d, d, d, d, d, d, d, d, d, d, d, d, d, d, d, d, d, d, d, d, d])]
noncomputable def impl_toEnd_l13 : (ByteArray × (Int × (List Int) × (List Int) × (List (Int × (ByteArray × (Int × Int)))) × Unit) × (List Int) × (List (List Int)) × Int × (List Int) × (List (Int × (ByteArray × (Int × Int)))) × Int × Int × Unit) → Option ((ByteArray × (Int × (List Int) × (List Int) × (List (Int × (ByteArray × (Int × Int)))) × Unit) × (List Int) × (List (List Int)) × Int × (List Int) × (List (Int × (ByteArray × (Int × Int)))) × Int × Int × Unit) ⊕ ((ByteArray × (Int × (List Int) × (List Int) × (List (Int × (ByteArray × (Int × Int)))) × Unit) × (List (List Int)) × Int × (List Int) × Unit))) := fun (v1, (v2_0, v2_1, v2_2, v2_3, _), v5, v8, v9, v10, v42, v43, v44, _) =>
  bif (decide (v44 < v43)) then
    if (((0 : Int) ≤ v44) ∧ (v44 < (((List.length v42) : Nat) : Int))) then
      if (((0 : Int) ≤ v9) ∧ ((v9 ≤ (IntKind.wrap .i64 (v9 + (1 : Int)))) ∧ ((IntKind.wrap .i64 (v9 + (1 : Int))) ≤ (((ByteArray.size v1) : Nat) : Int)))) then
        bif ((ByteArray.toList (List.getD v42 (Int.toNat v44) ((0 : Int), (⟨Array.empty⟩ : ByteArray), (0 : Int), (0 : Int))).2.1) == (ByteArray.toList (ByteArray.extract v1 (Int.toNat v9) (Int.toNat (IntKind.wrap .i64 (v9 + (1 : Int))))))) then
          if (((0 : Int) ≤ (List.getD v42 (Int.toNat v44) ((0 : Int), (⟨Array.empty⟩ : ByteArray), (0 : Int), (0 : Int))).1) ∧ ((List.getD v42 (Int.toNat v44) ((0 : Int), (⟨Array.empty⟩ : ByteArray), (0 : Int), (0 : Int))).1 < (((List.length v10) : Nat) : Int))) then
            if (((0 : Int) ≤ (List.getD v42 (Int.toNat v44) ((0 : Int), (⟨Array.empty⟩ : ByteArray), (0 : Int), (0 : Int))).2.2.1) ∧ ((List.getD v42 (Int.toNat v44) ((0 : Int), (⟨Array.empty⟩ : ByteArray), (0 : Int), (0 : Int))).2.2.1 < (((List.length v5) : Nat) : Int))) then
              if (((0 : Int) ≤ (List.getD v42 (Int.toNat v44) ((0 : Int), (⟨Array.empty⟩ : ByteArray), (0 : Int), (0 : Int))).1) ∧ ((List.getD v42 (Int.toNat v44) ((0 : Int), (⟨Array.empty⟩ : ByteArray), (0 : Int), (0 : Int))).1 < (((List.length v10) : Nat) : Int))) then
                some (Sum.inl (v1, (v2_0, v2_1, v2_2, v2_3, ()), v5, (List.take (List.length v8) (List.drop 0 v8)), v9, (List.take (List.length v10) (List.drop 0 (List.set v10 (0 + (Int.toNat (List.getD v42 (Int.toNat v44) ((0 : Int), (⟨Array.empty⟩ : ByteArray), (0 : Int), (0 : Int))).1)) (if ((IntKind.wrap .i64 ((List.getD v42 (Int.toNat v44) ((0 : Int), (⟨Array.empty⟩ : ByteArray), (0 : Int), (0 : Int))).2.2.2 + (List.getD v5 (Int.toNat (List.getD v42 (Int.toNat v44) ((0 : Int), (⟨Array.empty⟩ : ByteArray), (0 : Int), (0 : Int))).2.2.1) (0 : Int)))) < (List.getD v10 (0 + (Int.toNat (List.getD v42 (Int.toNat v44) ((0 : Int), (⟨Array.empty⟩ : ByteArray), (0 : Int), (0 : Int))).1)) (0 : Int))) then (IntKind.wrap .i64 ((List.getD v42 (Int.toNat v44) ((0 : Int), (⟨Array.empty⟩ : ByteArray), (0 : Int), (0 : Int))).2.2.2 + (List.getD v5 (Int.toNat (List.getD v42 (Int.toNat v44) ((0 : Int), (⟨Array.empty⟩ : ByteArray), (0 : Int), (0 : Int))).2.2.1) (0 : Int)))) else (List.getD v10 (0 + (Int.toNat (List.getD v42 (Int.toNat v44) ((0 : Int), (⟨Array.empty⟩ : ByteArray), (0 : Int), (0 : Int))).1)) (0 : Int)))))), v42, v43, (IntKind.wrap .i64 (v44 + (1 : Int))), ()))
              else
                none
            else
              none
          else
            none
        else
          some (Sum.inl (v1, (v2_0, v2_1, v2_2, v2_3, ()), v5, (List.take (List.length v8) (List.drop 0 v8)), v9, (List.take (List.length v10) (List.drop 0 v10)), v42, v43, (IntKind.wrap .i64 (v44 + (1 : Int))), ()))
      else
        none
    else
      none
  else
    some (Sum.inr (v1, (v2_0, v2_1, v2_2, v2_3, ()), (List.take (List.length v8) (List.drop 0 v8)), v9, (List.take (List.length v10) (List.drop 0 v10)), ()))
theorem impl_toEnd_l13_eq : loopStep 81 E96 L96_1 (loopOf f96 13) sh96_13 xs96_13 = impl_toEnd_l13 := by kernel_rfl
theorem loop96_13 {L : Nat → Option LoopD} (h : L 13 = some ⟨81, sh96_13, xs96_13, impl_toEnd_l13⟩) : LoopOk prog L (loopOf f96 13) :=
  loopOk (tysOk_of tyl_ok) E96_ok (codeOk_in (L := L96_1) (tysOk_of tyl_ok) E96_ok mixed (c := loopOf f96 13) (bs := []) (by kernel_rfl) allNil (by kernel_rfl)) (by kernel_rfl) (by kernel_rfl) impl_toEnd_l13_eq (by rw [show firstId (loopOf f96 13) = 13 from by kernel_rfl]; exact h)
noncomputable def L96_2 : Nat → Option LoopD := fun n => ifEq n 13 (some ⟨81, sh96_13, xs96_13, impl_toEnd_l13⟩) (L96_1 n)
def sh96_9 : List Fm := [d, .cell (.val .str), .box 100200 [.val (.int .i64), .val (.sl (.int .i64)), .val (.sl (.int .i64)), .val (.sl (.pair (.int .i64) (.pair .str (.pair (.int .i64) (.int .i64)))))], d, d, .cell (.val (.sl (.int .i64))), d, d, .cell (.own (.sl (.int .i64)) 100800 false), .cell (.val (.int .i64)), d, d, d, d, d, d, d, d, d, d, d, d, d, d, d, d, d, d, d, d, d, d, d, d, d, d, d, d, d, d, d, d, d, d, d, d, d, d, d, d, d, d, d, d, d, d, d, d, d, d, d, d, d, d, d, d, d, d, d, d, d, d, d, d, d, d, d, d, d, d, d]
def xs96_9 : List (Ex × List Fm) := [(.exit 2, [d, d, d, d, d, d, d, d, .cell (.own (.sl (.int .i64)) 100800 false), d, d, d, d, d, d, d, d, d, d, d, d, d, d, d, d, d, d, d, d, d, d, d, d, d, d, d, d, d, d, d, d, d, d, d, d, d, d, d, d, d, d, d, d, d, d, d, d, d, d, d, d, d, d, d, d, d, d, d, d, d, d, d, d, d, d, d, d, d, d, d, d])]
noncomputable def impl_toEnd_l9 : (ByteArray × (Int × (List Int) × (List Int) × (List (Int × (ByteArray × (Int × Int)))) × Unit) × (List Int) × (List (List Int)) × Int × Unit) → Option ((ByteArray × (Int × (List Int) × (List Int) × (List (Int × (ByteArray × (Int × Int)))) × Unit) × (List Int) × (List (List Int)) × Int × Unit) ⊕ (((List (List Int)) × Unit))) := fun (v1, (v2_0, v2_1, v2_2, v2_3, _), v5, v8, v9, _) =>
  bif (decide (v9 ≥ (0 : Int))) then
    Option.bind (slices_Repeat (List.take 1 (List.drop 0 [(1000000 : Int)])) v2_0) fun r0 =>
      Option.bind (loopF impl_toEnd_l13 (v1, (v2_0, v2_1, v2_2, v2_3, ()), v5, (List.take (List.length v8) (List.drop 0 v8)), v9, (List.take (List.length r0) (List.drop 0 r0)), v2_3, (((List.length v2_3) : Nat) : Int), (0 : Int), ())) fun (r1, (r2, r3, r4, r5, _), r6, r7, r8, _) =>
        if (((0 + (List.length r6)) = (List.length r6)) ∧ ((((List.length r6) + (List.length (List.take 1 (List.drop 0 [(List.take (List.length r8) (List.drop 0 r8))])))) * 24) ≤ 140737488355328)) then
          some (Sum.inl (r1, (r2, r3, r4, r5, ()), (List.take (List.length r8) (List.drop 0 r8)), (List.take ((List.length r6) + (List.length (List.take 1 (List.drop 0 [(List.take (List.length r8) (List.drop 0 r8))])))) (List.drop 0 ((List.drop 0 r6) ++ (List.take 1 (List.drop 0 [(List.take (List.length r8) (List.drop 0 r8))]))))), (IntKind.wrap .i64 (r7 - (1 : Int))), ()))
        else
          none
  else
    some (Sum.inr ((List.take (List.length v8) (List.drop 0 v8)), ()))
theorem impl_toEnd_l9_eq : loopStep 81 E96 L96_2 (loopOf f96 9) sh96_9 xs96_9 = impl_toEnd_l9 := by kernel_rfl
theorem loop96_9 {L : Nat → Option LoopD} (h : L 9 = some ⟨81, sh96_9, xs96_9, impl_toEnd_l9⟩) : LoopOk prog L (loopOf f96 9) :=
  loopOk (tysOk_of tyl_ok) E96_ok (codeOk_in (L := L96_2) (tysOk_of tyl_ok) E96_ok mixed (c := loopOf f96 9) (bs := [loopOf f96 13]) (by kernel_rfl) (allCons (loop96_13 rfl) allNil) (by kernel_rfl)) (by kernel_rfl) (by kernel_rfl) impl_toEnd_l9_eq (by rw [show firstId (loopOf f96 9) = 9 from by kernel_rfl]; exact h)
noncomputable def L96_3 : Nat → Option LoopD := fun n => ifEq n 9 (some ⟨81, sh96_9, xs96_9, impl_toEnd_l9⟩) (L96_2 n)
noncomputable def impl_toEnd : (Int × ((List Int) × ((List Int) × (List (Int × (ByteArray × (Int × Int))))))) → ByteArray → Option ((List (List Int))) := fun (a0_0, a0_1, a0_2, a0_3) a1 =>
  Option.bind (slices_Repeat (List.take 1 (List.drop 0 [(1000000 : Int)])) a0_0) fun r0 =>
    Option.bind (loopF impl_toEnd_l3 (a1, (a0_0, a0_1, a0_2, a0_3, ()), (List.take (List.length r0) (List.drop 0 r0)), a0_2, (((List.length a0_2) : Nat) : Int), (0 : Int), ())) fun (r1, (r2, r3, r4, r5, _), r6, _) =>
      Option.bind (loopF impl_toEnd_l9 (r1, (r2, r3, r4, r5, ()), (List.take (List.length r6) (List.drop 0 r6)), (List.take 1 (List.drop 0 [(List.take (List.length r6) (List.drop 0 r6))])), (IntKind.wrap .i64 ((((ByteArray.size r1) : Nat) : Int) - (1 : Int))), ())) fun (r7, _) =>
        some (List.take (List.length r7) (List.drop 0 r7))
noncomputable def A96 : FnA := ⟨[.v (.pair (.int .i64) (.pair (.sl (.int .i64)) (.pair (.sl (.int .i64)) (.sl (.pair (.int .i64) (.pair .str (.pair (.int .i64) (.int .i64)))))))), .v .str], true, [.sl (.sl (.int .i64))], fun x => impl_toEnd x.1 x.2.1⟩
theorem impl_toEnd_eq : fnF E96 L96_3 [.v (.pair (.int .i64) (.pair (.sl (.int .i64)) (.pair (.sl (.int .i64)) (.sl (.pair (.int .i64) (.pair .str (.pair (.int .i64) (.int .i64)))))))), .v .str] true [.sl (.sl (.int .i64))] f96.ntmps f96.results.toList (codeOf f96) = fun x => impl_toEnd x.1 x.2.1 := by kernel_rfl
theorem A96_ok : FnOk prog 96 A96 := by
  have h := fnOk_of_run (P := prog) (E := E96) (tysOk_of tyl_ok) E96_ok (L := L96_3) (ps := [.v (.pair (.int .i64) (.pair (.sl (.int .i64)) (.pair (.sl (.int .i64)) (.sl (.pair (.int .i64) (.pair .str (.pair (.int .i64) (.int .i64)))))))), .v .str]) (own := true) (outs := [.sl (.sl (.int .i64))]) func96 (c := codeOf f96) (by kernel_rfl) (codeOk_in (L := L96_3) (tysOk_of tyl_ok) E96_ok mixed (c := codeOf f96) (bs := [loopOf f96 3, loopOf f96 9]) (by kernel_rfl) (allCons (loop96_3 rfl) (allCons (loop96_9 rfl) allNil)) (by kernel_rfl))
  rw [impl_toEnd_eq] at h
  exact h
/-! impl.CostOf -/
noncomputable def E41 : Env := ⟨ty0, fun g => ifEq g 60 (some A60) (ifEq g 95 (some A95) (ifEq g 96 (some A96) (none))), fun _ => none, fun _ => none, fun _ => none⟩
theorem E41_ok : FnsOk prog E41 := (oneFn A60_ok func60 (by kernel_rfl) (by kernel_rfl) (oneFn A95_ok func95 (by kernel_rfl) (by kernel_rfl) (oneFn A96_ok func96 (by kernel_rfl) (by kernel_rfl) (noFns _ _))))
noncomputable def L41_0 : Nat → Option LoopD := fun _ => none
def sh41_6 : List Fm := [d, .cell (.val .str), d, d, d, .cell (.own (.sl (.int .i64)) 100500 false), .cell (.val (.int .i64)), d, d, d, d, d, d, d, d, d, d, d, d, d, d, .cell (.val (.sl (.int .i64))), .cell (.val (.int .i64)), .cell (.val (.int .i64)), d, d, d, d, d, d, d, d, d, d, d, d, d, d, d]
def xs41_6 : List (Ex × List Fm) := [(.exit 0, [d, d, d, d, d, d, .cell (.val (.int .i64)), d, d, d, d, d, d, d, d, d, d, d, d, d, d, d, d, d, d, d, d, d, d, d, d, d, d, d, d, d, d, d, d])]
noncomputable def impl_CostOf_l6 : (ByteArray × (List (List Int)) × Int × (List Int) × Int × Int × Unit) → Option ((ByteArray × (List (List Int)) × Int × (List Int) × Int × Int × Unit) ⊕ ((Int × Unit))) := fun (v1, v5, v6, v21, v22, v23, _) =>
  bif (decide (v23 < v22)) then
    if (((0 : Int) ≤ v23) ∧ (v23 < (((List.length v21) : Nat) : Int))) then
      if (((0 : Int) ≤ (((ByteArray.size v1) : Nat) : Int)) ∧ ((((ByteArray.size v1) : Nat) : Int) < (((List.length v5) : Nat) : Int))) then
        if (((0 : Int) ≤ (List.getD v21 (Int.toNat v23) (0 : Int))) ∧ ((List.getD v21 (Int.toNat v23) (0 : Int)) < (((List.length (List.getD v5 (0 + (Int.toNat (((ByteArray.size v1) : Nat) : Int))) [])) : Nat) : Int))) then
          some (Sum.inl (v1, (List.take (List.length v5) (List.drop 0 v5)), (if ((List.getD (List.getD v5 (0 + (Int.toNat (((ByteArray.size v1) : Nat) : Int))) []) (Int.toNat (List.getD v21 (Int.toNat v23) (0 : Int))) (0 : Int)) < v6) then (List.getD (List.getD v5 (0 + (Int.toNat (((ByteArray.size v1) : Nat) : Int))) []) (Int.toNat (List.getD v21 (Int.toNat v23) (0 : Int))) (0 : Int)) else v6), v21, v22, (IntKind.wrap .i64 (v23 + (1 : Int))), ()))
        else
          none
      else
        none
    else
      none
  else
    some (Sum.inr (v6, ()))
theorem impl_CostOf_l6_eq : loopStep 39 E41 L41_0 (loopOf f41 6) sh41_6 xs41_6 = impl_CostOf_l6 := by kernel_rfl
theorem loop41_6 {L : Nat → Option LoopD} (h : L 6 = some ⟨39, sh41_6, xs41_6, impl_CostOf_l6⟩) : LoopOk prog L (loopOf f41 6) :=
  loopOk (tysOk_of tyl_ok) E41_ok (codeOk_in (L := L41_0) (tysOk_of tyl_ok) E41_ok mixed (c := loopOf f41 6) (bs := []) (by kernel_rfl) allNil (by kernel_rfl)) (by kernel_rfl) (by kernel_rfl) impl_CostOf_l6_eq (by rw [show firstId (loopOf f41 6) = 6 from by kernel_rfl]; exact h)
noncomputable def L41_1 : Nat → Option LoopD := fun n => ifEq n 6 (some ⟨39, sh41_6, xs41_6, impl_CostOf_l6⟩) (L41_0 n)
noncomputable def impl_CostOf : (Int × ((List Int) × ((List Int) × (List (Int × (ByteArray × (Int × Int))))))) → ByteArray → Option (Int) := fun (a0_0, a0_1, a0_2, a0_3) a1 =>
  Option.bind (impl_AutomatonValid (a0_0, a0_1, a0_2, a0_3)) fun r0 =>
    bif (!r0) then
      some (-1 : Int)
    else
      Option.bind (impl_WordValid a1) fun r1 =>
        bif (!r1) then
          some (-1 : Int)
        else
          Option.bind (impl_toEnd (a0_0, a0_1, a0_2, a0_3) a1) fun r2 =>
            Option.bind (loopF impl_CostOf_l6 (a1, (List.take (List.length r2) (List.drop 0 r2)), (1000000 : Int), a0_1, (((List.length a0_1) : Nat) : Int), (0 : Int), ())) fun (r3, _) =>
              some r3
noncomputable def A41 : FnA := ⟨[.v (.pair (.int .i64) (.pair (.sl (.int .i64)) (.pair (.sl (.int .i64)) (.sl (.pair (.int .i64) (.pair .str (.pair (.int .i64) (.int .i64)))))))), .v .str], true, [.int .i64], fun x => impl_CostOf x.1 x.2.1⟩
theorem impl_CostOf_eq : fnF E41 L41_1 [.v (.pair (.int .i64) (.pair (.sl (.int .i64)) (.pair (.sl (.int .i64)) (.sl (.pair (.int .i64) (.pair .str (.pair (.int .i64) (.int .i64)))))))), .v .str] true [.int .i64] f41.ntmps f41.results.toList (codeOf f41) = fun x => impl_CostOf x.1 x.2.1 := by kernel_rfl
theorem A41_ok : FnOk prog 41 A41 := by
  have h := fnOk_of_run (P := prog) (E := E41) (tysOk_of tyl_ok) E41_ok (L := L41_1) (ps := [.v (.pair (.int .i64) (.pair (.sl (.int .i64)) (.pair (.sl (.int .i64)) (.sl (.pair (.int .i64) (.pair .str (.pair (.int .i64) (.int .i64)))))))), .v .str]) (own := true) (outs := [.int .i64]) func41 (c := codeOf f41) (by kernel_rfl) (codeOk_in (L := L41_1) (tysOk_of tyl_ok) E41_ok mixed (c := codeOf f41) (bs := [loopOf f41 6]) (by kernel_rfl) (allCons (loop41_6 rfl) allNil) (by kernel_rfl))
  rw [impl_CostOf_eq] at h
  exact h
/-! impl.byLength -/
noncomputable def E88 : Env := ⟨ty0, fun g => ifEq g 94 (some A94) (ifEq g 134 (some A134) (ifEq g 41 (some A41) (none))), fun _ => none, fun _ => none, fun _ => none⟩
theorem E88_ok : FnsOk prog E88 := (oneFn A94_ok func94 (by kernel_rfl) (by kernel_rfl) (oneFn A134_ok func134 (by kernel_rfl) (by kernel_rfl) (oneFn A41_ok func41 (by kernel_rfl) (by kernel_rfl) (noFns _ _))))
noncomputable def L88_0 : Nat → Option LoopD := fun _ => none
def sh88_6 : List Fm := [d, d, .clo [.int .i64, .int .i64] .bool, .box 100300 [.val (.int .i64), .val (.sl (.int .i64)), .val (.sl (.int .i64)), .val (.sl (.pair (.int .i64) (.pair .str (.pair (.int .i64) (.int .i64)))))], d, d, d, d, d, d, .cell (.own (.int .i64) 101000 false), d, d, d, d, d, d, d, d, d, d, d, d, d, d, d, d, .cell (.val (.sl .str)), .cell (.val (.int .i64)), .cell (.val (.int .i64)), d, d, d, d, d, d, d, d, d, d, d, d, d, d, d, d, d, d, d, d, d, d, d, d, d, d, d, d, d, d, d, d, d]
def xs88_6 : List (Ex × List Fm) := [(.exit 0, [d, d, d, d, d, d, d, d, d, d, .cell (.own (.int .i64) 101000 false), d, d, d, d, d, d, d, d, d, d, d, d, d, d, d, d, d, d, d, d, d, d, d, d, d, d, d, d, d, d, d, d, d, d, d, d, d, d, d, d, d, d, d, d, d, d, d, d, d, d, d, d])]
noncomputable def impl_byLength_l6 : (((Int × Int × Unit) → Option (Bool)) × (Int × (List Int) × (List Int) × (List (Int × (ByteArray × (Int × Int)))) × Unit) × (List Int) × (List ByteArray) × Int × Int × Unit) → Option ((((Int × Int × Unit) → Option (Bool)) × (Int × (List Int) × (List Int) × (List (Int × (ByteArray × (Int × Int)))) × Unit) × (List Int) × (List ByteArray) × Int × Int × Unit) ⊕ (((List Int) × Unit))) := fun (v2, (v3_0, v3_1, v3_2, v3_3, _), v10, v27, v28, v29, _) =>
  bif (decide (v29 < v28)) then
    if (((0 : Int) ≤ v29) ∧ (v29 < (((List.length v27) : Nat) : Int))) then
      Option.bind (impl_CostOf (v3_0, v3_1, v3_2, v3_3) (List.getD v27 (Int.toNat v29) (⟨Array.empty⟩ : ByteArray))) fun r0 =>
        bif (decide (r0 < (1000000 : Int))) then
          if (((0 : Int) ≤ (((ByteArray.size (List.getD v27 (Int.toNat v29) (⟨Array.empty⟩ : ByteArray))) : Nat) : Int)) ∧ ((((ByteArray.size (List.getD v27 (Int.toNat v29) (⟨Array.empty⟩ : ByteArray))) : Nat) : Int) < (((List.length v10) : Nat) : Int))) then
            bif ((List.getD v10 (0 + (Int.toNat (((ByteArray.size (List.getD v27 (Int.toNat v29) (⟨Array.empty⟩ : ByteArray))) : Nat) : Int))) (0 : Int)) == (1000000 : Int)) then
              if (((0 : Int) ≤ (((ByteArray.size (List.getD v27 (Int.toNat v29) (⟨Array.empty⟩ : ByteArray))) : Nat) : Int)) ∧ ((((ByteArray.size (List.getD v27 (Int.toNat v29) (⟨Array.empty⟩ : ByteArray))) : Nat) : Int) < (((List.length v10) : Nat) : Int))) then
                some (Sum.inl (v2, (v3_0, v3_1, v3_2, v3_3, ()), (List.take (List.length v10) (List.drop 0 (List.set v10 (0 + (Int.toNat (((ByteArray.size (List.getD v27 (Int.toNat v29) (⟨Array.empty⟩ : ByteArray))) : Nat) : Int))) r0))), v27, v28, (IntKind.wrap .i64 (v29 + (1 : Int))), ()))
              else
                none
            else
              if (((0 : Int) ≤ (((ByteArray.size (List.getD v27 (Int.toNat v29) (⟨Array.empty⟩ : ByteArray))) : Nat) : Int)) ∧ ((((ByteArray.size (List.getD v27 (Int.toNat v29) (⟨Array.empty⟩ : ByteArray))) : Nat) : Int) < (((List.length v10) : Nat) : Int))) then
                Option.bind (v2 (r0, (List.getD v10 (0 + (Int.toNat (((ByteArray.size (List.getD v27 (Int.toNat v29) (⟨Array.empty⟩ : ByteArray))) : Nat) : Int))) (0 : Int)), ())) fun r1 =>
                  bif r1 then
                    if (((0 : Int) ≤ (((ByteArray.size (List.getD v27 (Int.toNat v29) (⟨Array.empty⟩ : ByteArray))) : Nat) : Int)) ∧ ((((ByteArray.size (List.getD v27 (Int.toNat v29) (⟨Array.empty⟩ : ByteArray))) : Nat) : Int) < (((List.length v10) : Nat) : Int))) then
                      some (Sum.inl (v2, (v3_0, v3_1, v3_2, v3_3, ()), (List.take (List.length v10) (List.drop 0 (List.set v10 (0 + (Int.toNat (((ByteArray.size (List.getD v27 (Int.toNat v29) (⟨Array.empty⟩ : ByteArray))) : Nat) : Int))) r0))), v27, v28, (IntKind.wrap .i64 (v29 + (1 : Int))), ()))
                    else
                      none
                  else
                    some (Sum.inl (v2, (v3_0, v3_1, v3_2, v3_3, ()), (List.take (List.length v10) (List.drop 0 v10)), v27, v28, (IntKind.wrap .i64 (v29 + (1 : Int))), ()))
              else
                none
          else
            none
        else
          some (Sum.inl (v2, (v3_0, v3_1, v3_2, v3_3, ()), (List.take (List.length v10) (List.drop 0 v10)), v27, v28, (IntKind.wrap .i64 (v29 + (1 : Int))), ()))
    else
      none
  else
    some (Sum.inr ((List.take (List.length v10) (List.drop 0 v10)), ()))
theorem impl_byLength_l6_eq : loopStep 63 E88 L88_0 (loopOf f88 6) sh88_6 xs88_6 = impl_byLength_l6 := by kernel_rfl
theorem loop88_6 {L : Nat → Option LoopD} (h : L 6 = some ⟨63, sh88_6, xs88_6, impl_byLength_l6⟩) : LoopOk prog L (loopOf f88 6) :=
  loopOk (tysOk_of tyl_ok) E88_ok (codeOk_in (L := L88_0) (tysOk_of tyl_ok) E88_ok mixed (c := loopOf f88 6) (bs := []) (by kernel_rfl) allNil (by kernel_rfl)) (by kernel_rfl) (by kernel_rfl) impl_byLength_l6_eq (by rw [show firstId (loopOf f88 6) = 6 from by kernel_rfl]; exact h)
noncomputable def L88_1 : Nat → Option LoopD := fun n => ifEq n 6 (some ⟨63, sh88_6, xs88_6, impl_byLength_l6⟩) (L88_0 n)
noncomputable def impl_byLength : (Int × ((List Int) × ((List Int) × (List (Int × (ByteArray × (Int × Int))))))) → Int → ((Int × Int × Unit) → Option (Bool)) → Option ((List Int) × Bool) := fun (a0_0, a0_1, a0_2, a0_3) a1 a2 =>
  Option.bind (impl_short a1 (List.take 1 (List.drop 0 [(a0_0, a0_1, a0_2, a0_3)]))) fun (r0, r1) =>
    bif (!r1) then
      some ([], false)
    else
      Option.bind (slices_Repeat (List.take 1 (List.drop 0 [(1000000 : Int)])) (IntKind.wrap .i64 (a1 + (1 : Int)))) fun r2 =>
        Option.bind (loopF impl_byLength_l6 (a2, (a0_0, a0_1, a0_2, a0_3, ()), (List.take (List.length r2) (List.drop 0 r2)), r0, (((List.length r0) : Nat) : Int), (0 : Int), ())) fun (r3, _) =>
          some ((List.take (List.length r3) (List.drop 0 r3)), true)
noncomputable def A88 : FnA := ⟨[.v (.pair (.int .i64) (.pair (.sl (.int .i64)) (.pair (.sl (.int .i64)) (.sl (.pair (.int .i64) (.pair .str (.pair (.int .i64) (.int .i64)))))))), .v (.int .i64), .clo [.int .i64, .int .i64] .bool], true, [.sl (.int .i64), .bool], fun x => impl_byLength x.1 x.2.1 x.2.2.1⟩
theorem impl_byLength_eq : fnF E88 L88_1 [.v (.pair (.int .i64) (.pair (.sl (.int .i64)) (.pair (.sl (.int .i64)) (.sl (.pair (.int .i64) (.pair .str (.pair (.int .i64) (.int .i64)))))))), .v (.int .i64), .clo [.int .i64, .int .i64] .bool] true [.sl (.int .i64), .bool] f88.ntmps f88.results.toList (codeOf f88) = fun x => impl_byLength x.1 x.2.1 x.2.2.1 := by kernel_rfl
theorem A88_ok : FnOk prog 88 A88 := by
  have h := fnOk_of_run (P := prog) (E := E88) (tysOk_of tyl_ok) E88_ok (L := L88_1) (ps := [.v (.pair (.int .i64) (.pair (.sl (.int .i64)) (.pair (.sl (.int .i64)) (.sl (.pair (.int .i64) (.pair .str (.pair (.int .i64) (.int .i64)))))))), .v (.int .i64), .clo [.int .i64, .int .i64] .bool]) (own := true) (outs := [.sl (.int .i64), .bool]) func88 (c := codeOf f88) (by kernel_rfl) (codeOk_in (L := L88_1) (tysOk_of tyl_ok) E88_ok mixed (c := codeOf f88) (bs := [loopOf f88 6]) (by kernel_rfl) (allCons (loop88_6 rfl) allNil) (by kernel_rfl))
  rw [impl_byLength_eq] at h
  exact h
/-! impl.GreatestOf$1 -/
noncomputable def E89 : Env := ⟨ty0, fun _ => none, fun _ => none, fun _ => none, fun _ => none⟩
theorem E89_ok : FnsOk prog E89 := (noFns _ _)
noncomputable def L89_0 : Nat → Option LoopD := fun _ => none
noncomputable def impl_GreatestOf_1 : Int → Int → Option (Bool) := fun a0 a1 =>
  some (decide (a0 > a1))
noncomputable def A89 : FnA := ⟨[.v (.int .i64), .v (.int .i64)], true, [.bool], fun x => impl_GreatestOf_1 x.1 x.2.1⟩
theorem impl_GreatestOf_1_eq : fnF E89 L89_0 [.v (.int .i64), .v (.int .i64)] true [.bool] f89.ntmps f89.results.toList (codeOf f89) = fun x => impl_GreatestOf_1 x.1 x.2.1 := by kernel_rfl
theorem A89_ok : FnOk prog 89 A89 := by
  have h := fnOk_of_run (P := prog) (E := E89) (tysOk_of tyl_ok) E89_ok (L := L89_0) (ps := [.v (.int .i64), .v (.int .i64)]) (own := true) (outs := [.bool]) func89 (c := codeOf f89) (by kernel_rfl) (codeOk_in (L := L89_0) (tysOk_of tyl_ok) E89_ok mixed (c := codeOf f89) (bs := []) (by kernel_rfl) allNil (by kernel_rfl))
  rw [impl_GreatestOf_1_eq] at h
  exact h
/-! impl.GreatestOf -/
noncomputable def E30 : Env := ⟨ty0, fun g => ifEq g 88 (some A88) (ifEq g 89 (some A89) (none)), fun _ => none, fun _ => none, fun _ => none⟩
theorem E30_ok : FnsOk prog E30 := (oneFn A88_ok func88 (by kernel_rfl) (by kernel_rfl) (oneFn A89_ok func89 (by kernel_rfl) (by kernel_rfl) (noFns _ _)))
noncomputable def L30_0 : Nat → Option LoopD := fun _ => none
noncomputable def impl_GreatestOf : (Int × ((List Int) × ((List Int) × (List (Int × (ByteArray × (Int × Int))))))) → Int → Option ((List Int) × Bool) := fun (a0_0, a0_1, a0_2, a0_3) a1 =>
  Option.bind (impl_byLength (a0_0, a0_1, a0_2, a0_3) a1 (fun y0 => (impl_GreatestOf_1 y0.1 y0.2.1))) fun (r1, r2) =>
    some ((List.take (List.length r1) (List.drop 0 r1)), r2)
noncomputable def A30 : FnA := ⟨[.v (.pair (.int .i64) (.pair (.sl (.int .i64)) (.pair (.sl (.int .i64)) (.sl (.pair (.int .i64) (.pair .str (.pair (.int .i64) (.int .i64)))))))), .v (.int .i64)], true, [.sl (.int .i64), .bool], fun x => impl_GreatestOf x.1 x.2.1⟩
theorem impl_GreatestOf_eq : fnF E30 L30_0 [.v (.pair (.int .i64) (.pair (.sl (.int .i64)) (.pair (.sl (.int .i64)) (.sl (.pair (.int .i64) (.pair .str (.pair (.int .i64) (.int .i64)))))))), .v (.int .i64)] true [.sl (.int .i64), .bool] f30.ntmps f30.results.toList (codeOf f30) = fun x => impl_GreatestOf x.1 x.2.1 := by kernel_rfl
theorem A30_ok : FnOk prog 30 A30 := by
  have h := fnOk_of_run (P := prog) (E := E30) (tysOk_of tyl_ok) E30_ok (L := L30_0) (ps := [.v (.pair (.int .i64) (.pair (.sl (.int .i64)) (.pair (.sl (.int .i64)) (.sl (.pair (.int .i64) (.pair .str (.pair (.int .i64) (.int .i64)))))))), .v (.int .i64)]) (own := true) (outs := [.sl (.int .i64), .bool]) func30 (c := codeOf f30) (by kernel_rfl) (codeOk_in (L := L30_0) (tysOk_of tyl_ok) E30_ok mixed (c := codeOf f30) (bs := []) (by kernel_rfl) allNil (by kernel_rfl))
  rw [impl_GreatestOf_eq] at h
  exact h
/-! impl.LeastOf$1 -/
noncomputable def E103 : Env := ⟨ty0, fun _ => none, fun _ => none, fun _ => none, fun _ => none⟩
theorem E103_ok : FnsOk prog E103 := (noFns _ _)
noncomputable def L103_0 : Nat → Option LoopD := fun _ => none
noncomputable def impl_LeastOf_1 : Int → Int → Option (Bool) := fun a0 a1 =>
  some (decide (a0 < a1))
noncomputable def A103 : FnA := ⟨[.v (.int .i64), .v (.int .i64)], true, [.bool], fun x => impl_LeastOf_1 x.1 x.2.1⟩
theorem impl_LeastOf_1_eq : fnF E103 L103_0 [.v (.int .i64), .v (.int .i64)] true [.bool] f103.ntmps f103.results.toList (codeOf f103) = fun x => impl_LeastOf_1 x.1 x.2.1 := by kernel_rfl
theorem A103_ok : FnOk prog 103 A103 := by
  have h := fnOk_of_run (P := prog) (E := E103) (tysOk_of tyl_ok) E103_ok (L := L103_0) (ps := [.v (.int .i64), .v (.int .i64)]) (own := true) (outs := [.bool]) func103 (c := codeOf f103) (by kernel_rfl) (codeOk_in (L := L103_0) (tysOk_of tyl_ok) E103_ok mixed (c := codeOf f103) (bs := []) (by kernel_rfl) allNil (by kernel_rfl))
  rw [impl_LeastOf_1_eq] at h
  exact h
/-! impl.LeastOf -/
noncomputable def E62 : Env := ⟨ty0, fun g => ifEq g 88 (some A88) (ifEq g 103 (some A103) (none)), fun _ => none, fun _ => none, fun _ => none⟩
theorem E62_ok : FnsOk prog E62 := (oneFn A88_ok func88 (by kernel_rfl) (by kernel_rfl) (oneFn A103_ok func103 (by kernel_rfl) (by kernel_rfl) (noFns _ _)))
noncomputable def L62_0 : Nat → Option LoopD := fun _ => none
noncomputable def impl_LeastOf : (Int × ((List Int) × ((List Int) × (List (Int × (ByteArray × (Int × Int))))))) → Int → Option ((List Int) × Bool) := fun (a0_0, a0_1, a0_2, a0_3) a1 =>
  Option.bind (impl_byLength (a0_0, a0_1, a0_2, a0_3) a1 (fun y0 => (impl_LeastOf_1 y0.1 y0.2.1))) fun (r1, r2) =>
    some ((List.take (List.length r1) (List.drop 0 r1)), r2)
noncomputable def A62 : FnA := ⟨[.v (.pair (.int .i64) (.pair (.sl (.int .i64)) (.pair (.sl (.int .i64)) (.sl (.pair (.int .i64) (.pair .str (.pair (.int .i64) (.int .i64)))))))), .v (.int .i64)], true, [.sl (.int .i64), .bool], fun x => impl_LeastOf x.1 x.2.1⟩
theorem impl_LeastOf_eq : fnF E62 L62_0 [.v (.pair (.int .i64) (.pair (.sl (.int .i64)) (.pair (.sl (.int .i64)) (.sl (.pair (.int .i64) (.pair .str (.pair (.int .i64) (.int .i64)))))))), .v (.int .i64)] true [.sl (.int .i64), .bool] f62.ntmps f62.results.toList (codeOf f62) = fun x => impl_LeastOf x.1 x.2.1 := by kernel_rfl
theorem A62_ok : FnOk prog 62 A62 := by
  have h := fnOk_of_run (P := prog) (E := E62) (tysOk_of tyl_ok) E62_ok (L := L62_0) (ps := [.v (.pair (.int .i64) (.pair (.sl (.int .i64)) (.pair (.sl (.int .i64)) (.sl (.pair (.int .i64) (.pair .str (.pair (.int .i64) (.int .i64)))))))), .v (.int .i64)]) (own := true) (outs := [.sl (.int .i64), .bool]) func62 (c := codeOf f62) (by kernel_rfl) (codeOk_in (L := L62_0) (tysOk_of tyl_ok) E62_ok mixed (c := codeOf f62) (bs := []) (by kernel_rfl) allNil (by kernel_rfl))
  rw [impl_LeastOf_eq] at h
  exact h
/-! spec.l11Short -/
noncomputable def E87 : Env := ⟨ty0, fun g => ifEq g 78 (some A78) (ifEq g 79 (some A79) (none)), fun _ => none, fun _ => none, fun _ => none⟩
theorem E87_ok : FnsOk prog E87 := (oneFn A78_ok func78 (by kernel_rfl) (by kernel_rfl) (oneFn A79_ok func79 (by kernel_rfl) (by kernel_rfl) (noFns _ _)))
noncomputable def L87_0 : Nat → Option LoopD := fun _ => none
noncomputable def spec_l11Short : (Int × ((List Int) × ((List Int) × (List (Int × (ByteArray × (Int × Int))))))) → Int → Option (Bool) := fun (a0_0, a0_1, a0_2, a0_3) a1 =>
  Option.bind (spec_AutomatonValid (a0_0, a0_1, a0_2, a0_3)) fun r0 =>
    bif r0 then
      Option.bind (spec_l1In a1 (0 : Int) (7 : Int)) fun r1 =>
        some r1
    else
      some false
noncomputable def A87 : FnA := ⟨[.v (.pair (.int .i64) (.pair (.sl (.int .i64)) (.pair (.sl (.int .i64)) (.sl (.pair (.int .i64) (.pair .str (.pair (.int .i64) (.int .i64)))))))), .v (.int .i64)], true, [.bool], fun x => spec_l11Short x.1 x.2.1⟩
theorem spec_l11Short_eq : fnF E87 L87_0 [.v (.pair (.int .i64) (.pair (.sl (.int .i64)) (.pair (.sl (.int .i64)) (.sl (.pair (.int .i64) (.pair .str (.pair (.int .i64) (.int .i64)))))))), .v (.int .i64)] true [.bool] f87.ntmps f87.results.toList (codeOf f87) = fun x => spec_l11Short x.1 x.2.1 := by kernel_rfl
theorem A87_ok : FnOk prog 87 A87 := by
  have h := fnOk_of_run (P := prog) (E := E87) (tysOk_of tyl_ok) E87_ok (L := L87_0) (ps := [.v (.pair (.int .i64) (.pair (.sl (.int .i64)) (.pair (.sl (.int .i64)) (.sl (.pair (.int .i64) (.pair .str (.pair (.int .i64) (.int .i64)))))))), .v (.int .i64)]) (own := true) (outs := [.bool]) func87 (c := codeOf f87) (by kernel_rfl) (codeOk_in (L := L87_0) (tysOk_of tyl_ok) E87_ok mixed (c := codeOf f87) (bs := []) (by kernel_rfl) allNil (by kernel_rfl))
  rw [spec_l11Short_eq] at h
  exact h
/-! spec.l4Words -/
noncomputable def E80 : Env := ⟨ty0, fun _ => none, fun _ => none, fun _ => none, fun _ => none⟩
theorem E80_ok : FnsOk prog E80 := (noFns _ _)
noncomputable def L80_0 : Nat → Option LoopD := fun _ => none
def sh80_7 : List Fm := [d, d, d, .cell (.own .str 100300 true), d, .cell (.val (.int .i64)), d, d, d, .cell (.val (.int .i64)), .cell (.val (.int .i64)), d, d, d, d, d, d, .cell (.val (.sl .str)), .cell (.val (.int .i64)), .cell (.val (.int .i64)), d, d, d, d, d, d, d, d, d, d, d, d, d, d]
def xs80_7 : List (Ex × List Fm) := [(.exit 2, [d, d, d, .cell (.own .str 100300 true), d, .cell (.val (.int .i64)), d, d, d, .cell (.val (.int .i64)), .cell (.val (.int .i64)), d, d, d, d, d, d, d, d, d, d, d, d, d, d, d, d, d, d, d, d, d, d, d])]
noncomputable def spec_l4Words_l7 : ((List ByteArray) × Int × Int × Int × (List ByteArray) × Int × Int × Unit) → Option (((List ByteArray) × Int × Int × Int × (List ByteArray) × Int × Int × Unit) ⊕ (((List ByteArray) × Int × Int × Int × Unit))) := fun (v3, v5, v9, v10, v17, v18, v19, _) =>
  bif (decide (v19 < v18)) then
    if (((0 : Int) ≤ v19) ∧ (v19 < (((List.length v17) : Nat) : Int))) then
      if (((ByteArray.size (List.getD v17 (Int.toNat v19) (⟨Array.empty⟩ : ByteArray))) + (ByteArray.size (⟨#[(97 : UInt8)]⟩ : ByteArray))) ≤ 9223372036854775807) then
        if (((ByteArray.size (List.getD v17 (Int.toNat v19) (⟨Array.empty⟩ : ByteArray))) + (ByteArray.size (⟨#[(98 : UInt8)]⟩ : ByteArray))) ≤ 9223372036854775807) then
          if (((0 + (List.length v3)) = (List.length v3)) ∧ ((((List.length v3) + (List.length (List.take 2 (List.drop 0 [((List.getD v17 (Int.toNat v19) (⟨Array.empty⟩ : ByteArray)) ++ (⟨#[(97 : UInt8)]⟩ : ByteArray)), ((List.getD v17 (Int.toNat v19) (⟨Array.empty⟩ : ByteArray)) ++ (⟨#[(98 : UInt8)]⟩ : ByteArray))])))) * 16) ≤ 140737488355328)) then
            if ((0 + ((List.length v3) + (List.length (List.take 2 (List.drop 0 [((List.getD v17 (Int.toNat v19) (⟨Array.empty⟩ : ByteArray)) ++ (⟨#[(97 : UInt8)]⟩ : ByteArray)), ((List.getD v17 (Int.toNat v19) (⟨Array.empty⟩ : ByteArray)) ++ (⟨#[(98 : UInt8)]⟩ : ByteArray))]))))) = (List.length ((List.drop 0 v3) ++ (List.take 2 (List.drop 0 [((List.getD v17 (Int.toNat v19) (⟨Array.empty⟩ : ByteArray)) ++ (⟨#[(97 : UInt8)]⟩ : ByteArray)), ((List.getD v17 (Int.toNat v19) (⟨Array.empty⟩ : ByteArray)) ++ (⟨#[(98 : UInt8)]⟩ : ByteArray))]))))) then
              some (Sum.inl ((List.drop 0 ((List.drop 0 v3) ++ (List.take 2 (List.drop 0 [((List.getD v17 (Int.toNat v19) (⟨Array.empty⟩ : ByteArray)) ++ (⟨#[(97 : UInt8)]⟩ : ByteArray)), ((List.getD v17 (Int.toNat v19) (⟨Array.empty⟩ : ByteArray)) ++ (⟨#[(98 : UInt8)]⟩ : ByteArray))])))), v5, v9, v10, v17, v18, (IntKind.wrap .i64 (v19 + (1 : Int))), ()))
            else
              none
          else
            none
        else
          none
      else
        none
    else
      none
  else
    if ((0 + (List.length v3)) = (List.length v3)) then
      some (Sum.inr ((List.drop 0 v3), v5, v9, v10, ()))
    else
      none
theorem spec_l4Words_l7_eq : loopStep 34 E80 L80_0 (loopOf f80 7) sh80_7 xs80_7 = spec_l4Words_l7 := by kernel_rfl
theorem loop80_7 {L : Nat → Option LoopD} (h : L 7 = some ⟨34, sh80_7, xs80_7, spec_l4Words_l7⟩) : LoopOk prog L (loopOf f80 7) :=
  loopOk (tysOk_of tyl_ok) E80_ok (codeOk_in (L := L80_0) (tysOk_of tyl_ok) E80_ok mixed (c := loopOf f80 7) (bs := []) (by kernel_rfl) allNil (by kernel_rfl)) (by kernel_rfl) (by kernel_rfl) spec_l4Words_l7_eq (by rw [show firstId (loopOf f80 7) = 7 from by kernel_rfl]; exact h)
noncomputable def L80_1 : Nat → Option LoopD := fun n => ifEq n 7 (some ⟨34, sh80_7, xs80_7, spec_l4Words_l7⟩) (L80_0 n)
def sh80_4 : List Fm := [d, d, d, .cell (.own .str 100300 true), .cell (.val (.int .i64)), d, d, d, d, .cell (.val (.int .i64)), .cell (.val (.int .i64)), d, d, d, d, d, d, d, d, d, d, d, d, d, d, d, d, d, d, d, d, d, d, d]
def xs80_4 : List (Ex × List Fm) := [(.exit 0, [d, d, d, .cell (.val (.sl .str)), d, d, d, d, d, d, d, d, d, d, d, d, d, d, d, d, d, d, d, d, d, d, d, d, d, d, d, d, d, d])]
noncomputable def spec_l4Words_l4 : ((List ByteArray) × Int × Int × Int × Unit) → Option (((List ByteArray) × Int × Int × Int × Unit) ⊕ (((List ByteArray) × Unit))) := fun (v3, v4, v9, v10, _) =>
  bif (decide (v10 < v9)) then
    if (((0 : Int) ≤ v4) ∧ ((v4 ≤ (((List.length v3) : Nat) : Int)) ∧ ((((List.length v3) : Nat) : Int) ≤ (((List.length v3) : Nat) : Int)))) then
      if ((0 + (List.length v3)) = (List.length v3)) then
        Option.bind (loopF spec_l4Words_l7 ((List.drop 0 v3), (((List.length v3) : Nat) : Int), v9, v10, (List.take ((Int.toNat (((List.length v3) : Nat) : Int)) - (Int.toNat v4)) (List.drop (0 + (Int.toNat v4)) v3)), ((((Int.toNat (((List.length v3) : Nat) : Int)) - (Int.toNat v4)) : Nat) : Int), (0 : Int), ())) fun (r0, r1, r2, r3, _) =>
          if ((0 + (List.length r0)) = (List.length r0)) then
            some (Sum.inl ((List.drop 0 r0), r1, r2, (IntKind.wrap .i64 (r3 + (1 : Int))), ()))
          else
            none
      else
        none
    else
      none
  else
    some (Sum.inr ((List.take (List.length v3) (List.drop 0 v3)), ()))
theorem spec_l4Words_l4_eq : loopStep 34 E80 L80_1 (loopOf f80 4) sh80_4 xs80_4 = spec_l4Words_l4 := by kernel_rfl
theorem loop80_4 {L : Nat → Option LoopD} (h : L 4 = some ⟨34, sh80_4, xs80_4, spec_l4Words_l4⟩) : LoopOk prog L (loopOf f80 4) :=
  loopOk (tysOk_of tyl_ok) E80_ok (codeOk_in (L := L80_1) (tysOk_of tyl_ok) E80_ok mixed (c := loopOf f80 4) (bs := [loopOf f80 7]) (by kernel_rfl) (allCons (loop80_7 rfl) allNil) (by kernel_rfl)) (by kernel_rfl) (by kernel_rfl) spec_l4Words_l4_eq (by rw [show firstId (loopOf f80 4) = 4 from by kernel_rfl]; exact h)
noncomputable def L80_2 : Nat → Option LoopD := fun n => ifEq n 4 (some ⟨34, sh80_4, xs80_4, spec_l4Words_l4⟩) (L80_1 n)
noncomputable def spec_l4Words : Int → Option ((List ByteArray)) := fun a0 =>
  if ((0 + 1) = (List.length [(⟨#[]⟩ : ByteArray)])) then
    Option.bind (loopF spec_l4Words_l4 ((List.drop 0 [(⟨#[]⟩ : ByteArray)]), (0 : Int), a0, (0 : Int), ())) fun (r0, _) =>
      some r0
  else
    none
noncomputable def A80 : FnA := ⟨[.v (.int .i64)], false, [.sl .str], fun x => spec_l4Words x.1⟩
theorem spec_l4Words_eq : fnF E80 L80_2 [.v (.int .i64)] false [.sl .str] f80.ntmps f80.results.toList (codeOf f80) = fun x => spec_l4Words x.1 := by kernel_rfl
theorem A80_ok : FnOk prog 80 A80 := by
  have h := fnOk_of_run (P := prog) (E := E80) (tysOk_of tyl_ok) E80_ok (L := L80_2) (ps := [.v (.int .i64)]) (own := false) (outs := [.sl .str]) func80 (c := codeOf f80) (by kernel_rfl) (codeOk_in (L := L80_2) (tysOk_of tyl_ok) E80_ok mixed (c := codeOf f80) (bs := [loopOf f80 4]) (by kernel_rfl) (allCons (loop80_4 rfl) allNil) (by kernel_rfl))
  rw [spec_l4Words_eq] at h
  exact h
/-! spec.l2Unit -/
noncomputable def E106 : Env := ⟨ty0, fun _ => none, fun _ => none, fun _ => none, fun _ => none⟩
theorem E106_ok : FnsOk prog E106 := (noFns _ _)
noncomputable def L106_0 : Nat → Option LoopD := fun _ => none
def sh106_3 : List Fm := [.cell (.val (.int .i64)), d, .box 100200 [.val (.int .i64), .own (.int .i64) 100202 false], .box 100300 [.val (.int .i64), .own (.int .i64) 100302 false], d, d, d, d, d, .cell (.val (.int .i64)), .cell (.val (.int .i64)), d, d, d, d, d, d, d, d, d, d, d, d, d, d, d, d, d, d, d, d, d]
def xs106_3 : List (Ex × List Fm) := [(.exit 0, [d, d, .box 100200 [.val (.int .i64), .own (.int .i64) 100202 false], .box 100300 [.val (.int .i64), .own (.int .i64) 100302 false], d, d, d, d, d, d, d, d, d, d, d, d, d, d, d, d, d, d, d, d, d, d, d, d, d, d, d, d])]
noncomputable def spec_l2Unit_l3 : (Int × (Int × (List Int) × Unit) × (Int × (List Int) × Unit) × Int × Int × Unit) → Option ((Int × (Int × (List Int) × Unit) × (Int × (List Int) × Unit) × Int × Int × Unit) ⊕ (((Int × (List Int) × Unit) × (Int × (List Int) × Unit) × Unit))) := fun (v0, (v2_0, v2_1, _), (v3_0, v3_1, _), v9, v10, _) =>
  bif (decide (v10 < v9)) then
    if (v0 = (0 : Int)) then
      none
    else
      if (v0 = (0 : Int)) then
        none
      else
        bif ((IntKind.wrap .i64 (Int.tdiv v10 v0)) == (Int.tmod v10 v0)) then
          if (((0 + (List.length v3_1)) = (List.length v3_1)) ∧ ((((List.length v3_1) + (List.length (List.take 1 (List.drop 0 [(0 : Int)])))) * 8) ≤ 140737488355328)) then
            some (Sum.inl (v0, (v2_0, (List.take (List.length v2_1) (List.drop 0 v2_1)), ()), (v3_0, (List.take ((List.length v3_1) + (List.length (List.take 1 (List.drop 0 [(0 : Int)])))) (List.drop 0 ((List.drop 0 v3_1) ++ (List.take 1 (List.drop 0 [(0 : Int)]))))), ()), v9, (IntKind.wrap .i64 (v10 + (1 : Int))), ()))
          else
            none
        else
          if (((0 + (List.length v3_1)) = (List.length v3_1)) ∧ ((((List.length v3_1) + (List.length (List.take 1 (List.drop 0 [(1000000 : Int)])))) * 8) ≤ 140737488355328)) then
            some (Sum.inl (v0, (v2_0, (List.take (List.length v2_1) (List.drop 0 v2_1)), ()), (v3_0, (List.take ((List.length v3_1) + (List.length (List.take 1 (List.drop 0 [(1000000 : Int)])))) (List.drop 0 ((List.drop 0 v3_1) ++ (List.take 1 (List.drop 0 [(1000000 : Int)]))))), ()), v9, (IntKind.wrap .i64 (v10 + (1 : Int))), ()))
          else
            none
  else
    some (Sum.inr ((v2_0, (List.take (List.length v2_1) (List.drop 0 v2_1)), ()), (v3_0, (List.take (List.length v3_1) (List.drop 0 v3_1)), ()), ()))
theorem spec_l2Unit_l3_eq : loopStep 32 E106 L106_0 (loopOf f106 3) sh106_3 xs106_3 = spec_l2Unit_l3 := by kernel_rfl
theorem loop106_3 {L : Nat → Option LoopD} (h : L 3 = some ⟨32, sh106_3, xs106_3, spec_l2Unit_l3⟩) : LoopOk prog L (loopOf f106 3) :=
  loopOk (tysOk_of tyl_ok) E106_ok (codeOk_in (L := L106_0) (tysOk_of tyl_ok) E106_ok mixed (c := loopOf f106 3) (bs := []) (by kernel_rfl) allNil (by kernel_rfl)) (by kernel_rfl) (by kernel_rfl) spec_l2Unit_l3_eq (by rw [show firstId (loopOf f106 3) = 3 from by kernel_rfl]; exact h)
noncomputable def L106_1 : Nat → Option LoopD := fun n => ifEq n 3 (some ⟨32, sh106_3, xs106_3, spec_l2Unit_l3⟩) (L106_0 n)
noncomputable def spec_l2Unit : Int → Option ((Int × (List Int))) := fun a0 =>
  Option.bind (loopF spec_l2Unit_l3 (a0, ((0 : Int), [], ()), (a0, [], ()), (IntKind.wrap .i64 (a0 * a0)), (0 : Int), ())) fun ((r0, r1, _), (r2, r3, _), _) =>
    some (r2, (List.take (List.length r3) (List.drop 0 r3)))
noncomputable def A106 : FnA := ⟨[.v (.int .i64)], true, [.pair (.int .i64) (.sl (.int .i64))], fun x => spec_l2Unit x.1⟩
theorem spec_l2Unit_eq : fnF E106 L106_1 [.v (.int .i64)] true [.pair (.int .i64) (.sl (.int .i64))] f106.ntmps f106.results.toList (codeOf f106) = fun x => spec_l2Unit x.1 := by kernel_rfl
theorem A106_ok : FnOk prog 106 A106 := by
  have h := fnOk_of_run (P := prog) (E := E106) (tysOk_of tyl_ok) E106_ok (L := L106_1) (ps := [.v (.int .i64)]) (own := true) (outs := [.pair (.int .i64) (.sl (.int .i64))]) func106 (c := codeOf f106) (by kernel_rfl) (codeOk_in (L := L106_1) (tysOk_of tyl_ok) E106_ok mixed (c := codeOf f106) (bs := [loopOf f106 3]) (by kernel_rfl) (allCons (loop106_3 rfl) allNil) (by kernel_rfl))
  rw [spec_l2Unit_eq] at h
  exact h
/-! spec.l3Matrix -/
noncomputable def E105 : Env := ⟨ty0, fun _ => none, fun _ => none, fun _ => none, fun _ => none⟩
theorem E105_ok : FnsOk prog E105 := (noFns _ _)
noncomputable def L105_0 : Nat → Option LoopD := fun _ => none
def sh105_3 : List Fm := [d, .cell (.val .str), .box 100200 [.val (.int .i64), .val (.sl (.int .i64)), .val (.sl (.int .i64)), .val (.sl (.pair (.int .i64) (.pair .str (.pair (.int .i64) (.int .i64)))))], d, .box 100400 [.val (.int .i64), .own (.int .i64) 100402 false], .box 100500 [.val (.int .i64), .own (.int .i64) 100502 false], d, d, d, d, d, d, d, d, d, .cell (.val (.int .i64)), .cell (.val (.int .i64)), d, d, d, d, d, d, d, d, d, d, d, d, d, d, d, d, d, d, d, d, d, d, d, d, d, d, d, d, d, d, d, d, d]
def xs105_3 : List (Ex × List Fm) := [(.exit 0, [d, .cell (.val .str), .box 100200 [.val (.int .i64), .val (.sl (.int .i64)), .val (.sl (.int .i64)), .val (.sl (.pair (.int .i64) (.pair .str (.pair (.int .i64) (.int .i64)))))], d, .box 100400 [.val (.int .i64), .own (.int .i64) 100402 false], .box 100500 [.val (.int .i64), .own (.int .i64) 100502 false], d, d, d, d, d, d, d, d, d, d, d, d, d, d, d, d, d, d, d, d, d, d, d, d, d, d, d, d, d, d, d, d, d, d, d, d, d, d, d, d, d, d, d, d])]
noncomputable def spec_l3Matrix_l3 : (ByteArray × (Int × (List Int) × (List Int) × (List (Int × (ByteArray × (Int × Int)))) × Unit) × (Int × (List Int) × Unit) × (Int × (List Int) × Unit) × Int × Int × Unit) → Option ((ByteArray × (Int × (List Int) × (List Int) × (List (Int × (ByteArray × (Int × Int)))) × Unit) × (Int × (List Int) × Unit) × (Int × (List Int) × Unit) × Int × Int × Unit) ⊕ ((ByteArray × (Int × (List Int) × (List Int) × (List (Int × (ByteArray × (Int × Int)))) × Unit) × (Int × (List Int) × Unit) × (Int × (List Int) × Unit) × Unit))) := fun (v1, (v2_0, v2_1, v2_2, v2_3, _), (v4_0, v4_1, _), (v5_0, v5_1, _), v15, v16, _) =>
  bif (decide (v16 < v15)) then
    if (((0 + (List.length v5_1)) = (List.length v5_1)) ∧ ((((List.length v5_1) + (List.length (List.take 1 (List.drop 0 [(1000000 : Int)])))) * 8) ≤ 140737488355328)) then
      some (Sum.inl (v1, (v2_0, v2_1, v2_2, v2_3, ()), (v4_0, (List.take (List.length v4_1) (List.drop 0 v4_1)), ()), (v5_0, (List.take ((List.length v5_1) + (List.length (List.take 1 (List.drop 0 [(1000000 : Int)])))) (List.drop 0 ((List.drop 0 v5_1) ++ (List.take 1 (List.drop 0 [(1000000 : Int)]))))), ()), v15, (IntKind.wrap .i64 (v16 + (1 : Int))), ()))
    else
      none
  else
    some (Sum.inr (v1, (v2_0, v2_1, v2_2, v2_3, ()), (v4_0, (List.take (List.length v4_1) (List.drop 0 v4_1)), ()), (v5_0, (List.take (List.length v5_1) (List.drop 0 v5_1)), ()), ()))
theorem spec_l3Matrix_l3_eq : loopStep 50 E105 L105_0 (loopOf f105 3) sh105_3 xs105_3 = spec_l3Matrix_l3 := by kernel_rfl
theorem loop105_3 {L : Nat → Option LoopD} (h : L 3 = some ⟨50, sh105_3, xs105_3, spec_l3Matrix_l3⟩) : LoopOk prog L (loopOf f105 3) :=
  loopOk (tysOk_of tyl_ok) E105_ok (codeOk_in (L := L105_0) (tysOk_of tyl_ok) E105_ok mixed (c := loopOf f105 3) (bs := []) (by kernel_rfl) allNil (by kernel_rfl)) (by kernel_rfl) (by kernel_rfl) spec_l3Matrix_l3_eq (by rw [show firstId (loopOf f105 3) = 3 from by kernel_rfl]; exact h)
noncomputable def L105_1 : Nat → Option LoopD := fun n => ifEq n 3 (some ⟨50, sh105_3, xs105_3, spec_l3Matrix_l3⟩) (L105_0 n)
def sh105_7 : List Fm := [d, .cell (.val .str), .box 100200 [.val (.int .i64), .val (.sl (.int .i64)), .val (.sl (.int .i64)), .val (.sl (.pair (.int .i64) (.pair .str (.pair (.int .i64) (.int .i64)))))], d, .box 100400 [.val (.int .i64), .own (.int .i64) 100402 false], .box 100500 [.val (.int .i64), .own (.int .i64) 100502 false], d, d, d, d, d, d, d, d, d, d, d, d, d, d, d, d, d, d, d, .cell (.val (.sl (.pair (.int .i64) (.pair .str (.pair (.int .i64) (.int .i64)))))), .cell (.val (.int .i64)), .cell (.val (.int .i64)), d, d, d, d, d, d, d, d, d, d, d, d, d, d, d, d, d, d, d, d, d, d]
def xs105_7 : List (Ex × List Fm) := [(.exit 2, [d, d, d, d, .box 100400 [.val (.int .i64), .own (.int .i64) 100402 false], .box 100500 [.val (.int .i64), .own (.int .i64) 100502 false], d, d, d, d, d, d, d, d, d, d, d, d, d, d, d, d, d, d, d, d, d, d, d, d, d, d, d, d, d, d, d, d, d, d, d, d, d, d, d, d, d, d, d, d])]
noncomputable def spec_l3Matrix_l7 : (ByteArray × (Int × (List Int) × (List Int) × (List (Int × (ByteArray × (Int × Int)))) × Unit) × (Int × (List Int) × Unit) × (Int × (List Int) × Unit) × (List (Int × (ByteArray × (Int × Int)))) × Int × Int × Unit) → Option ((ByteArray × (Int × (List Int) × (List Int) × (List (Int × (ByteArray × (Int × Int)))) × Unit) × (Int × (List Int) × Unit) × (Int × (List Int) × Unit) × (List (Int × (ByteArray × (Int × Int)))) × Int × Int × Unit) ⊕ (((Int × (List Int) × Unit) × (Int × (List Int) × Unit) × Unit))) := fun (v1, (v2_0, v2_1, v2_2, v2_3, _), (v4_0, v4_1, _), (v5_0, v5_1, _), v25, v26, v27, _) =>
  bif (decide (v27 < v26)) then
    if (((0 : Int) ≤ v27) ∧ (v27 < (((List.length v25) : Nat) : Int))) then
      bif ((ByteArray.toList (List.getD v25 (Int.toNat v27) ((0 : Int), (⟨Array.empty⟩ : ByteArray), (0 : Int), (0 : Int))).2.1) == (ByteArray.toList v1)) then
        if (((0 : Int) ≤ (IntKind.wrap .i64 ((IntKind.wrap .i64 ((List.getD v25 (Int.toNat v27) ((0 : Int), (⟨Array.empty⟩ : ByteArray), (0 : Int), (0 : Int))).1 * v2_0)) + (List.getD v25 (Int.toNat v27) ((0 : Int), (⟨Array.empty⟩ : ByteArray), (0 : Int), (0 : Int))).2.2.1))) ∧ ((IntKind.wrap .i64 ((IntKind.wrap .i64 ((List.getD v25 (Int.toNat v27) ((0 : Int), (⟨Array.empty⟩ : ByteArray), (0 : Int), (0 : Int))).1 * v2_0)) + (List.getD v25 (Int.toNat v27) ((0 : Int), (⟨Array.empty⟩ : ByteArray), (0 : Int), (0 : Int))).2.2.1)) < (((List.length v5_1) : Nat) : Int))) then
          some (Sum.inl (v1, (v2_0, v2_1, v2_2, v2_3, ()), (v4_0, (List.take (List.length v4_1) (List.drop 0 v4_1)), ()), (v5_0, (List.take (List.length v5_1) (List.drop 0 (List.set v5_1 (0 + (Int.toNat (IntKind.wrap .i64 ((IntKind.wrap .i64 ((List.getD v25 (Int.toNat v27) ((0 : Int), (⟨Array.empty⟩ : ByteArray), (0 : Int), (0 : Int))).1 * v2_0)) + (List.getD v25 (Int.toNat v27) ((0 : Int), (⟨Array.empty⟩ : ByteArray), (0 : Int), (0 : Int))).2.2.1)))) (List.getD v25 (Int.toNat v27) ((0 : Int), (⟨Array.empty⟩ : ByteArray), (0 : Int), (0 : Int))).2.2.2))), ()), v25, v26, (IntKind.wrap .i64 (v27 + (1 : Int))), ()))
        else
          none
      else
        some (Sum.inl (v1, (v2_0, v2_1, v2_2, v2_3, ()), (v4_0, (List.take (List.length v4_1) (List.drop 0 v4_1)), ()), (v5_0, (List.take (List.length v5_1) (List.drop 0 v5_1)), ()), v25, v26, (IntKind.wrap .i64 (v27 + (1 : Int))), ()))
    else
      none
  else
    some (Sum.inr ((v4_0, (List.take (List.length v4_1) (List.drop 0 v4_1)), ()), (v5_0, (List.take (List.length v5_1) (List.drop 0 v5_1)), ()), ()))
theorem spec_l3Matrix_l7_eq : loopStep 50 E105 L105_1 (loopOf f105 7) sh105_7 xs105_7 = spec_l3Matrix_l7 := by kernel_rfl
theorem loop105_7 {L : Nat → Option LoopD} (h : L 7 = some ⟨50, sh105_7, xs105_7, spec_l3Matrix_l7⟩) : LoopOk prog L (loopOf f105 7) :=
  loopOk (tysOk_of tyl_ok) E105_ok (codeOk_in (L := L105_1) (tysOk_of tyl_ok) E105_ok mixed (c := loopOf f105 7) (bs := []) (by kernel_rfl) allNil (by kernel_rfl)) (by kernel_rfl) (by kernel_rfl) spec_l3Matrix_l7_eq (by rw [show firstId (loopOf f105 7) = 7 from by kernel_rfl]; exact h)
noncomputable def L105_2 : Nat → Option LoopD := fun n => ifEq n 7 (some ⟨50, sh105_7, xs105_7, spec_l3Matrix_l7⟩) (L105_1 n)
noncomputable def spec_l3Matrix : (Int × ((List Int) × ((List Int) × (List (Int × (ByteArray × (Int × Int))))))) → ByteArray → Option ((Int × (List Int))) := fun (a0_0, a0_1, a0_2, a0_3) a1 =>
  Option.bind (loopF spec_l3Matrix_l3 (a1, (a0_0, a0_1, a0_2, a0_3, ()), ((0 : Int), [], ()), (a0_0, [], ()), (IntKind.wrap .i64 (a0_0 * a0_0)), (0 : Int), ())) fun (r0, (r1, r2, r3, r4, _), (r5, r6, _), (r7, r8, _), _) =>
    Option.bind (loopF spec_l3Matrix_l7 (r0, (r1, r2, r3, r4, ()), (r5, (List.take (List.length r6) (List.drop 0 r6)), ()), (r7, (List.take (List.length r8) (List.drop 0 r8)), ()), r4, (((List.length r4) : Nat) : Int), (0 : Int), ())) fun ((r9, r10, _), (r11, r12, _), _) =>
      some (r11, (List.take (List.length r12) (List.drop 0 r12)))
noncomputable def A105 : FnA := ⟨[.v (.pair (.int .i64) (.pair (.sl (.int .i64)) (.pair (.sl (.int .i64)) (.sl (.pair (.int .i64) (.pair .str (.pair (.int .i64) (.int .i64)))))))), .v .str], true, [.pair (.int .i64) (.sl (.int .i64))], fun x => spec_l3Matrix x.1 x.2.1⟩
theorem spec_l3Matrix_eq : fnF E105 L105_2 [.v (.pair (.int .i64) (.pair (.sl (.int .i64)) (.pair (.sl (.int .i64)) (.sl (.pair (.int .i64) (.pair .str (.pair (.int .i64) (.int .i64)))))))), .v .str] true [.pair (.int .i64) (.sl (.int .i64))] f105.ntmps f105.results.toList (codeOf f105) = fun x => spec_l3Matrix x.1 x.2.1 := by kernel_rfl
theorem A105_ok : FnOk prog 105 A105 := by
  have h := fnOk_of_run (P := prog) (E := E105) (tysOk_of tyl_ok) E105_ok (L := L105_2) (ps := [.v (.pair (.int .i64) (.pair (.sl (.int .i64)) (.pair (.sl (.int .i64)) (.sl (.pair (.int .i64) (.pair .str (.pair (.int .i64) (.int .i64)))))))), .v .str]) (own := true) (outs := [.pair (.int .i64) (.sl (.int .i64))]) func105 (c := codeOf f105) (by kernel_rfl) (codeOk_in (L := L105_2) (tysOk_of tyl_ok) E105_ok mixed (c := codeOf f105) (bs := [loopOf f105 3, loopOf f105 7]) (by kernel_rfl) (allCons (loop105_3 rfl) (allCons (loop105_7 rfl) allNil)) (by kernel_rfl))
  rw [spec_l3Matrix_eq] at h
  exact h
/-! spec.l1Add -/
noncomputable def E136 : Env := ⟨ty0, fun _ => none, fun _ => none, fun _ => none, fun _ => none⟩
theorem E136_ok : FnsOk prog E136 := (noFns _ _)
noncomputable def L136_0 : Nat → Option LoopD := fun _ => none
noncomputable def spec_l1Add : Int → Int → Option (Int) := fun a0 a1 =>
  some (if ((1000000 : Int) < (IntKind.wrap .i64 (a0 + a1))) then (1000000 : Int) else (IntKind.wrap .i64 (a0 + a1)))
noncomputable def A136 : FnA := ⟨[.v (.int .i64), .v (.int .i64)], true, [.int .i64], fun x => spec_l1Add x.1 x.2.1⟩
theorem spec_l1Add_eq : fnF E136 L136_0 [.v (.int .i64), .v (.int .i64)] true [.int .i64] f136.ntmps f136.results.toList (codeOf f136) = fun x => spec_l1Add x.1 x.2.1 := by kernel_rfl
theorem A136_ok : FnOk prog 136 A136 := by
  have h := fnOk_of_run (P := prog) (E := E136) (tysOk_of tyl_ok) E136_ok (L := L136_0) (ps := [.v (.int .i64), .v (.int .i64)]) (own := true) (outs := [.int .i64]) func136 (c := codeOf f136) (by kernel_rfl) (codeOk_in (L := L136_0) (tysOk_of tyl_ok) E136_ok mixed (c := codeOf f136) (bs := []) (by kernel_rfl) allNil (by kernel_rfl))
  rw [spec_l1Add_eq] at h
  exact h
/-! spec.l2Mul -/
noncomputable def E108 : Env := ⟨ty0, fun g => ifEq g 136 (some A136) (none), fun _ => none, fun _ => none, fun _ => none⟩
theorem E108_ok : FnsOk prog E108 := (oneFn A136_ok func136 (by kernel_rfl) (by kernel_rfl) (noFns _ _))
noncomputable def L108_0 : Nat → Option LoopD := fun _ => none
def sh108_8 : List Fm := [d, d, .box 100200 [.val (.int .i64), .val (.sl (.int .i64))], .box 100300 [.val (.int .i64), .val (.sl (.int .i64))], .box 100400 [.val (.int .i64), .own (.int .i64) 100402 false], .box 100500 [.val (.int .i64), .own (.int .i64) 100502 false], d, .cell (.val (.int .i64)), .cell (.val (.int .i64)), .cell (.val (.int .i64)), d, d, d, d, d, d, d, d, .cell (.val (.int .i64)), .cell (.val (.int .i64)), d, d, d, d, d, d, d, d, d, d, d, .cell (.val (.int .i64)), .cell (.val (.int .i64)), d, d, d, d, d, d, d, d, d, d, d, d, d, d, d, d, d, d, d, d, d, d, d, d, d, d, d, d, d, d, d, d, d, d]
def xs108_8 : List (Ex × List Fm) := [(.exit 2, [d, d, .box 100200 [.val (.int .i64), .val (.sl (.int .i64))], .box 100300 [.val (.int .i64), .val (.sl (.int .i64))], .box 100400 [.val (.int .i64), .own (.int .i64) 100402 false], .box 100500 [.val (.int .i64), .own (.int .i64) 100502 false], d, d, d, .cell (.val (.int .i64)), d, d, d, d, d, d, d, d, .cell (.val (.int .i64)), .cell (.val (.int .i64)), d, d, d, d, d, d, d, d, d, d, d, d, d, d, d, d, d, d, d, d, d, d, d, d, d, d, d, d, d, d, d, d, d, d, d, d, d, d, d, d, d, d, d, d, d, d, d])]
noncomputable def spec_l2Mul_l8 : ((Int × (List Int) × Unit) × (Int × (List Int) × Unit) × (Int × (List Int) × Unit) × (Int × (List Int) × Unit) × Int × Int × Int × Int × Int × Int × Int × Unit) → Option (((Int × (List Int) × Unit) × (Int × (List Int) × Unit) × (Int × (List Int) × Unit) × (Int × (List Int) × Unit) × Int × Int × Int × Int × Int × Int × Int × Unit) ⊕ (((Int × (List Int) × Unit) × (Int × (List Int) × Unit) × (Int × (List Int) × Unit) × (Int × (List Int) × Unit) × Int × Int × Int × Unit))) := fun ((v2_0, v2_1, _), (v3_0, v3_1, _), (v4_0, v4_1, _), (v5_0, v5_1, _), v7, v8, v9, v18, v19, v31, v32, _) =>
  bif (decide (v32 < v31)) then
    if (((0 : Int) ≤ (IntKind.wrap .i64 ((IntKind.wrap .i64 (v7 * v2_0)) + v32))) ∧ ((IntKind.wrap .i64 ((IntKind.wrap .i64 (v7 * v2_0)) + v32)) < (((List.length v2_1) : Nat) : Int))) then
      if (((0 : Int) ≤ (IntKind.wrap .i64 ((IntKind.wrap .i64 (v32 * v2_0)) + v8))) ∧ ((IntKind.wrap .i64 ((IntKind.wrap .i64 (v32 * v2_0)) + v8)) < (((List.length v3_1) : Nat) : Int))) then
        Option.bind (spec_l1Add (List.getD v2_1 (Int.toNat (IntKind.wrap .i64 ((IntKind.wrap .i64 (v7 * v2_0)) + v32))) (0 : Int)) (List.getD v3_1 (Int.toNat (IntKind.wrap .i64 ((IntKind.wrap .i64 (v32 * v2_0)) + v8))) (0 : Int))) fun r0 =>
          some (Sum.inl ((v2_0, v2_1, ()), (v3_0, v3_1, ()), (v4_0, (List.take (List.length v4_1) (List.drop 0 v4_1)), ()), (v5_0, (List.take (List.length v5_1) (List.drop 0 v5_1)), ()), v7, v8, (if (r0 < v9) then r0 else v9), v18, v19, v31, (IntKind.wrap .i64 (v32 + (1 : Int))), ()))
      else
        none
    else
      none
  else
    some (Sum.inr ((v2_0, v2_1, ()), (v3_0, v3_1, ()), (v4_0, (List.take (List.length v4_1) (List.drop 0 v4_1)), ()), (v5_0, (List.take (List.length v5_1) (List.drop 0 v5_1)), ()), v9, v18, v19, ()))
theorem spec_l2Mul_l8_eq : loopStep 67 E108 L108_0 (loopOf f108 8) sh108_8 xs108_8 = spec_l2Mul_l8 := by kernel_rfl
theorem loop108_8 {L : Nat → Option LoopD} (h : L 8 = some ⟨67, sh108_8, xs108_8, spec_l2Mul_l8⟩) : LoopOk prog L (loopOf f108 8) :=
  loopOk (tysOk_of tyl_ok) E108_ok (codeOk_in (L := L108_0) (tysOk_of tyl_ok) E108_ok mixed (c := loopOf f108 8) (bs := []) (by kernel_rfl) allNil (by kernel_rfl)) (by kernel_rfl) (by kernel_rfl) spec_l2Mul_l8_eq (by rw [show firstId (loopOf f108 8) = 8 from by kernel_rfl]; exact h)
noncomputable def L108_1 : Nat → Option LoopD := fun n => ifEq n 8 (some ⟨67, sh108_8, xs108_8, spec_l2Mul_l8⟩) (L108_0 n)
def sh108_3 : List Fm := [d, d, .box 100200 [.val (.int .i64), .val (.sl (.int .i64))], .box 100300 [.val (.int .i64), .val (.sl (.int .i64))], .box 100400 [.val (.int .i64), .own (.int .i64) 100402 false], .box 100500 [.val (.int .i64), .own (.int .i64) 100502 false], d, d, d, d, d, d, d, d, d, d, d, d, .cell (.val (.int .i64)), .cell (.val (.int .i64)), d, d, d, d, d, d, d, d, d, d, d, d, d, d, d, d, d, d, d, d, d, d, d, d, d, d, d, d, d, d, d, d, d, d, d, d, d, d, d, d, d, d, d, d, d, d, d]
def xs108_3 : List (Ex × List Fm) := [(.exit 0, [d, d, d, d, .box 100400 [.val (.int .i64), .own (.int .i64) 100402 false], .box 100500 [.val (.int .i64), .own (.int .i64) 100502 false], d, d, d, d, d, d, d, d, d, d, d, d, d, d, d, d, d, d, d, d, d, d, d, d, d, d, d, d, d, d, d, d, d, d, d, d, d, d, d, d, d, d, d, d, d, d, d, d, d, d, d, d, d, d, d, d, d, d, d, d, d])]
noncomputable def spec_l2Mul_l3 : ((Int × (List Int) × Unit) × (Int × (List Int) × Unit) × (Int × (List Int) × Unit) × (Int × (List Int) × Unit) × Int × Int × Unit) → Option (((Int × (List Int) × Unit) × (Int × (List Int) × Unit) × (Int × (List Int) × Unit) × (Int × (List Int) × Unit) × Int × Int × Unit) ⊕ (((Int × (List Int) × Unit) × (Int × (List Int) × Unit) × Unit))) := fun ((v2_0, v2_1, _), (v3_0, v3_1, _), (v4_0, v4_1, _), (v5_0, v5_1, _), v18, v19, _) =>
  bif (decide (v19 < v18)) then
    if (v2_0 = (0 : Int)) then
      none
    else
      if (v2_0 = (0 : Int)) then
        none
      else
        Option.bind (loopF spec_l2Mul_l8 ((v2_0, v2_1, ()), (v3_0, v3_1, ()), (v4_0, (List.take (List.length v4_1) (List.drop 0 v4_1)), ()), (v5_0, (List.take (List.length v5_1) (List.drop 0 v5_1)), ()), (IntKind.wrap .i64 (Int.tdiv v19 v2_0)), (Int.tmod v19 v2_0), (1000000 : Int), v18, v19, v2_0, (0 : Int), ())) fun ((r0, r1, _), (r2, r3, _), (r4, r5, _), (r6, r7, _), r8, r9, r10, _) =>
          if (((0 + (List.length r7)) = (List.length r7)) ∧ ((((List.length r7) + (List.length (List.take 1 (List.drop 0 [r8])))) * 8) ≤ 140737488355328)) then
            some (Sum.inl ((r0, r1, ()), (r2, r3, ()), (r4, (List.take (List.length r5) (List.drop 0 r5)), ()), (r6, (List.take ((List.length r7) + (List.length (List.take 1 (List.drop 0 [r8])))) (List.drop 0 ((List.drop 0 r7) ++ (List.take 1 (List.drop 0 [r8]))))), ()), r9, (IntKind.wrap .i64 (r10 + (1 : Int))), ()))
          else
            none
  else
    some (Sum.inr ((v4_0, (List.take (List.length v4_1) (List.drop 0 v4_1)), ()), (v5_0, (List.take (List.length v5_1) (List.drop 0 v5_1)), ()), ()))
theorem spec_l2Mul_l3_eq : loopStep 67 E108 L108_1 (loopOf f108 3) sh108_3 xs108_3 = spec_l2Mul_l3 := by kernel_rfl
theorem loop108_3 {L : Nat → Option LoopD} (h : L 3 = some ⟨67, sh108_3, xs108_3, spec_l2Mul_l3⟩) : LoopOk prog L (loopOf f108 3) :=
  loopOk (tysOk_of tyl_ok) E108_ok (codeOk_in (L := L108_1) (tysOk_of tyl_ok) E108_ok mixed (c := loopOf f108 3) (bs := [loopOf f108 8]) (by kernel_rfl) (allCons (loop108_8 rfl) allNil) (by kernel_rfl)) (by kernel_rfl) (by kernel_rfl) spec_l2Mul_l3_eq (by rw [show firstId (loopOf f108 3) = 3 from by kernel_rfl]; exact h)
noncomputable def L108_2 : Nat → Option LoopD := fun n => ifEq n 3 (some ⟨67, sh108_3, xs108_3, spec_l2Mul_l3⟩) (L108_1 n)
noncomputable def spec_l2Mul : (Int × (List Int)) → (Int × (List Int)) → Option ((Int × (List Int))) := fun (a0_0, a0_1) (a1_0, a1_1) =>
  Option.bind (loopF spec_l2Mul_l3 ((a0_0, a0_1, ()), (a1_0, a1_1, ()), ((0 : Int), [], ()), (a0_0, [], ()), (IntKind.wrap .i64 (a0_0 * a0_0)), (0 : Int), ())) fun ((r0, r1, _), (r2, r3, _), _) =>
    some (r2, (List.take (List.length r3) (List.drop 0 r3)))
noncomputable def A108 : FnA := ⟨[.v (.pair (.int .i64) (.sl (.int .i64))), .v (.pair (.int .i64) (.sl (.int .i64)))], true, [.pair (.int .i64) (.sl (.int .i64))], fun x => spec_l2Mul x.1 x.2.1⟩
theorem spec_l2Mul_eq : fnF E108 L108_2 [.v (.pair (.int .i64) (.sl (.int .i64))), .v (.pair (.int .i64) (.sl (.int .i64)))] true [.pair (.int .i64) (.sl (.int .i64))] f108.ntmps f108.results.toList (codeOf f108) = fun x => spec_l2Mul x.1 x.2.1 := by kernel_rfl
theorem A108_ok : FnOk prog 108 A108 := by
  have h := fnOk_of_run (P := prog) (E := E108) (tysOk_of tyl_ok) E108_ok (L := L108_2) (ps := [.v (.pair (.int .i64) (.sl (.int .i64))), .v (.pair (.int .i64) (.sl (.int .i64)))]) (own := true) (outs := [.pair (.int .i64) (.sl (.int .i64))]) func108 (c := codeOf f108) (by kernel_rfl) (codeOk_in (L := L108_2) (tysOk_of tyl_ok) E108_ok mixed (c := codeOf f108) (bs := [loopOf f108 3]) (by kernel_rfl) (allCons (loop108_3 rfl) allNil) (by kernel_rfl))
  rw [spec_l2Mul_eq] at h
  exact h
end Go.Proofs.Ytooigaliccnldaa
