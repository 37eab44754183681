/- What Go functions that the laws reach compute, and that they do: written by a program of this session. -/
import Derived.Test.YtfdhmmnffahhgaaGreatG1
import Derived.KernelRfl
set_option linter.unusedVariables false
namespace Go.Proofs.YtfdhmmnffahhgaaGreat
open Go Go.Proofs.YtfdhmmnffahhgaaGreat.Am Go.Proofs.Tryz
set_option maxRecDepth 100000
/-! laws.FnExactWordOver -/
noncomputable def E3 : Env := ⟨ty0, fun g => ifEq g 6 (some A6) (ifEq g 8 (some A8) (ifEq g 7 (some A7) (ifEq g 9 (some A9) (ifEq g 10 (some A10) (none))))), fun _ => none, fun _ => none, fun _ => none⟩
theorem E3_ok : FnsOk prog E3 := (oF A6_ok func6 (oF A8_ok func8 (oF A7_ok func7 (oF A9_ok func9 (oF A10_ok func10 (noFns _ _))))))
noncomputable def L3_0 : Nat → Option LoopD := fun _ => none
noncomputable def laws_FnExactWordOver : (Int × ((List Int) × ((List Int) × (List (Int × (ByteArray × (Int × Int))))))) → Int → Option (Bool) := fun (a0_0, a0_1, a0_2, a0_3) a1 =>
 Option.bind (laws_szAutomaton (a0_0, a0_1, a0_2, a0_3) (1048576 : Int)) fun r0 =>
  bif (decide (r0 < (0 : Int))) then
   some true
  else
   Option.bind (laws_toAutomaton (a0_0, a0_1, a0_2, a0_3)) fun (r1, r2, r3, r4) =>
    Option.bind (spec_WordOver (r1, (List.take (List.length r2) (List.drop 0 r2)), (List.take (List.length r3) (List.drop 0 r3)), (List.take (List.length r4) (List.drop 0 r4))) a1) fun (r5, r6) =>
     Option.bind (laws_toAutomaton (a0_0, a0_1, a0_2, a0_3)) fun (r7, r8, r9, r10) =>
      Option.bind (impl_WordOver (r7, (List.take (List.length r8) (List.drop 0 r8)), (List.take (List.length r9) (List.drop 0 r9)), (List.take (List.length r10) (List.drop 0 r10))) a1) fun (r11, r12) =>
       bif (!((ByteArray.toList r11) == (ByteArray.toList r5))) then
        some false
       else
        bif (!(r12 == r6)) then
         some false
        else
         Option.bind (laws_toAutomaton (a0_0, a0_1, a0_2, a0_3)) fun (r13, r14, r15, r16) =>
          Option.bind (laws_eqAutomaton (r7, (List.take (List.length r8) (List.drop 0 r8)), (List.take (List.length r9) (List.drop 0 r9)), (List.take (List.length r10) (List.drop 0 r10))) (r13, (List.take (List.length r14) (List.drop 0 r14)), (List.take (List.length r15) (List.drop 0 r15)), (List.take (List.length r16) (List.drop 0 r16)))) fun r17 =>
           bif (!r17) then
            some false
           else
            some true
noncomputable def A3 : FnA := ⟨[.v (.pair (.int .i64) (.pair (.sl (.int .i64)) (.pair (.sl (.int .i64)) (.sl (.pair (.int .i64) (.pair .str (.pair (.int .i64) (.int .i64)))))))), .v (.int .i64)], true, [.bool], fun x => laws_FnExactWordOver x.1 x.2.1⟩
theorem laws_FnExactWordOver_eq : fnF E3 L3_0 [.v (.pair (.int .i64) (.pair (.sl (.int .i64)) (.pair (.sl (.int .i64)) (.sl (.pair (.int .i64) (.pair .str (.pair (.int .i64) (.int .i64)))))))), .v (.int .i64)] true [.bool] f3.ntmps f3.results.toList (codeOf f3) = fun x => laws_FnExactWordOver x.1 x.2.1 := by kernel_rfl
theorem A3_ok : FnOk prog 3 A3 := fo laws_FnExactWordOver_eq func3 E3_ok allNil
end Go.Proofs.YtfdhmmnffahhgaaGreat
