/- What Go functions that the laws reach compute, and that they do: written by a program of this session. -/
import Derived.Test.YtogigagfgkfkhaaG0
import Derived.Test.YtogigagfgkfkhaaSort
import Derived.KernelRfl
set_option linter.unusedVariables false
namespace Go.Proofs.Ytogigagfgkfkhaa
open Go Go.Proofs.Ytogigagfgkfkhaa.Am Go.Proofs.Try
set_option maxRecDepth 100000
noncomputable section
def spec_l13Open : LI → Option ((LI × Int)) := fun a0 =>
 bif (decide ((((List.length a0) : Nat) : Int) > 2000)) then
  if (((0 : Int) ≤ 2000) ∧ ((2000 : Int) ≤ (((List.length a0) : Nat) : Int))) then
   some ((List.take ((Int.toNat 2000) - 0) (List.drop 0 a0)), 0)
  else
   none
 else
  some (a0, 0)
def A11 : FnB := ⟨[.v (.sl (.int .u8))], .pair (.sl (.int .u8)) i6, fun x => spec_l13Open x.1⟩
theorem spec_l13Open_eq : fnBF E0 L0 [.v (.sl (.int .u8))] kR f11.ntmps f11.results.toList (codeOf f11) = fun x => spec_l13Open x.1 := by kernel_rfl
theorem A11_ok : FnBOk prog 11 A11 := by
 have h := fnBOk_of_run (P := prog) (E := E0) (tysOk_of tyl_ok) E0_ok (L := L0) (ps := [.v (.sl (.int .u8))]) (k := .pair (.sl (.int .u8)) i6) func11 (c := codeOf f11) (by kernel_rfl) (codeOk_in (L := L0) (tysOk_of tyl_ok) E0_ok mixed (c := codeOf f11) (bs := []) (by kernel_rfl) allNil (by kernel_rfl))
 rw [spec_l13Open_eq] at h
 exact h
def spec_l13Rd_pick : (LI × Int) → Int → Option ((Int) × ((LI × Int) × Unit)) := fun (a0_0, a0_1) a1 =>
 bif (decide (a1 < 1)) then
  some ((0 : Int), (a0_0, (IntKind.wrap .i64 (a0_1 + 1))), ())
 else
  bif ((((List.length a0_0) : Nat) : Int) == 0) then
   some ((0 : Int), (a0_0, (IntKind.wrap .i64 (a0_1 + 1))), ())
  else
   bif (decide ((IntKind.wrap .i64 ((IntKind.wrap .i64 (a0_1 + 1)) - 1)) < (((List.length a0_0) : Nat) : Int))) then
    if (((0 : Int) ≤ (IntKind.wrap .i64 ((IntKind.wrap .i64 (a0_1 + 1)) - 1))) ∧ ((IntKind.wrap .i64 ((IntKind.wrap .i64 (a0_1 + 1)) - 1)) < (((List.length a0_0) : Nat) : Int))) then
     if (a1 = 0) then
      none
     else
      some ((Int.tmod (IntKind.wrap .i64 (List.getD a0_0 (Int.toNat (IntKind.wrap .i64 ((IntKind.wrap .i64 (a0_1 + 1)) - 1))) 0)) a1), (a0_0, (IntKind.wrap .i64 (a0_1 + 1))), ())
    else
     none
   else
    if ((((List.length a0_0) : Nat) : Int) = 0) then
     none
    else
     if (((0 : Int) ≤ (Int.tmod (IntKind.wrap .i64 ((IntKind.wrap .i64 (a0_1 + 1)) - 1)) (((List.length a0_0) : Nat) : Int))) ∧ ((Int.tmod (IntKind.wrap .i64 ((IntKind.wrap .i64 (a0_1 + 1)) - 1)) (((List.length a0_0) : Nat) : Int)) < (((List.length a0_0) : Nat) : Int))) then
      if ((((List.length a0_0) : Nat) : Int) = 0) then
       none
      else
       if (((0 : Int) ≤ (Int.tmod (IntKind.wrap .i64 ((IntKind.wrap .i64 ((IntKind.wrap .i64 ((IntKind.wrap .i64 (a0_1 + 1)) - 1)) * 7)) + 3)) (((List.length a0_0) : Nat) : Int))) ∧ ((Int.tmod (IntKind.wrap .i64 ((IntKind.wrap .i64 ((IntKind.wrap .i64 ((IntKind.wrap .i64 (a0_1 + 1)) - 1)) * 7)) + 3)) (((List.length a0_0) : Nat) : Int)) < (((List.length a0_0) : Nat) : Int))) then
        if ((((List.length a0_0) : Nat) : Int) = 0) then
         none
        else
         if ((64 : Int) = 0) then
          none
         else
          if (a1 = 0) then
           none
          else
           some ((Int.tmod (Decidable.rec (fun y0 => ((((BitVec.toNat ((BitVec.ofInt (IntKind.bits .i64) (IntKind.wrap .i64 ((IntKind.wrap .i64 ((IntKind.wrap .i64 ((IntKind.wrap .i64 ((IntKind.wrap .i64 (List.getD a0_0 (Int.toNat (Int.tmod (IntKind.wrap .i64 ((IntKind.wrap .i64 (a0_1 + 1)) - 1)) (((List.length a0_0) : Nat) : Int))) 0)) * 131)) + (IntKind.wrap .i64 ((IntKind.wrap .i64 (List.getD a0_0 (Int.toNat (Int.tmod (IntKind.wrap .i64 ((IntKind.wrap .i64 ((IntKind.wrap .i64 ((IntKind.wrap .i64 (a0_1 + 1)) - 1)) * 7)) + 3)) (((List.length a0_0) : Nat) : Int))) 0)) * 1117)))) + (IntKind.wrap .i64 ((IntKind.wrap .i64 ((IntKind.wrap .i64 (a0_1 + 1)) - 1)) * 29)))) + (IntKind.wrap .i64 ((IntKind.wrap .i64 (Int.tdiv (IntKind.wrap .i64 ((IntKind.wrap .i64 (a0_1 + 1)) - 1)) (((List.length a0_0) : Nat) : Int))) * 53))))) ^^^ (BitVec.ofInt (IntKind.bits .i64) (IntKind.wrap .i64 (Int.tdiv (IntKind.wrap .i64 ((IntKind.wrap .i64 ((IntKind.wrap .i64 ((IntKind.wrap .i64 ((IntKind.wrap .i64 (List.getD a0_0 (Int.toNat (Int.tmod (IntKind.wrap .i64 ((IntKind.wrap .i64 (a0_1 + 1)) - 1)) (((List.length a0_0) : Nat) : Int))) 0)) * 131)) + (IntKind.wrap .i64 ((IntKind.wrap .i64 (List.getD a0_0 (Int.toNat (Int.tmod (IntKind.wrap .i64 ((IntKind.wrap .i64 ((IntKind.wrap .i64 ((IntKind.wrap .i64 (a0_1 + 1)) - 1)) * 7)) + 3)) (((List.length a0_0) : Nat) : Int))) 0)) * 1117)))) + (IntKind.wrap .i64 ((IntKind.wrap .i64 ((IntKind.wrap .i64 (a0_1 + 1)) - 1)) * 29)))) + (IntKind.wrap .i64 ((IntKind.wrap .i64 (Int.tdiv (IntKind.wrap .i64 ((IntKind.wrap .i64 (a0_1 + 1)) - 1)) (((List.length a0_0) : Nat) : Int))) * 53)))) 64))))) : Nat) : Int) % ((2 : Int) ^ (IntKind.bits .i64)))) (fun y1 => (((((BitVec.toNat ((BitVec.ofInt (IntKind.bits .i64) (IntKind.wrap .i64 ((IntKind.wrap .i64 ((IntKind.wrap .i64 ((IntKind.wrap .i64 ((IntKind.wrap .i64 (List.getD a0_0 (Int.toNat (Int.tmod (IntKind.wrap .i64 ((IntKind.wrap .i64 (a0_1 + 1)) - 1)) (((List.length a0_0) : Nat) : Int))) 0)) * 131)) + (IntKind.wrap .i64 ((IntKind.wrap .i64 (List.getD a0_0 (Int.toNat (Int.tmod (IntKind.wrap .i64 ((IntKind.wrap .i64 ((IntKind.wrap .i64 ((IntKind.wrap .i64 (a0_1 + 1)) - 1)) * 7)) + 3)) (((List.length a0_0) : Nat) : Int))) 0)) * 1117)))) + (IntKind.wrap .i64 ((IntKind.wrap .i64 ((IntKind.wrap .i64 (a0_1 + 1)) - 1)) * 29)))) + (IntKind.wrap .i64 ((IntKind.wrap .i64 (Int.tdiv (IntKind.wrap .i64 ((IntKind.wrap .i64 (a0_1 + 1)) - 1)) (((List.length a0_0) : Nat) : Int))) * 53))))) ^^^ (BitVec.ofInt (IntKind.bits .i64) (IntKind.wrap .i64 (Int.tdiv (IntKind.wrap .i64 ((IntKind.wrap .i64 ((IntKind.wrap .i64 ((IntKind.wrap .i64 ((IntKind.wrap .i64 (List.getD a0_0 (Int.toNat (Int.tmod (IntKind.wrap .i64 ((IntKind.wrap .i64 (a0_1 + 1)) - 1)) (((List.length a0_0) : Nat) : Int))) 0)) * 131)) + (IntKind.wrap .i64 ((IntKind.wrap .i64 (List.getD a0_0 (Int.toNat (Int.tmod (IntKind.wrap .i64 ((IntKind.wrap .i64 ((IntKind.wrap .i64 ((IntKind.wrap .i64 (a0_1 + 1)) - 1)) * 7)) + 3)) (((List.length a0_0) : Nat) : Int))) 0)) * 1117)))) + (IntKind.wrap .i64 ((IntKind.wrap .i64 ((IntKind.wrap .i64 (a0_1 + 1)) - 1)) * 29)))) + (IntKind.wrap .i64 ((IntKind.wrap .i64 (Int.tdiv (IntKind.wrap .i64 ((IntKind.wrap .i64 (a0_1 + 1)) - 1)) (((List.length a0_0) : Nat) : Int))) * 53)))) 64))))) : Nat) : Int) % ((2 : Int) ^ (IntKind.bits .i64))) - ((2 : Int) ^ (IntKind.bits .i64)))) (instDecidableEqBool ((IntKind.signed .i64) && (decide (((((BitVec.toNat ((BitVec.ofInt (IntKind.bits .i64) (IntKind.wrap .i64 ((IntKind.wrap .i64 ((IntKind.wrap .i64 ((IntKind.wrap .i64 ((IntKind.wrap .i64 (List.getD a0_0 (Int.toNat (Int.tmod (IntKind.wrap .i64 ((IntKind.wrap .i64 (a0_1 + 1)) - 1)) (((List.length a0_0) : Nat) : Int))) 0)) * 131)) + (IntKind.wrap .i64 ((IntKind.wrap .i64 (List.getD a0_0 (Int.toNat (Int.tmod (IntKind.wrap .i64 ((IntKind.wrap .i64 ((IntKind.wrap .i64 ((IntKind.wrap .i64 (a0_1 + 1)) - 1)) * 7)) + 3)) (((List.length a0_0) : Nat) : Int))) 0)) * 1117)))) + (IntKind.wrap .i64 ((IntKind.wrap .i64 ((IntKind.wrap .i64 (a0_1 + 1)) - 1)) * 29)))) + (IntKind.wrap .i64 ((IntKind.wrap .i64 (Int.tdiv (IntKind.wrap .i64 ((IntKind.wrap .i64 (a0_1 + 1)) - 1)) (((List.length a0_0) : Nat) : Int))) * 53))))) ^^^ (BitVec.ofInt (IntKind.bits .i64) (IntKind.wrap .i64 (Int.tdiv (IntKind.wrap .i64 ((IntKind.wrap .i64 ((IntKind.wrap .i64 ((IntKind.wrap .i64 ((IntKind.wrap .i64 (List.getD a0_0 (Int.toNat (Int.tmod (IntKind.wrap .i64 ((IntKind.wrap .i64 (a0_1 + 1)) - 1)) (((List.length a0_0) : Nat) : Int))) 0)) * 131)) + (IntKind.wrap .i64 ((IntKind.wrap .i64 (List.getD a0_0 (Int.toNat (Int.tmod (IntKind.wrap .i64 ((IntKind.wrap .i64 ((IntKind.wrap .i64 ((IntKind.wrap .i64 (a0_1 + 1)) - 1)) * 7)) + 3)) (((List.length a0_0) : Nat) : Int))) 0)) * 1117)))) + (IntKind.wrap .i64 ((IntKind.wrap .i64 ((IntKind.wrap .i64 (a0_1 + 1)) - 1)) * 29)))) + (IntKind.wrap .i64 ((IntKind.wrap .i64 (Int.tdiv (IntKind.wrap .i64 ((IntKind.wrap .i64 (a0_1 + 1)) - 1)) (((List.length a0_0) : Nat) : Int))) * 53)))) 64))))) : Nat) : Int) % ((2 : Int) ^ (IntKind.bits .i64))) ≥ ((2 : Int) ^ ((IntKind.bits .i64) - 1))))) true)) a1), (a0_0, (IntKind.wrap .i64 (a0_1 + 1))), ())
       else
        none
     else
      none
def A23 : FnM := ⟨[.bx kR, .v i6], true, [.int .i64], none, fun x => spec_l13Rd_pick x.1 x.2.1⟩
theorem A23_ok : FnMOk prog 23 A23 := fm (L := L0) (by kernel_rfl) func23 E0_ok allNil
def sh97_4 : List Fm := .cell (.val .str) :: .cell (.val (.int .u8)) :: d :: d :: d :: .cell (.own .str 100500 false) :: .cell (.val i6) :: .cell (.val i6) :: D 28 []
def xs97_4 : List (Ex × List Fm) := [(.exit 0, (D 5 (.cell (.own .str 100500 false) :: D 30 [])))]
def spec_l13Cut_l4 : (ByteArray × Int × (List ByteArray) × Int × Int × Unit) → Option ((ByteArray × Int × (List ByteArray) × Int × Int × Unit) ⊕ (((List ByteArray) × Unit))) := fun (v0, v1, v5, v6, v7, _) =>
 bif (decide (v7 ≤ (((ByteArray.size v0) : Nat) : Int))) then
  bif (v7 == (((ByteArray.size v0) : Nat) : Int)) then
   if (((0 : Int) ≤ v6) ∧ ((v6 ≤ v7) ∧ (v7 ≤ (((ByteArray.size v0) : Nat) : Int)))) then
    if (((0 + (List.length v5)) = (List.length v5)) ∧ ((((List.length v5) + (List.length (List.take 1 (List.drop 0 [(ByteArray.extract v0 (Int.toNat v6) (Int.toNat v7))])))) * 16) ≤ 140737488355328)) then
     some (Sum.inl (v0, v1, (List.take ((List.length v5) + (List.length (List.take 1 (List.drop 0 [(ByteArray.extract v0 (Int.toNat v6) (Int.toNat v7))])))) (List.drop 0 ((List.drop 0 v5) ++ (List.take 1 (List.drop 0 [(ByteArray.extract v0 (Int.toNat v6) (Int.toNat v7))]))))), (IntKind.wrap .i64 (v7 + 1)), (IntKind.wrap .i64 (v7 + 1)), ()))
    else
     none
   else
    none
  else
   if (((0 : Int) ≤ v7) ∧ (v7 < (((ByteArray.size v0) : Nat) : Int))) then
    bif ((((UInt8.toNat (Array.getD (ByteArray.data v0) (Int.toNat v7) (0 : UInt8))) : Nat) : Int) == v1) then
     if (((0 : Int) ≤ v6) ∧ ((v6 ≤ v7) ∧ (v7 ≤ (((ByteArray.size v0) : Nat) : Int)))) then
      if (((0 + (List.length v5)) = (List.length v5)) ∧ ((((List.length v5) + (List.length (List.take 1 (List.drop 0 [(ByteArray.extract v0 (Int.toNat v6) (Int.toNat v7))])))) * 16) ≤ 140737488355328)) then
       some (Sum.inl (v0, v1, (List.take ((List.length v5) + (List.length (List.take 1 (List.drop 0 [(ByteArray.extract v0 (Int.toNat v6) (Int.toNat v7))])))) (List.drop 0 ((List.drop 0 v5) ++ (List.take 1 (List.drop 0 [(ByteArray.extract v0 (Int.toNat v6) (Int.toNat v7))]))))), (IntKind.wrap .i64 (v7 + 1)), (IntKind.wrap .i64 (v7 + 1)), ()))
      else
       none
     else
      none
    else
     some (Sum.inl (v0, v1, (List.take (List.length v5) (List.drop 0 v5)), v6, (IntKind.wrap .i64 (v7 + 1)), ()))
   else
    none
 else
  some (Sum.inr ((List.take (List.length v5) (List.drop 0 v5)), ()))
theorem loop97_4 {L} (h : L 4 = some ⟨36, sh97_4, xs97_4, spec_l13Cut_l4⟩) : LoopOk prog L (loopOf f97 4) := lo (L' := L0) (by kernel_rfl) E0_ok allNil h
def L97_1 : Nat → Option LoopD := fun n => ifEq n 4 (some ⟨36, sh97_4, xs97_4, spec_l13Cut_l4⟩) (L0 n)
def spec_l13Cut : ByteArray → Int → Option ((List ByteArray)) := fun a0 a1 =>
 Option.bind (loopF spec_l13Cut_l4 (a0, a1, (List.take 0 (List.drop 0 [])), 0, 0, ())) fun (r0, _) =>
  some (List.take (List.length r0) (List.drop 0 r0))
def A97 : FnA := ⟨[.v .str, .v (.int .u8)], true, [.sl .str], fun x => spec_l13Cut x.1 x.2.1⟩
theorem A97_ok : FnOk prog 97 A97 := fo (L := L97_1) (by kernel_rfl) func97 E0_ok (allCons (loop97_4 rfl) allNil)
def sh98_8 : List Fm := .cell (.val .str) :: d :: d :: d :: .cell (.val .bool) :: .cell (.val i6) :: .cell (.val i6) :: D 60 []
def xs98_8 : List (Ex × List Fm) := [(.ret, (d :: d :: .cell (.val i6) :: .cell (.val .bool) :: D 63 [])), (.exit 0, (D 4 (.cell (.val .bool) :: .cell (.val i6) :: D 61 [])))]
def spec_l13Num_l8 : (ByteArray × Bool × Int × Int × Unit) → Option ((ByteArray × Bool × Int × Int × Unit) ⊕ ((Int × Bool × Unit) ⊕ (Bool × Int × Unit))) := fun (v0, v4, v5, v6, _) =>
 bif (decide (v6 < (((ByteArray.size v0) : Nat) : Int))) then
  if (((0 : Int) ≤ v6) ∧ (v6 < (((ByteArray.size v0) : Nat) : Int))) then
   bif (decide ((((UInt8.toNat (Array.getD (ByteArray.data v0) (Int.toNat v6) (0 : UInt8))) : Nat) : Int) < 48)) then
    some (Sum.inr (Sum.inl ((0 : Int), false, ())))
   else
    if (((0 : Int) ≤ v6) ∧ (v6 < (((ByteArray.size v0) : Nat) : Int))) then
     bif (decide ((((UInt8.toNat (Array.getD (ByteArray.data v0) (Int.toNat v6) (0 : UInt8))) : Nat) : Int) > 57)) then
      some (Sum.inr (Sum.inl ((0 : Int), false, ())))
     else
      if (((0 : Int) ≤ v6) ∧ (v6 < (((ByteArray.size v0) : Nat) : Int))) then
       some (Sum.inl (v0, v4, (IntKind.wrap .i64 ((IntKind.wrap .i64 (v5 * 10)) + (IntKind.wrap .i64 (IntKind.wrap .u8 ((((UInt8.toNat (Array.getD (ByteArray.data v0) (Int.toNat v6) (0 : UInt8))) : Nat) : Int) - 48))))), (IntKind.wrap .i64 (v6 + 1)), ()))
      else
       none
    else
     none
  else
   none
 else
  some (Sum.inr (Sum.inr (v4, v5, ())))
theorem loop98_8 {L} (h : L 8 = some ⟨67, sh98_8, xs98_8, spec_l13Num_l8⟩) : LoopOk prog L (loopOf f98 8) := lo (L' := L0) (by kernel_rfl) E0_ok allNil h
def L98_1 : Nat → Option LoopD := fun n => ifEq n 8 (some ⟨67, sh98_8, xs98_8, spec_l13Num_l8⟩) (L0 n)
def spec_l13Num : ByteArray → Option (Int × Bool) := fun a0 =>
 bif (decide ((((ByteArray.size a0) : Nat) : Int) > 0)) then
  if (((0 : Int) ≤ 0) ∧ ((0 : Int) < (((ByteArray.size a0) : Nat) : Int))) then
   bif ((((UInt8.toNat (Array.getD (ByteArray.data a0) (Int.toNat 0) (0 : UInt8))) : Nat) : Int) == 45) then
    if (((0 : Int) ≤ 1) ∧ ((1 : Int) ≤ (((ByteArray.size a0) : Nat) : Int))) then
     bif ((((ByteArray.size (ByteArray.extract a0 (Int.toNat 1) (ByteArray.size a0))) : Nat) : Int) == 0) then
      some ((0 : Int), false)
     else
      bif (decide ((((ByteArray.size (ByteArray.extract a0 (Int.toNat 1) (ByteArray.size a0))) : Nat) : Int) > 17)) then
       some ((0 : Int), false)
      else
       if (((0 : Int) ≤ 0) ∧ ((0 : Int) < (((ByteArray.size (ByteArray.extract a0 (Int.toNat 1) (ByteArray.size a0))) : Nat) : Int))) then
        bif ((((UInt8.toNat (Array.getD (ByteArray.data (ByteArray.extract a0 (Int.toNat 1) (ByteArray.size a0))) (Int.toNat 0) (0 : UInt8))) : Nat) : Int) == 48) then
         bif (decide ((((ByteArray.size (ByteArray.extract a0 (Int.toNat 1) (ByteArray.size a0))) : Nat) : Int) > 1)) then
          some ((0 : Int), false)
         else
          bif ((((UInt8.toNat (Array.getD (ByteArray.data a0) (Int.toNat 0) (0 : UInt8))) : Nat) : Int) == 45) then
           some ((0 : Int), false)
          else
           Option.bind (loopF spec_l13Num_l8 ((ByteArray.extract a0 (Int.toNat 1) (ByteArray.size a0)), ((((UInt8.toNat (Array.getD (ByteArray.data a0) (Int.toNat 0) (0 : UInt8))) : Nat) : Int) == 45), 0, 0, ())) fun r0 =>
            (match r0 with
            | .inl (d1, d2, _) =>
              some (d1, d2)
            | .inr (d3, d4, _) =>
              bif d3 then
               some ((IntKind.wrap .i64 ((0 : Int) - d4)), true)
              else
               some (d4, true))
        else
         Option.bind (loopF spec_l13Num_l8 ((ByteArray.extract a0 (Int.toNat 1) (ByteArray.size a0)), ((((UInt8.toNat (Array.getD (ByteArray.data a0) (Int.toNat 0) (0 : UInt8))) : Nat) : Int) == 45), 0, 0, ())) fun r5 =>
          (match r5 with
          | .inl (d6, d7, _) =>
            some (d6, d7)
          | .inr (d8, d9, _) =>
            bif d8 then
             some ((IntKind.wrap .i64 ((0 : Int) - d9)), true)
            else
             some (d9, true))
       else
        none
    else
     none
   else
    bif ((((ByteArray.size a0) : Nat) : Int) == 0) then
     some ((0 : Int), false)
    else
     bif (decide ((((ByteArray.size a0) : Nat) : Int) > 17)) then
      some ((0 : Int), false)
     else
      if (((0 : Int) ≤ 0) ∧ ((0 : Int) < (((ByteArray.size a0) : Nat) : Int))) then
       bif ((((UInt8.toNat (Array.getD (ByteArray.data a0) (Int.toNat 0) (0 : UInt8))) : Nat) : Int) == 48) then
        bif (decide ((((ByteArray.size a0) : Nat) : Int) > 1)) then
         some ((0 : Int), false)
        else
         bif ((((UInt8.toNat (Array.getD (ByteArray.data a0) (Int.toNat 0) (0 : UInt8))) : Nat) : Int) == 45) then
          some ((0 : Int), false)
         else
          Option.bind (loopF spec_l13Num_l8 (a0, ((((UInt8.toNat (Array.getD (ByteArray.data a0) (Int.toNat 0) (0 : UInt8))) : Nat) : Int) == 45), 0, 0, ())) fun r10 =>
           (match r10 with
           | .inl (d11, d12, _) =>
             some (d11, d12)
           | .inr (d13, d14, _) =>
             bif d13 then
              some ((IntKind.wrap .i64 ((0 : Int) - d14)), true)
             else
              some (d14, true))
       else
        Option.bind (loopF spec_l13Num_l8 (a0, ((((UInt8.toNat (Array.getD (ByteArray.data a0) (Int.toNat 0) (0 : UInt8))) : Nat) : Int) == 45), 0, 0, ())) fun r15 =>
         (match r15 with
         | .inl (d16, d17, _) =>
           some (d16, d17)
         | .inr (d18, d19, _) =>
           bif d18 then
            some ((IntKind.wrap .i64 ((0 : Int) - d19)), true)
           else
            some (d19, true))
      else
       none
  else
   none
 else
  bif ((((ByteArray.size a0) : Nat) : Int) == 0) then
   some ((0 : Int), false)
  else
   bif (decide ((((ByteArray.size a0) : Nat) : Int) > 17)) then
    some ((0 : Int), false)
   else
    if (((0 : Int) ≤ 0) ∧ ((0 : Int) < (((ByteArray.size a0) : Nat) : Int))) then
     bif ((((UInt8.toNat (Array.getD (ByteArray.data a0) (Int.toNat 0) (0 : UInt8))) : Nat) : Int) == 48) then
      bif (decide ((((ByteArray.size a0) : Nat) : Int) > 1)) then
       some ((0 : Int), false)
      else
       Option.bind (loopF spec_l13Num_l8 (a0, false, 0, 0, ())) fun r20 =>
        (match r20 with
        | .inl (d21, d22, _) =>
          some (d21, d22)
        | .inr (d23, d24, _) =>
          bif d23 then
           some ((IntKind.wrap .i64 ((0 : Int) - d24)), true)
          else
           some (d24, true))
     else
      Option.bind (loopF spec_l13Num_l8 (a0, false, 0, 0, ())) fun r25 =>
       (match r25 with
       | .inl (d26, d27, _) =>
         some (d26, d27)
       | .inr (d28, d29, _) =>
         bif d28 then
          some ((IntKind.wrap .i64 ((0 : Int) - d29)), true)
         else
          some (d29, true))
    else
     none
def A98 : FnA := ⟨[.v .str], true, [.int .i64, .bool], fun x => spec_l13Num x.1⟩
theorem A98_ok : FnOk prog 98 A98 := fo (L := L98_1) (by kernel_rfl) func98 E0_ok (allCons (loop98_8 rfl) allNil)
def E99 : Env := ev fun g => ifEq g 97 (some A97) (ifEq g 98 (some A98) (none))
theorem E99_ok : FnsOk prog E99 := (oF A97_ok func97 (oF A98_ok func98 (noFns _ _)))
def sh99_5 : List Fm := D 4 (.cell (.own i6 100400 false) :: D 9 (.cell (.own .str 101400 false) :: .cell (.val i6) :: .cell (.val i6) :: D 17 []))
def xs99_5 : List (Ex × List Fm) := [(.ret, (d :: d :: .cell (.own i6 100200 false) :: .cell (.val .bool) :: D 30 [])), (.exit 0, (D 4 (.cell (.own i6 100400 false) :: D 29 [])))]
def spec_l3Read_l5 : (LI × (List ByteArray) × Int × Int × Unit) → Option ((LI × (List ByteArray) × Int × Int × Unit) ⊕ ((LI × Bool × Unit) ⊕ (LI × Unit))) := fun (v4, v14, v15, v16, _) =>
 bif (decide (v16 < v15)) then
  if (((0 : Int) ≤ v16) ∧ (v16 < (((List.length v14) : Nat) : Int))) then
   Option.bind (spec_l13Num (List.getD v14 (0 + (Int.toNat v16)) ⟨Array.empty⟩)) fun (r0, r1) =>
    bif (!r1) then
     some (Sum.inr (Sum.inl ((List.take 0 (List.drop 0 [])), false, ())))
    else
     if (((0 + (List.length v4)) = (List.length v4)) ∧ ((((List.length v4) + (List.length (List.take 1 (List.drop 0 [r0])))) * 8) ≤ 140737488355328)) then
      some (Sum.inl ((List.take ((List.length v4) + (List.length (List.take 1 (List.drop 0 [r0])))) (List.drop 0 ((List.drop 0 v4) ++ (List.take 1 (List.drop 0 [r0]))))), (List.take (List.length v14) (List.drop 0 v14)), v15, (IntKind.wrap .i64 (v16 + 1)), ()))
     else
      none
  else
   none
 else
  some (Sum.inr (Sum.inr ((List.take (List.length v4) (List.drop 0 v4)), ())))
theorem loop99_5 {L} (h : L 5 = some ⟨34, sh99_5, xs99_5, spec_l3Read_l5⟩) : LoopOk prog L (loopOf f99 5) := lo (L' := L0) (by kernel_rfl) E99_ok allNil h
def L99_1 : Nat → Option LoopD := fun n => ifEq n 5 (some ⟨34, sh99_5, xs99_5, spec_l3Read_l5⟩) (L0 n)
def spec_l3Read : ByteArray → Option (LI × Bool) := fun a0 =>
 bif ((ByteArray.toList a0) == (ByteArray.toList (⟨#[]⟩ : ByteArray))) then
  some ((List.take 0 (List.drop 0 [])), true)
 else
  Option.bind (spec_l13Cut a0 32) fun r0 =>
   Option.bind (loopF spec_l3Read_l5 ((List.take 0 (List.drop 0 [])), (List.take (List.length r0) (List.drop 0 r0)), (((List.length r0) : Nat) : Int), 0, ())) fun r1 =>
    (match r1 with
    | .inl (d2, d3, _) =>
      some ((List.take (List.length d2) (List.drop 0 d2)), d3)
    | .inr (d4, _) =>
      some ((List.take (List.length d4) (List.drop 0 d4)), true))
def A99 : FnA := ⟨[.v .str], true, [.sl i6, .bool], fun x => spec_l3Read x.1⟩
theorem A99_ok : FnOk prog 99 A99 := fo (L := L99_1) (by kernel_rfl) func99 E99_ok (allCons (loop99_5 rfl) allNil)
def spec_l1In : Int → Int → Int → Option (Bool) := fun a0 a1 a2 =>
 bif (decide (a0 ≥ a1)) then
  some (decide (a0 ≤ a2))
 else
  some false
def A31 : FnA := ⟨[.v i6, .v i6, .v i6], true, [.bool], fun x => spec_l1In x.1 x.2.1 x.2.2.1⟩
theorem A31_ok : FnOk prog 31 A31 := fo (L := L0) (by kernel_rfl) func31 E0_ok allNil
def E48 : Env := ev fun g => ifEq g 31 (some A31) (none)
theorem E48_ok : FnsOk prog E48 := (oF A31_ok func31 (noFns _ _))
def sh48_2 : List Fm := .cell (.val i6) :: .cell (.val sI) :: D 5 (.cell (.val sI) :: .cell (.val i6) :: .cell (.val i6) :: D 23 [])
def xs48_2 : List (Ex × List Fm) := [(.ret, (D 4 (.cell (.val .bool) :: D 28 []))), (.exit 0, (D 33 []))]
def spec_l3Marks_l2 : (Int × LI × LI × Int × Int × Unit) → Option ((Int × LI × LI × Int × Int × Unit) ⊕ ((Bool × Unit) ⊕ (Unit))) := fun (v0, v1, v7, v8, v9, _) =>
 bif (decide (v9 < v8)) then
  if (((0 : Int) ≤ v9) ∧ (v9 < (((List.length v7) : Nat) : Int))) then
   Option.bind (spec_l1In (List.getD v7 (Int.toNat v9) 0) 0 (IntKind.wrap .i64 (v0 - 1))) fun r0 =>
    bif (!r0) then
     some (Sum.inr (Sum.inl (false, ())))
    else
     bif (decide (v9 > 0)) then
      if (((0 : Int) ≤ (IntKind.wrap .i64 (v9 - 1))) ∧ ((IntKind.wrap .i64 (v9 - 1)) < (((List.length v1) : Nat) : Int))) then
       bif (decide ((List.getD v1 (Int.toNat (IntKind.wrap .i64 (v9 - 1))) 0) ≥ (List.getD v7 (Int.toNat v9) 0))) then
        some (Sum.inr (Sum.inl (false, ())))
       else
        some (Sum.inl (v0, v1, v7, v8, (IntKind.wrap .i64 (v9 + 1)), ()))
      else
       none
     else
      some (Sum.inl (v0, v1, v7, v8, (IntKind.wrap .i64 (v9 + 1)), ()))
  else
   none
 else
  some (Sum.inr (Sum.inr ()))
theorem loop48_2 {L} (h : L 2 = some ⟨33, sh48_2, xs48_2, spec_l3Marks_l2⟩) : LoopOk prog L (loopOf f48 2) := lo (L' := L0) (by kernel_rfl) E48_ok allNil h
def L48_1 : Nat → Option LoopD := fun n => ifEq n 2 (some ⟨33, sh48_2, xs48_2, spec_l3Marks_l2⟩) (L0 n)
def spec_l3Marks : Int → LI → Option (Bool) := fun a0 a1 =>
 Option.bind (loopF spec_l3Marks_l2 (a0, a1, a1, (((List.length a1) : Nat) : Int), 0, ())) fun r0 =>
  (match r0 with
  | .inl (d1, _) =>
    some d1
  | .inr _ =>
    some true)
def A48 : FnA := ⟨[.v i6, .v sI], true, [.bool], fun x => spec_l3Marks x.1 x.2.1⟩
theorem A48_ok : FnOk prog 48 A48 := fo (L := L48_1) (by kernel_rfl) func48 E48_ok (allCons (loop48_2 rfl) allNil)
def E49 : Env := ev fun g => ifEq g 31 (some A31) (none)
theorem E49_ok : FnsOk prog E49 := (oF A31_ok func31 (noFns _ _))
def spec_l3Step : Int → TS → Option (Bool) := fun a0 (a1_0, a1_1, a1_2, a1_3) =>
 Option.bind (spec_l1In a1_0 0 (IntKind.wrap .i64 (a0 - 1))) fun r0 =>
  bif r0 then
   Option.bind (spec_l1In a1_2 0 (IntKind.wrap .i64 (a0 - 1))) fun r1 =>
    bif r1 then
     Option.bind (spec_l1In a1_3 0 3) fun r2 =>
      bif r2 then
       bif ((ByteArray.toList a1_1) == (ByteArray.toList (⟨#[(97 : UInt8)]⟩ : ByteArray))) then
        some true
       else
        some ((ByteArray.toList a1_1) == (ByteArray.toList (⟨#[(98 : UInt8)]⟩ : ByteArray)))
      else
       some false
    else
     some false
  else
   some false
def A49 : FnA := ⟨[.v i6, .v kS], true, [.bool], fun x => spec_l3Step x.1 x.2.1⟩
theorem A49_ok : FnOk prog 49 A49 := fo (L := L0) (by kernel_rfl) func49 E49_ok allNil
def spec_l3Before : TS → TS → Option (Bool) := fun (a0_0, a0_1, a0_2, a0_3) (a1_0, a1_1, a1_2, a1_3) =>
 bif (a0_0 != a1_0) then
  some (decide (a0_0 < a1_0))
 else
  bif (!((ByteArray.toList a0_1) == (ByteArray.toList a1_1))) then
   some (Op.bytesLess (ByteArray.toList a0_1) (ByteArray.toList a1_1))
  else
   some (decide (a0_2 < a1_2))
def A50 : FnA := ⟨[.v kS, .v kS], true, [.bool], fun x => spec_l3Before x.1 x.2.1⟩
theorem A50_ok : FnOk prog 50 A50 := fo (L := L0) (by kernel_rfl) func50 E0_ok allNil
def E30 : Env := ev fun g => ifEq g 31 (some A31) (ifEq g 48 (some A48) (ifEq g 49 (some A49) (ifEq g 50 (some A50) (none))))
theorem E30_ok : FnsOk prog E30 := (oF A31_ok func31 (oF A48_ok func48 (oF A49_ok func49 (oF A50_ok func50 (noFns _ _)))))
def sh30_4 : List Fm := d :: .box 100100 [.val i6, .val sI, .val sI, .val sS] :: D 30 (.cell (.val sS) :: .cell (.val i6) :: .cell (.val i6) :: D 25 [])
def xs30_4 : List (Ex × List Fm) := [(.ret, (d :: d :: .cell (.val .bool) :: D 57 [])), (.exit 0, (D 60 []))]
def spec_AutomatonValid_l4 : ((Int × LI × LI × LS × Unit) × LS × Int × Int × Unit) → Option (((Int × LI × LI × LS × Unit) × LS × Int × Int × Unit) ⊕ ((Bool × Unit) ⊕ (Unit))) := fun ((v1_0, v1_1, v1_2, v1_3, _), v32, v33, v34, _) =>
 bif (decide (v34 < v33)) then
  if (((0 : Int) ≤ v34) ∧ (v34 < (((List.length v32) : Nat) : Int))) then
   Option.bind (spec_l3Step v1_0 ((List.getD v32 (Int.toNat v34) ((0 : Int), ⟨Array.empty⟩, 0, 0)).1, (List.getD v32 (Int.toNat v34) ((0 : Int), ⟨Array.empty⟩, 0, 0)).2.1, (List.getD v32 (Int.toNat v34) ((0 : Int), ⟨Array.empty⟩, 0, 0)).2.2.1, (List.getD v32 (Int.toNat v34) ((0 : Int), ⟨Array.empty⟩, 0, 0)).2.2.2)) fun r0 =>
    bif (!r0) then
     some (Sum.inr (Sum.inl (false, ())))
    else
     bif (decide (v34 > 0)) then
      if (((0 : Int) ≤ (IntKind.wrap .i64 (v34 - 1))) ∧ ((IntKind.wrap .i64 (v34 - 1)) < (((List.length v1_3) : Nat) : Int))) then
       Option.bind (spec_l3Before (List.getD v1_3 (Int.toNat (IntKind.wrap .i64 (v34 - 1))) ((0 : Int), ⟨Array.empty⟩, 0, 0)) ((List.getD v32 (Int.toNat v34) ((0 : Int), ⟨Array.empty⟩, 0, 0)).1, (List.getD v32 (Int.toNat v34) ((0 : Int), ⟨Array.empty⟩, 0, 0)).2.1, (List.getD v32 (Int.toNat v34) ((0 : Int), ⟨Array.empty⟩, 0, 0)).2.2.1, (List.getD v32 (Int.toNat v34) ((0 : Int), ⟨Array.empty⟩, 0, 0)).2.2.2)) fun r1 =>
        bif (!r1) then
         some (Sum.inr (Sum.inl (false, ())))
        else
         some (Sum.inl ((v1_0, v1_1, v1_2, v1_3, ()), v32, v33, (IntKind.wrap .i64 (v34 + 1)), ()))
      else
       none
     else
      some (Sum.inl ((v1_0, v1_1, v1_2, v1_3, ()), v32, v33, (IntKind.wrap .i64 (v34 + 1)), ()))
  else
   none
 else
  some (Sum.inr (Sum.inr ()))
theorem loop30_4 {L} (h : L 4 = some ⟨60, sh30_4, xs30_4, spec_AutomatonValid_l4⟩) : LoopOk prog L (loopOf f30 4) := lo (L' := L0) (by kernel_rfl) E30_ok allNil h
def L30_1 : Nat → Option LoopD := fun n => ifEq n 4 (some ⟨60, sh30_4, xs30_4, spec_AutomatonValid_l4⟩) (L0 n)
def spec_AutomatonValid : TA → Option (Bool) := fun (a0_0, a0_1, a0_2, a0_3) =>
 Option.bind (spec_l1In a0_0 1 4) fun r0 =>
  bif (!r0) then
   some false
  else
   Option.bind (spec_l3Marks a0_0 a0_1) fun r1 =>
    bif (!r1) then
     some false
    else
     Option.bind (spec_l3Marks a0_0 a0_2) fun r2 =>
      bif (!r2) then
       some false
      else
       bif (decide ((((List.length a0_3) : Nat) : Int) > 24)) then
        some false
       else
        Option.bind (loopF spec_AutomatonValid_l4 ((a0_0, a0_1, a0_2, a0_3, ()), a0_3, (((List.length a0_3) : Nat) : Int), 0, ())) fun r3 =>
         (match r3 with
         | .inl (d4, _) =>
           some d4
         | .inr _ =>
           some true)
def A30 : FnA := ⟨[.v kA], true, [.bool], fun x => spec_AutomatonValid x.1⟩
theorem A30_ok : FnOk prog 30 A30 := fo (L := L30_1) (by kernel_rfl) func30 E30_ok (allCons (loop30_4 rfl) allNil)
def E86 : Env := ev fun g => ifEq g 97 (some A97) (ifEq g 98 (some A98) (ifEq g 99 (some A99) (ifEq g 30 (some A30) (none))))
theorem E86_ok : FnsOk prog E86 := (oF A97_ok func97 (oF A98_ok func98 (oF A99_ok func99 (oF A30_ok func30 (noFns _ _)))))
def sh86_11 : List Fm := d :: d :: .box 100200 [.val i6, .own i6 100202 false, .own i6 100203 false, .own kS 100204 false] :: D 8 (.box 101100 [.val i6, .own i6 101102 false, .own i6 101103 false, .own kS 101104 false] :: .cell (.val .bool) :: D 54 (.cell (.own .str 106700 false) :: .cell (.val i6) :: .cell (.val i6) :: D 61 []))
def xs86_11 : List (Ex × List Fm) := [(.ret, [d, d, .box 100200 [.val i6, .own i6 100202 false, .own i6 100203 false, .own kS 100204 false], .cell (.val .bool), d, d, d, d, d, d, d, d, d, d, d, d, d, d, d, d, d, d, d, d, d, d, d, d, d, d, d, d, d, d, d, d, d, d, d, d, d, d, d, d, d, d, d, d, d, d, d, d, d, d, d, d, d, d, d, d, d, d, d, d, d, d, d, d, d, d, d, d, d, d, d, d, d, d, d, d, d, d, d, d, d, d, d, d, d, d, d, d, d, d, d, d, d, d, d, d, d, d, d, d, d, d, d, d, d, d, d, d, d, d, d, d, d, d, d, d, d, d, d, d, d, d, d, d, d, d, d]), (.exit 0, [d, d, .box 100200 [.val i6, .own i6 100202 false, .own i6 100203 false, .own kS 100204 false], d, d, d, d, d, d, d, d, .box 101100 [.val i6, .own i6 101102 false, .own i6 101103 false, .own kS 101104 false], .cell (.val .bool), d, d, d, d, d, d, d, d, d, d, d, d, d, d, d, d, d, d, d, d, d, d, d, d, d, d, d, d, d, d, d, d, d, d, d, d, d, d, d, d, d, d, d, d, d, d, d, d, d, d, d, d, d, d, d, d, d, d, d, d, d, d, d, d, d, d, d, d, d, d, d, d, d, d, d, d, d, d, d, d, d, d, d, d, d, d, d, d, d, d, d, d, d, d, d, d, d, d, d, d, d, d, d, d, d, d, d, d, d, d, d, d, d, d, d, d, d, d])]
def spec_ParseAutomaton_l11 : ((Int × LI × LI × LS × Unit) × (Int × LI × LI × LS × Unit) × Bool × (List ByteArray) × Int × Int × Unit) → Option (((Int × LI × LI × LS × Unit) × (Int × LI × LI × LS × Unit) × Bool × (List ByteArray) × Int × Int × Unit) ⊕ (((Int × LI × LI × LS × Unit) × Bool × Unit) ⊕ ((Int × LI × LI × LS × Unit) × (Int × LI × LI × LS × Unit) × Bool × Unit))) := fun ((v2_0, v2_1, v2_2, v2_3, _), (v11_0, v11_1, v11_2, v11_3, _), v12, v67, v68, v69, _) =>
 bif (decide (v69 < v68)) then
  if (((0 : Int) ≤ v69) ∧ (v69 < (((List.length v67) : Nat) : Int))) then
   bif ((((ByteArray.size (List.getD v67 (0 + (Int.toNat v69)) ⟨Array.empty⟩)) : Nat) : Int) != 5) then
    some (Sum.inr (Sum.inl (((0 : Int), [], [], [], ()), false, ())))
   else
    if (((0 : Int) ≤ 3) ∧ ((3 : Int) < (((ByteArray.size (List.getD v67 (0 + (Int.toNat v69)) ⟨Array.empty⟩)) : Nat) : Int))) then
     bif ((((UInt8.toNat (Array.getD (ByteArray.data (List.getD v67 (0 + (Int.toNat v69)) ⟨Array.empty⟩)) (Int.toNat 3) (0 : UInt8))) : Nat) : Int) != 58) then
      some (Sum.inr (Sum.inl (((0 : Int), [], [], [], ()), false, ())))
     else
      if (((0 : Int) ≤ 1) ∧ ((1 : Int) ≤ (((ByteArray.size (List.getD v67 (0 + (Int.toNat v69)) ⟨Array.empty⟩)) : Nat) : Int))) then
       Option.bind (spec_l13Num (ByteArray.extract (List.getD v67 (0 + (Int.toNat v69)) ⟨Array.empty⟩) 0 (Int.toNat 1))) fun (r0, r1) =>
        if (((0 : Int) ≤ 2) ∧ (((2 : Int) ≤ 3) ∧ ((3 : Int) ≤ (((ByteArray.size (List.getD v67 (0 + (Int.toNat v69)) ⟨Array.empty⟩)) : Nat) : Int)))) then
         Option.bind (spec_l13Num (ByteArray.extract (List.getD v67 (0 + (Int.toNat v69)) ⟨Array.empty⟩) (Int.toNat 2) (Int.toNat 3))) fun (r2, r3) =>
          if (((0 : Int) ≤ 4) ∧ ((4 : Int) ≤ (((ByteArray.size (List.getD v67 (0 + (Int.toNat v69)) ⟨Array.empty⟩)) : Nat) : Int))) then
           Option.bind (spec_l13Num (ByteArray.extract (List.getD v67 (0 + (Int.toNat v69)) ⟨Array.empty⟩) (Int.toNat 4) (ByteArray.size (List.getD v67 (0 + (Int.toNat v69)) ⟨Array.empty⟩)))) fun (r4, r5) =>
            bif v12 then
             bif r1 then
              bif r3 then
               if (((0 : Int) ≤ 1) ∧ (((1 : Int) ≤ 2) ∧ ((2 : Int) ≤ (((ByteArray.size (List.getD v67 (0 + (Int.toNat v69)) ⟨Array.empty⟩)) : Nat) : Int)))) then
                if (((0 + (List.length v11_3)) = (List.length v11_3)) ∧ ((((List.length v11_3) + (List.length (List.take 1 (List.drop 0 [(r0, (ByteArray.extract (List.getD v67 (0 + (Int.toNat v69)) (⟨Array.empty⟩ : ByteArray)) (Int.toNat (1 : Int)) (Int.toNat (2 : Int))), r2, r4)])))) * 40) ≤ 140737488355328)) then
                 some (Sum.inl ((v2_0, (List.take (List.length v2_1) (List.drop 0 v2_1)), (List.take (List.length v2_2) (List.drop 0 v2_2)), (List.take (List.length v2_3) (List.drop 0 v2_3)), ()), (v11_0, (List.take (List.length v11_1) (List.drop 0 v11_1)), (List.take (List.length v11_2) (List.drop 0 v11_2)), (List.take ((List.length v11_3) + (List.length (List.take 1 (List.drop 0 [(r0, (ByteArray.extract (List.getD v67 (0 + (Int.toNat v69)) (⟨Array.empty⟩ : ByteArray)) (Int.toNat (1 : Int)) (Int.toNat (2 : Int))), r2, r4)])))) (List.drop 0 ((List.drop 0 v11_3) ++ (List.take 1 (List.drop 0 [(r0, (ByteArray.extract (List.getD v67 (0 + (Int.toNat v69)) (⟨Array.empty⟩ : ByteArray)) (Int.toNat (1 : Int)) (Int.toNat (2 : Int))), r2, r4)]))))), ()), r5, (List.take (List.length v67) (List.drop 0 v67)), v68, (IntKind.wrap .i64 (v69 + 1)), ()))
                else
                 none
               else
                none
              else
               if (((0 : Int) ≤ 1) ∧ (((1 : Int) ≤ 2) ∧ ((2 : Int) ≤ (((ByteArray.size (List.getD v67 (0 + (Int.toNat v69)) ⟨Array.empty⟩)) : Nat) : Int)))) then
                if (((0 + (List.length v11_3)) = (List.length v11_3)) ∧ ((((List.length v11_3) + (List.length (List.take 1 (List.drop 0 [(r0, (ByteArray.extract (List.getD v67 (0 + (Int.toNat v69)) (⟨Array.empty⟩ : ByteArray)) (Int.toNat (1 : Int)) (Int.toNat (2 : Int))), r2, r4)])))) * 40) ≤ 140737488355328)) then
                 some (Sum.inl ((v2_0, (List.take (List.length v2_1) (List.drop 0 v2_1)), (List.take (List.length v2_2) (List.drop 0 v2_2)), (List.take (List.length v2_3) (List.drop 0 v2_3)), ()), (v11_0, (List.take (List.length v11_1) (List.drop 0 v11_1)), (List.take (List.length v11_2) (List.drop 0 v11_2)), (List.take ((List.length v11_3) + (List.length (List.take 1 (List.drop 0 [(r0, (ByteArray.extract (List.getD v67 (0 + (Int.toNat v69)) (⟨Array.empty⟩ : ByteArray)) (Int.toNat (1 : Int)) (Int.toNat (2 : Int))), r2, r4)])))) (List.drop 0 ((List.drop 0 v11_3) ++ (List.take 1 (List.drop 0 [(r0, (ByteArray.extract (List.getD v67 (0 + (Int.toNat v69)) (⟨Array.empty⟩ : ByteArray)) (Int.toNat (1 : Int)) (Int.toNat (2 : Int))), r2, r4)]))))), ()), false, (List.take (List.length v67) (List.drop 0 v67)), v68, (IntKind.wrap .i64 (v69 + 1)), ()))
                else
                 none
               else
                none
             else
              if (((0 : Int) ≤ 1) ∧ (((1 : Int) ≤ 2) ∧ ((2 : Int) ≤ (((ByteArray.size (List.getD v67 (0 + (Int.toNat v69)) ⟨Array.empty⟩)) : Nat) : Int)))) then
               if (((0 + (List.length v11_3)) = (List.length v11_3)) ∧ ((((List.length v11_3) + (List.length (List.take 1 (List.drop 0 [(r0, (ByteArray.extract (List.getD v67 (0 + (Int.toNat v69)) (⟨Array.empty⟩ : ByteArray)) (Int.toNat (1 : Int)) (Int.toNat (2 : Int))), r2, r4)])))) * 40) ≤ 140737488355328)) then
                some (Sum.inl ((v2_0, (List.take (List.length v2_1) (List.drop 0 v2_1)), (List.take (List.length v2_2) (List.drop 0 v2_2)), (List.take (List.length v2_3) (List.drop 0 v2_3)), ()), (v11_0, (List.take (List.length v11_1) (List.drop 0 v11_1)), (List.take (List.length v11_2) (List.drop 0 v11_2)), (List.take ((List.length v11_3) + (List.length (List.take 1 (List.drop 0 [(r0, (ByteArray.extract (List.getD v67 (0 + (Int.toNat v69)) (⟨Array.empty⟩ : ByteArray)) (Int.toNat (1 : Int)) (Int.toNat (2 : Int))), r2, r4)])))) (List.drop 0 ((List.drop 0 v11_3) ++ (List.take 1 (List.drop 0 [(r0, (ByteArray.extract (List.getD v67 (0 + (Int.toNat v69)) (⟨Array.empty⟩ : ByteArray)) (Int.toNat (1 : Int)) (Int.toNat (2 : Int))), r2, r4)]))))), ()), false, (List.take (List.length v67) (List.drop 0 v67)), v68, (IntKind.wrap .i64 (v69 + 1)), ()))
               else
                none
              else
               none
            else
             if (((0 : Int) ≤ 1) ∧ (((1 : Int) ≤ 2) ∧ ((2 : Int) ≤ (((ByteArray.size (List.getD v67 (0 + (Int.toNat v69)) ⟨Array.empty⟩)) : Nat) : Int)))) then
              if (((0 + (List.length v11_3)) = (List.length v11_3)) ∧ ((((List.length v11_3) + (List.length (List.take 1 (List.drop 0 [(r0, (ByteArray.extract (List.getD v67 (0 + (Int.toNat v69)) (⟨Array.empty⟩ : ByteArray)) (Int.toNat (1 : Int)) (Int.toNat (2 : Int))), r2, r4)])))) * 40) ≤ 140737488355328)) then
               some (Sum.inl ((v2_0, (List.take (List.length v2_1) (List.drop 0 v2_1)), (List.take (List.length v2_2) (List.drop 0 v2_2)), (List.take (List.length v2_3) (List.drop 0 v2_3)), ()), (v11_0, (List.take (List.length v11_1) (List.drop 0 v11_1)), (List.take (List.length v11_2) (List.drop 0 v11_2)), (List.take ((List.length v11_3) + (List.length (List.take 1 (List.drop 0 [(r0, (ByteArray.extract (List.getD v67 (0 + (Int.toNat v69)) (⟨Array.empty⟩ : ByteArray)) (Int.toNat (1 : Int)) (Int.toNat (2 : Int))), r2, r4)])))) (List.drop 0 ((List.drop 0 v11_3) ++ (List.take 1 (List.drop 0 [(r0, (ByteArray.extract (List.getD v67 (0 + (Int.toNat v69)) (⟨Array.empty⟩ : ByteArray)) (Int.toNat (1 : Int)) (Int.toNat (2 : Int))), r2, r4)]))))), ()), false, (List.take (List.length v67) (List.drop 0 v67)), v68, (IntKind.wrap .i64 (v69 + 1)), ()))
              else
               none
             else
              none
          else
           none
        else
         none
      else
       none
    else
     none
  else
   none
 else
  some (Sum.inr (Sum.inr ((v2_0, (List.take (List.length v2_1) (List.drop 0 v2_1)), (List.take (List.length v2_2) (List.drop 0 v2_2)), (List.take (List.length v2_3) (List.drop 0 v2_3)), ()), (v11_0, (List.take (List.length v11_1) (List.drop 0 v11_1)), (List.take (List.length v11_2) (List.drop 0 v11_2)), (List.take (List.length v11_3) (List.drop 0 v11_3)), ()), v12, ())))
theorem loop86_11 {L} (h : L 11 = some ⟨131, sh86_11, xs86_11, spec_ParseAutomaton_l11⟩) : LoopOk prog L (loopOf f86 11) := lo (L' := L0) (by kernel_rfl) E86_ok allNil h
def L86_1 : Nat → Option LoopD := fun n => ifEq n 11 (some ⟨131, sh86_11, xs86_11, spec_ParseAutomaton_l11⟩) (L0 n)
def spec_ParseAutomaton : ByteArray → Option (TA × Bool) := fun a0 =>
 Option.bind (spec_l13Cut a0 59) fun r0 =>
  bif ((((List.length r0) : Nat) : Int) != 4) then
   some (((0 : Int), [], [], []), false)
  else
   if (((0 : Int) ≤ 0) ∧ ((0 : Int) < (((List.length r0) : Nat) : Int))) then
    Option.bind (spec_l13Num (List.getD r0 (0 + (Int.toNat 0)) ⟨Array.empty⟩)) fun (r1, r2) =>
     if (((0 : Int) ≤ 1) ∧ ((1 : Int) < (((List.length r0) : Nat) : Int))) then
      Option.bind (spec_l3Read (List.getD r0 (0 + (Int.toNat 1)) ⟨Array.empty⟩)) fun (r3, r4) =>
       if (((0 : Int) ≤ 2) ∧ ((2 : Int) < (((List.length r0) : Nat) : Int))) then
        Option.bind (spec_l3Read (List.getD r0 (0 + (Int.toNat 2)) ⟨Array.empty⟩)) fun (r5, r6) =>
         bif r2 then
          bif r4 then
           if (((0 : Int) ≤ 3) ∧ ((3 : Int) < (((List.length r0) : Nat) : Int))) then
            bif (!((ByteArray.toList (List.getD r0 (0 + (Int.toNat 3)) ⟨Array.empty⟩)) == (ByteArray.toList (⟨#[]⟩ : ByteArray)))) then
             if (((0 : Int) ≤ 3) ∧ ((3 : Int) < (((List.length r0) : Nat) : Int))) then
              Option.bind (spec_l13Cut (List.getD r0 (0 + (Int.toNat 3)) ⟨Array.empty⟩) 32) fun r7 =>
               Option.bind (loopF spec_ParseAutomaton_l11 (((0 : Int), [], [], [], ()), (r1, (List.take (List.length r3) (List.drop 0 r3)), (List.take (List.length r5) (List.drop 0 r5)), (List.take 0 (List.drop 0 [])), ()), r6, (List.take (List.length r7) (List.drop 0 r7)), (((List.length r7) : Nat) : Int), 0, ())) fun r8 =>
                (match r8 with
                | .inl ((d9, d10, d11, d12, _), d13, _) =>
                  some ((d9, (List.take (List.length d10) (List.drop 0 d10)), (List.take (List.length d11) (List.drop 0 d11)), (List.take (List.length d12) (List.drop 0 d12))), d13)
                | .inr ((d14, d15, d16, d17, _), (d18, d19, d20, d21, _), d22, _) =>
                  bif (!d22) then
                   some (((0 : Int), [], [], []), false)
                  else
                   Option.bind (spec_AutomatonValid (d18, (List.take (List.length d19) (List.drop 0 d19)), (List.take (List.length d20) (List.drop 0 d20)), (List.take (List.length d21) (List.drop 0 d21)))) fun r23 =>
                    bif (!r23) then
                     some (((0 : Int), [], [], []), false)
                    else
                     some ((d18, (List.take (List.length d19) (List.drop 0 d19)), (List.take (List.length d20) (List.drop 0 d20)), (List.take (List.length d21) (List.drop 0 d21))), true))
             else
              none
            else
             bif (!r6) then
              some (((0 : Int), [], [], []), false)
             else
              Option.bind (spec_AutomatonValid (r1, (List.take (List.length r3) (List.drop 0 r3)), (List.take (List.length r5) (List.drop 0 r5)), (List.take 0 (List.drop 0 [])))) fun r24 =>
               bif (!r24) then
                some (((0 : Int), [], [], []), false)
               else
                some ((r1, (List.take (List.length r3) (List.drop 0 r3)), (List.take (List.length r5) (List.drop 0 r5)), (List.take 0 (List.drop 0 []))), true)
           else
            none
          else
           if (((0 : Int) ≤ 3) ∧ ((3 : Int) < (((List.length r0) : Nat) : Int))) then
            bif (!((ByteArray.toList (List.getD r0 (0 + (Int.toNat 3)) ⟨Array.empty⟩)) == (ByteArray.toList (⟨#[]⟩ : ByteArray)))) then
             if (((0 : Int) ≤ 3) ∧ ((3 : Int) < (((List.length r0) : Nat) : Int))) then
              Option.bind (spec_l13Cut (List.getD r0 (0 + (Int.toNat 3)) ⟨Array.empty⟩) 32) fun r25 =>
               Option.bind (loopF spec_ParseAutomaton_l11 (((0 : Int), [], [], [], ()), (r1, (List.take (List.length r3) (List.drop 0 r3)), (List.take (List.length r5) (List.drop 0 r5)), (List.take 0 (List.drop 0 [])), ()), false, (List.take (List.length r25) (List.drop 0 r25)), (((List.length r25) : Nat) : Int), 0, ())) fun r26 =>
                (match r26 with
                | .inl ((d27, d28, d29, d30, _), d31, _) =>
                  some ((d27, (List.take (List.length d28) (List.drop 0 d28)), (List.take (List.length d29) (List.drop 0 d29)), (List.take (List.length d30) (List.drop 0 d30))), d31)
                | .inr ((d32, d33, d34, d35, _), (d36, d37, d38, d39, _), d40, _) =>
                  bif (!d40) then
                   some (((0 : Int), [], [], []), false)
                  else
                   Option.bind (spec_AutomatonValid (d36, (List.take (List.length d37) (List.drop 0 d37)), (List.take (List.length d38) (List.drop 0 d38)), (List.take (List.length d39) (List.drop 0 d39)))) fun r41 =>
                    bif (!r41) then
                     some (((0 : Int), [], [], []), false)
                    else
                     some ((d36, (List.take (List.length d37) (List.drop 0 d37)), (List.take (List.length d38) (List.drop 0 d38)), (List.take (List.length d39) (List.drop 0 d39))), true))
             else
              none
            else
             some (((0 : Int), [], [], []), false)
           else
            none
         else
          if (((0 : Int) ≤ 3) ∧ ((3 : Int) < (((List.length r0) : Nat) : Int))) then
           bif (!((ByteArray.toList (List.getD r0 (0 + (Int.toNat 3)) ⟨Array.empty⟩)) == (ByteArray.toList (⟨#[]⟩ : ByteArray)))) then
            if (((0 : Int) ≤ 3) ∧ ((3 : Int) < (((List.length r0) : Nat) : Int))) then
             Option.bind (spec_l13Cut (List.getD r0 (0 + (Int.toNat 3)) ⟨Array.empty⟩) 32) fun r42 =>
              Option.bind (loopF spec_ParseAutomaton_l11 (((0 : Int), [], [], [], ()), (r1, (List.take (List.length r3) (List.drop 0 r3)), (List.take (List.length r5) (List.drop 0 r5)), (List.take 0 (List.drop 0 [])), ()), false, (List.take (List.length r42) (List.drop 0 r42)), (((List.length r42) : Nat) : Int), 0, ())) fun r43 =>
               (match r43 with
               | .inl ((d44, d45, d46, d47, _), d48, _) =>
                 some ((d44, (List.take (List.length d45) (List.drop 0 d45)), (List.take (List.length d46) (List.drop 0 d46)), (List.take (List.length d47) (List.drop 0 d47))), d48)
               | .inr ((d49, d50, d51, d52, _), (d53, d54, d55, d56, _), d57, _) =>
                 bif (!d57) then
                  some (((0 : Int), [], [], []), false)
                 else
                  Option.bind (spec_AutomatonValid (d53, (List.take (List.length d54) (List.drop 0 d54)), (List.take (List.length d55) (List.drop 0 d55)), (List.take (List.length d56) (List.drop 0 d56)))) fun r58 =>
                   bif (!r58) then
                    some (((0 : Int), [], [], []), false)
                   else
                    some ((d53, (List.take (List.length d54) (List.drop 0 d54)), (List.take (List.length d55) (List.drop 0 d55)), (List.take (List.length d56) (List.drop 0 d56))), true))
            else
             none
           else
            some (((0 : Int), [], [], []), false)
          else
           none
       else
        none
     else
      none
   else
    none
def A86 : FnA := ⟨[.v .str], true, [.pair i6 (.pair sI (.pair sI sS)), .bool], fun x => spec_ParseAutomaton x.1⟩
theorem A86_ok : FnOk prog 86 A86 := fo (L := L86_1) (by kernel_rfl) func86 E86_ok (allCons (loop86_11 rfl) allNil)
def E60 : Env := ev fun g => ifEq g 86 (some A86) (none)
theorem E60_ok : FnsOk prog E60 := (oF A86_ok func86 (noFns _ _))
def spec_l3Known : Int → Option (TA) := fun a0 =>
 if (((9 : Nat) : Int) = 0) then
  none
 else
  if (((0 : Int) ≤ (Int.tmod a0 ((9 : Nat) : Int))) ∧ ((Int.tmod a0 ((9 : Nat) : Int)) < ((9 : Nat) : Int))) then
   Option.bind (spec_ParseAutomaton (List.getD [(⟨#[(49 : UInt8), (59 : UInt8), (48 : UInt8), (59 : UInt8), (48 : UInt8), (59 : UInt8), (48 : UInt8), (97 : UInt8), (48 : UInt8), (58 : UInt8), (49 : UInt8), (32 : UInt8), (48 : UInt8), (98 : UInt8), (48 : UInt8), (58 : UInt8), (48 : UInt8)]⟩ : ByteArray), (⟨#[(50 : UInt8), (59 : UInt8), (48 : UInt8), (59 : UInt8), (49 : UInt8), (59 : UInt8), (48 : UInt8), (97 : UInt8), (48 : UInt8), (58 : UInt8), (48 : UInt8), (32 : UInt8), (48 : UInt8), (97 : UInt8), (49 : UInt8), (58 : UInt8), (49 : UInt8), (32 : UInt8), (49 : UInt8), (98 : UInt8), (49 : UInt8), (58 : UInt8), (48 : UInt8)]⟩ : ByteArray), (⟨#[(50 : UInt8), (59 : UInt8), (48 : UInt8), (32 : UInt8), (49 : UInt8), (59 : UInt8), (48 : UInt8), (32 : UInt8), (49 : UInt8), (59 : UInt8), (48 : UInt8), (97 : UInt8), (48 : UInt8), (58 : UInt8), (49 : UInt8), (32 : UInt8), (48 : UInt8), (98 : UInt8), (48 : UInt8), (58 : UInt8), (48 : UInt8), (32 : UInt8), (49 : UInt8), (97 : UInt8), (49 : UInt8), (58 : UInt8), (48 : UInt8), (32 : UInt8), (49 : UInt8), (98 : UInt8), (49 : UInt8), (58 : UInt8), (49 : UInt8)]⟩ : ByteArray), (⟨#[(51 : UInt8), (59 : UInt8), (48 : UInt8), (59 : UInt8), (48 : UInt8), (32 : UInt8), (50 : UInt8), (59 : UInt8), (48 : UInt8), (97 : UInt8), (48 : UInt8), (58 : UInt8), (48 : UInt8), (32 : UInt8), (48 : UInt8), (97 : UInt8), (49 : UInt8), (58 : UInt8), (48 : UInt8), (32 : UInt8), (48 : UInt8), (98 : UInt8), (48 : UInt8), (58 : UInt8), (49 : UInt8), (32 : UInt8), (49 : UInt8), (97 : UInt8), (49 : UInt8), (58 : UInt8), (49 : UInt8), (32 : UInt8), (49 : UInt8), (98 : UInt8), (50 : UInt8), (58 : UInt8), (48 : UInt8), (32 : UInt8), (50 : UInt8), (97 : UInt8), (50 : UInt8), (58 : UInt8), (48 : UInt8), (32 : UInt8), (50 : UInt8), (98 : UInt8), (50 : UInt8), (58 : UInt8), (48 : UInt8)]⟩ : ByteArray), (⟨#[(50 : UInt8), (59 : UInt8), (48 : UInt8), (59 : UInt8), (48 : UInt8), (59 : UInt8), (48 : UInt8), (97 : UInt8), (49 : UInt8), (58 : UInt8), (49 : UInt8), (32 : UInt8), (49 : UInt8), (98 : UInt8), (48 : UInt8), (58 : UInt8), (48 : UInt8)]⟩ : ByteArray), (⟨#[(51 : UInt8), (59 : UInt8), (48 : UInt8), (59 : UInt8), (50 : UInt8), (59 : UInt8), (48 : UInt8), (97 : UInt8), (48 : UInt8), (58 : UInt8), (48 : UInt8), (32 : UInt8), (48 : UInt8), (98 : UInt8), (48 : UInt8), (58 : UInt8), (48 : UInt8), (32 : UInt8), (48 : UInt8), (98 : UInt8), (49 : UInt8), (58 : UInt8), (48 : UInt8), (32 : UInt8), (49 : UInt8), (97 : UInt8), (49 : UInt8), (58 : UInt8), (49 : UInt8), (32 : UInt8), (49 : UInt8), (98 : UInt8), (50 : UInt8), (58 : UInt8), (48 : UInt8), (32 : UInt8), (50 : UInt8), (97 : UInt8), (50 : UInt8), (58 : UInt8), (48 : UInt8), (32 : UInt8), (50 : UInt8), (98 : UInt8), (50 : UInt8), (58 : UInt8), (48 : UInt8)]⟩ : ByteArray), (⟨#[(49 : UInt8), (59 : UInt8), (48 : UInt8), (59 : UInt8), (48 : UInt8), (59 : UInt8), (48 : UInt8), (97 : UInt8), (48 : UInt8), (58 : UInt8), (48 : UInt8)]⟩ : ByteArray), (⟨#[(50 : UInt8), (59 : UInt8), (48 : UInt8), (59 : UInt8), (48 : UInt8), (32 : UInt8), (49 : UInt8), (59 : UInt8), (48 : UInt8), (97 : UInt8), (48 : UInt8), (58 : UInt8), (48 : UInt8), (32 : UInt8), (48 : UInt8), (98 : UInt8), (49 : UInt8), (58 : UInt8), (49 : UInt8), (32 : UInt8), (49 : UInt8), (97 : UInt8), (48 : UInt8), (58 : UInt8), (48 : UInt8), (32 : UInt8), (49 : UInt8), (98 : UInt8), (49 : UInt8), (58 : UInt8), (48 : UInt8)]⟩ : ByteArray), (⟨#[(50 : UInt8), (59 : UInt8), (48 : UInt8), (59 : UInt8), (49 : UInt8), (59 : UInt8), (48 : UInt8), (97 : UInt8), (49 : UInt8), (58 : UInt8), (50 : UInt8), (32 : UInt8), (49 : UInt8), (97 : UInt8), (49 : UInt8), (58 : UInt8), (48 : UInt8), (32 : UInt8), (49 : UInt8), (98 : UInt8), (48 : UInt8), (58 : UInt8), (49 : UInt8)]⟩ : ByteArray)] (0 + (Int.toNat (Int.tmod a0 ((9 : Nat) : Int)))) ⟨Array.empty⟩)) fun ((r0, r1, r2, r3), r4) =>
    some (r0, (List.take (List.length r1) (List.drop 0 r1)), (List.take (List.length r2) (List.drop 0 r2)), (List.take (List.length r3) (List.drop 0 r3)))
  else
   none
def A60 : FnA := ⟨[.v i6], true, [.pair i6 (.pair sI (.pair sI sS))], fun x => spec_l3Known x.1⟩
theorem A60_ok : FnOk prog 60 A60 := fo (L := L0) (by kernel_rfl) func60 E60_ok allNil
def E61 : Env := ⟨ty0, fun _ => none, fun g => ifEq g 23 (some A23) (none), fun _ => none, fun _ => none, fun _ => 0⟩
theorem E61_ok : FnsOk prog E61 := (oneMs A23_ok (by kernel_rfl) func23 (by kernel_rfl) (by kernel_rfl) (noFns _ _))
def sh61_3 : List Fm := .box 200000 [.val (.sl (.int .u8)), .val i6] :: D 4 (.cell (.own i6 100500 false) :: d :: d :: .cell (.val i6) :: .cell (.val i6) :: D 11 [])
def xs61_3 : List (Ex × List Fm) := [(.exit 0, [.box 200000 [.val (.sl (.int .u8)), .val i6], d, d, d, d, .cell (.own i6 100500 false), d, d, d, d, d, d, d, d, d, d, d, d, d, d, d])]
def spec_l3Some_l3 : ((LI × Int × Unit) × LI × Int × Int × Unit) → Option (((LI × Int × Unit) × LI × Int × Int × Unit) ⊕ (((LI × Int × Unit) × LI × Unit))) := fun ((v0_0, v0_1, _), v5, v8, v9, _) =>
 bif (decide (v9 < v8)) then
  Option.bind (spec_l13Rd_pick (v0_0, v0_1) 2) fun (r0, (r1, r2), _) =>
   bif (r0 == 0) then
    if (((0 + (List.length v5)) = (List.length v5)) ∧ ((((List.length v5) + (List.length (List.take 1 (List.drop 0 [v9])))) * 8) ≤ 140737488355328)) then
     some (Sum.inl ((r1, r2, ()), (List.take ((List.length v5) + (List.length (List.take 1 (List.drop 0 [v9])))) (List.drop 0 ((List.drop 0 v5) ++ (List.take 1 (List.drop 0 [v9]))))), v8, (IntKind.wrap .i64 (v9 + 1)), ()))
    else
     none
   else
    some (Sum.inl ((r1, r2, ()), (List.take (List.length v5) (List.drop 0 v5)), v8, (IntKind.wrap .i64 (v9 + 1)), ()))
 else
  some (Sum.inr ((v0_0, v0_1, ()), (List.take (List.length v5) (List.drop 0 v5)), ()))
theorem loop61_3 {L} (h : L 3 = some ⟨21, sh61_3, xs61_3, spec_l3Some_l3⟩) : LoopOk prog L (loopOf f61 3) := lo (L' := L0) (by kernel_rfl) E61_ok allNil h
def L61_1 : Nat → Option LoopD := fun n => ifEq n 3 (some ⟨21, sh61_3, xs61_3, spec_l3Some_l3⟩) (L0 n)
def spec_l3Some : (LI × Int) → Int → Option ((LI) × ((LI × Int) × Unit)) := fun (a0_0, a0_1) a1 =>
 Option.bind (loopF spec_l3Some_l3 ((a0_0, a0_1, ()), (List.take 0 (List.drop 0 [])), a1, 0, ())) fun ((r0, r1, _), r2, _) =>
  some ((List.take (List.length r2) (List.drop 0 r2)), (r0, r1), ())
def A61 : FnM := ⟨[.bx kR, .v i6], true, [.sl i6], none, fun x => spec_l3Some x.1 x.2.1⟩
theorem A61_ok : FnMOk prog 61 A61 := fm (L := L61_1) (by kernel_rfl) func61 E61_ok (allCons (loop61_3 rfl) allNil)
def E59 : Env := ⟨ty0, fun _ => none, fun g => ifEq g 23 (some A23) (none), fun _ => none, fun _ => none, fun _ => 0⟩
theorem E59_ok : FnsOk prog E59 := (oneMs A23_ok (by kernel_rfl) func23 (by kernel_rfl) (by kernel_rfl) (noFns _ _))
def spec_l13Rd_of : (LI × Int) → (List ByteArray) → Option ((ByteArray) × ((LI × Int) × Unit)) := fun (a0_0, a0_1) a1 =>
 Option.bind (spec_l13Rd_pick (a0_0, a0_1) (((List.length a1) : Nat) : Int)) fun (r0, (r1, r2), _) =>
  if (((0 : Int) ≤ r0) ∧ (r0 < (((List.length a1) : Nat) : Int))) then
   some ((List.getD a1 (Int.toNat r0) ⟨Array.empty⟩), (r1, r2), ())
  else
   none
def A59 : FnM := ⟨[.bx kR, .v (.sl .str)], true, [.str], none, fun x => spec_l13Rd_of x.1 x.2.1⟩
theorem A59_ok : FnMOk prog 59 A59 := fm (L := L0) (by kernel_rfl) func59 E59_ok allNil
def E26 : Env := ⟨ty0, fun _ => none, fun g => ifEq g 23 (some A23) (none), fun _ => none, fun _ => none, fun _ => 0⟩
theorem E26_ok : FnsOk prog E26 := (oneMs A23_ok (by kernel_rfl) func23 (by kernel_rfl) (by kernel_rfl) (noFns _ _))
def spec_l13Rd_num : (LI × Int) → LI → Option ((Int) × ((LI × Int) × Unit)) := fun (a0_0, a0_1) a1 =>
 Option.bind (spec_l13Rd_pick (a0_0, a0_1) (((List.length a1) : Nat) : Int)) fun (r0, (r1, r2), _) =>
  if (((0 : Int) ≤ r0) ∧ (r0 < (((List.length a1) : Nat) : Int))) then
   some ((List.getD a1 (Int.toNat r0) 0), (r1, r2), ())
  else
   none
def A26 : FnM := ⟨[.bx kR, .v sI], true, [.int .i64], none, fun x => spec_l13Rd_num x.1 x.2.1⟩
theorem A26_ok : FnMOk prog 26 A26 := fm (L := L0) (by kernel_rfl) func26 E26_ok allNil
def E62 : Env := ev fun g => ifEq g 50 (some A50) (none)
theorem E62_ok : FnsOk prog E62 := (oF A50_ok func50 (noFns _ _))
def sh62_2 : List Fm := .cell (.val sS) :: d :: d :: .box 100300 [.val i6, .val .str, .val i6, .val i6] :: d :: .cell (.val i6) :: D 56 []
def xs62_2 : List (Ex × List Fm) := [(.exit 0, [.cell (.val sS), d, d, .box 100300 [.val i6, .val .str, .val i6, .val i6], d, .cell (.val i6), d, d, d, d, d, d, d, d, d, d, d, d, d, d, d, d, d, d, d, d, d, d, d, d, d, d, d, d, d, d, d, d, d, d, d, d, d, d, d, d, d, d, d, d, d, d, d, d, d, d, d, d, d, d, d, d])]
def spec_l3Put_l2 : (LS × (Int × ByteArray × Int × Int × Unit) × Int × Unit) → Option ((LS × (Int × ByteArray × Int × Int × Unit) × Int × Unit) ⊕ ((LS × (Int × ByteArray × Int × Int × Unit) × Int × Unit))) := fun (v0, (v3_0, v3_1, v3_2, v3_3, _), v5, _) =>
 bif (decide (v5 < (((List.length v0) : Nat) : Int))) then
  if (((0 : Int) ≤ v5) ∧ (v5 < (((List.length v0) : Nat) : Int))) then
   Option.bind (spec_l3Before (List.getD v0 (Int.toNat v5) ((0 : Int), ⟨Array.empty⟩, 0, 0)) (v3_0, v3_1, v3_2, v3_3)) fun r0 =>
    bif r0 then
     some (Sum.inl (v0, (v3_0, v3_1, v3_2, v3_3, ()), (IntKind.wrap .i64 (v5 + 1)), ()))
    else
     some (Sum.inr (v0, (v3_0, v3_1, v3_2, v3_3, ()), v5, ()))
  else
   none
 else
  some (Sum.inr (v0, (v3_0, v3_1, v3_2, v3_3, ()), v5, ()))
theorem loop62_2 {L} (h : L 2 = some ⟨62, sh62_2, xs62_2, spec_l3Put_l2⟩) : LoopOk prog L (loopOf f62 2) := lo (L' := L0) (by kernel_rfl) E62_ok allNil h
def L62_1 : Nat → Option LoopD := fun n => ifEq n 2 (some ⟨62, sh62_2, xs62_2, spec_l3Put_l2⟩) (L0 n)
def spec_l3Put : LS → TS → Option (LS) := fun a0 (a1_0, a1_1, a1_2, a1_3) =>
 Option.bind (loopF spec_l3Put_l2 (a0, (a1_0, a1_1, a1_2, a1_3, ()), 0, ())) fun (r0, (r1, r2, r3, r4, _), r5, _) =>
  bif (decide (r5 < (((List.length r0) : Nat) : Int))) then
   if (((0 : Int) ≤ r5) ∧ (r5 < (((List.length r0) : Nat) : Int))) then
    Option.bind (spec_l3Before (r1, r2, r3, r4) (List.getD r0 (Int.toNat r5) ((0 : Int), ⟨Array.empty⟩, 0, 0))) fun r6 =>
     bif (!r6) then
      if (((0 + 0) = (List.length ([] : List Unit))) ∧ (((0 + (List.length r0)) * 40) ≤ 140737488355328)) then
       if (((0 : Int) ≤ r5) ∧ (r5 < (((0 + (List.length r0)) : Nat) : Int))) then
        if (((0 : Int) ≤ r5) ∧ (r5 < (((0 + (List.length r0)) : Nat) : Int))) then
         Option.bind (Option.some (List.set ((List.drop 0 []) ++ r0) (0 + (Int.toNat r5)) ((List.getD ((List.drop 0 []) ++ r0) (0 + (Int.toNat r5)) ((0 : Int), ⟨Array.empty⟩, 0, 0)).1, (List.getD ((List.drop 0 []) ++ r0) (0 + (Int.toNat r5)) ((0 : Int), ⟨Array.empty⟩, 0, 0)).2.1, (List.getD ((List.drop 0 []) ++ r0) (0 + (Int.toNat r5)) ((0 : Int), ⟨Array.empty⟩, 0, 0)).2.2.1, (if (r4 < (List.getD ((List.drop 0 []) ++ r0) (0 + (Int.toNat r5)) ((0 : Int), ⟨Array.empty⟩, 0, 0)).2.2.2) then r4 else (List.getD ((List.drop 0 []) ++ r0) (0 + (Int.toNat r5)) ((0 : Int), ⟨Array.empty⟩, 0, 0)).2.2.2)))) fun r7 =>
          some (List.take (0 + (List.length r0)) (List.drop 0 r7))
        else
         none
       else
        none
      else
       none
     else
      if (((0 : Int) ≤ r5) ∧ (r5 ≤ (((List.length r0) : Nat) : Int))) then
       if (((0 + 0) = (List.length ([] : List Unit))) ∧ (((0 + (List.length (List.take ((Int.toNat r5) - 0) (List.drop 0 r0)))) * 40) ≤ 140737488355328)) then
        if (((0 + (0 + (List.length (List.take ((Int.toNat r5) - 0) (List.drop 0 r0))))) = (List.length ((List.drop 0 []) ++ (List.take ((Int.toNat r5) - 0) (List.drop 0 r0))))) ∧ ((((0 + (List.length (List.take ((Int.toNat r5) - 0) (List.drop 0 r0)))) + (List.length (List.take 1 (List.drop 0 [(r1, r2, r3, r4)])))) * 40) ≤ 140737488355328)) then
         if (((0 : Int) ≤ r5) ∧ (r5 ≤ (((List.length r0) : Nat) : Int))) then
          if (((0 + ((0 + (List.length (List.take ((Int.toNat r5) - 0) (List.drop 0 r0)))) + (List.length (List.take 1 (List.drop 0 [(r1, r2, r3, r4)]))))) = (List.length ((List.drop 0 ((List.drop 0 []) ++ (List.take ((Int.toNat r5) - 0) (List.drop 0 r0)))) ++ (List.take 1 (List.drop 0 [(r1, r2, r3, r4)]))))) ∧ (((((0 + (List.length (List.take ((Int.toNat r5) - 0) (List.drop 0 r0)))) + (List.length (List.take 1 (List.drop 0 [(r1, r2, r3, r4)])))) + (List.length (List.take ((List.length r0) - (Int.toNat r5)) (List.drop (Int.toNat r5) r0)))) * 40) ≤ 140737488355328)) then
           some (List.take (((0 + (List.length (List.take ((Int.toNat r5) - 0) (List.drop 0 r0)))) + (List.length (List.take 1 (List.drop 0 [(r1, r2, r3, r4)])))) + (List.length (List.take ((List.length r0) - (Int.toNat r5)) (List.drop (Int.toNat r5) r0)))) (List.drop 0 ((List.drop 0 ((List.drop 0 ((List.drop 0 []) ++ (List.take ((Int.toNat r5) - 0) (List.drop 0 r0)))) ++ (List.take 1 (List.drop 0 [(r1, r2, r3, r4)])))) ++ (List.take ((List.length r0) - (Int.toNat r5)) (List.drop (Int.toNat r5) r0)))))
          else
           none
         else
          none
        else
         none
       else
        none
      else
       none
   else
    none
  else
   if (((0 : Int) ≤ r5) ∧ (r5 ≤ (((List.length r0) : Nat) : Int))) then
    if (((0 + 0) = (List.length ([] : List Unit))) ∧ (((0 + (List.length (List.take ((Int.toNat r5) - 0) (List.drop 0 r0)))) * 40) ≤ 140737488355328)) then
     if (((0 + (0 + (List.length (List.take ((Int.toNat r5) - 0) (List.drop 0 r0))))) = (List.length ((List.drop 0 []) ++ (List.take ((Int.toNat r5) - 0) (List.drop 0 r0))))) ∧ ((((0 + (List.length (List.take ((Int.toNat r5) - 0) (List.drop 0 r0)))) + (List.length (List.take 1 (List.drop 0 [(r1, r2, r3, r4)])))) * 40) ≤ 140737488355328)) then
      if (((0 : Int) ≤ r5) ∧ (r5 ≤ (((List.length r0) : Nat) : Int))) then
       if (((0 + ((0 + (List.length (List.take ((Int.toNat r5) - 0) (List.drop 0 r0)))) + (List.length (List.take 1 (List.drop 0 [(r1, r2, r3, r4)]))))) = (List.length ((List.drop 0 ((List.drop 0 []) ++ (List.take ((Int.toNat r5) - 0) (List.drop 0 r0)))) ++ (List.take 1 (List.drop 0 [(r1, r2, r3, r4)]))))) ∧ (((((0 + (List.length (List.take ((Int.toNat r5) - 0) (List.drop 0 r0)))) + (List.length (List.take 1 (List.drop 0 [(r1, r2, r3, r4)])))) + (List.length (List.take ((List.length r0) - (Int.toNat r5)) (List.drop (Int.toNat r5) r0)))) * 40) ≤ 140737488355328)) then
        some (List.take (((0 + (List.length (List.take ((Int.toNat r5) - 0) (List.drop 0 r0)))) + (List.length (List.take 1 (List.drop 0 [(r1, r2, r3, r4)])))) + (List.length (List.take ((List.length r0) - (Int.toNat r5)) (List.drop (Int.toNat r5) r0)))) (List.drop 0 ((List.drop 0 ((List.drop 0 ((List.drop 0 []) ++ (List.take ((Int.toNat r5) - 0) (List.drop 0 r0)))) ++ (List.take 1 (List.drop 0 [(r1, r2, r3, r4)])))) ++ (List.take ((List.length r0) - (Int.toNat r5)) (List.drop (Int.toNat r5) r0)))))
       else
        none
      else
       none
     else
      none
    else
     none
   else
    none
def A62 : FnA := ⟨[.v sS, .v kS], true, [.sl kS], fun x => spec_l3Put x.1 x.2.1⟩
theorem A62_ok : FnOk prog 62 A62 := fo (L := L62_1) (by kernel_rfl) func62 E62_ok (allCons (loop62_2 rfl) allNil)
def E42 : Env := ⟨ty0, fun g => ifEq g 60 (some A60) (ifEq g 62 (some A62) (none)), fun g => ifEq g 23 (some A23) (ifEq g 61 (some A61) (ifEq g 59 (some A59) (ifEq g 26 (some A26) (none)))), fun _ => none, fun _ => none, fun _ => 0⟩
theorem E42_ok : FnsOk prog E42 := (oF A60_ok func60 (oF A62_ok func62 (oneMs A23_ok (by kernel_rfl) func23 (by kernel_rfl) (by kernel_rfl) (oneMs A61_ok (by kernel_rfl) func61 (by kernel_rfl) (by kernel_rfl) (oneMs A59_ok (by kernel_rfl) func59 (by kernel_rfl) (by kernel_rfl) (oneMs A26_ok (by kernel_rfl) func26 (by kernel_rfl) (by kernel_rfl) (noFns _ _)))))))
def sh42_8 : List Fm := .box 200000 [.val (.sl (.int .u8)), .val i6] :: d :: d :: d :: .box 100400 [.val i6, .own i6 100402 false, .own i6 100403 false, .own kS 100404 false] :: d :: .cell (.val i6) :: .box 100700 [.val i6, .own i6 100702 false, .own i6 100703 false, .own kS 100704 false] :: D 30 (.cell (.val i6) :: .cell (.val i6) :: D 21 [])
def xs42_8 : List (Ex × List Fm) := [(.exit 0, [.box 200000 [.val (.sl (.int .u8)), .val i6], d, d, d, .box 100400 [.val i6, .own i6 100402 false, .own i6 100403 false, .own kS 100404 false], d, d, .box 100700 [.val i6, .own i6 100702 false, .own i6 100703 false, .own kS 100704 false], d, d, d, d, d, d, d, d, d, d, d, d, d, d, d, d, d, d, d, d, d, d, d, d, d, d, d, d, d, d, d, d, d, d, d, d, d, d, d, d, d, d, d, d, d, d, d, d, d, d, d, d, d])]
def spec_l3Draw_l8 : ((LI × Int × Unit) × (Int × LI × LI × LS × Unit) × Int × (Int × LI × LI × LS × Unit) × Int × Int × Unit) → Option (((LI × Int × Unit) × (Int × LI × LI × LS × Unit) × Int × (Int × LI × LI × LS × Unit) × Int × Int × Unit) ⊕ (((LI × Int × Unit) × (Int × LI × LI × LS × Unit) × (Int × LI × LI × LS × Unit) × Unit))) := fun ((v0_0, v0_1, _), (v4_0, v4_1, v4_2, v4_3, _), v6, (v7_0, v7_1, v7_2, v7_3, _), v38, v39, _) =>
 bif (decide (v39 < v38)) then
  Option.bind (spec_l13Rd_pick (v0_0, v0_1) v6) fun (r0, (r1, r2), _) =>
   Option.bind (spec_l13Rd_of (r1, r2) (List.take 2 (List.drop 0 [(⟨#[(97 : UInt8)]⟩ : ByteArray), (⟨#[(98 : UInt8)]⟩ : ByteArray)]))) fun (r3, (r4, r5), _) =>
    Option.bind (spec_l13Rd_pick (r4, r5) v6) fun (r6, (r7, r8), _) =>
     Option.bind (spec_l13Rd_num (r7, r8) (List.take 6 (List.drop 0 [(0 : Int), (1 : Int), (0 : Int), (1 : Int), (2 : Int), (0 : Int)]))) fun (r9, (r10, r11), _) =>
      Option.bind (spec_l3Put (List.take (List.length v7_3) (List.drop 0 v7_3)) (r0, r3, r6, r9)) fun r12 =>
       some (Sum.inl ((r10, r11, ()), (v4_0, (List.take (List.length v4_1) (List.drop 0 v4_1)), (List.take (List.length v4_2) (List.drop 0 v4_2)), (List.take (List.length v4_3) (List.drop 0 v4_3)), ()), v6, (v7_0, (List.take (List.length v7_1) (List.drop 0 v7_1)), (List.take (List.length v7_2) (List.drop 0 v7_2)), (List.take (List.length r12) (List.drop 0 r12)), ()), v38, (IntKind.wrap .i64 (v39 + 1)), ()))
 else
  some (Sum.inr ((v0_0, v0_1, ()), (v4_0, (List.take (List.length v4_1) (List.drop 0 v4_1)), (List.take (List.length v4_2) (List.drop 0 v4_2)), (List.take (List.length v4_3) (List.drop 0 v4_3)), ()), (v7_0, (List.take (List.length v7_1) (List.drop 0 v7_1)), (List.take (List.length v7_2) (List.drop 0 v7_2)), (List.take (List.length v7_3) (List.drop 0 v7_3)), ()), ()))
theorem loop42_8 {L} (h : L 8 = some ⟨61, sh42_8, xs42_8, spec_l3Draw_l8⟩) : LoopOk prog L (loopOf f42 8) := lo (L' := L0) (by kernel_rfl) E42_ok allNil h
def L42_1 : Nat → Option LoopD := fun n => ifEq n 8 (some ⟨61, sh42_8, xs42_8, spec_l3Draw_l8⟩) (L0 n)
def spec_l3Draw : (LI × Int) → Int → Option ((TA) × ((LI × Int) × Unit)) := fun (a0_0, a0_1) a1 =>
 Option.bind (spec_l13Rd_pick (a0_0, a0_1) 3) fun (r0, (r1, r2), _) =>
  bif (r0 == 0) then
   Option.bind (spec_l13Rd_pick (r1, r2) 9) fun (r3, (r4, r5), _) =>
    Option.bind (spec_l3Known r3) fun (r6, r7, r8, r9) =>
     bif (decide (r6 ≤ a1)) then
      some ((r6, (List.take (List.length r7) (List.drop 0 r7)), (List.take (List.length r8) (List.drop 0 r8)), (List.take (List.length r9) (List.drop 0 r9))), (r4, r5), ())
     else
      Option.bind (spec_l13Rd_pick (r4, r5) a1) fun (r10, (r11, r12), _) =>
       Option.bind (spec_l3Some (r11, r12) (IntKind.wrap .i64 ((1 : Int) + r10))) fun (r13, (r14, r15), _) =>
        Option.bind (spec_l3Some (r14, r15) (IntKind.wrap .i64 ((1 : Int) + r10))) fun (r16, (r17, r18), _) =>
         Option.bind (spec_l13Rd_pick (r17, r18) (IntKind.wrap .i64 ((IntKind.wrap .i64 ((2 : Int) * (IntKind.wrap .i64 ((1 : Int) + r10)))) + 1))) fun (r19, (r20, r21), _) =>
          Option.bind (loopF spec_l3Draw_l8 ((r20, r21, ()), ((0 : Int), [], [], [], ()), (IntKind.wrap .i64 ((1 : Int) + r10)), ((IntKind.wrap .i64 ((1 : Int) + r10)), (List.take (List.length r13) (List.drop 0 r13)), (List.take (List.length r16) (List.drop 0 r16)), (List.take 0 (List.drop 0 [])), ()), (IntKind.wrap .i64 ((1 : Int) + r19)), 0, ())) fun ((r22, r23, _), (r24, r25, r26, r27, _), (r28, r29, r30, r31, _), _) =>
           some ((r28, (List.take (List.length r29) (List.drop 0 r29)), (List.take (List.length r30) (List.drop 0 r30)), (List.take (List.length r31) (List.drop 0 r31))), (r22, r23), ())
  else
   Option.bind (spec_l13Rd_pick (r1, r2) a1) fun (r32, (r33, r34), _) =>
    Option.bind (spec_l3Some (r33, r34) (IntKind.wrap .i64 ((1 : Int) + r32))) fun (r35, (r36, r37), _) =>
     Option.bind (spec_l3Some (r36, r37) (IntKind.wrap .i64 ((1 : Int) + r32))) fun (r38, (r39, r40), _) =>
      Option.bind (spec_l13Rd_pick (r39, r40) (IntKind.wrap .i64 ((IntKind.wrap .i64 ((2 : Int) * (IntKind.wrap .i64 ((1 : Int) + r32)))) + 1))) fun (r41, (r42, r43), _) =>
       Option.bind (loopF spec_l3Draw_l8 ((r42, r43, ()), ((0 : Int), [], [], [], ()), (IntKind.wrap .i64 ((1 : Int) + r32)), ((IntKind.wrap .i64 ((1 : Int) + r32)), (List.take (List.length r35) (List.drop 0 r35)), (List.take (List.length r38) (List.drop 0 r38)), (List.take 0 (List.drop 0 [])), ()), (IntKind.wrap .i64 ((1 : Int) + r41)), 0, ())) fun ((r44, r45, _), (r46, r47, r48, r49, _), (r50, r51, r52, r53, _), _) =>
        some ((r50, (List.take (List.length r51) (List.drop 0 r51)), (List.take (List.length r52) (List.drop 0 r52)), (List.take (List.length r53) (List.drop 0 r53))), (r44, r45), ())
def A42 : FnM := ⟨[.bx kR, .v i6], true, [.pair i6 (.pair sI (.pair sI sS))], none, fun x => spec_l3Draw x.1 x.2.1⟩
theorem A42_ok : FnMOk prog 42 A42 := fm (L := L42_1) (by kernel_rfl) func42 E42_ok (allCons (loop42_8 rfl) allNil)
def E41 : Env := ⟨ty0, fun _ => none, fun g => ifEq g 23 (some A23) (ifEq g 26 (some A26) (ifEq g 59 (some A59) (none))), fun _ => none, fun _ => none, fun _ => 0⟩
theorem E41_ok : FnsOk prog E41 := (oneMs A23_ok (by kernel_rfl) func23 (by kernel_rfl) (by kernel_rfl) (oneMs A26_ok (by kernel_rfl) func26 (by kernel_rfl) (by kernel_rfl) (oneMs A59_ok (by kernel_rfl) func59 (by kernel_rfl) (by kernel_rfl) (noFns _ _))))
def spec_l3Bad : (LI × Int) → TA → Option ((TA) × ((LI × Int) × Unit)) := fun (a0_0, a0_1) (a1_0, a1_1, a1_2, a1_3) =>
 Option.bind (spec_l13Rd_pick (a0_0, a0_1) 36) fun (r0, (r1, r2), _) =>
  bif (r0 == 0) then
   Option.bind (spec_l13Rd_num (r1, r2) (List.take 5 (List.drop 0 [(0 : Int), (5 : Int), (-1 : Int), (1 : Int), (9223372036854775807 : Int)]))) fun (r3, (r4, r5), _) =>
    some ((r3, a1_1, a1_2, a1_3), (r4, r5), ())
  else
   bif (r0 == 1) then
    if (((0 + 0) = (List.length ([] : List Unit))) ∧ (((0 + (List.length a1_3)) * 40) ≤ 140737488355328)) then
     Option.bind (spec_l13Rd_pick (r1, r2) 2) fun (r6, (r7, r8), _) =>
      Option.bind (spec_l13Rd_of (r7, r8) (List.take 3 (List.drop 0 [(⟨#[(97 : UInt8)]⟩ : ByteArray), (⟨#[(99 : UInt8)]⟩ : ByteArray), (⟨#[]⟩ : ByteArray)]))) fun (r9, (r10, r11), _) =>
       Option.bind (spec_l13Rd_num (r10, r11) (List.take 3 (List.drop 0 [(0 : Int), (4 : Int), (-1 : Int)]))) fun (r12, (r13, r14), _) =>
        Option.bind (spec_l13Rd_num (r13, r14) (List.take 3 (List.drop 0 [(0 : Int), (4 : Int), (-1 : Int)]))) fun (r15, (r16, r17), _) =>
         if (((0 + (0 + (List.length a1_3))) = (List.length ((List.drop 0 []) ++ a1_3))) ∧ ((((0 + (List.length a1_3)) + (List.length (List.take 1 (List.drop 0 [(r6, r9, r12, r15)])))) * 40) ≤ 140737488355328)) then
          some ((a1_0, a1_1, a1_2, (List.take ((0 + (List.length a1_3)) + (List.length (List.take 1 (List.drop 0 [(r6, r9, r12, r15)])))) (List.drop 0 ((List.drop 0 ((List.drop 0 []) ++ a1_3)) ++ (List.take 1 (List.drop 0 [(r6, r9, r12, r15)])))))), (r16, r17), ())
         else
          none
    else
     none
   else
    bif (r0 == 2) then
     if (((0 + 0) = (List.length ([] : List Unit))) ∧ (((0 + (List.length a1_1)) * 8) ≤ 140737488355328)) then
      Option.bind (spec_l13Rd_num (r1, r2) (List.take 3 (List.drop 0 [(0 : Int), (4 : Int), (-1 : Int)]))) fun (r18, (r19, r20), _) =>
       if (((0 + (0 + (List.length a1_1))) = (List.length ((List.drop 0 []) ++ a1_1))) ∧ ((((0 + (List.length a1_1)) + (List.length (List.take 1 (List.drop 0 [r18])))) * 8) ≤ 140737488355328)) then
        some ((a1_0, (List.take ((0 + (List.length a1_1)) + (List.length (List.take 1 (List.drop 0 [r18])))) (List.drop 0 ((List.drop 0 ((List.drop 0 []) ++ a1_1)) ++ (List.take 1 (List.drop 0 [r18]))))), a1_2, a1_3), (r19, r20), ())
       else
        none
     else
      none
    else
     some ((a1_0, a1_1, a1_2, a1_3), (r1, r2), ())
def A41 : FnM := ⟨[.bx kR, .v kA], false, [.pair i6 (.pair sI (.pair sI sS))], none, fun x => spec_l3Bad x.1 x.2.1⟩
theorem A41_ok : FnMOk prog 41 A41 := fm (L := L0) (by kernel_rfl) func41 E41_ok allNil
def E22 : Env := ⟨ty0, fun _ => none, fun g => ifEq g 42 (some A42) (ifEq g 41 (some A41) (none)), fun _ => none, fun _ => none, fun _ => 0⟩
theorem E22_ok : FnsOk prog E22 := (oneMs A42_ok (by kernel_rfl) func42 (by kernel_rfl) (by kernel_rfl) (oneMs A41_ok (by kernel_rfl) func41 (by kernel_rfl) (by kernel_rfl) (noFns _ _)))
def spec_l3Any : (LI × Int) → Option ((TA) × ((LI × Int) × Unit)) := fun (a0_0, a0_1) =>
 Option.bind (spec_l3Draw (a0_0, a0_1) 3) fun ((r0, r1, r2, r3), (r4, r5), _) =>
  Option.bind (spec_l3Bad (r4, r5) (r0, (List.take (List.length r1) (List.drop 0 r1)), (List.take (List.length r2) (List.drop 0 r2)), (List.take (List.length r3) (List.drop 0 r3)))) fun ((r6, r7, r8, r9), (r10, r11), _) =>
   some ((r6, r7, r8, r9), (r10, r11), ())
def A22 : FnM := ⟨[.bx kR], false, [.pair i6 (.pair sI (.pair sI sS))], none, fun x => spec_l3Any x.1⟩
theorem A22_ok : FnMOk prog 22 A22 := fm (L := L0) (by kernel_rfl) func22 E22_ok allNil
def sh63_3 : List Fm := d :: d :: .cell (.val .bool) :: .box 100300 [.val i6, .val sI, .val sI, .val sS] :: d :: d :: .box 100600 [.val .bool, .val .bool, .val .bool, .val .bool] :: .box 100700 [.val .bool, .val .bool, .val .bool, .val .bool] :: D 4 (.cell (.val sI) :: .cell (.val i6) :: .cell (.val i6) :: D 41 [])
def xs63_3 : List (Ex × List Fm) := [(.exit 0, [d, d, .cell (.val .bool), .box 100300 [.val i6, .val sI, .val sI, .val sS], d, d, .box 100600 [.val .bool, .val .bool, .val .bool, .val .bool], .box 100700 [.val .bool, .val .bool, .val .bool, .val .bool], d, d, d, d, d, d, d, d, d, d, d, d, d, d, d, d, d, d, d, d, d, d, d, d, d, d, d, d, d, d, d, d, d, d, d, d, d, d, d, d, d, d, d, d, d, d, d, d])]
def spec_l3Reach_l3 : (Bool × (Int × LI × LI × LS × Unit) × (Bool × Bool × Bool × Bool × Unit) × (Bool × Bool × Bool × Bool × Unit) × LI × Int × Int × Unit) → Option ((Bool × (Int × LI × LI × LS × Unit) × (Bool × Bool × Bool × Bool × Unit) × (Bool × Bool × Bool × Bool × Unit) × LI × Int × Int × Unit) ⊕ ((Bool × (Int × LI × LI × LS × Unit) × (Bool × Bool × Bool × Bool × Unit) × (Bool × Bool × Bool × Bool × Unit) × Unit))) := fun (v2, (v3_0, v3_1, v3_2, v3_3, _), (v6_0, v6_1, v6_2, v6_3, _), (v7_0, v7_1, v7_2, v7_3, _), v12, v13, v14, _) =>
 bif (decide (v14 < v13)) then
  if (((0 : Int) ≤ v14) ∧ (v14 < (((List.length v12) : Nat) : Int))) then
   if (((0 : Int) ≤ (List.getD v12 (Int.toNat v14) 0)) ∧ ((List.getD v12 (Int.toNat v14) 0) < ((4 : Nat) : Int))) then
    some (Sum.inl (v2, (v3_0, v3_1, v3_2, v3_3, ()), (v6_0, v6_1, v6_2, v6_3, ()), ((bif (Nat.beq (Int.toNat (List.getD v12 (Int.toNat v14) 0)) 0) then true else v7_0), (bif (Nat.beq (Int.toNat (List.getD v12 (Int.toNat v14) 0)) (0 + 1)) then true else v7_1), (bif (Nat.beq (Int.toNat (List.getD v12 (Int.toNat v14) 0)) ((0 + 1) + 1)) then true else v7_2), (bif (Nat.beq (Int.toNat (List.getD v12 (Int.toNat v14) 0)) (((0 + 1) + 1) + 1)) then true else v7_3), ()), v12, v13, (IntKind.wrap .i64 (v14 + 1)), ()))
   else
    none
  else
   none
 else
  some (Sum.inr (v2, (v3_0, v3_1, v3_2, v3_3, ()), (v6_0, v6_1, v6_2, v6_3, ()), (v7_0, v7_1, v7_2, v7_3, ()), ()))
theorem loop63_3 {L} (h : L 3 = some ⟨56, sh63_3, xs63_3, spec_l3Reach_l3⟩) : LoopOk prog L (loopOf f63 3) := lo (L' := L0) (by kernel_rfl) E0_ok allNil h
def L63_1 : Nat → Option LoopD := fun n => ifEq n 3 (some ⟨56, sh63_3, xs63_3, spec_l3Reach_l3⟩) (L0 n)
def sh63_10 : List Fm := d :: d :: .cell (.val .bool) :: .box 100300 [.val i6, .val sI, .val sI, .val sS] :: d :: d :: .box 100600 [.val .bool, .val .bool, .val .bool, .val .bool] :: .box 100700 [.val .bool, .val .bool, .val .bool, .val .bool] :: D 14 (.cell (.val i6) :: .cell (.val i6) :: d :: d :: .cell (.val sS) :: .cell (.val i6) :: .cell (.val i6) :: D 27 [])
def xs63_10 : List (Ex × List Fm) := [(.exit 4, [d, d, .cell (.val .bool), .box 100300 [.val i6, .val sI, .val sI, .val sS], d, d, .box 100600 [.val .bool, .val .bool, .val .bool, .val .bool], .box 100700 [.val .bool, .val .bool, .val .bool, .val .bool], d, d, d, d, d, d, d, d, d, d, d, d, d, d, .cell (.val i6), .cell (.val i6), d, d, d, d, d, d, d, d, d, d, d, d, d, d, d, d, d, d, d, d, d, d, d, d, d, d, d, d, d, d, d, d])]
def spec_l3Reach_l10 : (Bool × (Int × LI × LI × LS × Unit) × (Bool × Bool × Bool × Bool × Unit) × (Bool × Bool × Bool × Bool × Unit) × Int × Int × LS × Int × Int × Unit) → Option ((Bool × (Int × LI × LI × LS × Unit) × (Bool × Bool × Bool × Bool × Unit) × (Bool × Bool × Bool × Bool × Unit) × Int × Int × LS × Int × Int × Unit) ⊕ ((Bool × (Int × LI × LI × LS × Unit) × (Bool × Bool × Bool × Bool × Unit) × (Bool × Bool × Bool × Bool × Unit) × Int × Int × Unit))) := fun (v2, (v3_0, v3_1, v3_2, v3_3, _), (v6_0, v6_1, v6_2, v6_3, _), (v7_0, v7_1, v7_2, v7_3, _), v22, v23, v26, v27, v28, _) =>
 bif (decide (v28 < v27)) then
  if (((0 : Int) ≤ v28) ∧ (v28 < (((List.length v26) : Nat) : Int))) then
   bif v2 then
    if (((0 : Int) ≤ (List.getD v26 (Int.toNat v28) ((0 : Int), ⟨Array.empty⟩, 0, 0)).2.2.1) ∧ ((List.getD v26 (Int.toNat v28) ((0 : Int), ⟨Array.empty⟩, 0, 0)).2.2.1 < ((4 : Nat) : Int))) then
     bif (List.getD [v7_0, v7_1, v7_2, v7_3] (Int.toNat (List.getD v26 (Int.toNat v28) ((0 : Int), ⟨Array.empty⟩, 0, 0)).2.2.1) false) then
      if (((0 : Int) ≤ (List.getD v26 (Int.toNat v28) ((0 : Int), ⟨Array.empty⟩, 0, 0)).1) ∧ ((List.getD v26 (Int.toNat v28) ((0 : Int), ⟨Array.empty⟩, 0, 0)).1 < ((4 : Nat) : Int))) then
       bif (!v2) then
        if (((0 : Int) ≤ (List.getD v26 (Int.toNat v28) ((0 : Int), ⟨Array.empty⟩, 0, 0)).1) ∧ ((List.getD v26 (Int.toNat v28) ((0 : Int), ⟨Array.empty⟩, 0, 0)).1 < ((4 : Nat) : Int))) then
         bif (List.getD [(bif (Nat.beq (Int.toNat (List.getD v26 (Int.toNat v28) ((0 : Int), (⟨Array.empty⟩ : ByteArray), (0 : Int), (0 : Int))).1) 0) then true else v7_0), (bif (Nat.beq (Int.toNat (List.getD v26 (Int.toNat v28) ((0 : Int), (⟨Array.empty⟩ : ByteArray), (0 : Int), (0 : Int))).1) (0 + 1)) then true else v7_1), (bif (Nat.beq (Int.toNat (List.getD v26 (Int.toNat v28) ((0 : Int), (⟨Array.empty⟩ : ByteArray), (0 : Int), (0 : Int))).1) ((0 + 1) + 1)) then true else v7_2), (bif (Nat.beq (Int.toNat (List.getD v26 (Int.toNat v28) ((0 : Int), (⟨Array.empty⟩ : ByteArray), (0 : Int), (0 : Int))).1) (((0 + 1) + 1) + 1)) then true else v7_3)] (Int.toNat (List.getD v26 (Int.toNat v28) ((0 : Int), ⟨Array.empty⟩, 0, 0)).1) false) then
          if (((0 : Int) ≤ (List.getD v26 (Int.toNat v28) ((0 : Int), ⟨Array.empty⟩, 0, 0)).2.2.1) ∧ ((List.getD v26 (Int.toNat v28) ((0 : Int), ⟨Array.empty⟩, 0, 0)).2.2.1 < ((4 : Nat) : Int))) then
           some (Sum.inl (v2, (v3_0, v3_1, v3_2, v3_3, ()), (v6_0, v6_1, v6_2, v6_3, ()), ((bif (Nat.beq (Int.toNat (List.getD v26 (Int.toNat v28) ((0 : Int), ⟨Array.empty⟩, 0, 0)).2.2.1) 0) then true else (bif (Nat.beq (Int.toNat (List.getD v26 (Int.toNat v28) ((0 : Int), ⟨Array.empty⟩, 0, 0)).1) 0) then true else v7_0)), (bif (Nat.beq (Int.toNat (List.getD v26 (Int.toNat v28) ((0 : Int), ⟨Array.empty⟩, 0, 0)).2.2.1) (0 + 1)) then true else (bif (Nat.beq (Int.toNat (List.getD v26 (Int.toNat v28) ((0 : Int), ⟨Array.empty⟩, 0, 0)).1) (0 + 1)) then true else v7_1)), (bif (Nat.beq (Int.toNat (List.getD v26 (Int.toNat v28) ((0 : Int), ⟨Array.empty⟩, 0, 0)).2.2.1) ((0 + 1) + 1)) then true else (bif (Nat.beq (Int.toNat (List.getD v26 (Int.toNat v28) ((0 : Int), ⟨Array.empty⟩, 0, 0)).1) ((0 + 1) + 1)) then true else v7_2)), (bif (Nat.beq (Int.toNat (List.getD v26 (Int.toNat v28) ((0 : Int), ⟨Array.empty⟩, 0, 0)).2.2.1) (((0 + 1) + 1) + 1)) then true else (bif (Nat.beq (Int.toNat (List.getD v26 (Int.toNat v28) ((0 : Int), ⟨Array.empty⟩, 0, 0)).1) (((0 + 1) + 1) + 1)) then true else v7_3)), ()), v22, v23, v26, v27, (IntKind.wrap .i64 (v28 + 1)), ()))
          else
           none
         else
          some (Sum.inl (v2, (v3_0, v3_1, v3_2, v3_3, ()), (v6_0, v6_1, v6_2, v6_3, ()), ((bif (Nat.beq (Int.toNat (List.getD v26 (Int.toNat v28) ((0 : Int), ⟨Array.empty⟩, 0, 0)).1) 0) then true else v7_0), (bif (Nat.beq (Int.toNat (List.getD v26 (Int.toNat v28) ((0 : Int), ⟨Array.empty⟩, 0, 0)).1) (0 + 1)) then true else v7_1), (bif (Nat.beq (Int.toNat (List.getD v26 (Int.toNat v28) ((0 : Int), ⟨Array.empty⟩, 0, 0)).1) ((0 + 1) + 1)) then true else v7_2), (bif (Nat.beq (Int.toNat (List.getD v26 (Int.toNat v28) ((0 : Int), ⟨Array.empty⟩, 0, 0)).1) (((0 + 1) + 1) + 1)) then true else v7_3), ()), v22, v23, v26, v27, (IntKind.wrap .i64 (v28 + 1)), ()))
        else
         none
       else
        some (Sum.inl (v2, (v3_0, v3_1, v3_2, v3_3, ()), (v6_0, v6_1, v6_2, v6_3, ()), ((bif (Nat.beq (Int.toNat (List.getD v26 (Int.toNat v28) ((0 : Int), ⟨Array.empty⟩, 0, 0)).1) 0) then true else v7_0), (bif (Nat.beq (Int.toNat (List.getD v26 (Int.toNat v28) ((0 : Int), ⟨Array.empty⟩, 0, 0)).1) (0 + 1)) then true else v7_1), (bif (Nat.beq (Int.toNat (List.getD v26 (Int.toNat v28) ((0 : Int), ⟨Array.empty⟩, 0, 0)).1) ((0 + 1) + 1)) then true else v7_2), (bif (Nat.beq (Int.toNat (List.getD v26 (Int.toNat v28) ((0 : Int), ⟨Array.empty⟩, 0, 0)).1) (((0 + 1) + 1) + 1)) then true else v7_3), ()), v22, v23, v26, v27, (IntKind.wrap .i64 (v28 + 1)), ()))
      else
       none
     else
      bif (!v2) then
       if (((0 : Int) ≤ (List.getD v26 (Int.toNat v28) ((0 : Int), ⟨Array.empty⟩, 0, 0)).1) ∧ ((List.getD v26 (Int.toNat v28) ((0 : Int), ⟨Array.empty⟩, 0, 0)).1 < ((4 : Nat) : Int))) then
        bif (List.getD [v7_0, v7_1, v7_2, v7_3] (Int.toNat (List.getD v26 (Int.toNat v28) ((0 : Int), ⟨Array.empty⟩, 0, 0)).1) false) then
         if (((0 : Int) ≤ (List.getD v26 (Int.toNat v28) ((0 : Int), ⟨Array.empty⟩, 0, 0)).2.2.1) ∧ ((List.getD v26 (Int.toNat v28) ((0 : Int), ⟨Array.empty⟩, 0, 0)).2.2.1 < ((4 : Nat) : Int))) then
          some (Sum.inl (v2, (v3_0, v3_1, v3_2, v3_3, ()), (v6_0, v6_1, v6_2, v6_3, ()), ((bif (Nat.beq (Int.toNat (List.getD v26 (Int.toNat v28) ((0 : Int), ⟨Array.empty⟩, 0, 0)).2.2.1) 0) then true else v7_0), (bif (Nat.beq (Int.toNat (List.getD v26 (Int.toNat v28) ((0 : Int), ⟨Array.empty⟩, 0, 0)).2.2.1) (0 + 1)) then true else v7_1), (bif (Nat.beq (Int.toNat (List.getD v26 (Int.toNat v28) ((0 : Int), ⟨Array.empty⟩, 0, 0)).2.2.1) ((0 + 1) + 1)) then true else v7_2), (bif (Nat.beq (Int.toNat (List.getD v26 (Int.toNat v28) ((0 : Int), ⟨Array.empty⟩, 0, 0)).2.2.1) (((0 + 1) + 1) + 1)) then true else v7_3), ()), v22, v23, v26, v27, (IntKind.wrap .i64 (v28 + 1)), ()))
         else
          none
        else
         some (Sum.inl (v2, (v3_0, v3_1, v3_2, v3_3, ()), (v6_0, v6_1, v6_2, v6_3, ()), (v7_0, v7_1, v7_2, v7_3, ()), v22, v23, v26, v27, (IntKind.wrap .i64 (v28 + 1)), ()))
       else
        none
      else
       some (Sum.inl (v2, (v3_0, v3_1, v3_2, v3_3, ()), (v6_0, v6_1, v6_2, v6_3, ()), (v7_0, v7_1, v7_2, v7_3, ()), v22, v23, v26, v27, (IntKind.wrap .i64 (v28 + 1)), ()))
    else
     none
   else
    bif (!v2) then
     if (((0 : Int) ≤ (List.getD v26 (Int.toNat v28) ((0 : Int), ⟨Array.empty⟩, 0, 0)).1) ∧ ((List.getD v26 (Int.toNat v28) ((0 : Int), ⟨Array.empty⟩, 0, 0)).1 < ((4 : Nat) : Int))) then
      bif (List.getD [v7_0, v7_1, v7_2, v7_3] (Int.toNat (List.getD v26 (Int.toNat v28) ((0 : Int), ⟨Array.empty⟩, 0, 0)).1) false) then
       if (((0 : Int) ≤ (List.getD v26 (Int.toNat v28) ((0 : Int), ⟨Array.empty⟩, 0, 0)).2.2.1) ∧ ((List.getD v26 (Int.toNat v28) ((0 : Int), ⟨Array.empty⟩, 0, 0)).2.2.1 < ((4 : Nat) : Int))) then
        some (Sum.inl (v2, (v3_0, v3_1, v3_2, v3_3, ()), (v6_0, v6_1, v6_2, v6_3, ()), ((bif (Nat.beq (Int.toNat (List.getD v26 (Int.toNat v28) ((0 : Int), ⟨Array.empty⟩, 0, 0)).2.2.1) 0) then true else v7_0), (bif (Nat.beq (Int.toNat (List.getD v26 (Int.toNat v28) ((0 : Int), ⟨Array.empty⟩, 0, 0)).2.2.1) (0 + 1)) then true else v7_1), (bif (Nat.beq (Int.toNat (List.getD v26 (Int.toNat v28) ((0 : Int), ⟨Array.empty⟩, 0, 0)).2.2.1) ((0 + 1) + 1)) then true else v7_2), (bif (Nat.beq (Int.toNat (List.getD v26 (Int.toNat v28) ((0 : Int), ⟨Array.empty⟩, 0, 0)).2.2.1) (((0 + 1) + 1) + 1)) then true else v7_3), ()), v22, v23, v26, v27, (IntKind.wrap .i64 (v28 + 1)), ()))
       else
        none
      else
       some (Sum.inl (v2, (v3_0, v3_1, v3_2, v3_3, ()), (v6_0, v6_1, v6_2, v6_3, ()), (v7_0, v7_1, v7_2, v7_3, ()), v22, v23, v26, v27, (IntKind.wrap .i64 (v28 + 1)), ()))
     else
      none
    else
     some (Sum.inl (v2, (v3_0, v3_1, v3_2, v3_3, ()), (v6_0, v6_1, v6_2, v6_3, ()), (v7_0, v7_1, v7_2, v7_3, ()), v22, v23, v26, v27, (IntKind.wrap .i64 (v28 + 1)), ()))
  else
   none
 else
  some (Sum.inr (v2, (v3_0, v3_1, v3_2, v3_3, ()), (v6_0, v6_1, v6_2, v6_3, ()), (v7_0, v7_1, v7_2, v7_3, ()), v22, v23, ()))
theorem loop63_10 {L} (h : L 10 = some ⟨56, sh63_10, xs63_10, spec_l3Reach_l10⟩) : LoopOk prog L (loopOf f63 10) := lo (L' := L63_1) (by kernel_rfl) E0_ok allNil h
def L63_2 : Nat → Option LoopD := fun n => ifEq n 10 (some ⟨56, sh63_10, xs63_10, spec_l3Reach_l10⟩) (L63_1 n)
def sh63_8 : List Fm := d :: d :: .cell (.val .bool) :: .box 100300 [.val i6, .val sI, .val sI, .val sS] :: d :: d :: .box 100600 [.val .bool, .val .bool, .val .bool, .val .bool] :: .box 100700 [.val .bool, .val .bool, .val .bool, .val .bool] :: D 14 (.cell (.val i6) :: .cell (.val i6) :: D 32 [])
def xs63_8 : List (Ex × List Fm) := [(.exit 2, [d, d, d, d, d, d, .box 100600 [.val .bool, .val .bool, .val .bool, .val .bool], .box 100700 [.val .bool, .val .bool, .val .bool, .val .bool], d, d, d, d, d, d, d, d, d, d, d, d, d, d, d, d, d, d, d, d, d, d, d, d, d, d, d, d, d, d, d, d, d, d, d, d, d, d, d, d, d, d, d, d, d, d, d, d])]
def spec_l3Reach_l8 : (Bool × (Int × LI × LI × LS × Unit) × (Bool × Bool × Bool × Bool × Unit) × (Bool × Bool × Bool × Bool × Unit) × Int × Int × Unit) → Option ((Bool × (Int × LI × LI × LS × Unit) × (Bool × Bool × Bool × Bool × Unit) × (Bool × Bool × Bool × Bool × Unit) × Int × Int × Unit) ⊕ (((Bool × Bool × Bool × Bool × Unit) × (Bool × Bool × Bool × Bool × Unit) × Unit))) := fun (v2, (v3_0, v3_1, v3_2, v3_3, _), (v6_0, v6_1, v6_2, v6_3, _), (v7_0, v7_1, v7_2, v7_3, _), v22, v23, _) =>
 bif (decide (v23 < v22)) then
  Option.bind (loopF spec_l3Reach_l10 (v2, (v3_0, v3_1, v3_2, v3_3, ()), (v6_0, v6_1, v6_2, v6_3, ()), (v7_0, v7_1, v7_2, v7_3, ()), v22, v23, v3_3, (((List.length v3_3) : Nat) : Int), 0, ())) fun (r0, (r1, r2, r3, r4, _), (r5, r6, r7, r8, _), (r9, r10, r11, r12, _), r13, r14, _) =>
   some (Sum.inl (r0, (r1, r2, r3, r4, ()), (r5, r6, r7, r8, ()), (r9, r10, r11, r12, ()), r13, (IntKind.wrap .i64 (r14 + 1)), ()))
 else
  some (Sum.inr ((v6_0, v6_1, v6_2, v6_3, ()), (v7_0, v7_1, v7_2, v7_3, ()), ()))
theorem loop63_8 {L} (h : L 8 = some ⟨56, sh63_8, xs63_8, spec_l3Reach_l8⟩) : LoopOk prog L (loopOf f63 8) := lo (L' := L63_2) (by kernel_rfl) E0_ok (allCons (loop63_10 rfl) allNil) h
def L63_3 : Nat → Option LoopD := fun n => ifEq n 8 (some ⟨56, sh63_8, xs63_8, spec_l3Reach_l8⟩) (L63_2 n)
def spec_l3Reach : TA → LI → Bool → Option ((Bool × (Bool × (Bool × Bool)))) := fun (a0_0, a0_1, a0_2, a0_3) a1 a2 =>
 Option.bind (loopF spec_l3Reach_l3 (a2, (a0_0, a0_1, a0_2, a0_3, ()), (false, false, false, false, ()), (false, false, false, false, ()), a1, (((List.length a1) : Nat) : Int), 0, ())) fun (r0, (r1, r2, r3, r4, _), (r5, r6, r7, r8, _), (r9, r10, r11, r12, _), _) =>
  Option.bind (loopF spec_l3Reach_l8 (r0, (r1, r2, r3, r4, ()), (r5, r6, r7, r8, ()), (r9, r10, r11, r12, ()), r1, 0, ())) fun ((r13, r14, r15, r16, _), (r17, r18, r19, r20, _), _) =>
   some (r17, r18, r19, r20)
def A63 : FnA := ⟨[.v kA, .v sI, .v .bool], true, [.pair .bool (.pair .bool (.pair .bool .bool))], fun x => spec_l3Reach x.1 x.2.1 x.2.2.1⟩
theorem A63_ok : FnOk prog 63 A63 := fo (L := L63_3) (by kernel_rfl) func63 E0_ok (allCons (loop63_3 rfl) (allCons (loop63_8 rfl) allNil))
def E43 : Env := ev fun g => ifEq g 30 (some A30) (ifEq g 63 (some A63) (none))
theorem E43_ok : FnsOk prog E43 := (oF A30_ok func30 (oF A63_ok func63 (noFns _ _)))
def sh43_6 : List Fm := d :: d :: d :: .cell (.own i6 100300 false) :: .box 100400 [.val .bool, .val .bool, .val .bool, .val .bool] :: .box 100500 [.val .bool, .val .bool, .val .bool, .val .bool] :: D 15 (.cell (.val i6) :: .cell (.val i6) :: D 16 [])
def xs43_6 : List (Ex × List Fm) := [(.exit 0, (d :: d :: d :: .cell (.own i6 100300 false) :: D 35 []))]
def spec_UsefulOf_l6 : (LI × (Bool × Bool × Bool × Bool × Unit) × (Bool × Bool × Bool × Bool × Unit) × Int × Int × Unit) → Option ((LI × (Bool × Bool × Bool × Bool × Unit) × (Bool × Bool × Bool × Bool × Unit) × Int × Int × Unit) ⊕ ((LI × Unit))) := fun (v3, (v4_0, v4_1, v4_2, v4_3, _), (v5_0, v5_1, v5_2, v5_3, _), v21, v22, _) =>
 bif (decide (v22 < v21)) then
  if (((0 : Int) ≤ v22) ∧ (v22 < ((4 : Nat) : Int))) then
   bif (List.getD [v4_0, v4_1, v4_2, v4_3] (Int.toNat v22) false) then
    if (((0 : Int) ≤ v22) ∧ (v22 < ((4 : Nat) : Int))) then
     bif (List.getD [v5_0, v5_1, v5_2, v5_3] (Int.toNat v22) false) then
      if (((0 + (List.length v3)) = (List.length v3)) ∧ ((((List.length v3) + (List.length (List.take 1 (List.drop 0 [v22])))) * 8) ≤ 140737488355328)) then
       some (Sum.inl ((List.take ((List.length v3) + (List.length (List.take 1 (List.drop 0 [v22])))) (List.drop 0 ((List.drop 0 v3) ++ (List.take 1 (List.drop 0 [v22]))))), (v4_0, v4_1, v4_2, v4_3, ()), (v5_0, v5_1, v5_2, v5_3, ()), v21, (IntKind.wrap .i64 (v22 + 1)), ()))
      else
       none
     else
      some (Sum.inl ((List.take (List.length v3) (List.drop 0 v3)), (v4_0, v4_1, v4_2, v4_3, ()), (v5_0, v5_1, v5_2, v5_3, ()), v21, (IntKind.wrap .i64 (v22 + 1)), ()))
    else
     none
   else
    some (Sum.inl ((List.take (List.length v3) (List.drop 0 v3)), (v4_0, v4_1, v4_2, v4_3, ()), (v5_0, v5_1, v5_2, v5_3, ()), v21, (IntKind.wrap .i64 (v22 + 1)), ()))
  else
   none
 else
  some (Sum.inr ((List.take (List.length v3) (List.drop 0 v3)), ()))
theorem loop43_6 {L} (h : L 6 = some ⟨39, sh43_6, xs43_6, spec_UsefulOf_l6⟩) : LoopOk prog L (loopOf f43 6) := lo (L' := L0) (by kernel_rfl) E43_ok allNil h
def L43_1 : Nat → Option LoopD := fun n => ifEq n 6 (some ⟨39, sh43_6, xs43_6, spec_UsefulOf_l6⟩) (L0 n)
def spec_UsefulOf : TA → Option (LI) := fun (a0_0, a0_1, a0_2, a0_3) =>
 Option.bind (spec_AutomatonValid (a0_0, a0_1, a0_2, a0_3)) fun r0 =>
  bif (!r0) then
   some (List.take 0 (List.drop 0 []))
  else
   Option.bind (spec_l3Reach (a0_0, a0_1, a0_2, a0_3) a0_1 false) fun (r1, r2, r3, r4) =>
    Option.bind (spec_l3Reach (a0_0, a0_1, a0_2, a0_3) a0_2 true) fun (r5, r6, r7, r8) =>
     Option.bind (loopF spec_UsefulOf_l6 ((List.take 0 (List.drop 0 [])), (r1, r2, r3, r4, ()), (r5, r6, r7, r8, ()), a0_0, 0, ())) fun (r9, _) =>
      some (List.take (List.length r9) (List.drop 0 r9))
def A43 : FnA := ⟨[.v kA], true, [.sl i6], fun x => spec_UsefulOf x.1⟩
theorem A43_ok : FnOk prog 43 A43 := fo (L := L43_1) (by kernel_rfl) func43 E43_ok (allCons (loop43_6 rfl) allNil)
def sh44_2 : List Fm := d :: .cell (.val i6) :: D 5 (.cell (.val sI) :: .cell (.val i6) :: .cell (.val i6) :: D 7 [])
def xs44_2 : List (Ex × List Fm) := [(.ret, (D 4 (.cell (.val .bool) :: D 12 []))), (.exit 0, (D 17 []))]
def spec_l4In_l2 : (Int × LI × Int × Int × Unit) → Option ((Int × LI × Int × Int × Unit) ⊕ ((Bool × Unit) ⊕ (Unit))) := fun (v1, v7, v8, v9, _) =>
 bif (decide (v9 < v8)) then
  if (((0 : Int) ≤ v9) ∧ (v9 < (((List.length v7) : Nat) : Int))) then
   bif ((List.getD v7 (Int.toNat v9) 0) == v1) then
    some (Sum.inr (Sum.inl (true, ())))
   else
    some (Sum.inl (v1, v7, v8, (IntKind.wrap .i64 (v9 + 1)), ()))
  else
   none
 else
  some (Sum.inr (Sum.inr ()))
theorem loop44_2 {L} (h : L 2 = some ⟨17, sh44_2, xs44_2, spec_l4In_l2⟩) : LoopOk prog L (loopOf f44 2) := lo (L' := L0) (by kernel_rfl) E0_ok allNil h
def L44_1 : Nat → Option LoopD := fun n => ifEq n 2 (some ⟨17, sh44_2, xs44_2, spec_l4In_l2⟩) (L0 n)
def spec_l4In : LI → Int → Option (Bool) := fun a0 a1 =>
 Option.bind (loopF spec_l4In_l2 (a1, a0, (((List.length a0) : Nat) : Int), 0, ())) fun r0 =>
  (match r0 with
  | .inl (d1, _) =>
    some d1
  | .inr _ =>
    some false)
def A44 : FnA := ⟨[.v sI, .v i6], true, [.bool], fun x => spec_l4In x.1 x.2.1⟩
theorem A44_ok : FnOk prog 44 A44 := fo (L := L44_1) (by kernel_rfl) func44 E0_ok (allCons (loop44_2 rfl) allNil)
def E24 : Env := ev fun g => ifEq g 43 (some A43) (ifEq g 44 (some A44) (none))
theorem E24_ok : FnsOk prog E24 := (oF A43_ok func43 (oF A44_ok func44 (noFns _ _)))
def sh24_6 : List Fm := d :: .box 100100 [.val i6, .val sI, .val sI, .val sS] :: .box 100200 [.val i6, .own i6 100202 false, .own i6 100203 false, .own kS 100204 false] :: d :: .cell (.val sI) :: .box 100500 [.val i6, .val i6, .val i6, .val i6] :: D 13 (.cell (.val sI) :: .cell (.val i6) :: .cell (.val i6) :: D 82 [])
def xs24_6 : List (Ex × List Fm) := [(.exit 0, [d, .box 100100 [.val i6, .val sI, .val sI, .val sS], .box 100200 [.val i6, .own i6 100202 false, .own i6 100203 false, .own kS 100204 false], d, .cell (.val sI), .box 100500 [.val i6, .val i6, .val i6, .val i6], d, d, d, d, d, d, d, d, d, d, d, d, d, d, d, d, d, d, d, d, d, d, d, d, d, d, d, d, d, d, d, d, d, d, d, d, d, d, d, d, d, d, d, d, d, d, d, d, d, d, d, d, d, d, d, d, d, d, d, d, d, d, d, d, d, d, d, d, d, d, d, d, d, d, d, d, d, d, d, d, d, d, d, d, d, d, d, d, d, d, d, d, d, d, d, d, d, d])]
def spec_TrimAutomaton_l6 : ((Int × LI × LI × LS × Unit) × (Int × LI × LI × LS × Unit) × LI × (Int × Int × Int × Int × Unit) × LI × Int × Int × Unit) → Option (((Int × LI × LI × LS × Unit) × (Int × LI × LI × LS × Unit) × LI × (Int × Int × Int × Int × Unit) × LI × Int × Int × Unit) ⊕ (((Int × LI × LI × LS × Unit) × (Int × LI × LI × LS × Unit) × LI × (Int × Int × Int × Int × Unit) × Unit))) := fun ((v1_0, v1_1, v1_2, v1_3, _), (v2_0, v2_1, v2_2, v2_3, _), v4, (v5_0, v5_1, v5_2, v5_3, _), v19, v20, v21, _) =>
 bif (decide (v21 < v20)) then
  if (((0 : Int) ≤ v21) ∧ (v21 < (((List.length v19) : Nat) : Int))) then
   if (((0 : Int) ≤ (List.getD v19 (Int.toNat v21) 0)) ∧ ((List.getD v19 (Int.toNat v21) 0) < ((4 : Nat) : Int))) then
    some (Sum.inl ((v1_0, v1_1, v1_2, v1_3, ()), (v2_0, (List.take (List.length v2_1) (List.drop 0 v2_1)), (List.take (List.length v2_2) (List.drop 0 v2_2)), (List.take (List.length v2_3) (List.drop 0 v2_3)), ()), v4, ((bif (Nat.beq (Int.toNat (List.getD v19 (Int.toNat v21) 0)) 0) then v21 else v5_0), (bif (Nat.beq (Int.toNat (List.getD v19 (Int.toNat v21) 0)) (0 + 1)) then v21 else v5_1), (bif (Nat.beq (Int.toNat (List.getD v19 (Int.toNat v21) 0)) ((0 + 1) + 1)) then v21 else v5_2), (bif (Nat.beq (Int.toNat (List.getD v19 (Int.toNat v21) 0)) (((0 + 1) + 1) + 1)) then v21 else v5_3), ()), v19, v20, (IntKind.wrap .i64 (v21 + 1)), ()))
   else
    none
  else
   none
 else
  some (Sum.inr ((v1_0, v1_1, v1_2, v1_3, ()), (v2_0, (List.take (List.length v2_1) (List.drop 0 v2_1)), (List.take (List.length v2_2) (List.drop 0 v2_2)), (List.take (List.length v2_3) (List.drop 0 v2_3)), ()), v4, (v5_0, v5_1, v5_2, v5_3, ()), ()))
theorem loop24_6 {L} (h : L 6 = some ⟨104, sh24_6, xs24_6, spec_TrimAutomaton_l6⟩) : LoopOk prog L (loopOf f24 6) := lo (L' := L0) (by kernel_rfl) E24_ok allNil h
def L24_1 : Nat → Option LoopD := fun n => ifEq n 6 (some ⟨104, sh24_6, xs24_6, spec_TrimAutomaton_l6⟩) (L0 n)
def sh24_12 : List Fm := d :: .box 100100 [.val i6, .val sI, .val sI, .val sS] :: .box 100200 [.val i6, .own i6 100202 false, .own i6 100203 false, .own kS 100204 false] :: d :: .cell (.val sI) :: .box 100500 [.val i6, .val i6, .val i6, .val i6] :: d :: d :: .box 100800 [.val i6, .own i6 100802 false, .own i6 100803 false, .own kS 100804 false] :: D 27 (.cell (.val sI) :: .cell (.val i6) :: .cell (.val i6) :: D 65 [])
def xs24_12 : List (Ex × List Fm) := [(.exit 2, [d, .box 100100 [.val i6, .val sI, .val sI, .val sS], .box 100200 [.val i6, .own i6 100202 false, .own i6 100203 false, .own kS 100204 false], d, .cell (.val sI), .box 100500 [.val i6, .val i6, .val i6, .val i6], d, d, .box 100800 [.val i6, .own i6 100802 false, .own i6 100803 false, .own kS 100804 false], d, d, d, d, d, d, d, d, d, d, d, d, d, d, d, d, d, d, d, d, d, d, d, d, d, d, d, d, d, d, d, d, d, d, d, d, d, d, d, d, d, d, d, d, d, d, d, d, d, d, d, d, d, d, d, d, d, d, d, d, d, d, d, d, d, d, d, d, d, d, d, d, d, d, d, d, d, d, d, d, d, d, d, d, d, d, d, d, d, d, d, d, d, d, d])]
def spec_TrimAutomaton_l12 : ((Int × LI × LI × LS × Unit) × (Int × LI × LI × LS × Unit) × LI × (Int × Int × Int × Int × Unit) × (Int × LI × LI × LS × Unit) × LI × Int × Int × Unit) → Option (((Int × LI × LI × LS × Unit) × (Int × LI × LI × LS × Unit) × LI × (Int × Int × Int × Int × Unit) × (Int × LI × LI × LS × Unit) × LI × Int × Int × Unit) ⊕ (((Int × LI × LI × LS × Unit) × (Int × LI × LI × LS × Unit) × LI × (Int × Int × Int × Int × Unit) × (Int × LI × LI × LS × Unit) × Unit))) := fun ((v1_0, v1_1, v1_2, v1_3, _), (v2_0, v2_1, v2_2, v2_3, _), v4, (v5_0, v5_1, v5_2, v5_3, _), (v8_0, v8_1, v8_2, v8_3, _), v36, v37, v38, _) =>
 bif (decide (v38 < v37)) then
  if (((0 : Int) ≤ v38) ∧ (v38 < (((List.length v36) : Nat) : Int))) then
   Option.bind (spec_l4In v1_1 (List.getD v36 (Int.toNat v38) 0)) fun r0 =>
    bif r0 then
     if (((0 : Int) ≤ (List.getD v36 (Int.toNat v38) 0)) ∧ ((List.getD v36 (Int.toNat v38) 0) < ((4 : Nat) : Int))) then
      if (((0 + (List.length v8_1)) = (List.length v8_1)) ∧ ((((List.length v8_1) + (List.length (List.take 1 (List.drop 0 [(List.getD [v5_0, v5_1, v5_2, v5_3] (Int.toNat (List.getD v36 (Int.toNat v38) (0 : Int))) (0 : Int))])))) * 8) ≤ 140737488355328)) then
       Option.bind (spec_l4In v1_2 (List.getD v36 (Int.toNat v38) 0)) fun r1 =>
        bif r1 then
         if (((0 : Int) ≤ (List.getD v36 (Int.toNat v38) 0)) ∧ ((List.getD v36 (Int.toNat v38) 0) < ((4 : Nat) : Int))) then
          if (((0 + (List.length v8_2)) = (List.length v8_2)) ∧ ((((List.length v8_2) + (List.length (List.take 1 (List.drop 0 [(List.getD [v5_0, v5_1, v5_2, v5_3] (Int.toNat (List.getD v36 (Int.toNat v38) (0 : Int))) (0 : Int))])))) * 8) ≤ 140737488355328)) then
           some (Sum.inl ((v1_0, v1_1, v1_2, v1_3, ()), (v2_0, (List.take (List.length v2_1) (List.drop 0 v2_1)), (List.take (List.length v2_2) (List.drop 0 v2_2)), (List.take (List.length v2_3) (List.drop 0 v2_3)), ()), v4, (v5_0, v5_1, v5_2, v5_3, ()), (v8_0, (List.take ((List.length v8_1) + (List.length (List.take 1 (List.drop 0 [(List.getD [v5_0, v5_1, v5_2, v5_3] (Int.toNat (List.getD v36 (Int.toNat v38) (0 : Int))) (0 : Int))])))) (List.drop 0 ((List.drop 0 v8_1) ++ (List.take 1 (List.drop 0 [(List.getD [v5_0, v5_1, v5_2, v5_3] (Int.toNat (List.getD v36 (Int.toNat v38) (0 : Int))) (0 : Int))]))))), (List.take ((List.length v8_2) + (List.length (List.take 1 (List.drop 0 [(List.getD [v5_0, v5_1, v5_2, v5_3] (Int.toNat (List.getD v36 (Int.toNat v38) (0 : Int))) (0 : Int))])))) (List.drop 0 ((List.drop 0 v8_2) ++ (List.take 1 (List.drop 0 [(List.getD [v5_0, v5_1, v5_2, v5_3] (Int.toNat (List.getD v36 (Int.toNat v38) (0 : Int))) (0 : Int))]))))), (List.take (List.length v8_3) (List.drop 0 v8_3)), ()), v36, v37, (IntKind.wrap .i64 (v38 + 1)), ()))
          else
           none
         else
          none
        else
         some (Sum.inl ((v1_0, v1_1, v1_2, v1_3, ()), (v2_0, (List.take (List.length v2_1) (List.drop 0 v2_1)), (List.take (List.length v2_2) (List.drop 0 v2_2)), (List.take (List.length v2_3) (List.drop 0 v2_3)), ()), v4, (v5_0, v5_1, v5_2, v5_3, ()), (v8_0, (List.take ((List.length v8_1) + (List.length (List.take 1 (List.drop 0 [(List.getD [v5_0, v5_1, v5_2, v5_3] (Int.toNat (List.getD v36 (Int.toNat v38) (0 : Int))) (0 : Int))])))) (List.drop 0 ((List.drop 0 v8_1) ++ (List.take 1 (List.drop 0 [(List.getD [v5_0, v5_1, v5_2, v5_3] (Int.toNat (List.getD v36 (Int.toNat v38) (0 : Int))) (0 : Int))]))))), (List.take (List.length v8_2) (List.drop 0 v8_2)), (List.take (List.length v8_3) (List.drop 0 v8_3)), ()), v36, v37, (IntKind.wrap .i64 (v38 + 1)), ()))
      else
       none
     else
      none
    else
     Option.bind (spec_l4In v1_2 (List.getD v36 (Int.toNat v38) 0)) fun r2 =>
      bif r2 then
       if (((0 : Int) ≤ (List.getD v36 (Int.toNat v38) 0)) ∧ ((List.getD v36 (Int.toNat v38) 0) < ((4 : Nat) : Int))) then
        if (((0 + (List.length v8_2)) = (List.length v8_2)) ∧ ((((List.length v8_2) + (List.length (List.take 1 (List.drop 0 [(List.getD [v5_0, v5_1, v5_2, v5_3] (Int.toNat (List.getD v36 (Int.toNat v38) (0 : Int))) (0 : Int))])))) * 8) ≤ 140737488355328)) then
         some (Sum.inl ((v1_0, v1_1, v1_2, v1_3, ()), (v2_0, (List.take (List.length v2_1) (List.drop 0 v2_1)), (List.take (List.length v2_2) (List.drop 0 v2_2)), (List.take (List.length v2_3) (List.drop 0 v2_3)), ()), v4, (v5_0, v5_1, v5_2, v5_3, ()), (v8_0, (List.take (List.length v8_1) (List.drop 0 v8_1)), (List.take ((List.length v8_2) + (List.length (List.take 1 (List.drop 0 [(List.getD [v5_0, v5_1, v5_2, v5_3] (Int.toNat (List.getD v36 (Int.toNat v38) (0 : Int))) (0 : Int))])))) (List.drop 0 ((List.drop 0 v8_2) ++ (List.take 1 (List.drop 0 [(List.getD [v5_0, v5_1, v5_2, v5_3] (Int.toNat (List.getD v36 (Int.toNat v38) (0 : Int))) (0 : Int))]))))), (List.take (List.length v8_3) (List.drop 0 v8_3)), ()), v36, v37, (IntKind.wrap .i64 (v38 + 1)), ()))
        else
         none
       else
        none
      else
       some (Sum.inl ((v1_0, v1_1, v1_2, v1_3, ()), (v2_0, (List.take (List.length v2_1) (List.drop 0 v2_1)), (List.take (List.length v2_2) (List.drop 0 v2_2)), (List.take (List.length v2_3) (List.drop 0 v2_3)), ()), v4, (v5_0, v5_1, v5_2, v5_3, ()), (v8_0, (List.take (List.length v8_1) (List.drop 0 v8_1)), (List.take (List.length v8_2) (List.drop 0 v8_2)), (List.take (List.length v8_3) (List.drop 0 v8_3)), ()), v36, v37, (IntKind.wrap .i64 (v38 + 1)), ()))
  else
   none
 else
  some (Sum.inr ((v1_0, v1_1, v1_2, v1_3, ()), (v2_0, (List.take (List.length v2_1) (List.drop 0 v2_1)), (List.take (List.length v2_2) (List.drop 0 v2_2)), (List.take (List.length v2_3) (List.drop 0 v2_3)), ()), v4, (v5_0, v5_1, v5_2, v5_3, ()), (v8_0, (List.take (List.length v8_1) (List.drop 0 v8_1)), (List.take (List.length v8_2) (List.drop 0 v8_2)), (List.take (List.length v8_3) (List.drop 0 v8_3)), ()), ()))
theorem loop24_12 {L} (h : L 12 = some ⟨104, sh24_12, xs24_12, spec_TrimAutomaton_l12⟩) : LoopOk prog L (loopOf f24 12) := lo (L' := L24_1) (by kernel_rfl) E24_ok allNil h
def L24_2 : Nat → Option LoopD := fun n => ifEq n 12 (some ⟨104, sh24_12, xs24_12, spec_TrimAutomaton_l12⟩) (L24_1 n)
def sh24_20 : List Fm := d :: d :: .box 100200 [.val i6, .own i6 100202 false, .own i6 100203 false, .own kS 100204 false] :: d :: .cell (.val sI) :: .box 100500 [.val i6, .val i6, .val i6, .val i6] :: d :: d :: .box 100800 [.val i6, .own i6 100802 false, .own i6 100803 false, .own kS 100804 false] :: D 59 (.cell (.val sS) :: .cell (.val i6) :: .cell (.val i6) :: D 33 [])
def xs24_20 : List (Ex × List Fm) := [(.exit 4, [d, d, .box 100200 [.val i6, .own i6 100202 false, .own i6 100203 false, .own kS 100204 false], d, d, d, d, d, .box 100800 [.val i6, .own i6 100802 false, .own i6 100803 false, .own kS 100804 false], d, d, d, d, d, d, d, d, d, d, d, d, d, d, d, d, d, d, d, d, d, d, d, d, d, d, d, d, d, d, d, d, d, d, d, d, d, d, d, d, d, d, d, d, d, d, d, d, d, d, d, d, d, d, d, d, d, d, d, d, d, d, d, d, d, d, d, d, d, d, d, d, d, d, d, d, d, d, d, d, d, d, d, d, d, d, d, d, d, d, d, d, d, d, d])]
def spec_TrimAutomaton_l20 : ((Int × LI × LI × LS × Unit) × LI × (Int × Int × Int × Int × Unit) × (Int × LI × LI × LS × Unit) × LS × Int × Int × Unit) → Option (((Int × LI × LI × LS × Unit) × LI × (Int × Int × Int × Int × Unit) × (Int × LI × LI × LS × Unit) × LS × Int × Int × Unit) ⊕ (((Int × LI × LI × LS × Unit) × (Int × LI × LI × LS × Unit) × Unit))) := fun ((v2_0, v2_1, v2_2, v2_3, _), v4, (v5_0, v5_1, v5_2, v5_3, _), (v8_0, v8_1, v8_2, v8_3, _), v68, v69, v70, _) =>
 bif (decide (v70 < v69)) then
  if (((0 : Int) ≤ v70) ∧ (v70 < (((List.length v68) : Nat) : Int))) then
   Option.bind (spec_l4In v4 (List.getD v68 (Int.toNat v70) ((0 : Int), ⟨Array.empty⟩, 0, 0)).1) fun r0 =>
    bif r0 then
     Option.bind (spec_l4In v4 (List.getD v68 (Int.toNat v70) ((0 : Int), ⟨Array.empty⟩, 0, 0)).2.2.1) fun r1 =>
      bif r1 then
       if (((0 : Int) ≤ (List.getD v68 (Int.toNat v70) ((0 : Int), ⟨Array.empty⟩, 0, 0)).1) ∧ ((List.getD v68 (Int.toNat v70) ((0 : Int), ⟨Array.empty⟩, 0, 0)).1 < ((4 : Nat) : Int))) then
        if (((0 : Int) ≤ (List.getD v68 (Int.toNat v70) ((0 : Int), ⟨Array.empty⟩, 0, 0)).2.2.1) ∧ ((List.getD v68 (Int.toNat v70) ((0 : Int), ⟨Array.empty⟩, 0, 0)).2.2.1 < ((4 : Nat) : Int))) then
         if (((0 + (List.length v8_3)) = (List.length v8_3)) ∧ ((((List.length v8_3) + (List.length (List.take 1 (List.drop 0 [((List.getD [v5_0, v5_1, v5_2, v5_3] (Int.toNat (List.getD v68 (Int.toNat v70) ((0 : Int), (⟨Array.empty⟩ : ByteArray), (0 : Int), (0 : Int))).1) (0 : Int)), (List.getD v68 (Int.toNat v70) ((0 : Int), (⟨Array.empty⟩ : ByteArray), (0 : Int), (0 : Int))).2.1, (List.getD [v5_0, v5_1, v5_2, v5_3] (Int.toNat (List.getD v68 (Int.toNat v70) ((0 : Int), (⟨Array.empty⟩ : ByteArray), (0 : Int), (0 : Int))).2.2.1) (0 : Int)), (List.getD v68 (Int.toNat v70) ((0 : Int), (⟨Array.empty⟩ : ByteArray), (0 : Int), (0 : Int))).2.2.2)])))) * 40) ≤ 140737488355328)) then
          some (Sum.inl ((v2_0, (List.take (List.length v2_1) (List.drop 0 v2_1)), (List.take (List.length v2_2) (List.drop 0 v2_2)), (List.take (List.length v2_3) (List.drop 0 v2_3)), ()), v4, (v5_0, v5_1, v5_2, v5_3, ()), (v8_0, (List.take (List.length v8_1) (List.drop 0 v8_1)), (List.take (List.length v8_2) (List.drop 0 v8_2)), (List.take ((List.length v8_3) + (List.length (List.take 1 (List.drop 0 [((List.getD [v5_0, v5_1, v5_2, v5_3] (Int.toNat (List.getD v68 (Int.toNat v70) ((0 : Int), (⟨Array.empty⟩ : ByteArray), (0 : Int), (0 : Int))).1) (0 : Int)), (List.getD v68 (Int.toNat v70) ((0 : Int), (⟨Array.empty⟩ : ByteArray), (0 : Int), (0 : Int))).2.1, (List.getD [v5_0, v5_1, v5_2, v5_3] (Int.toNat (List.getD v68 (Int.toNat v70) ((0 : Int), (⟨Array.empty⟩ : ByteArray), (0 : Int), (0 : Int))).2.2.1) (0 : Int)), (List.getD v68 (Int.toNat v70) ((0 : Int), (⟨Array.empty⟩ : ByteArray), (0 : Int), (0 : Int))).2.2.2)])))) (List.drop 0 ((List.drop 0 v8_3) ++ (List.take 1 (List.drop 0 [((List.getD [v5_0, v5_1, v5_2, v5_3] (Int.toNat (List.getD v68 (Int.toNat v70) ((0 : Int), (⟨Array.empty⟩ : ByteArray), (0 : Int), (0 : Int))).1) (0 : Int)), (List.getD v68 (Int.toNat v70) ((0 : Int), (⟨Array.empty⟩ : ByteArray), (0 : Int), (0 : Int))).2.1, (List.getD [v5_0, v5_1, v5_2, v5_3] (Int.toNat (List.getD v68 (Int.toNat v70) ((0 : Int), (⟨Array.empty⟩ : ByteArray), (0 : Int), (0 : Int))).2.2.1) (0 : Int)), (List.getD v68 (Int.toNat v70) ((0 : Int), (⟨Array.empty⟩ : ByteArray), (0 : Int), (0 : Int))).2.2.2)]))))), ()), v68, v69, (IntKind.wrap .i64 (v70 + 1)), ()))
         else
          none
        else
         none
       else
        none
      else
       some (Sum.inl ((v2_0, (List.take (List.length v2_1) (List.drop 0 v2_1)), (List.take (List.length v2_2) (List.drop 0 v2_2)), (List.take (List.length v2_3) (List.drop 0 v2_3)), ()), v4, (v5_0, v5_1, v5_2, v5_3, ()), (v8_0, (List.take (List.length v8_1) (List.drop 0 v8_1)), (List.take (List.length v8_2) (List.drop 0 v8_2)), (List.take (List.length v8_3) (List.drop 0 v8_3)), ()), v68, v69, (IntKind.wrap .i64 (v70 + 1)), ()))
    else
     some (Sum.inl ((v2_0, (List.take (List.length v2_1) (List.drop 0 v2_1)), (List.take (List.length v2_2) (List.drop 0 v2_2)), (List.take (List.length v2_3) (List.drop 0 v2_3)), ()), v4, (v5_0, v5_1, v5_2, v5_3, ()), (v8_0, (List.take (List.length v8_1) (List.drop 0 v8_1)), (List.take (List.length v8_2) (List.drop 0 v8_2)), (List.take (List.length v8_3) (List.drop 0 v8_3)), ()), v68, v69, (IntKind.wrap .i64 (v70 + 1)), ()))
  else
   none
 else
  some (Sum.inr ((v2_0, (List.take (List.length v2_1) (List.drop 0 v2_1)), (List.take (List.length v2_2) (List.drop 0 v2_2)), (List.take (List.length v2_3) (List.drop 0 v2_3)), ()), (v8_0, (List.take (List.length v8_1) (List.drop 0 v8_1)), (List.take (List.length v8_2) (List.drop 0 v8_2)), (List.take (List.length v8_3) (List.drop 0 v8_3)), ()), ()))
theorem loop24_20 {L} (h : L 20 = some ⟨104, sh24_20, xs24_20, spec_TrimAutomaton_l20⟩) : LoopOk prog L (loopOf f24 20) := lo (L' := L24_2) (by kernel_rfl) E24_ok allNil h
def L24_3 : Nat → Option LoopD := fun n => ifEq n 20 (some ⟨104, sh24_20, xs24_20, spec_TrimAutomaton_l20⟩) (L24_2 n)
def spec_TrimAutomaton : TA → Option (TA × Bool) := fun (a0_0, a0_1, a0_2, a0_3) =>
 Option.bind (spec_UsefulOf (a0_0, a0_1, a0_2, a0_3)) fun r0 =>
  bif ((((List.length r0) : Nat) : Int) == 0) then
   some (((0 : Int), [], [], []), false)
  else
   Option.bind (loopF spec_TrimAutomaton_l6 ((a0_0, a0_1, a0_2, a0_3, ()), ((0 : Int), [], [], [], ()), (List.take (List.length r0) (List.drop 0 r0)), ((0 : Int), 0, 0, 0, ()), (List.take (List.length r0) (List.drop 0 r0)), (((List.length r0) : Nat) : Int), 0, ())) fun ((r1, r2, r3, r4, _), (r5, r6, r7, r8, _), r9, (r10, r11, r12, r13, _), _) =>
    Option.bind (loopF spec_TrimAutomaton_l12 ((r1, r2, r3, r4, ()), (r5, (List.take (List.length r6) (List.drop 0 r6)), (List.take (List.length r7) (List.drop 0 r7)), (List.take (List.length r8) (List.drop 0 r8)), ()), r9, (r10, r11, r12, r13, ()), ((((List.length r9) : Nat) : Int), (List.take 0 (List.drop 0 [])), (List.take 0 (List.drop 0 [])), (List.take 0 (List.drop 0 [])), ()), r9, (((List.length r9) : Nat) : Int), 0, ())) fun ((r14, r15, r16, r17, _), (r18, r19, r20, r21, _), r22, (r23, r24, r25, r26, _), (r27, r28, r29, r30, _), _) =>
     Option.bind (loopF spec_TrimAutomaton_l20 ((r18, (List.take (List.length r19) (List.drop 0 r19)), (List.take (List.length r20) (List.drop 0 r20)), (List.take (List.length r21) (List.drop 0 r21)), ()), r22, (r23, r24, r25, r26, ()), (r27, (List.take (List.length r28) (List.drop 0 r28)), (List.take (List.length r29) (List.drop 0 r29)), (List.take (List.length r30) (List.drop 0 r30)), ()), r17, (((List.length r17) : Nat) : Int), 0, ())) fun ((r31, r32, r33, r34, _), (r35, r36, r37, r38, _), _) =>
      some ((r35, (List.take (List.length r36) (List.drop 0 r36)), (List.take (List.length r37) (List.drop 0 r37)), (List.take (List.length r38) (List.drop 0 r38))), true)
def A24 : FnA := ⟨[.v kA], true, [.pair i6 (.pair sI (.pair sI sS)), .bool], fun x => spec_TrimAutomaton x.1⟩
theorem A24_ok : FnOk prog 24 A24 := fo (L := L24_3) (by kernel_rfl) func24 E24_ok (allCons (loop24_6 rfl) (allCons (loop24_12 rfl) (allCons (loop24_20 rfl) allNil)))
def spec_l13OwnAutomaton : TA → Option (TA) := fun (a0_0, a0_1, a0_2, a0_3) =>
 if (((0 + 0) = (List.length ([] : List Unit))) ∧ (((0 + (List.length a0_1)) * 8) ≤ 140737488355328)) then
  if (((0 + 0) = (List.length ([] : List Unit))) ∧ (((0 + (List.length a0_2)) * 8) ≤ 140737488355328)) then
   if (((0 + 0) = (List.length ([] : List Unit))) ∧ (((0 + (List.length a0_3)) * 40) ≤ 140737488355328)) then
    some (a0_0, (List.take (0 + (List.length a0_1)) (List.drop 0 ((List.drop 0 []) ++ a0_1))), (List.take (0 + (List.length a0_2)) (List.drop 0 ((List.drop 0 []) ++ a0_2))), (List.take (0 + (List.length a0_3)) (List.drop 0 ((List.drop 0 []) ++ a0_3))))
   else
    none
  else
   none
 else
  none
def A45 : FnA := ⟨[.v kA], true, [.pair i6 (.pair sI (.pair sI sS))], fun x => spec_l13OwnAutomaton x.1⟩
theorem A45_ok : FnOk prog 45 A45 := fo (L := L0) (by kernel_rfl) func45 E0_ok allNil
def E46 : Env := ev fun g => ifEq g 30 (some A30) (none)
theorem E46_ok : FnsOk prog E46 := (oF A30_ok func30 (noFns _ _))
def spec_l5Whole : TA → Option (TA × Bool) := fun (a0_0, a0_1, a0_2, a0_3) =>
 Option.bind (spec_AutomatonValid (a0_0, a0_1, a0_2, a0_3)) fun r0 =>
  bif (!r0) then
   some (((0 : Int), [], [], []), false)
  else
   some ((a0_0, a0_1, a0_2, a0_3), true)
def A46 : FnA := ⟨[.v kA], false, [.pair i6 (.pair sI (.pair sI sS)), .bool], fun x => spec_l5Whole x.1⟩
theorem A46_ok : FnOk prog 46 A46 := fo (L := L0) (by kernel_rfl) func46 E46_ok allNil
def E25 : Env := ev fun g => ifEq g 45 (some A45) (ifEq g 30 (some A30) (ifEq g 31 (some A31) (ifEq g 46 (some A46) (none))))
theorem E25_ok : FnsOk prog E25 := (oF A45_ok func45 (oF A30_ok func30 (oF A31_ok func31 (oF A46_ok func46 (noFns _ _)))))
def sh25_6 : List Fm := d :: .cell (.val i6) :: d :: d :: .box 100400 [.val i6, .own i6 100402 false, .own i6 100403 false, .own kS 100404 false] :: d :: .box 100600 [.val i6, .own i6 100602 false, .own i6 100603 false, .own kS 100604 false] :: D 22 (.cell (.own kS 102900 false) :: .cell (.val i6) :: .cell (.val i6) :: D 19 [])
def xs25_6 : List (Ex × List Fm) := [(.exit 0, [d, d, d, d, .box 100400 [.val i6, .own i6 100402 false, .own i6 100403 false, .own kS 100404 false], d, .box 100600 [.val i6, .own i6 100602 false, .own i6 100603 false, .own kS 100604 false], d, d, d, d, d, d, d, d, d, d, d, d, d, d, d, d, d, d, d, d, d, d, d, d, d, d, d, d, d, d, d, d, d, d, d, d, d, d, d, d, d, d, d, d])]
def spec_ScaleAutomaton_l6 : (Int × (Int × LI × LI × LS × Unit) × (Int × LI × LI × LS × Unit) × LS × Int × Int × Unit) → Option ((Int × (Int × LI × LI × LS × Unit) × (Int × LI × LI × LS × Unit) × LS × Int × Int × Unit) ⊕ (((Int × LI × LI × LS × Unit) × (Int × LI × LI × LS × Unit) × Unit))) := fun (v1, (v4_0, v4_1, v4_2, v4_3, _), (v6_0, v6_1, v6_2, v6_3, _), v29, v30, v31, _) =>
 bif (decide (v31 < v30)) then
  if (((0 : Int) ≤ v31) ∧ (v31 < (((List.length v29) : Nat) : Int))) then
   if (((0 + (List.length v6_3)) = (List.length v6_3)) ∧ ((((List.length v6_3) + (List.length (List.take 1 (List.drop 0 [((List.getD v29 (0 + (Int.toNat v31)) ((0 : Int), (⟨Array.empty⟩ : ByteArray), (0 : Int), (0 : Int))).1, (List.getD v29 (0 + (Int.toNat v31)) ((0 : Int), (⟨Array.empty⟩ : ByteArray), (0 : Int), (0 : Int))).2.1, (List.getD v29 (0 + (Int.toNat v31)) ((0 : Int), (⟨Array.empty⟩ : ByteArray), (0 : Int), (0 : Int))).2.2.1, (IntKind.wrap .i64 ((List.getD v29 (0 + (Int.toNat v31)) ((0 : Int), (⟨Array.empty⟩ : ByteArray), (0 : Int), (0 : Int))).2.2.2 * v1)))])))) * 40) ≤ 140737488355328)) then
    some (Sum.inl (v1, (v4_0, (List.take (List.length v4_1) (List.drop 0 v4_1)), (List.take (List.length v4_2) (List.drop 0 v4_2)), (List.take (List.length v4_3) (List.drop 0 v4_3)), ()), (v6_0, (List.take (List.length v6_1) (List.drop 0 v6_1)), (List.take (List.length v6_2) (List.drop 0 v6_2)), (List.take ((List.length v6_3) + (List.length (List.take 1 (List.drop 0 [((List.getD v29 (0 + (Int.toNat v31)) ((0 : Int), (⟨Array.empty⟩ : ByteArray), (0 : Int), (0 : Int))).1, (List.getD v29 (0 + (Int.toNat v31)) ((0 : Int), (⟨Array.empty⟩ : ByteArray), (0 : Int), (0 : Int))).2.1, (List.getD v29 (0 + (Int.toNat v31)) ((0 : Int), (⟨Array.empty⟩ : ByteArray), (0 : Int), (0 : Int))).2.2.1, (IntKind.wrap .i64 ((List.getD v29 (0 + (Int.toNat v31)) ((0 : Int), (⟨Array.empty⟩ : ByteArray), (0 : Int), (0 : Int))).2.2.2 * v1)))])))) (List.drop 0 ((List.drop 0 v6_3) ++ (List.take 1 (List.drop 0 [((List.getD v29 (0 + (Int.toNat v31)) ((0 : Int), (⟨Array.empty⟩ : ByteArray), (0 : Int), (0 : Int))).1, (List.getD v29 (0 + (Int.toNat v31)) ((0 : Int), (⟨Array.empty⟩ : ByteArray), (0 : Int), (0 : Int))).2.1, (List.getD v29 (0 + (Int.toNat v31)) ((0 : Int), (⟨Array.empty⟩ : ByteArray), (0 : Int), (0 : Int))).2.2.1, (IntKind.wrap .i64 ((List.getD v29 (0 + (Int.toNat v31)) ((0 : Int), (⟨Array.empty⟩ : ByteArray), (0 : Int), (0 : Int))).2.2.2 * v1)))]))))), ()), (List.take (List.length v29) (List.drop 0 v29)), v30, (IntKind.wrap .i64 (v31 + 1)), ()))
   else
    none
  else
   none
 else
  some (Sum.inr ((v4_0, (List.take (List.length v4_1) (List.drop 0 v4_1)), (List.take (List.length v4_2) (List.drop 0 v4_2)), (List.take (List.length v4_3) (List.drop 0 v4_3)), ()), (v6_0, (List.take (List.length v6_1) (List.drop 0 v6_1)), (List.take (List.length v6_2) (List.drop 0 v6_2)), (List.take (List.length v6_3) (List.drop 0 v6_3)), ()), ()))
theorem loop25_6 {L} (h : L 6 = some ⟨51, sh25_6, xs25_6, spec_ScaleAutomaton_l6⟩) : LoopOk prog L (loopOf f25 6) := lo (L' := L0) (by kernel_rfl) E25_ok allNil h
def L25_1 : Nat → Option LoopD := fun n => ifEq n 6 (some ⟨51, sh25_6, xs25_6, spec_ScaleAutomaton_l6⟩) (L0 n)
def spec_ScaleAutomaton : TA → Int → Option (TA × Bool) := fun (a0_0, a0_1, a0_2, a0_3) a1 =>
 Option.bind (spec_l13OwnAutomaton (a0_0, a0_1, a0_2, a0_3)) fun (r0, r1, r2, r3) =>
  Option.bind (spec_AutomatonValid (r0, (List.take (List.length r1) (List.drop 0 r1)), (List.take (List.length r2) (List.drop 0 r2)), (List.take (List.length r3) (List.drop 0 r3)))) fun r4 =>
   bif (!r4) then
    some (((0 : Int), [], [], []), false)
   else
    Option.bind (spec_l1In a1 0 3) fun r5 =>
     bif (!r5) then
      some (((0 : Int), [], [], []), false)
     else
      Option.bind (loopF spec_ScaleAutomaton_l6 (a1, ((0 : Int), [], [], [], ()), (r0, (List.take (List.length r1) (List.drop 0 r1)), (List.take (List.length r2) (List.drop 0 r2)), (List.take 0 (List.drop 0 [])), ()), (List.take (List.length r3) (List.drop 0 r3)), (((List.length r3) : Nat) : Int), 0, ())) fun ((r6, r7, r8, r9, _), (r10, r11, r12, r13, _), _) =>
       Option.bind (spec_l5Whole (r10, (List.take (List.length r11) (List.drop 0 r11)), (List.take (List.length r12) (List.drop 0 r12)), (List.take (List.length r13) (List.drop 0 r13)))) fun ((r14, r15, r16, r17), r18) =>
        some ((r14, r15, r16, r17), r18)
def A25 : FnA := ⟨[.v kA, .v i6], false, [.pair i6 (.pair sI (.pair sI sS)), .bool], fun x => spec_ScaleAutomaton x.1 x.2.1⟩
theorem A25_ok : FnOk prog 25 A25 := fo (L := L25_1) (by kernel_rfl) func25 E25_ok (allCons (loop25_6 rfl) allNil)
def E10 : Env := ⟨ty0, fun g => ifEq g 24 (some A24) (ifEq g 25 (some A25) (none)), fun g => ifEq g 22 (some A22) (ifEq g 23 (some A23) (ifEq g 26 (some A26) (none))), fun _ => none, fun _ => none, fun _ => 0⟩
theorem E10_ok : FnsOk prog E10 := (oF A24_ok func24 (oF A25_ok func25 (oneMs A22_ok (by kernel_rfl) func22 (by kernel_rfl) (by kernel_rfl) (oneMs A23_ok (by kernel_rfl) func23 (by kernel_rfl) (by kernel_rfl) (oneMs A26_ok (by kernel_rfl) func26 (by kernel_rfl) (by kernel_rfl) (noFns _ _))))))
def spec_l11Two : (LI × Int) → Option ((TA × TA × Int) × ((LI × Int) × Unit)) := fun (a0_0, a0_1) =>
 Option.bind (spec_l3Any (a0_0, a0_1)) fun ((r0, r1, r2, r3), (r4, r5), _) =>
  Option.bind (spec_l13Rd_pick (r4, r5) 4) fun (r6, (r7, r8), _) =>
   bif (r6 == 0) then
    Option.bind (spec_TrimAutomaton (r0, r1, r2, r3)) fun ((r9, r10, r11, r12), r13) =>
     Option.bind (spec_l13Rd_num (r7, r8) (List.take 8 (List.drop 0 [(3 : Int), (2 : Int), (4 : Int), (1 : Int), (0 : Int), (5 : Int), (-1 : Int), (8 : Int)]))) fun (r14, (r15, r16), _) =>
      some (((r0, r1, r2, r3), (r9, (List.take (List.length r10) (List.drop 0 r10)), (List.take (List.length r11) (List.drop 0 r11)), (List.take (List.length r12) (List.drop 0 r12))), r14), (r15, r16), ())
   else
    bif (r6 == 1) then
     Option.bind (spec_l13Rd_pick (r7, r8) 2) fun (r17, (r18, r19), _) =>
      Option.bind (spec_ScaleAutomaton (r0, r1, r2, r3) (IntKind.wrap .i64 ((1 : Int) + r17))) fun ((r20, r21, r22, r23), r24) =>
       Option.bind (spec_l13Rd_num (r18, r19) (List.take 8 (List.drop 0 [(3 : Int), (2 : Int), (4 : Int), (1 : Int), (0 : Int), (5 : Int), (-1 : Int), (8 : Int)]))) fun (r25, (r26, r27), _) =>
        some (((r0, r1, r2, r3), (r20, r21, r22, r23), r25), (r26, r27), ())
    else
     bif (r6 == 2) then
      Option.bind (spec_l3Any (r7, r8)) fun ((r28, r29, r30, r31), (r32, r33), _) =>
       Option.bind (spec_l13Rd_num (r32, r33) (List.take 8 (List.drop 0 [(3 : Int), (2 : Int), (4 : Int), (1 : Int), (0 : Int), (5 : Int), (-1 : Int), (8 : Int)]))) fun (r34, (r35, r36), _) =>
        some (((r0, r1, r2, r3), (r28, r29, r30, r31), r34), (r35, r36), ())
     else
      Option.bind (spec_l13Rd_num (r7, r8) (List.take 8 (List.drop 0 [(3 : Int), (2 : Int), (4 : Int), (1 : Int), (0 : Int), (5 : Int), (-1 : Int), (8 : Int)]))) fun (r37, (r38, r39), _) =>
       some (((r0, r1, r2, r3), (r0, r1, r2, r3), r37), (r38, r39), ())
def A10 : FnM := ⟨[.bx kR], false, [.pair i6 (.pair sI (.pair sI sS)), .pair i6 (.pair sI (.pair sI sS)), .int .i64], none, fun x => spec_l11Two x.1⟩
theorem A10_ok : FnMOk prog 10 A10 := fm (L := L0) (by kernel_rfl) func10 E10_ok allNil
def E4 : Env := ⟨ty0, fun _ => none, fun g => ifEq g 10 (some A10) (none), fun g => ifEq g 11 (some A11) (none), fun _ => none, fun _ => 0⟩
theorem E4_ok : FnsOk prog E4 := (oneBs A11_ok func11 (by kernel_rfl) (by kernel_rfl) (oneMs A10_ok (by kernel_rfl) func10 (by kernel_rfl) (by kernel_rfl) (noFns _ _)))
def spec_DrawAreApart : LI → Option (TA × TA × Int) := fun a0 =>
 Option.bind (spec_l13Open a0) fun (r0, r1) =>
  Option.bind (spec_l11Two (r0, r1)) fun (((r2, r3, r4, r5), (r6, r7, r8, r9), r10), (r11, r12), _) =>
   some ((r2, r3, r4, r5), (r6, r7, r8, r9), r10)
def A4 : FnA := ⟨[.v (.sl (.int .u8))], false, [.pair i6 (.pair sI (.pair sI sS)), .pair i6 (.pair sI (.pair sI sS)), .int .i64], fun x => spec_DrawAreApart x.1⟩
theorem A4_ok : FnOk prog 4 A4 := fo (L := L0) (by kernel_rfl) func4 E4_ok allNil
def sh27_8 : List Fm := .cell (.val i6) :: d :: d :: d :: .cell (.own .str 100400 true) :: d :: .cell (.val i6) :: D 23 (.cell (.val (.sl .str)) :: .cell (.val i6) :: .cell (.val i6) :: D 13 [])
def xs27_8 : List (Ex × List Fm) := [(.exit 2, (.cell (.val i6) :: d :: d :: d :: .cell (.own .str 100400 true) :: d :: .cell (.val i6) :: D 39 []))]
def impl_ShortWords_l8 : (Int × (List ByteArray) × Int × (List ByteArray) × Int × Int × Unit) → Option ((Int × (List ByteArray) × Int × (List ByteArray) × Int × Int × Unit) ⊕ ((Int × (List ByteArray) × Int × Unit))) := fun (v0, v4, v6, v30, v31, v32, _) =>
 bif (decide (v32 < v31)) then
  if (((0 : Int) ≤ v32) ∧ (v32 < (((List.length v30) : Nat) : Int))) then
   if (((ByteArray.size (List.getD v30 (Int.toNat v32) ⟨Array.empty⟩)) + (ByteArray.size (⟨#[(97 : UInt8)]⟩ : ByteArray))) ≤ 9223372036854775807) then
    if (((ByteArray.size (List.getD v30 (Int.toNat v32) ⟨Array.empty⟩)) + (ByteArray.size (⟨#[(98 : UInt8)]⟩ : ByteArray))) ≤ 9223372036854775807) then
     if (((0 + (List.length v4)) = (List.length v4)) ∧ ((((List.length v4) + (List.length (List.take 2 (List.drop 0 [((List.getD v30 (Int.toNat v32) (⟨Array.empty⟩ : ByteArray)) ++ (⟨#[(97 : UInt8)]⟩ : ByteArray)), ((List.getD v30 (Int.toNat v32) (⟨Array.empty⟩ : ByteArray)) ++ (⟨#[(98 : UInt8)]⟩ : ByteArray))])))) * 16) ≤ 140737488355328)) then
      if ((0 + ((List.length v4) + (List.length (List.take 2 (List.drop 0 [((List.getD v30 (Int.toNat v32) (⟨Array.empty⟩ : ByteArray)) ++ (⟨#[(97 : UInt8)]⟩ : ByteArray)), ((List.getD v30 (Int.toNat v32) (⟨Array.empty⟩ : ByteArray)) ++ (⟨#[(98 : UInt8)]⟩ : ByteArray))]))))) = (List.length ((List.drop 0 v4) ++ (List.take 2 (List.drop 0 [((List.getD v30 (Int.toNat v32) (⟨Array.empty⟩ : ByteArray)) ++ (⟨#[(97 : UInt8)]⟩ : ByteArray)), ((List.getD v30 (Int.toNat v32) (⟨Array.empty⟩ : ByteArray)) ++ (⟨#[(98 : UInt8)]⟩ : ByteArray))]))))) then
       some (Sum.inl (v0, (List.drop 0 ((List.drop 0 v4) ++ (List.take 2 (List.drop 0 [((List.getD v30 (Int.toNat v32) (⟨Array.empty⟩ : ByteArray)) ++ (⟨#[(97 : UInt8)]⟩ : ByteArray)), ((List.getD v30 (Int.toNat v32) (⟨Array.empty⟩ : ByteArray)) ++ (⟨#[(98 : UInt8)]⟩ : ByteArray))])))), v6, v30, v31, (IntKind.wrap .i64 (v32 + 1)), ()))
      else
       none
     else
      none
    else
     none
   else
    none
  else
   none
 else
  if ((0 + (List.length v4)) = (List.length v4)) then
   some (Sum.inr (v0, (List.drop 0 v4), v6, ()))
  else
   none
theorem loop27_8 {L} (h : L 8 = some ⟨46, sh27_8, xs27_8, impl_ShortWords_l8⟩) : LoopOk prog L (loopOf f27 8) := lo (L' := L0) (by kernel_rfl) E0_ok allNil h
def L27_1 : Nat → Option LoopD := fun n => ifEq n 8 (some ⟨46, sh27_8, xs27_8, impl_ShortWords_l8⟩) (L0 n)
def sh27_5 : List Fm := .cell (.val i6) :: d :: d :: d :: .cell (.own .str 100400 true) :: .cell (.val i6) :: D 40 []
def xs27_5 : List (Ex × List Fm) := [(.exit 0, (D 4 (.cell (.val (.sl .str)) :: D 41 [])))]
def impl_ShortWords_l5 : (Int × (List ByteArray) × Int × Unit) → Option ((Int × (List ByteArray) × Int × Unit) ⊕ (((List ByteArray) × Unit))) := fun (v0, v4, v5, _) =>
 if (((0 : Int) ≤ (IntKind.wrap .i64 ((((List.length v4) : Nat) : Int) - 1))) ∧ ((IntKind.wrap .i64 ((((List.length v4) : Nat) : Int) - 1)) < (((List.length v4) : Nat) : Int))) then
  bif (decide ((((ByteArray.size (List.getD v4 (0 + (Int.toNat (IntKind.wrap .i64 ((((List.length v4) : Nat) : Int) - 1)))) ⟨Array.empty⟩)) : Nat) : Int) < v0)) then
   if (((0 : Int) ≤ v5) ∧ ((v5 ≤ (((List.length v4) : Nat) : Int)) ∧ ((((List.length v4) : Nat) : Int) ≤ (((List.length v4) : Nat) : Int)))) then
    if ((0 + (List.length v4)) = (List.length v4)) then
     Option.bind (loopF impl_ShortWords_l8 (v0, (List.drop 0 v4), (((List.length v4) : Nat) : Int), (List.take ((Int.toNat (((List.length v4) : Nat) : Int)) - (Int.toNat v5)) (List.drop (0 + (Int.toNat v5)) v4)), ((((Int.toNat (((List.length v4) : Nat) : Int)) - (Int.toNat v5)) : Nat) : Int), 0, ())) fun (r0, r1, r2, _) =>
      if ((0 + (List.length r1)) = (List.length r1)) then
       some (Sum.inl (r0, (List.drop 0 r1), r2, ()))
      else
       none
    else
     none
   else
    none
  else
   some (Sum.inr ((List.take (List.length v4) (List.drop 0 v4)), ()))
 else
  none
theorem loop27_5 {L} (h : L 5 = some ⟨46, sh27_5, xs27_5, impl_ShortWords_l5⟩) : LoopOk prog L (loopOf f27 5) := lo (L' := L27_1) (by kernel_rfl) E0_ok (allCons (loop27_8 rfl) allNil) h
def L27_2 : Nat → Option LoopD := fun n => ifEq n 5 (some ⟨46, sh27_5, xs27_5, impl_ShortWords_l5⟩) (L27_1 n)
def impl_ShortWords : Int → Option ((List ByteArray) × Bool) := fun a0 =>
 bif (decide (a0 < 0)) then
  some ([], false)
 else
  bif (decide (a0 > 7)) then
   some ([], false)
  else
   if ((0 + 1) = (List.length [(⟨#[]⟩ : ByteArray)])) then
    Option.bind (loopF impl_ShortWords_l5 (a0, (List.drop 0 [(⟨#[]⟩ : ByteArray)]), 0, ())) fun (r0, _) =>
     some (r0, true)
   else
    none
def A27 : FnA := ⟨[.v i6], false, [.sl .str, .bool], fun x => impl_ShortWords x.1⟩
theorem A27_ok : FnOk prog 27 A27 := fo (L := L27_2) (by kernel_rfl) func27 E0_ok (allCons (loop27_5 rfl) allNil)
def sh20_2 : List Fm := .cell (.val sI) :: .cell (.val i6) :: D 5 (.cell (.val sI) :: .cell (.val i6) :: .cell (.val i6) :: D 25 [])
def xs20_2 : List (Ex × List Fm) := [(.ret, (D 4 (.cell (.val .bool) :: D 30 []))), (.exit 0, (D 35 []))]
def impl_statesOk_l2 : (LI × Int × LI × Int × Int × Unit) → Option ((LI × Int × LI × Int × Int × Unit) ⊕ ((Bool × Unit) ⊕ (Unit))) := fun (v0, v1, v7, v8, v9, _) =>
 bif (decide (v9 < v8)) then
  if (((0 : Int) ≤ v9) ∧ (v9 < (((List.length v7) : Nat) : Int))) then
   bif (decide ((List.getD v7 (Int.toNat v9) 0) < 0)) then
    some (Sum.inr (Sum.inl (false, ())))
   else
    bif (decide ((List.getD v7 (Int.toNat v9) 0) ≥ v1)) then
     some (Sum.inr (Sum.inl (false, ())))
    else
     bif (decide (v9 > 0)) then
      if (((0 : Int) ≤ (IntKind.wrap .i64 (v9 - 1))) ∧ ((IntKind.wrap .i64 (v9 - 1)) < (((List.length v0) : Nat) : Int))) then
       bif (decide ((List.getD v0 (Int.toNat (IntKind.wrap .i64 (v9 - 1))) 0) ≥ (List.getD v7 (Int.toNat v9) 0))) then
        some (Sum.inr (Sum.inl (false, ())))
       else
        some (Sum.inl (v0, v1, v7, v8, (IntKind.wrap .i64 (v9 + 1)), ()))
      else
       none
     else
      some (Sum.inl (v0, v1, v7, v8, (IntKind.wrap .i64 (v9 + 1)), ()))
  else
   none
 else
  some (Sum.inr (Sum.inr ()))
theorem loop20_2 {L} (h : L 2 = some ⟨35, sh20_2, xs20_2, impl_statesOk_l2⟩) : LoopOk prog L (loopOf f20 2) := lo (L' := L0) (by kernel_rfl) E0_ok allNil h
def L20_1 : Nat → Option LoopD := fun n => ifEq n 2 (some ⟨35, sh20_2, xs20_2, impl_statesOk_l2⟩) (L0 n)
def impl_statesOk : LI → Int → Option (Bool) := fun a0 a1 =>
 Option.bind (loopF impl_statesOk_l2 (a0, a1, a0, (((List.length a0) : Nat) : Int), 0, ())) fun r0 =>
  (match r0 with
  | .inl (d1, _) =>
    some d1
  | .inr _ =>
    some true)
def A20 : FnA := ⟨[.v sI, .v i6], true, [.bool], fun x => impl_statesOk x.1 x.2.1⟩
theorem A20_ok : FnOk prog 20 A20 := fo (L := L20_1) (by kernel_rfl) func20 E0_ok (allCons (loop20_2 rfl) allNil)
def E9 : Env := ev fun g => ifEq g 20 (some A20) (ifEq g 21 (some A21) (none))
theorem E9_ok : FnsOk prog E9 := (oF A20_ok func20 (oF A21_ok func21 (noFns _ _)))
def sh9_4 : List Fm := d :: .box 100100 [.val i6, .val sI, .val sI, .val sS] :: D 34 (.cell (.val sS) :: .cell (.val i6) :: .cell (.val i6) :: D 62 [])
def xs9_4 : List (Ex × List Fm) := [(.ret, (d :: d :: .cell (.val .bool) :: D 98 [])), (.exit 0, (D 101 []))]
def impl_AutomatonValid_l4 : ((Int × LI × LI × LS × Unit) × LS × Int × Int × Unit) → Option (((Int × LI × LI × LS × Unit) × LS × Int × Int × Unit) ⊕ ((Bool × Unit) ⊕ (Unit))) := fun ((v1_0, v1_1, v1_2, v1_3, _), v36, v37, v38, _) =>
 bif (decide (v38 < v37)) then
  if (((0 : Int) ≤ v38) ∧ (v38 < (((List.length v36) : Nat) : Int))) then
   bif (decide ((List.getD v36 (Int.toNat v38) ((0 : Int), ⟨Array.empty⟩, 0, 0)).1 < 0)) then
    some (Sum.inr (Sum.inl (false, ())))
   else
    bif (decide ((List.getD v36 (Int.toNat v38) ((0 : Int), ⟨Array.empty⟩, 0, 0)).1 ≥ v1_0)) then
     some (Sum.inr (Sum.inl (false, ())))
    else
     bif (decide ((List.getD v36 (Int.toNat v38) ((0 : Int), ⟨Array.empty⟩, 0, 0)).2.2.1 < 0)) then
      some (Sum.inr (Sum.inl (false, ())))
     else
      bif (decide ((List.getD v36 (Int.toNat v38) ((0 : Int), ⟨Array.empty⟩, 0, 0)).2.2.1 ≥ v1_0)) then
       some (Sum.inr (Sum.inl (false, ())))
      else
       bif (!((ByteArray.toList (List.getD v36 (Int.toNat v38) ((0 : Int), ⟨Array.empty⟩, 0, 0)).2.1) == (ByteArray.toList (⟨#[(97 : UInt8)]⟩ : ByteArray)))) then
        bif (!((ByteArray.toList (List.getD v36 (Int.toNat v38) ((0 : Int), ⟨Array.empty⟩, 0, 0)).2.1) == (ByteArray.toList (⟨#[(98 : UInt8)]⟩ : ByteArray)))) then
         some (Sum.inr (Sum.inl (false, ())))
        else
         bif (decide ((List.getD v36 (Int.toNat v38) ((0 : Int), ⟨Array.empty⟩, 0, 0)).2.2.2 < 0)) then
          some (Sum.inr (Sum.inl (false, ())))
         else
          bif (decide ((List.getD v36 (Int.toNat v38) ((0 : Int), ⟨Array.empty⟩, 0, 0)).2.2.2 > 3)) then
           some (Sum.inr (Sum.inl (false, ())))
          else
           bif (decide (v38 > 0)) then
            if (((0 : Int) ≤ (IntKind.wrap .i64 (v38 - 1))) ∧ ((IntKind.wrap .i64 (v38 - 1)) < (((List.length v1_3) : Nat) : Int))) then
             Option.bind (impl_stepOrder (List.getD v1_3 (Int.toNat (IntKind.wrap .i64 (v38 - 1))) ((0 : Int), ⟨Array.empty⟩, 0, 0)) ((List.getD v36 (Int.toNat v38) ((0 : Int), ⟨Array.empty⟩, 0, 0)).1, (List.getD v36 (Int.toNat v38) ((0 : Int), ⟨Array.empty⟩, 0, 0)).2.1, (List.getD v36 (Int.toNat v38) ((0 : Int), ⟨Array.empty⟩, 0, 0)).2.2.1, (List.getD v36 (Int.toNat v38) ((0 : Int), ⟨Array.empty⟩, 0, 0)).2.2.2)) fun r0 =>
              bif (decide (r0 ≥ 0)) then
               some (Sum.inr (Sum.inl (false, ())))
              else
               some (Sum.inl ((v1_0, v1_1, v1_2, v1_3, ()), v36, v37, (IntKind.wrap .i64 (v38 + 1)), ()))
            else
             none
           else
            some (Sum.inl ((v1_0, v1_1, v1_2, v1_3, ()), v36, v37, (IntKind.wrap .i64 (v38 + 1)), ()))
       else
        bif (decide ((List.getD v36 (Int.toNat v38) ((0 : Int), ⟨Array.empty⟩, 0, 0)).2.2.2 < 0)) then
         some (Sum.inr (Sum.inl (false, ())))
        else
         bif (decide ((List.getD v36 (Int.toNat v38) ((0 : Int), ⟨Array.empty⟩, 0, 0)).2.2.2 > 3)) then
          some (Sum.inr (Sum.inl (false, ())))
         else
          bif (decide (v38 > 0)) then
           if (((0 : Int) ≤ (IntKind.wrap .i64 (v38 - 1))) ∧ ((IntKind.wrap .i64 (v38 - 1)) < (((List.length v1_3) : Nat) : Int))) then
            Option.bind (impl_stepOrder (List.getD v1_3 (Int.toNat (IntKind.wrap .i64 (v38 - 1))) ((0 : Int), ⟨Array.empty⟩, 0, 0)) ((List.getD v36 (Int.toNat v38) ((0 : Int), ⟨Array.empty⟩, 0, 0)).1, (List.getD v36 (Int.toNat v38) ((0 : Int), ⟨Array.empty⟩, 0, 0)).2.1, (List.getD v36 (Int.toNat v38) ((0 : Int), ⟨Array.empty⟩, 0, 0)).2.2.1, (List.getD v36 (Int.toNat v38) ((0 : Int), ⟨Array.empty⟩, 0, 0)).2.2.2)) fun r1 =>
             bif (decide (r1 ≥ 0)) then
              some (Sum.inr (Sum.inl (false, ())))
             else
              some (Sum.inl ((v1_0, v1_1, v1_2, v1_3, ()), v36, v37, (IntKind.wrap .i64 (v38 + 1)), ()))
           else
            none
          else
           some (Sum.inl ((v1_0, v1_1, v1_2, v1_3, ()), v36, v37, (IntKind.wrap .i64 (v38 + 1)), ()))
  else
   none
 else
  some (Sum.inr (Sum.inr ()))
theorem loop9_4 {L} (h : L 4 = some ⟨101, sh9_4, xs9_4, impl_AutomatonValid_l4⟩) : LoopOk prog L (loopOf f9 4) := lo (L' := L0) (by kernel_rfl) E9_ok allNil h
def L9_1 : Nat → Option LoopD := fun n => ifEq n 4 (some ⟨101, sh9_4, xs9_4, impl_AutomatonValid_l4⟩) (L0 n)
def impl_AutomatonValid : TA → Option (Bool) := fun (a0_0, a0_1, a0_2, a0_3) =>
 bif (decide (a0_0 < 1)) then
  some false
 else
  bif (decide (a0_0 > 4)) then
   some false
  else
   bif (decide ((((List.length a0_3) : Nat) : Int) > 24)) then
    some false
   else
    Option.bind (impl_statesOk a0_1 a0_0) fun r0 =>
     bif (!r0) then
      some false
     else
      Option.bind (impl_statesOk a0_2 a0_0) fun r1 =>
       bif (!r1) then
        some false
       else
        Option.bind (loopF impl_AutomatonValid_l4 ((a0_0, a0_1, a0_2, a0_3, ()), a0_3, (((List.length a0_3) : Nat) : Int), 0, ())) fun r2 =>
         (match r2 with
         | .inl (d3, _) =>
           some d3
         | .inr _ =>
           some true)
def A9 : FnA := ⟨[.v kA], true, [.bool], fun x => impl_AutomatonValid x.1⟩
theorem A9_ok : FnOk prog 9 A9 := fo (L := L9_1) (by kernel_rfl) func9 E9_ok (allCons (loop9_4 rfl) allNil)
def E12 : Env := ev fun g => ifEq g 27 (some A27) (ifEq g 9 (some A9) (none))
theorem E12_ok : FnsOk prog E12 := (oF A27_ok func27 (oF A9_ok func9 (noFns _ _)))
def sh12_3 : List Fm := D 6 (.cell (.val (.sl .str)) :: .cell (.val .bool) :: D 7 (.cell (.val (.sl kA)) :: .cell (.val i6) :: .cell (.val i6) :: D 11 []))
def xs12_3 : List (Ex × List Fm) := [(.exit 0, (D 6 (.cell (.val (.sl .str)) :: .cell (.val .bool) :: D 21 [])))]
def impl_short_l3 : ((List ByteArray) × Bool × (List TA) × Int × Int × Unit) → Option (((List ByteArray) × Bool × (List TA) × Int × Int × Unit) ⊕ (((List ByteArray) × Bool × Unit))) := fun (v6, v7, v15, v16, v17, _) =>
 bif (decide (v17 < v16)) then
  if (((0 : Int) ≤ v17) ∧ (v17 < (((List.length v15) : Nat) : Int))) then
   bif v7 then
    Option.bind (impl_AutomatonValid ((List.getD v15 (Int.toNat v17) ((0 : Int), [], [], [])).1, (List.getD v15 (Int.toNat v17) ((0 : Int), [], [], [])).2.1, (List.getD v15 (Int.toNat v17) ((0 : Int), [], [], [])).2.2.1, (List.getD v15 (Int.toNat v17) ((0 : Int), [], [], [])).2.2.2)) fun r0 =>
     some (Sum.inl (v6, r0, v15, v16, (IntKind.wrap .i64 (v17 + 1)), ()))
   else
    some (Sum.inl (v6, false, v15, v16, (IntKind.wrap .i64 (v17 + 1)), ()))
  else
   none
 else
  some (Sum.inr (v6, v7, ()))
theorem loop12_3 {L} (h : L 3 = some ⟨29, sh12_3, xs12_3, impl_short_l3⟩) : LoopOk prog L (loopOf f12 3) := lo (L' := L0) (by kernel_rfl) E12_ok allNil h
def L12_1 : Nat → Option LoopD := fun n => ifEq n 3 (some ⟨29, sh12_3, xs12_3, impl_short_l3⟩) (L0 n)
def impl_short : Int → (List TA) → Option ((List ByteArray) × Bool) := fun a0 a1 =>
 Option.bind (impl_ShortWords a0) fun (r0, r1) =>
  Option.bind (loopF impl_short_l3 (r0, r1, a1, (((List.length a1) : Nat) : Int), 0, ())) fun (r2, r3, _) =>
   some (r2, r3)
def A12 : FnA := ⟨[.v i6, .v (.sl kA)], false, [.sl .str, .bool], fun x => impl_short x.1 x.2.1⟩
theorem A12_ok : FnOk prog 12 A12 := fo (L := L12_1) (by kernel_rfl) func12 E12_ok (allCons (loop12_3 rfl) allNil)
def sh28_2 : List Fm := .cell (.val .str) :: D 4 (.cell (.val i6) :: .cell (.val i6) :: D 16 [])
def xs28_2 : List (Ex × List Fm) := [(.ret, (d :: d :: .cell (.val .bool) :: D 20 [])), (.exit 0, (.cell (.val .str) :: D 22 []))]
def impl_WordValid_l2 : (ByteArray × Int × Int × Unit) → Option ((ByteArray × Int × Int × Unit) ⊕ ((Bool × Unit) ⊕ (ByteArray × Unit))) := fun (v0, v5, v6, _) =>
 bif (decide (v6 < v5)) then
  if (((0 : Int) ≤ v6) ∧ (v6 < (((ByteArray.size v0) : Nat) : Int))) then
   bif ((((UInt8.toNat (Array.getD (ByteArray.data v0) (Int.toNat v6) (0 : UInt8))) : Nat) : Int) != 97) then
    if (((0 : Int) ≤ v6) ∧ (v6 < (((ByteArray.size v0) : Nat) : Int))) then
     bif ((((UInt8.toNat (Array.getD (ByteArray.data v0) (Int.toNat v6) (0 : UInt8))) : Nat) : Int) != 98) then
      some (Sum.inr (Sum.inl (false, ())))
     else
      some (Sum.inl (v0, v5, (IntKind.wrap .i64 (v6 + 1)), ()))
    else
     none
   else
    some (Sum.inl (v0, v5, (IntKind.wrap .i64 (v6 + 1)), ()))
  else
   none
 else
  some (Sum.inr (Sum.inr (v0, ())))
theorem loop28_2 {L} (h : L 2 = some ⟨23, sh28_2, xs28_2, impl_WordValid_l2⟩) : LoopOk prog L (loopOf f28 2) := lo (L' := L0) (by kernel_rfl) E0_ok allNil h
def L28_1 : Nat → Option LoopD := fun n => ifEq n 2 (some ⟨23, sh28_2, xs28_2, impl_WordValid_l2⟩) (L0 n)
def impl_WordValid : ByteArray → Option (Bool) := fun a0 =>
 Option.bind (loopF impl_WordValid_l2 (a0, (((ByteArray.size a0) : Nat) : Int), 0, ())) fun r0 =>
  (match r0 with
  | .inl (d1, _) =>
    some d1
  | .inr (d2, _) =>
    some (decide ((((ByteArray.size d2) : Nat) : Int) ≤ 1000)))
def A28 : FnA := ⟨[.v .str], true, [.bool], fun x => impl_WordValid x.1⟩
theorem A28_ok : FnOk prog 28 A28 := fo (L := L28_1) (by kernel_rfl) func28 E0_ok (allCons (loop28_2 rfl) allNil)
def bits_Mul64 : Int → Int → Option (Int × Int) := fun a0 a1 =>
 if ((32 : Int) < 0) then
  none
 else
  if ((32 : Int) < 0) then
   none
  else
   if ((32 : Int) < 0) then
    none
   else
    if ((32 : Int) < 0) then
     none
    else
     if ((32 : Int) < 0) then
      none
     else
      some ((IntKind.wrap .u64 ((IntKind.wrap .u64 ((IntKind.wrap .u64 ((Int.fdiv a0 ((2 : Int) ^ (Min.min (Int.toNat 32) (IntKind.bits .u64)))) * (Int.fdiv a1 ((2 : Int) ^ (Min.min (Int.toNat 32) (IntKind.bits .u64)))))) + (Int.fdiv (IntKind.wrap .u64 ((IntKind.wrap .u64 ((Int.fdiv a0 ((2 : Int) ^ (Min.min (Int.toNat 32) (IntKind.bits .u64)))) * ((((BitVec.toNat ((BitVec.ofInt (IntKind.bits .u64) a1) &&& (BitVec.ofInt (IntKind.bits .u64) 4294967295))) % (Int.natAbs ((2 : Int) ^ (IntKind.bits .u64)))) : Nat) : Int))) + (Int.fdiv (IntKind.wrap .u64 (((((BitVec.toNat ((BitVec.ofInt (IntKind.bits .u64) a0) &&& (BitVec.ofInt (IntKind.bits .u64) 4294967295))) % (Int.natAbs ((2 : Int) ^ (IntKind.bits .u64)))) : Nat) : Int) * ((((BitVec.toNat ((BitVec.ofInt (IntKind.bits .u64) a1) &&& (BitVec.ofInt (IntKind.bits .u64) 4294967295))) % (Int.natAbs ((2 : Int) ^ (IntKind.bits .u64)))) : Nat) : Int))) ((2 : Int) ^ (Min.min (Int.toNat 32) (IntKind.bits .u64)))))) ((2 : Int) ^ (Min.min (Int.toNat 32) (IntKind.bits .u64)))))) + (Int.fdiv (IntKind.wrap .u64 (((((BitVec.toNat ((BitVec.ofInt (IntKind.bits .u64) (IntKind.wrap .u64 ((IntKind.wrap .u64 ((Int.fdiv a0 ((2 : Int) ^ (Min.min (Int.toNat 32) (IntKind.bits .u64)))) * ((((BitVec.toNat ((BitVec.ofInt (IntKind.bits .u64) a1) &&& (BitVec.ofInt (IntKind.bits .u64) 4294967295))) % (Int.natAbs ((2 : Int) ^ (IntKind.bits .u64)))) : Nat) : Int))) + (Int.fdiv (IntKind.wrap .u64 (((((BitVec.toNat ((BitVec.ofInt (IntKind.bits .u64) a0) &&& (BitVec.ofInt (IntKind.bits .u64) 4294967295))) % (Int.natAbs ((2 : Int) ^ (IntKind.bits .u64)))) : Nat) : Int) * ((((BitVec.toNat ((BitVec.ofInt (IntKind.bits .u64) a1) &&& (BitVec.ofInt (IntKind.bits .u64) 4294967295))) % (Int.natAbs ((2 : Int) ^ (IntKind.bits .u64)))) : Nat) : Int))) ((2 : Int) ^ (Min.min (Int.toNat 32) (IntKind.bits .u64))))))) &&& (BitVec.ofInt (IntKind.bits .u64) 4294967295))) % (Int.natAbs ((2 : Int) ^ (IntKind.bits .u64)))) : Nat) : Int) + (IntKind.wrap .u64 (((((BitVec.toNat ((BitVec.ofInt (IntKind.bits .u64) a0) &&& (BitVec.ofInt (IntKind.bits .u64) 4294967295))) % (Int.natAbs ((2 : Int) ^ (IntKind.bits .u64)))) : Nat) : Int) * (Int.fdiv a1 ((2 : Int) ^ (Min.min (Int.toNat 32) (IntKind.bits .u64)))))))) ((2 : Int) ^ (Min.min (Int.toNat 32) (IntKind.bits .u64)))))), (IntKind.wrap .u64 (a0 * a1)))
def A88 : FnA := ⟨[.v (.int .u64), .v (.int .u64)], true, [.int .u64, .int .u64], fun x => bits_Mul64 x.1 x.2.1⟩
theorem A88_ok : FnOk prog 88 A88 := fo (L := L0) (by kernel_rfl) func88 E0_ok allNil
def E64 : Env := ev fun g => ifEq g 88 (some A88) (none)
theorem E64_ok : FnsOk prog E64 := (oF A88_ok func88 (noFns _ _))
def bits_Mul : Int → Int → Option (Int × Int) := fun a0 a1 =>
 Option.bind (bits_Mul64 a0 a1) fun (r0, r1) =>
  some (r0, r1)
def A64 : FnA := ⟨[.v (.int .u64), .v (.int .u64)], true, [.int .u64, .int .u64], fun x => bits_Mul x.1 x.2.1⟩
theorem A64_ok : FnOk prog 64 A64 := fo (L := L0) (by kernel_rfl) func64 E64_ok allNil
def E47 : Env := ev fun g => ifEq g 64 (some A64) (none)
theorem E47_ok : FnsOk prog E47 := (oF A64_ok func64 (noFns _ _))
def sh47_8 : List Fm := D 7 (.cell (.own i6 100700 false) :: .cell (.val i6) :: D 39 [])
def xs47_8 : List (Ex × List Fm) := [(.exit 0, (D 7 (.cell (.own i6 100700 false) :: D 40 [])))]
def slices_Repeat_l8 : (LI × Int × Unit) → Option ((LI × Int × Unit) ⊕ ((LI × Unit))) := fun (v7, v8, _) =>
 bif (decide (v8 < (((List.length v7) : Nat) : Int))) then
  if (((0 : Int) ≤ v8) ∧ (v8 ≤ (((List.length v7) : Nat) : Int))) then
   if (((0 : Int) ≤ v8) ∧ (v8 ≤ (((List.length v7) : Nat) : Int))) then
    some (Sum.inl ((List.take (List.length v7) (List.drop 0 ((List.take (0 + (Int.toNat v8)) v7) ++ ((List.take ((List.length v7) - (Int.toNat v8)) (List.take ((Int.toNat v8) - 0) (List.drop (0 + 0) v7))) ++ (List.drop ((0 + (Int.toNat v8)) + (List.length (List.take ((List.length v7) - (Int.toNat v8)) (List.take ((Int.toNat v8) - 0) (List.drop (0 + 0) v7))))) v7))))), (IntKind.wrap .i64 (v8 + (((List.length (List.take ((List.length v7) - (Int.toNat v8)) (List.take ((Int.toNat v8) - 0) (List.drop (0 + 0) v7)))) : Nat) : Int))), ()))
   else
    none
  else
   none
 else
  some (Sum.inr ((List.take (List.length v7) (List.drop 0 v7)), ()))
theorem loop47_8 {L} (h : L 8 = some ⟨48, sh47_8, xs47_8, slices_Repeat_l8⟩) : LoopOk prog L (loopOf f47 8) := lo (L' := L0) (by kernel_rfl) E47_ok allNil h
def L47_1 : Nat → Option LoopD := fun n => ifEq n 8 (some ⟨48, sh47_8, xs47_8, slices_Repeat_l8⟩) (L0 n)
def slices_Repeat : LI → Int → Option (LI) := fun a0 a1 =>
 bif (decide (a1 < 0)) then
  none
 else
  Option.bind (bits_Mul (IntKind.wrap .u64 (((List.length a0) : Nat) : Int)) (IntKind.wrap .u64 a1)) fun (r0, r1) =>
   bif (decide (r0 > 0)) then
    none
   else
    bif (decide (r1 > 9223372036854775807)) then
     none
    else
     if (((0 : Int) ≤ (IntKind.wrap .i64 r1)) ∧ (((IntKind.wrap .i64 r1) = (IntKind.wrap .i64 r1)) ∧ (((IntKind.wrap .i64 r1) * ((8 : Nat) : Int)) ≤ 140737488355328))) then
      Option.bind (loopF slices_Repeat_l8 ((List.take (Int.toNat (IntKind.wrap .i64 r1)) (List.drop 0 ((List.take 0 (List.replicate (Int.toNat (IntKind.wrap .i64 r1)) 0)) ++ ((List.take (Int.toNat (IntKind.wrap .i64 r1)) a0) ++ (List.drop (0 + (List.length (List.take (Int.toNat (IntKind.wrap .i64 r1)) a0))) (List.replicate (Int.toNat (IntKind.wrap .i64 r1)) 0)))))), (((List.length (List.take (Int.toNat (IntKind.wrap .i64 r1)) a0)) : Nat) : Int), ())) fun (r2, _) =>
       some (List.take (List.length r2) (List.drop 0 r2))
     else
      none
def A47 : FnA := ⟨[.v sI, .v i6], true, [.sl i6], fun x => slices_Repeat x.1 x.2.1⟩
theorem A47_ok : FnOk prog 47 A47 := fo (L := L47_1) (by kernel_rfl) func47 E47_ok (allCons (loop47_8 rfl) allNil)
end
end Go.Proofs.Ytogigagfgkfkhaa
