/- What Go functions that the laws reach compute, and that they do: written by a program of this session. -/
import Derived.Test.YtbndfclpclifbaaGreatDoorCmp
import Derived.Test.YtbndfclpclifbaaGreatDoorRep
import Derived.KernelRfl
set_option linter.unusedVariables false
namespace Go.Proofs.YtbndfclpclifbaaGreatDoor
open Go Go.Proofs.YtbndfclpclifbaaGreatDoor.Am Go.Proofs.Tryz
set_option maxRecDepth 100000
noncomputable section
def tyl : List (Nat × TyD) := [(3, {kd := .int .i64}),
 (4, {kd := .bool}),
 (5, {kd := .int .u8}),
 (9, {kd := .str}),
 (22, {kd := .sl (.int .u8), elt := .int .u8, bytes := 1}),
 (23, {kd := .sl (.int .i64), elt := .int .i64, bytes := 8}),
 (24, {kd := .sl (.pair (.int .i64) (.pair .str (.pair (.int .i64) (.int .i64)))), elt := .pair (.int .i64) (.pair .str (.pair (.int .i64) (.int .i64))), bytes := 40}),
 (26, {kd := .pair (.int .i64) (.pair (.sl (.int .i64)) (.pair (.sl (.int .i64)) (.sl (.pair (.int .i64) (.pair .str (.pair (.int .i64) (.int .i64))))))), flds := [(0, .int .i64), (1, .sl (.int .i64)), (2, .sl (.int .i64)), (3, .sl (.pair (.int .i64) (.pair .str (.pair (.int .i64) (.int .i64)))))]}),
 (33, {kd := .pair (.int .i64) (.sl (.int .i64)), flds := [(0, .int .i64), (1, .sl (.int .i64))]}),
 (48, {kd := .sl (.sl (.int .i64)), elt := .sl (.int .i64), bytes := 24}),
 (52, {kd := .pair (.int .i64) (.pair .str (.pair (.int .i64) (.int .i64))), flds := [(0, .int .i64), (1, .str), (2, .int .i64), (3, .int .i64)]}),
 (59, {kd := .sl .str, elt := .str, bytes := 16}),
 (67, {kd := .pair (.pair (.int .i64) (.pair (.sl (.int .i64)) (.pair (.sl (.int .i64)) (.sl (.pair (.int .i64) (.pair .str (.pair (.int .i64) (.int .i64)))))))) (.pair (.int .i64) (.pair (.sl (.int .i64)) (.pair (.sl (.int .i64)) (.sl (.pair (.int .i64) (.pair .str (.pair (.int .i64) (.int .i64)))))))), flds := [(0, .pair (.int .i64) (.pair (.sl (.int .i64)) (.pair (.sl (.int .i64)) (.sl (.pair (.int .i64) (.pair .str (.pair (.int .i64) (.int .i64)))))))), (4, .pair (.int .i64) (.pair (.sl (.int .i64)) (.pair (.sl (.int .i64)) (.sl (.pair (.int .i64) (.pair .str (.pair (.int .i64) (.int .i64))))))))]}),
 (77, {kd := .pair (.sl (.int .u8)) (.int .i64), flds := [(0, .sl (.int .u8)), (1, .int .i64)]}),
 (137, {kd := .int .u64}),
 (197, {kd := .int .u64})]
def ty0 : Nat → Option TyD := assoc tyl
theorem tyl_ok {sb : Bool} : tysOkB (⟨prog, sb⟩ : Pg) tyl = true := by kernel_rfl
theorem mixed : prog.follows .mixedOrders = true := by kernel_rfl
def D : Nat → List Fm → List Fm
 | 0, l => l
 | n + 1, l => .cell .drop :: D n l
theorem oF {sb : Bool} {g : Nat} {f : FnA} {fn : Func} {ty : Nat → Option TyD} {rest : Nat → Option FnA} {ms : Nat → Option FnM} {bs : Nat → Option FnB} {il : Nat → Option (Nat × CallD)} {sp : Nat → Nat} (h : FnOk (⟨prog, sb⟩ : Pg) g f) (hf : prog.funcs[g]? = some fn) (hr : FnsOk (⟨prog, sb⟩ : Pg) ⟨ty, rest, ms, bs, il, sp⟩)
  (h1 : (fn.name == "runtime.NumGoroutine") = false := by kernel_rfl) (h2 : fn.body.isSome = true := by kernel_rfl) : FnsOk (⟨prog, sb⟩ : Pg) ⟨ty, fun n => ifEq n g (some f) (rest n), ms, bs, il, sp⟩ := oneFn h hf h1 h2 hr
theorem tyk {sb : Bool} {E : Env} (h : E.ty = ty0) : TysOk (⟨prog, sb⟩ : Pg) E := by
 obtain ⟨ty, fn, ms, bs, il, sp⟩ := E
 obtain rfl : ty = ty0 := h
 exact tysOk_of tyl_ok
theorem fo {sb : Bool} {E : Env} {L : Nat → Option LoopD} {g : Nat} {fn : Func} {ps : List Prm} {own : Bool} {outs : List Kd} {F : PrmsT ps → Option (OutsT outs)} {bs : List Code} (he : fnF E L ps own outs fn.ntmps fn.results.toList (codeOf fn) = F) (hf : prog.funcs[g]? = some fn) (hF : FnsOk (⟨prog, sb⟩ : Pg) E)
  (hs : ∀ b ∈ bs, LoopOk (⟨prog, sb⟩ : Pg) L b) (hb : fn.body = some (codeOf fn) := by kernel_rfl) (hl : loopsOf (codeOf fn) = bs := by kernel_rfl) (hd : drawsB E (drawsOf (codeOf fn)) = true := by kernel_rfl) (hE : E.ty = ty0 := by rfl) : FnOk (⟨prog, sb⟩ : Pg) g ⟨ps, own, outs, F⟩ := by
 have h := fnOk_of_run (P := ⟨prog, sb⟩) (tyk hE) hF (L := L) (ps := ps) (own := own) (outs := outs) hf hb (codeOk_in (tyk hE) hF mixed hl hs hd)
 rw [he] at h
 exact h
theorem lo {sb : Bool} {E : Env} {L L' : Nat → Option LoopD} {n i : Nat} {b : Code} {bs : List Code} {sh : List Fm} {xs : List (Ex × List Fm)} {f : FmsT sh → Option (FmsT sh ⊕ XsT xs)} (he : loopStep n E L' b sh xs = f) (hF : FnsOk (⟨prog, sb⟩ : Pg) E)
  (hs : ∀ b ∈ bs, LoopOk (⟨prog, sb⟩ : Pg) L' b) (h : L i = some ⟨n, sh, xs, f⟩) (hl : loopsOf b = bs := by kernel_rfl) (hd : drawsB E (drawsOf b) = true := by kernel_rfl) (h1 : nodupN (toksF sh) = true := by kernel_rfl) (h2 : okXs xs = true := by kernel_rfl) (hi : firstId b = i := by kernel_rfl) (hE : E.ty = ty0 := by rfl) : LoopOk (⟨prog, sb⟩ : Pg) L b :=
 loopOk (tyk hE) hF (codeOk_in (tyk hE) hF mixed hl hs hd) h1 h2 he (by rw [hi]; exact h)
def L0 : Nat → Option LoopD := fun _ => none
def E0 : Env := ⟨ty0, fun _ => none, fun _ => none, fun _ => none, fun _ => none, fun _ => 0⟩
theorem E0_ok {sb : Bool} : FnsOk (⟨prog, sb⟩ : Pg) E0 := noFns _ _
def ev (f : Nat → Option FnA) : Env := ⟨ty0, f, fun _ => none, fun _ => none, fun _ => none, fun _ => 0⟩
abbrev i6 : Kd := .int .i64
abbrev sI : Kd := .sl i6
abbrev kS : Kd := .pair i6 (.pair .str (.pair i6 i6))
abbrev sS : Kd := .sl kS
abbrev kA : Kd := .pair i6 (.pair sI (.pair sI sS))
abbrev kM : Kd := .pair i6 sI
abbrev kE : Kd := .pair kM .str
abbrev sE : Kd := .sl kE
abbrev kR : Kd := .pair (.sl (.int .u8)) i6
abbrev LI := List Int
abbrev TS := Int × (ByteArray × (Int × Int))
abbrev LS := List TS
abbrev TA := Int × (LI × (LI × LS))
abbrev TM := Int × LI
abbrev TE := TM × ByteArray
abbrev LE := List TE
theorem fm {sb : Bool} {E : Env} {L : Nat → Option LoopD} {g : Nat} {fn : Func} {ps : List Ar} {own : Bool} {outs : List Kd} {F : ArsT ps → Option (OutsT outs × IosT ps)} {bs : List Code} (he : fnMF E L ps own outs fn.ntmps fn.results.toList (codeOf fn) = F) (hf : prog.funcs[g]? = some fn) (hF : FnsOk (⟨prog, sb⟩ : Pg) E)
  (hs : ∀ b ∈ bs, LoopOk (⟨prog, sb⟩ : Pg) L b) (hb : fn.body = some (codeOf fn) := by kernel_rfl) (hl : loopsOf (codeOf fn) = bs := by kernel_rfl) (hd : drawsB E (drawsOf (codeOf fn)) = true := by kernel_rfl) (hE : E.ty = ty0 := by rfl) (hnd : nodupN (toksM 12500 ps) = true := by kernel_rfl) : FnMOk (⟨prog, sb⟩ : Pg) g ⟨ps, own, outs, none, F⟩ := by
 have h := fnMOk_of_run (P := ⟨prog, sb⟩) (tyk hE) hF (L := L) (ps := ps) (own := own) (outs := outs) hf hb (codeOk_in (tyk hE) hF mixed hl hs hd) hnd
 rw [he] at h
 exact h
abbrev d : Fm := .cell .drop
section
variable {sb : Bool}
def cmp_isNaN : Int → Option (Bool) := fun a0 =>
 some (a0 != a0)
def A193 : FnA := ⟨[.v i6], true, [.bool], fun x => cmp_isNaN x.1⟩
theorem cmp_isNaN_eq : fnF E0 L0 [.v i6] true [.bool] f193.ntmps f193.results.toList (codeOf f193) = fun x => cmp_isNaN x.1 := by kernel_rfl
theorem A193_ok : FnOk (⟨prog, sb⟩ : Pg) 193 A193 := by
 have h := fnOk_of_run (P := (⟨prog, sb⟩ : Pg)) (E := E0) (tysOk_of tyl_ok) E0_ok (L := L0) (ps := [.v i6]) (own := true) (outs := [.bool]) func193 (c := codeOf f193) (by kernel_rfl) (codeOk_in (L := L0) (tysOk_of tyl_ok) E0_ok mixed (c := codeOf f193) (bs := []) (by kernel_rfl) allNil (by kernel_rfl))
 rw [cmp_isNaN_eq] at h
 exact h
end
section
variable {sb : Bool}
def E119 : Env := ev fun g => ifEq g 193 (some A193) (none)
theorem E119_ok : FnsOk (⟨prog, sb⟩ : Pg) E119 := (oF A193_ok func193 (noFns _ _))
def cmp_Compare : Int → Int → Option (Int) := fun a0 a1 =>
 Option.bind (cmp_isNaN a0) fun r0 =>
  Option.bind (cmp_isNaN a1) fun r1 =>
   bif r0 then
    bif r1 then
     some 0
    else
     some (-1)
   else
    bif r1 then
     some 1
    else
     bif (decide (a0 < a1)) then
      some (-1)
     else
      bif (decide (a0 > a1)) then
       some 1
      else
       some 0
def A119 : FnA := ⟨[.v i6, .v i6], true, [.int .i64], fun x => cmp_Compare x.1 x.2.1⟩
theorem cmp_Compare_eq : fnF E119 L0 [.v i6, .v i6] true [.int .i64] f119.ntmps f119.results.toList (codeOf f119) = fun x => cmp_Compare x.1 x.2.1 := by kernel_rfl
theorem A119_ok : FnOk (⟨prog, sb⟩ : Pg) 119 A119 := by
 have h := fnOk_of_run (P := (⟨prog, sb⟩ : Pg)) (E := E119) (tysOk_of tyl_ok) E119_ok (L := L0) (ps := [.v i6, .v i6]) (own := true) (outs := [.int .i64]) func119 (c := codeOf f119) (by kernel_rfl) (codeOk_in (L := L0) (tysOk_of tyl_ok) E119_ok mixed (c := codeOf f119) (bs := []) (by kernel_rfl) allNil (by kernel_rfl))
 rw [cmp_Compare_eq] at h
 exact h
end
section
variable {sb : Bool}
def sh118_3 : List Fm := d :: d :: d :: .cell (.val i6) :: d :: d :: .cell (.val sI) :: .cell (.val i6) :: .cell (.val i6) :: D 9 []
def xs118_3 : List (Ex × List Fm) := [(.ret, (d :: d :: .cell (.val i6) :: D 15 [])), (.exit 0, (d :: d :: d :: .cell (.val i6) :: D 14 []))]
def cmp_Or_l3 : (Int × LI × Int × Int × Unit) → Option ((Int × LI × Int × Int × Unit) ⊕ ((Int × Unit) ⊕ (Int × Unit))) := fun (v3, v6, v7, v8, _) =>
 bif (decide (v8 < v7)) then
  if (((0 : Int) ≤ v8) ∧ (v8 < (((List.length v6) : Nat) : Int))) then
   bif ((List.getD v6 (Int.toNat v8) 0) != v3) then
    some (Sum.inr (Sum.inl ((List.getD v6 (Int.toNat v8) 0), ())))
   else
    some (Sum.inl (v3, v6, v7, (IntKind.wrap .i64 (v8 + 1)), ()))
  else
   none
 else
  some (Sum.inr (Sum.inr (v3, ())))
theorem cmp_Or_l3_eq : loopStep 18 E0 L0 (loopOf f118 3) sh118_3 xs118_3 = cmp_Or_l3 := by kernel_rfl
theorem loop118_3 {L : Nat → Option LoopD} (h : L 3 = some ⟨18, sh118_3, xs118_3, cmp_Or_l3⟩) : LoopOk (⟨prog, sb⟩ : Pg) L (loopOf f118 3) :=
 loopOk (tysOk_of tyl_ok) E0_ok (codeOk_in (L := L0) (tysOk_of tyl_ok) E0_ok mixed (c := loopOf f118 3) (bs := []) (by kernel_rfl) allNil (by kernel_rfl)) (by kernel_rfl) (by kernel_rfl) cmp_Or_l3_eq (by rw [show firstId (loopOf f118 3) = 3 from by kernel_rfl]; exact h)
def L118_1 : Nat → Option LoopD := fun n => ifEq n 3 (some ⟨18, sh118_3, xs118_3, cmp_Or_l3⟩) (L0 n)
def cmp_Or : LI → Option (Int) := fun a0 =>
 Option.bind (loopF cmp_Or_l3 ((0 : Int), a0, (((List.length a0) : Nat) : Int), 0, ())) fun r0 =>
  (match r0 with
  | .inl (d1, _) =>
    some d1
  | .inr (d2, _) =>
    some d2)
def A118 : FnA := ⟨[.v sI], true, [.int .i64], fun x => cmp_Or x.1⟩
theorem cmp_Or_eq : fnF E0 L118_1 [.v sI] true [.int .i64] f118.ntmps f118.results.toList (codeOf f118) = fun x => cmp_Or x.1 := by kernel_rfl
theorem A118_ok : FnOk (⟨prog, sb⟩ : Pg) 118 A118 := by
 have h := fnOk_of_run (P := (⟨prog, sb⟩ : Pg)) (E := E0) (tysOk_of tyl_ok) E0_ok (L := L118_1) (ps := [.v sI]) (own := true) (outs := [.int .i64]) func118 (c := codeOf f118) (by kernel_rfl) (codeOk_in (L := L118_1) (tysOk_of tyl_ok) E0_ok mixed (c := codeOf f118) (bs := [loopOf f118 3]) (by kernel_rfl) (allCons (loop118_3 rfl) allNil) (by kernel_rfl))
 rw [cmp_Or_eq] at h
 exact h
end
section
variable {sb : Bool}
def E46 : Env := ev fun g => ifEq g 119 (some A119) (ifEq g 120 (some A120) (ifEq g 118 (some A118) (none)))
theorem E46_ok : FnsOk (⟨prog, sb⟩ : Pg) E46 := (oF A119_ok func119 (oF A120_ok func120 (oF A118_ok func118 (noFns _ _))))
def impl_stepOrder : TS → TS → Option (Int) := fun (a0_0, a0_1, a0_2, a0_3) (a1_0, a1_1, a1_2, a1_3) =>
 Option.bind (cmp_Compare a0_0 a1_0) fun r0 =>
  Option.bind (strings_Compare a0_1 a1_1) fun r1 =>
   Option.bind (cmp_Compare a0_2 a1_2) fun r2 =>
    Option.bind (cmp_Or (List.take 3 (List.drop 0 [r0, r1, r2]))) fun r3 =>
     some r3
def A46 : FnA := ⟨[.v kS, .v kS], true, [.int .i64], fun x => impl_stepOrder x.1 x.2.1⟩
theorem impl_stepOrder_eq : fnF E46 L0 [.v kS, .v kS] true [.int .i64] f46.ntmps f46.results.toList (codeOf f46) = fun x => impl_stepOrder x.1 x.2.1 := by kernel_rfl
theorem A46_ok : FnOk (⟨prog, sb⟩ : Pg) 46 A46 := by
 have h := fnOk_of_run (P := (⟨prog, sb⟩ : Pg)) (E := E46) (tysOk_of tyl_ok) E46_ok (L := L0) (ps := [.v kS, .v kS]) (own := true) (outs := [.int .i64]) func46 (c := codeOf f46) (by kernel_rfl) (codeOk_in (L := L0) (tysOk_of tyl_ok) E46_ok mixed (c := codeOf f46) (bs := []) (by kernel_rfl) allNil (by kernel_rfl))
 rw [impl_stepOrder_eq] at h
 exact h
end
end
end Go.Proofs.YtbndfclpclifbaaGreatDoor
