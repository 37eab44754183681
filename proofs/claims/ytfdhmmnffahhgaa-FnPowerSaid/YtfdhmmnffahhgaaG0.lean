/- What Go functions that the laws reach compute, and that they do: written by a program of this session. -/
import Derived.Test.YtfdhmmnffahhgaaCmp
import Derived.KernelRfl
set_option linter.unusedVariables false
namespace Go.Proofs.Ytfdhmmnffahhgaa
open Go Go.Proofs.Ytfdhmmnffahhgaa.Am Go.Proofs.Try
set_option maxRecDepth 100000
def tyl : List (Nat × TyD) := [(3, {kd := .int .i64}),
 (4, {kd := .bool}),
 (5, {kd := .int .u8}),
 (9, {kd := .str}),
 (22, {kd := .sl (.int .u8), elt := .int .u8, bytes := 1}),
 (23, {kd := .sl (.int .i64), elt := .int .i64, bytes := 8}),
 (24, {kd := .sl (.pair (.int .i64) (.pair .str (.pair (.int .i64) (.int .i64)))), elt := .pair (.int .i64) (.pair .str (.pair (.int .i64) (.int .i64))), bytes := 40}),
 (26, {kd := .pair (.int .i64) (.pair (.sl (.int .i64)) (.pair (.sl (.int .i64)) (.sl (.pair (.int .i64) (.pair .str (.pair (.int .i64) (.int .i64))))))), flds := [(0, .int .i64), (1, .sl (.int .i64)), (2, .sl (.int .i64)), (3, .sl (.pair (.int .i64) (.pair .str (.pair (.int .i64) (.int .i64)))))]}),
 (44, {kd := .sl .str, elt := .str, bytes := 16}),
 (79, {kd := .pair (.int .i64) (.pair .str (.pair (.int .i64) (.int .i64))), flds := [(0, .int .i64), (1, .str), (2, .int .i64), (3, .int .i64)], eq := true}),
 (90, {kd := .sl (.sl (.int .i64)), elt := .sl (.int .i64), bytes := 24}),
 (92, {kd := .sl .bool, elt := .bool, bytes := 1}),
 (101, {kd := .pair (.sl (.int .u8)) (.int .i64), flds := [(0, .sl (.int .u8)), (1, .int .i64)]}),
 (146, {kd := .int .u64}),
 (165, {kd := .int .u64})]
def ty0 : Nat → Option TyD := assoc tyl
theorem tyl_ok : tysOkB prog tyl = true := by kernel_rfl
theorem mixed : prog.follows .mixedOrders = true := by kernel_rfl
def D : Nat → List Fm → List Fm
 | 0, l => l
 | n + 1, l => .cell .drop :: D n l
theorem oF {g : Nat} {f : FnA} {fn : Func} {ty : Nat → Option TyD} {rest : Nat → Option FnA} {ms : Nat → Option FnM} {bs : Nat → Option FnB} {il : Nat → Option (Nat × CallD)} (h : FnOk prog g f) (hf : prog.funcs[g]? = some fn) (hr : FnsOk prog ⟨ty, rest, ms, bs, il⟩)
  (h1 : (fn.name == "runtime.NumGoroutine") = false := by kernel_rfl) (h2 : fn.body.isSome = true := by kernel_rfl) : FnsOk prog ⟨ty, fun n => ifEq n g (some f) (rest n), ms, bs, il⟩ := oneFn h hf h1 h2 hr
theorem tyk {E : Env} (h : E.ty = ty0) : TysOk prog E := by
 obtain ⟨ty, fn, ms, bs, il⟩ := E
 obtain rfl : ty = ty0 := h
 exact tysOk_of tyl_ok
theorem fo {E : Env} {L : Nat → Option LoopD} {g : Nat} {fn : Func} {ps : List Prm} {own : Bool} {outs : List Kd} {F : PrmsT ps → Option (OutsT outs)} {bs : List Code} (he : fnF E L ps own outs fn.ntmps fn.results.toList (codeOf fn) = F) (hf : prog.funcs[g]? = some fn) (hF : FnsOk prog E)
  (hs : ∀ b ∈ bs, LoopOk prog L b) (hb : fn.body = some (codeOf fn) := by kernel_rfl) (hl : loopsOf (codeOf fn) = bs := by kernel_rfl) (hd : drawsB E (drawsOf (codeOf fn)) = true := by kernel_rfl) (hE : E.ty = ty0 := by rfl) : FnOk prog g ⟨ps, own, outs, F⟩ := by
 have h := fnOk_of_run (P := prog) (tyk hE) hF (L := L) (ps := ps) (own := own) (outs := outs) hf hb (codeOk_in (tyk hE) hF mixed hl hs hd)
 rw [he] at h
 exact h
theorem lo {E : Env} {L L' : Nat → Option LoopD} {n i : Nat} {b : Code} {bs : List Code} {sh : List Fm} {xs : List (Ex × List Fm)} {f : FmsT sh → Option (FmsT sh ⊕ XsT xs)} (he : loopStep n E L' b sh xs = f) (hF : FnsOk prog E)
  (hs : ∀ b ∈ bs, LoopOk prog L' b) (h : L i = some ⟨n, sh, xs, f⟩) (hl : loopsOf b = bs := by kernel_rfl) (hd : drawsB E (drawsOf b) = true := by kernel_rfl) (h1 : nodupN (toksF sh) = true := by kernel_rfl) (h2 : okXs xs = true := by kernel_rfl) (hi : firstId b = i := by kernel_rfl) (hE : E.ty = ty0 := by rfl) : LoopOk prog L b :=
 loopOk (tyk hE) hF (codeOk_in (tyk hE) hF mixed hl hs hd) h1 h2 he (by rw [hi]; exact h)
abbrev d : Fm := .cell .drop
/-! cmp.isNaN[int] -/
noncomputable def E133 : Env := ⟨ty0, fun _ => none, fun _ => none, fun _ => none, fun _ => none⟩
theorem E133_ok : FnsOk prog E133 := (noFns _ _)
noncomputable def L133_0 : Nat → Option LoopD := fun _ => none
noncomputable def cmp_isNaN : Int → Option (Bool) := fun a0 =>
 some (a0 != a0)
noncomputable def A133 : FnA := ⟨[.v (.int .i64)], true, [.bool], fun x => cmp_isNaN x.1⟩
theorem cmp_isNaN_eq : fnF E133 L133_0 [.v (.int .i64)] true [.bool] f133.ntmps f133.results.toList (codeOf f133) = fun x => cmp_isNaN x.1 := by kernel_rfl
theorem A133_ok : FnOk prog 133 A133 := fo cmp_isNaN_eq func133 E133_ok allNil
/-! cmp.Compare[int] -/
noncomputable def E100 : Env := ⟨ty0, fun g => ifEq g 133 (some A133) (none), fun _ => none, fun _ => none, fun _ => none⟩
theorem E100_ok : FnsOk prog E100 := (oF A133_ok func133 (noFns _ _))
noncomputable def L100_0 : Nat → Option LoopD := fun _ => none
noncomputable def cmp_Compare : Int → Int → Option (Int) := fun a0 a1 =>
 Option.bind (cmp_isNaN a0) fun r0 =>
  Option.bind (cmp_isNaN a1) fun r1 =>
   bif r0 then
    bif r1 then
     some (0 : Int)
    else
     some (-1 : Int)
   else
    bif r1 then
     some (1 : Int)
    else
     bif (decide (a0 < a1)) then
      some (-1 : Int)
     else
      bif (decide (a0 > a1)) then
       some (1 : Int)
      else
       some (0 : Int)
noncomputable def A100 : FnA := ⟨[.v (.int .i64), .v (.int .i64)], true, [.int .i64], fun x => cmp_Compare x.1 x.2.1⟩
theorem cmp_Compare_eq : fnF E100 L100_0 [.v (.int .i64), .v (.int .i64)] true [.int .i64] f100.ntmps f100.results.toList (codeOf f100) = fun x => cmp_Compare x.1 x.2.1 := by kernel_rfl
theorem A100_ok : FnOk prog 100 A100 := fo cmp_Compare_eq func100 E100_ok allNil
/-! cmp.Or[int] -/
noncomputable def E99 : Env := ⟨ty0, fun _ => none, fun _ => none, fun _ => none, fun _ => none⟩
theorem E99_ok : FnsOk prog E99 := (noFns _ _)
noncomputable def L99_0 : Nat → Option LoopD := fun _ => none
def sh99_3 : List Fm := d :: d :: d :: .cell (.val (.int .i64)) :: d :: d :: .cell (.val (.sl (.int .i64))) :: .cell (.val (.int .i64)) :: .cell (.val (.int .i64)) :: D 9 []
def xs99_3 : List (Ex × List Fm) := [(.ret, (d :: d :: .cell (.val (.int .i64)) :: D 15 [])), (.exit 0, (d :: d :: d :: .cell (.val (.int .i64)) :: D 14 []))]
noncomputable def cmp_Or_l3 : (Int × (List Int) × Int × Int × Unit) → Option ((Int × (List Int) × Int × Int × Unit) ⊕ ((Int × Unit) ⊕ (Int × Unit))) := fun (v3, v6, v7, v8, _) =>
 bif (decide (v8 < v7)) then
  if (((0 : Int) ≤ v8) ∧ (v8 < (((List.length v6) : Nat) : Int))) then
   bif ((List.getD v6 (Int.toNat v8) (0 : Int)) != v3) then
    some (Sum.inr (Sum.inl ((List.getD v6 (Int.toNat v8) (0 : Int)), ())))
   else
    some (Sum.inl (v3, v6, v7, (IntKind.wrap .i64 (v8 + (1 : Int))), ()))
  else
   none
 else
  some (Sum.inr (Sum.inr (v3, ())))
theorem cmp_Or_l3_eq : loopStep 18 E99 L99_0 (loopOf f99 3) sh99_3 xs99_3 = cmp_Or_l3 := by kernel_rfl
theorem loop99_3 {L} (h : L 3 = some ⟨18, sh99_3, xs99_3, cmp_Or_l3⟩) : LoopOk prog L (loopOf f99 3) := lo cmp_Or_l3_eq E99_ok allNil h
noncomputable def L99_1 : Nat → Option LoopD := fun n => ifEq n 3 (some ⟨18, sh99_3, xs99_3, cmp_Or_l3⟩) (L99_0 n)
noncomputable def cmp_Or : (List Int) → Option (Int) := fun a0 =>
 Option.bind (loopF cmp_Or_l3 ((0 : Int), a0, (((List.length a0) : Nat) : Int), (0 : Int), ())) fun r0 =>
  (match r0 with
  | .inl (d1, _) =>
    some d1
  | .inr (d2, _) =>
    some d2)
noncomputable def A99 : FnA := ⟨[.v (.sl (.int .i64))], true, [.int .i64], fun x => cmp_Or x.1⟩
theorem cmp_Or_eq : fnF E99 L99_1 [.v (.sl (.int .i64))] true [.int .i64] f99.ntmps f99.results.toList (codeOf f99) = fun x => cmp_Or x.1 := by kernel_rfl
theorem A99_ok : FnOk prog 99 A99 := fo cmp_Or_eq func99 E99_ok (allCons (loop99_3 rfl) allNil)
/-! impl.stepOrder -/
noncomputable def E55 : Env := ⟨ty0, fun g => ifEq g 100 (some A100) (ifEq g 101 (some A101) (ifEq g 99 (some A99) (none))), fun _ => none, fun _ => none, fun _ => none⟩
theorem E55_ok : FnsOk prog E55 := (oF A100_ok func100 (oF A101_ok func101 (oF A99_ok func99 (noFns _ _))))
noncomputable def L55_0 : Nat → Option LoopD := fun _ => none
noncomputable def impl_stepOrder : (Int × (ByteArray × (Int × Int))) → (Int × (ByteArray × (Int × Int))) → Option (Int) := fun (a0_0, a0_1, a0_2, a0_3) (a1_0, a1_1, a1_2, a1_3) =>
 Option.bind (cmp_Compare a0_0 a1_0) fun r0 =>
  Option.bind (strings_Compare a0_1 a1_1) fun r1 =>
   Option.bind (cmp_Compare a0_2 a1_2) fun r2 =>
    Option.bind (cmp_Or (List.take 3 (List.drop 0 [r0, r1, r2]))) fun r3 =>
     some r3
noncomputable def A55 : FnA := ⟨[.v (.pair (.int .i64) (.pair .str (.pair (.int .i64) (.int .i64)))), .v (.pair (.int .i64) (.pair .str (.pair (.int .i64) (.int .i64))))], true, [.int .i64], fun x => impl_stepOrder x.1 x.2.1⟩
theorem impl_stepOrder_eq : fnF E55 L55_0 [.v (.pair (.int .i64) (.pair .str (.pair (.int .i64) (.int .i64)))), .v (.pair (.int .i64) (.pair .str (.pair (.int .i64) (.int .i64))))] true [.int .i64] f55.ntmps f55.results.toList (codeOf f55) = fun x => impl_stepOrder x.1 x.2.1 := by kernel_rfl
theorem A55_ok : FnOk prog 55 A55 := fo impl_stepOrder_eq func55 E55_ok allNil
end Go.Proofs.Ytfdhmmnffahhgaa
