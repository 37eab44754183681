/- What Go functions that the laws reach compute, and that they do: written by a program of this session. -/
import Derived.Test.YtfdhmmnffahhgaaCmp
import Derived.Test.YtfdhmmnffahhgaaRep
import Derived.KernelRfl
set_option linter.unusedVariables false
namespace Go.Proofs.Ytfdhmmnffahhgaa
open Go Go.Proofs.Ytfdhmmnffahhgaa.Am Go.Proofs.Try
set_option maxRecDepth 100000
def tyl : List (Nat × TyD) := [(3, {kd := .int .i64}),
 (4, {kd := .bool}),
 (9, {kd := .str}),
 (23, {kd := .sl (.int .i64), elt := .int .i64, bytes := 8}),
 (32, {kd := .pair (.int .i64) (.sl (.int .i64)), flds := [(0, .int .i64), (1, .sl (.int .i64))]}),
 (34, {kd := .pair (.pair (.int .i64) (.sl (.int .i64))) .str, flds := [(0, .pair (.int .i64) (.sl (.int .i64))), (2, .str)]}),
 (44, {kd := .sl .str, elt := .str, bytes := 16}),
 (52, {kd := .pair (.int .i64) (.sl (.int .i64)), flds := [(0, .int .i64), (1, .sl (.int .i64))]}),
 (54, {kd := .pair (.pair (.int .i64) (.sl (.int .i64))) .str, flds := [(0, .pair (.int .i64) (.sl (.int .i64))), (2, .str)]})]
def ty0 : Nat → Option TyD := assoc tyl
theorem tyl_ok : tysOkB prog tyl = true := by kernel_rfl
theorem mixed : prog.follows .mixedOrders = true := by kernel_rfl
def D : Nat → List Fm → List Fm
 | 0, l => l
 | n + 1, l => .cell .drop :: D n l
theorem oF {g : Nat} {f : FnA} {fn : Func} {ty : Nat → Option TyD} {rest : Nat → Option FnA} {ms : Nat → Option FnM} {bs : Nat → Option FnB} {il : Nat → Option (Nat × CallD)} (h : FnOk prog g f) (hf : prog.funcs[g]? = some fn) (hr : FnsOk prog ⟨ty, rest, ms, bs, il⟩)
  (h1 : (fn.name == "runtime.NumGoroutine") = false := by kernel_rfl) (h2 : fn.body.isSome = true := by kernel_rfl) : FnsOk prog ⟨ty, fun n => ifEq n g (some f) (rest n), ms, bs, il⟩ := oneFn h hf h1 h2 hr
theorem tyk {E : Env} (h : E.ty = ty0) : TysOk prog E := by
 obtain ⟨ty, fn, ms, bs, il⟩ := E
 obtain rfl : ty = ty0 := h
 exact tysOk_of tyl_ok
theorem fo {E : Env} {L : Nat → Option LoopD} {g : Nat} {fn : Func} {ps : List Prm} {own : Bool} {outs : List Kd} {F : PrmsT ps → Option (OutsT outs)} {bs : List Code} (he : fnF E L ps own outs fn.ntmps fn.results.toList (codeOf fn) = F) (hf : prog.funcs[g]? = some fn) (hF : FnsOk prog E)
  (hs : ∀ b ∈ bs, LoopOk prog L b) (hb : fn.body = some (codeOf fn) := by kernel_rfl) (hl : loopsOf (codeOf fn) = bs := by kernel_rfl) (hd : drawsB E (drawsOf (codeOf fn)) = true := by kernel_rfl) (hE : E.ty = ty0 := by rfl) : FnOk prog g ⟨ps, own, outs, F⟩ := by
 have h := fnOk_of_run (P := prog) (tyk hE) hF (L := L) (ps := ps) (own := own) (outs := outs) hf hb (codeOk_in (tyk hE) hF mixed hl hs hd)
 rw [he] at h
 exact h
theorem lo {E : Env} {L L' : Nat → Option LoopD} {n i : Nat} {b : Code} {bs : List Code} {sh : List Fm} {xs : List (Ex × List Fm)} {f : FmsT sh → Option (FmsT sh ⊕ XsT xs)} (he : loopStep n E L' b sh xs = f) (hF : FnsOk prog E)
  (hs : ∀ b ∈ bs, LoopOk prog L' b) (h : L i = some ⟨n, sh, xs, f⟩) (hl : loopsOf b = bs := by kernel_rfl) (hd : drawsB E (drawsOf b) = true := by kernel_rfl) (h1 : nodupN (toksF sh) = true := by kernel_rfl) (h2 : okXs xs = true := by kernel_rfl) (hi : firstId b = i := by kernel_rfl) (hE : E.ty = ty0 := by rfl) : LoopOk prog L b :=
 loopOk (tyk hE) hF (codeOk_in (tyk hE) hF mixed hl hs hd) h1 h2 he (by rw [hi]; exact h)
abbrev d : Fm := .cell .drop
/-! laws.szIntS -/
noncomputable def E110 : Env := ⟨ty0, fun _ => none, fun _ => none, fun _ => none, fun _ => none⟩
theorem E110_ok : FnsOk prog E110 := (noFns _ _)
noncomputable def L110_0 : Nat → Option LoopD := fun _ => none
noncomputable def laws_szIntS : (List Int) → Int → Option (Int) := fun a0 a1 =>
 bif (decide ((IntKind.wrap .i64 (a1 - (((List.length a0) : Nat) : Int))) < (0 : Int))) then
  some (-1 : Int)
 else
  some (IntKind.wrap .i64 (a1 - (((List.length a0) : Nat) : Int)))
noncomputable def A110 : FnA := ⟨[.v (.sl (.int .i64)), .v (.int .i64)], true, [.int .i64], fun x => laws_szIntS x.1 x.2.1⟩
theorem laws_szIntS_eq : fnF E110 L110_0 [.v (.sl (.int .i64)), .v (.int .i64)] true [.int .i64] f110.ntmps f110.results.toList (codeOf f110) = fun x => laws_szIntS x.1 x.2.1 := by kernel_rfl
theorem A110_ok : FnOk prog 110 A110 := fo laws_szIntS_eq func110 E110_ok allNil
/-! laws.szMatrix -/
noncomputable def E67 : Env := ⟨ty0, fun g => ifEq g 110 (some A110) (none), fun _ => none, fun _ => none, fun _ => none⟩
theorem E67_ok : FnsOk prog E67 := (oF A110_ok func110 (noFns _ _))
noncomputable def L67_0 : Nat → Option LoopD := fun _ => none
noncomputable def laws_szMatrix : (Int × (List Int)) → Int → Option (Int) := fun (a0_0, a0_1) a1 =>
 Option.bind (laws_szIntS a0_1 a1) fun r0 =>
  bif (decide (r0 < (0 : Int))) then
   some (-1 : Int)
  else
   some r0
noncomputable def A67 : FnA := ⟨[.v (.pair (.int .i64) (.sl (.int .i64))), .v (.int .i64)], true, [.int .i64], fun x => laws_szMatrix x.1 x.2.1⟩
theorem laws_szMatrix_eq : fnF E67 L67_0 [.v (.pair (.int .i64) (.sl (.int .i64))), .v (.int .i64)] true [.int .i64] f67.ntmps f67.results.toList (codeOf f67) = fun x => laws_szMatrix x.1 x.2.1 := by kernel_rfl
theorem A67_ok : FnOk prog 67 A67 := fo laws_szMatrix_eq func67 E67_ok allNil
/-! laws.szElement -/
noncomputable def E24 : Env := ⟨ty0, fun g => ifEq g 67 (some A67) (none), fun _ => none, fun _ => none, fun _ => none⟩
theorem E24_ok : FnsOk prog E24 := (oF A67_ok func67 (noFns _ _))
noncomputable def L24_0 : Nat → Option LoopD := fun _ => none
noncomputable def laws_szElement : ((Int × (List Int)) × ByteArray) → Int → Option (Int) := fun ((a0_0, a0_1), a0_2) a1 =>
 Option.bind (laws_szMatrix (a0_0, a0_1) a1) fun r0 =>
  bif (decide (r0 < (0 : Int))) then
   some (-1 : Int)
  else
   bif (decide ((IntKind.wrap .i64 (r0 - (((ByteArray.size a0_2) : Nat) : Int))) < (0 : Int))) then
    some (-1 : Int)
   else
    some (IntKind.wrap .i64 (r0 - (((ByteArray.size a0_2) : Nat) : Int)))
noncomputable def A24 : FnA := ⟨[.v (.pair (.pair (.int .i64) (.sl (.int .i64))) .str), .v (.int .i64)], true, [.int .i64], fun x => laws_szElement x.1 x.2.1⟩
theorem laws_szElement_eq : fnF E24 L24_0 [.v (.pair (.pair (.int .i64) (.sl (.int .i64))) .str), .v (.int .i64)] true [.int .i64] f24.ntmps f24.results.toList (codeOf f24) = fun x => laws_szElement x.1 x.2.1 := by kernel_rfl
theorem A24_ok : FnOk prog 24 A24 := fo laws_szElement_eq func24 E24_ok allNil
/-! laws.toIntS -/
noncomputable def E112 : Env := ⟨ty0, fun _ => none, fun _ => none, fun _ => none, fun _ => none⟩
theorem E112_ok : FnsOk prog E112 := (noFns _ _)
noncomputable def L112_0 : Nat → Option LoopD := fun _ => none
def sh112_3 : List Fm := .cell (.val (.sl (.int .i64))) :: d :: d :: .cell (.own (.int .i64) 100300 false) :: .cell (.val (.int .i64)) :: D 17 []
def xs112_3 : List (Ex × List Fm) := [(.exit 0, (d :: d :: d :: .cell (.own (.int .i64) 100300 false) :: D 18 []))]
noncomputable def laws_toIntS_l3 : ((List Int) × (List Int) × Int × Unit) → Option (((List Int) × (List Int) × Int × Unit) ⊕ (((List Int) × Unit))) := fun (v0, v3, v4, _) =>
 bif (decide (v4 < (((List.length v0) : Nat) : Int))) then
  if (((0 : Int) ≤ v4) ∧ (v4 < (((List.length v0) : Nat) : Int))) then
   if (((0 : Int) ≤ v4) ∧ (v4 < (((List.length v3) : Nat) : Int))) then
    some (Sum.inl (v0, (List.take (List.length v3) (List.drop 0 (List.set v3 (0 + (Int.toNat v4)) (List.getD v0 (Int.toNat v4) (0 : Int))))), (IntKind.wrap .i64 (v4 + (1 : Int))), ()))
   else
    none
  else
   none
 else
  some (Sum.inr ((List.take (List.length v3) (List.drop 0 v3)), ()))
theorem laws_toIntS_l3_eq : loopStep 22 E112 L112_0 (loopOf f112 3) sh112_3 xs112_3 = laws_toIntS_l3 := by kernel_rfl
theorem loop112_3 {L} (h : L 3 = some ⟨22, sh112_3, xs112_3, laws_toIntS_l3⟩) : LoopOk prog L (loopOf f112 3) := lo laws_toIntS_l3_eq E112_ok allNil h
noncomputable def L112_1 : Nat → Option LoopD := fun n => ifEq n 3 (some ⟨22, sh112_3, xs112_3, laws_toIntS_l3⟩) (L112_0 n)
noncomputable def laws_toIntS : (List Int) → Option ((List Int)) := fun a0 =>
 if (((0 : Int) ≤ (((List.length a0) : Nat) : Int)) ∧ (((((List.length a0) : Nat) : Int) = (((List.length a0) : Nat) : Int)) ∧ (((((List.length a0) : Nat) : Int) * ((8 : Nat) : Int)) ≤ (140737488355328 : Int)))) then
  Option.bind (loopF laws_toIntS_l3 (a0, (List.take (Int.toNat (((List.length a0) : Nat) : Int)) (List.drop 0 (List.replicate (Int.toNat (((List.length a0) : Nat) : Int)) (0 : Int)))), (0 : Int), ())) fun (r0, _) =>
   some (List.take (List.length r0) (List.drop 0 r0))
 else
  none
noncomputable def A112 : FnA := ⟨[.v (.sl (.int .i64))], true, [.sl (.int .i64)], fun x => laws_toIntS x.1⟩
theorem laws_toIntS_eq : fnF E112 L112_1 [.v (.sl (.int .i64))] true [.sl (.int .i64)] f112.ntmps f112.results.toList (codeOf f112) = fun x => laws_toIntS x.1 := by kernel_rfl
theorem A112_ok : FnOk prog 112 A112 := fo laws_toIntS_eq func112 E112_ok (allCons (loop112_3 rfl) allNil)
/-! laws.toMatrix -/
noncomputable def E69 : Env := ⟨ty0, fun g => ifEq g 112 (some A112) (none), fun _ => none, fun _ => none, fun _ => none⟩
theorem E69_ok : FnsOk prog E69 := (oF A112_ok func112 (noFns _ _))
noncomputable def L69_0 : Nat → Option LoopD := fun _ => none
noncomputable def laws_toMatrix : (Int × (List Int)) → Option ((Int × (List Int))) := fun (a0_0, a0_1) =>
 Option.bind (laws_toIntS a0_1) fun r0 =>
  some (a0_0, (List.take (List.length r0) (List.drop 0 r0)))
noncomputable def A69 : FnA := ⟨[.v (.pair (.int .i64) (.sl (.int .i64)))], true, [.pair (.int .i64) (.sl (.int .i64))], fun x => laws_toMatrix x.1⟩
theorem laws_toMatrix_eq : fnF E69 L69_0 [.v (.pair (.int .i64) (.sl (.int .i64)))] true [.pair (.int .i64) (.sl (.int .i64))] f69.ntmps f69.results.toList (codeOf f69) = fun x => laws_toMatrix x.1 := by kernel_rfl
theorem A69_ok : FnOk prog 69 A69 := fo laws_toMatrix_eq func69 E69_ok allNil
/-! laws.toElement -/
noncomputable def E26 : Env := ⟨ty0, fun g => ifEq g 69 (some A69) (none), fun _ => none, fun _ => none, fun _ => none⟩
theorem E26_ok : FnsOk prog E26 := (oF A69_ok func69 (noFns _ _))
noncomputable def L26_0 : Nat → Option LoopD := fun _ => none
noncomputable def laws_toElement : ((Int × (List Int)) × ByteArray) → Option (((Int × (List Int)) × ByteArray)) := fun ((a0_0, a0_1), a0_2) =>
 Option.bind (laws_toMatrix (a0_0, a0_1)) fun (r0, r1) =>
  some ((r0, (List.take (List.length r1) (List.drop 0 r1))), a0_2)
noncomputable def A26 : FnA := ⟨[.v (.pair (.pair (.int .i64) (.sl (.int .i64))) .str)], true, [.pair (.pair (.int .i64) (.sl (.int .i64))) .str], fun x => laws_toElement x.1⟩
theorem laws_toElement_eq : fnF E26 L26_0 [.v (.pair (.pair (.int .i64) (.sl (.int .i64))) .str)] true [.pair (.pair (.int .i64) (.sl (.int .i64))) .str] f26.ntmps f26.results.toList (codeOf f26) = fun x => laws_toElement x.1 := by kernel_rfl
theorem A26_ok : FnOk prog 26 A26 := fo laws_toElement_eq func26 E26_ok allNil
/-! spec.l1In -/
noncomputable def E106 : Env := ⟨ty0, fun _ => none, fun _ => none, fun _ => none, fun _ => none⟩
theorem E106_ok : FnsOk prog E106 := (noFns _ _)
noncomputable def L106_0 : Nat → Option LoopD := fun _ => none
noncomputable def spec_l1In : Int → Int → Int → Option (Bool) := fun a0 a1 a2 =>
 bif (decide (a0 ≥ a1)) then
  some (decide (a0 ≤ a2))
 else
  some false
noncomputable def A106 : FnA := ⟨[.v (.int .i64), .v (.int .i64), .v (.int .i64)], true, [.bool], fun x => spec_l1In x.1 x.2.1 x.2.2.1⟩
theorem spec_l1In_eq : fnF E106 L106_0 [.v (.int .i64), .v (.int .i64), .v (.int .i64)] true [.bool] f106.ntmps f106.results.toList (codeOf f106) = fun x => spec_l1In x.1 x.2.1 x.2.2.1 := by kernel_rfl
theorem A106_ok : FnOk prog 106 A106 := fo spec_l1In_eq func106 E106_ok allNil
/-! spec.CostValid -/
noncomputable def E183 : Env := ⟨ty0, fun g => ifEq g 106 (some A106) (none), fun _ => none, fun _ => none, fun _ => none⟩
theorem E183_ok : FnsOk prog E183 := (oF A106_ok func106 (noFns _ _))
noncomputable def L183_0 : Nat → Option LoopD := fun _ => none
noncomputable def spec_CostValid : Int → Option (Bool) := fun a0 =>
 Option.bind (spec_l1In a0 (0 : Int) (1000000 : Int)) fun r0 =>
  some r0
noncomputable def A183 : FnA := ⟨[.v (.int .i64)], true, [.bool], fun x => spec_CostValid x.1⟩
theorem spec_CostValid_eq : fnF E183 L183_0 [.v (.int .i64)] true [.bool] f183.ntmps f183.results.toList (codeOf f183) = fun x => spec_CostValid x.1 := by kernel_rfl
theorem A183_ok : FnOk prog 183 A183 := fo spec_CostValid_eq func183 E183_ok allNil
/-! spec.l1All -/
noncomputable def E167 : Env := ⟨ty0, fun g => ifEq g 183 (some A183) (none), fun _ => none, fun _ => none, fun _ => none⟩
theorem E167_ok : FnsOk prog E167 := (oF A183_ok func183 (noFns _ _))
noncomputable def L167_0 : Nat → Option LoopD := fun _ => none
def sh167_2 : List Fm := D 5 (.cell (.val (.sl (.int .i64))) :: .cell (.val (.int .i64)) :: .cell (.val (.int .i64)) :: D 7 [])
def xs167_2 : List (Ex × List Fm) := [(.ret, (d :: d :: .cell (.val .bool) :: D 12 [])), (.exit 0, (D 15 []))]
noncomputable def spec_l1All_l2 : ((List Int) × Int × Int × Unit) → Option (((List Int) × Int × Int × Unit) ⊕ ((Bool × Unit) ⊕ (Unit))) := fun (v5, v6, v7, _) =>
 bif (decide (v7 < v6)) then
  if (((0 : Int) ≤ v7) ∧ (v7 < (((List.length v5) : Nat) : Int))) then
   Option.bind (spec_CostValid (List.getD v5 (Int.toNat v7) (0 : Int))) fun r0 =>
    bif (!r0) then
     some (Sum.inr (Sum.inl (false, ())))
    else
     some (Sum.inl (v5, v6, (IntKind.wrap .i64 (v7 + (1 : Int))), ()))
  else
   none
 else
  some (Sum.inr (Sum.inr ()))
theorem spec_l1All_l2_eq : loopStep 15 E167 L167_0 (loopOf f167 2) sh167_2 xs167_2 = spec_l1All_l2 := by kernel_rfl
theorem loop167_2 {L} (h : L 2 = some ⟨15, sh167_2, xs167_2, spec_l1All_l2⟩) : LoopOk prog L (loopOf f167 2) := lo spec_l1All_l2_eq E167_ok allNil h
noncomputable def L167_1 : Nat → Option LoopD := fun n => ifEq n 2 (some ⟨15, sh167_2, xs167_2, spec_l1All_l2⟩) (L167_0 n)
noncomputable def spec_l1All : (List Int) → Option (Bool) := fun a0 =>
 Option.bind (loopF spec_l1All_l2 (a0, (((List.length a0) : Nat) : Int), (0 : Int), ())) fun r0 =>
  (match r0 with
  | .inl (d1, _) =>
    some d1
  | .inr _ =>
    some true)
noncomputable def A167 : FnA := ⟨[.v (.sl (.int .i64))], true, [.bool], fun x => spec_l1All x.1⟩
theorem spec_l1All_eq : fnF E167 L167_1 [.v (.sl (.int .i64))] true [.bool] f167.ntmps f167.results.toList (codeOf f167) = fun x => spec_l1All x.1 := by kernel_rfl
theorem A167_ok : FnOk prog 167 A167 := fo spec_l1All_eq func167 E167_ok (allCons (loop167_2 rfl) allNil)
/-! spec.MatrixValid -/
noncomputable def E139 : Env := ⟨ty0, fun g => ifEq g 106 (some A106) (ifEq g 167 (some A167) (none)), fun _ => none, fun _ => none, fun _ => none⟩
theorem E139_ok : FnsOk prog E139 := (oF A106_ok func106 (oF A167_ok func167 (noFns _ _)))
noncomputable def L139_0 : Nat → Option LoopD := fun _ => none
noncomputable def spec_MatrixValid : (Int × (List Int)) → Option (Bool) := fun (a0_0, a0_1) =>
 Option.bind (spec_l1In a0_0 (1 : Int) (4 : Int)) fun r0 =>
  bif r0 then
   bif ((((List.length a0_1) : Nat) : Int) == (IntKind.wrap .i64 (a0_0 * a0_0))) then
    Option.bind (spec_l1All a0_1) fun r1 =>
     some r1
   else
    some false
  else
   some false
noncomputable def A139 : FnA := ⟨[.v (.pair (.int .i64) (.sl (.int .i64)))], true, [.bool], fun x => spec_MatrixValid x.1⟩
theorem spec_MatrixValid_eq : fnF E139 L139_0 [.v (.pair (.int .i64) (.sl (.int .i64)))] true [.bool] f139.ntmps f139.results.toList (codeOf f139) = fun x => spec_MatrixValid x.1 := by kernel_rfl
theorem A139_ok : FnOk prog 139 A139 := fo spec_MatrixValid_eq func139 E139_ok allNil
/-! spec.GradesValid -/
noncomputable def E111 : Env := ⟨ty0, fun g => ifEq g 106 (some A106) (ifEq g 139 (some A139) (none)), fun _ => none, fun _ => none, fun _ => none⟩
theorem E111_ok : FnsOk prog E111 := (oF A106_ok func106 (oF A139_ok func139 (noFns _ _)))
noncomputable def L111_0 : Nat → Option LoopD := fun _ => none
def sh111_2 : List Fm := d :: .box 100100 [.val (.int .i64), .val (.sl (.int .i64))] :: D 4 (.cell (.val (.sl (.int .i64))) :: .cell (.val (.int .i64)) :: .cell (.val (.int .i64)) :: D 9 [])
def xs111_2 : List (Ex × List Fm) := [(.ret, (d :: d :: .cell (.val .bool) :: D 15 [])), (.exit 0, [d, .box 100100 [.val (.int .i64), .val (.sl (.int .i64))], d, d, d, d, d, d, d, d, d, d, d, d, d, d, d, d])]
noncomputable def spec_GradesValid_l2 : ((Int × (List Int) × Unit) × (List Int) × Int × Int × Unit) → Option (((Int × (List Int) × Unit) × (List Int) × Int × Int × Unit) ⊕ ((Bool × Unit) ⊕ ((Int × (List Int) × Unit) × Unit))) := fun ((v1_0, v1_1, _), v6, v7, v8, _) =>
 bif (decide (v8 < v7)) then
  if (((0 : Int) ≤ v8) ∧ (v8 < (((List.length v6) : Nat) : Int))) then
   Option.bind (spec_l1In (List.getD v6 (Int.toNat v8) (0 : Int)) (0 : Int) (3 : Int)) fun r0 =>
    bif (!r0) then
     some (Sum.inr (Sum.inl (false, ())))
    else
     some (Sum.inl ((v1_0, v1_1, ()), v6, v7, (IntKind.wrap .i64 (v8 + (1 : Int))), ()))
  else
   none
 else
  some (Sum.inr (Sum.inr ((v1_0, v1_1, ()), ())))
theorem spec_GradesValid_l2_eq : loopStep 18 E111 L111_0 (loopOf f111 2) sh111_2 xs111_2 = spec_GradesValid_l2 := by kernel_rfl
theorem loop111_2 {L} (h : L 2 = some ⟨18, sh111_2, xs111_2, spec_GradesValid_l2⟩) : LoopOk prog L (loopOf f111 2) := lo spec_GradesValid_l2_eq E111_ok allNil h
noncomputable def L111_1 : Nat → Option LoopD := fun n => ifEq n 2 (some ⟨18, sh111_2, xs111_2, spec_GradesValid_l2⟩) (L111_0 n)
noncomputable def spec_GradesValid : (Int × (List Int)) → Option (Bool) := fun (a0_0, a0_1) =>
 Option.bind (loopF spec_GradesValid_l2 ((a0_0, a0_1, ()), a0_1, (((List.length a0_1) : Nat) : Int), (0 : Int), ())) fun r0 =>
  (match r0 with
  | .inl (d1, _) =>
    some d1
  | .inr ((d2, d3, _), _) =>
    Option.bind (spec_MatrixValid (d2, d3)) fun r4 =>
     some r4)
noncomputable def A111 : FnA := ⟨[.v (.pair (.int .i64) (.sl (.int .i64)))], true, [.bool], fun x => spec_GradesValid x.1⟩
theorem spec_GradesValid_eq : fnF E111 L111_1 [.v (.pair (.int .i64) (.sl (.int .i64)))] true [.bool] f111.ntmps f111.results.toList (codeOf f111) = fun x => spec_GradesValid x.1 := by kernel_rfl
theorem A111_ok : FnOk prog 111 A111 := fo spec_GradesValid_eq func111 E111_ok (allCons (loop111_2 rfl) allNil)
/-! spec.FormatGrades -/
noncomputable def E68 : Env := ⟨ty0, fun g => ifEq g 111 (some A111) (none), fun _ => none, fun _ => none, fun _ => none⟩
theorem E68_ok : FnsOk prog E68 := (oF A111_ok func111 (noFns _ _))
noncomputable def L68_0 : Nat → Option LoopD := fun _ => none
def sh68_5 : List Fm := d :: .box 100100 [.val (.int .i64), .val (.sl (.int .i64))] :: d :: .cell (.val .str) :: D 6 (.cell (.val (.sl (.int .i64))) :: .cell (.val (.int .i64)) :: .cell (.val (.int .i64)) :: D 23 [])
def xs68_5 : List (Ex × List Fm) := [(.exit 0, (d :: d :: d :: .cell (.val .str) :: D 32 []))]
noncomputable def spec_FormatGrades_l5 : ((Int × (List Int) × Unit) × ByteArray × (List Int) × Int × Int × Unit) → Option (((Int × (List Int) × Unit) × ByteArray × (List Int) × Int × Int × Unit) ⊕ ((ByteArray × Unit))) := fun ((v1_0, v1_1, _), v3, v10, v11, v12, _) =>
 bif (decide (v12 < v11)) then
  if (((0 : Int) ≤ v12) ∧ (v12 < (((List.length v10) : Nat) : Int))) then
   bif (decide (v12 > (0 : Int))) then
    if (v1_0 = (0 : Int)) then
     none
    else
     bif ((Int.tmod v12 v1_0) == (0 : Int)) then
      if (((ByteArray.size v3) + (ByteArray.size (⟨#[(47 : UInt8)]⟩ : ByteArray))) ≤ 9223372036854775807) then
       if (((0 : Int) ≤ (List.getD v10 (Int.toNat v12) (0 : Int))) ∧ (((List.getD v10 (Int.toNat v12) (0 : Int)) ≤ (IntKind.wrap .i64 ((List.getD v10 (Int.toNat v12) (0 : Int)) + (1 : Int)))) ∧ ((IntKind.wrap .i64 ((List.getD v10 (Int.toNat v12) (0 : Int)) + (1 : Int))) ≤ (((ByteArray.size (⟨#[(48 : UInt8), (49 : UInt8), (119 : UInt8), (45 : UInt8)]⟩ : ByteArray)) : Nat) : Int)))) then
        if (((ByteArray.size (v3 ++ (⟨#[(47 : UInt8)]⟩ : ByteArray))) + (ByteArray.size (ByteArray.extract (⟨#[(48 : UInt8), (49 : UInt8), (119 : UInt8), (45 : UInt8)]⟩ : ByteArray) (Int.toNat (List.getD v10 (Int.toNat v12) (0 : Int))) (Int.toNat (IntKind.wrap .i64 ((List.getD v10 (Int.toNat v12) (0 : Int)) + (1 : Int))))))) ≤ 9223372036854775807) then
         some (Sum.inl ((v1_0, v1_1, ()), ((v3 ++ (⟨#[(47 : UInt8)]⟩ : ByteArray)) ++ (ByteArray.extract (⟨#[(48 : UInt8), (49 : UInt8), (119 : UInt8), (45 : UInt8)]⟩ : ByteArray) (Int.toNat (List.getD v10 (Int.toNat v12) (0 : Int))) (Int.toNat (IntKind.wrap .i64 ((List.getD v10 (Int.toNat v12) (0 : Int)) + (1 : Int)))))), v10, v11, (IntKind.wrap .i64 (v12 + (1 : Int))), ()))
        else
         none
       else
        none
      else
       none
     else
      if (((0 : Int) ≤ (List.getD v10 (Int.toNat v12) (0 : Int))) ∧ (((List.getD v10 (Int.toNat v12) (0 : Int)) ≤ (IntKind.wrap .i64 ((List.getD v10 (Int.toNat v12) (0 : Int)) + (1 : Int)))) ∧ ((IntKind.wrap .i64 ((List.getD v10 (Int.toNat v12) (0 : Int)) + (1 : Int))) ≤ (((ByteArray.size (⟨#[(48 : UInt8), (49 : UInt8), (119 : UInt8), (45 : UInt8)]⟩ : ByteArray)) : Nat) : Int)))) then
       if (((ByteArray.size v3) + (ByteArray.size (ByteArray.extract (⟨#[(48 : UInt8), (49 : UInt8), (119 : UInt8), (45 : UInt8)]⟩ : ByteArray) (Int.toNat (List.getD v10 (Int.toNat v12) (0 : Int))) (Int.toNat (IntKind.wrap .i64 ((List.getD v10 (Int.toNat v12) (0 : Int)) + (1 : Int))))))) ≤ 9223372036854775807) then
        some (Sum.inl ((v1_0, v1_1, ()), (v3 ++ (ByteArray.extract (⟨#[(48 : UInt8), (49 : UInt8), (119 : UInt8), (45 : UInt8)]⟩ : ByteArray) (Int.toNat (List.getD v10 (Int.toNat v12) (0 : Int))) (Int.toNat (IntKind.wrap .i64 ((List.getD v10 (Int.toNat v12) (0 : Int)) + (1 : Int)))))), v10, v11, (IntKind.wrap .i64 (v12 + (1 : Int))), ()))
       else
        none
      else
       none
   else
    if (((0 : Int) ≤ (List.getD v10 (Int.toNat v12) (0 : Int))) ∧ (((List.getD v10 (Int.toNat v12) (0 : Int)) ≤ (IntKind.wrap .i64 ((List.getD v10 (Int.toNat v12) (0 : Int)) + (1 : Int)))) ∧ ((IntKind.wrap .i64 ((List.getD v10 (Int.toNat v12) (0 : Int)) + (1 : Int))) ≤ (((ByteArray.size (⟨#[(48 : UInt8), (49 : UInt8), (119 : UInt8), (45 : UInt8)]⟩ : ByteArray)) : Nat) : Int)))) then
     if (((ByteArray.size v3) + (ByteArray.size (ByteArray.extract (⟨#[(48 : UInt8), (49 : UInt8), (119 : UInt8), (45 : UInt8)]⟩ : ByteArray) (Int.toNat (List.getD v10 (Int.toNat v12) (0 : Int))) (Int.toNat (IntKind.wrap .i64 ((List.getD v10 (Int.toNat v12) (0 : Int)) + (1 : Int))))))) ≤ 9223372036854775807) then
      some (Sum.inl ((v1_0, v1_1, ()), (v3 ++ (ByteArray.extract (⟨#[(48 : UInt8), (49 : UInt8), (119 : UInt8), (45 : UInt8)]⟩ : ByteArray) (Int.toNat (List.getD v10 (Int.toNat v12) (0 : Int))) (Int.toNat (IntKind.wrap .i64 ((List.getD v10 (Int.toNat v12) (0 : Int)) + (1 : Int)))))), v10, v11, (IntKind.wrap .i64 (v12 + (1 : Int))), ()))
     else
      none
    else
     none
  else
   none
 else
  some (Sum.inr (v3, ()))
theorem spec_FormatGrades_l5_eq : loopStep 36 E68 L68_0 (loopOf f68 5) sh68_5 xs68_5 = spec_FormatGrades_l5 := by kernel_rfl
theorem loop68_5 {L} (h : L 5 = some ⟨36, sh68_5, xs68_5, spec_FormatGrades_l5⟩) : LoopOk prog L (loopOf f68 5) := lo spec_FormatGrades_l5_eq E68_ok allNil h
noncomputable def L68_1 : Nat → Option LoopD := fun n => ifEq n 5 (some ⟨36, sh68_5, xs68_5, spec_FormatGrades_l5⟩) (L68_0 n)
noncomputable def spec_FormatGrades : (Int × (List Int)) → Option (ByteArray) := fun (a0_0, a0_1) =>
 Option.bind (spec_GradesValid (a0_0, a0_1)) fun r0 =>
  bif (!r0) then
   some (⟨#[]⟩ : ByteArray)
  else
   Option.bind (loopF spec_FormatGrades_l5 ((a0_0, a0_1, ()), (⟨#[]⟩ : ByteArray), a0_1, (((List.length a0_1) : Nat) : Int), (0 : Int), ())) fun (r1, _) =>
    some r1
noncomputable def A68 : FnA := ⟨[.v (.pair (.int .i64) (.sl (.int .i64)))], true, [.str], fun x => spec_FormatGrades x.1⟩
theorem spec_FormatGrades_eq : fnF E68 L68_1 [.v (.pair (.int .i64) (.sl (.int .i64)))] true [.str] f68.ntmps f68.results.toList (codeOf f68) = fun x => spec_FormatGrades x.1 := by kernel_rfl
theorem A68_ok : FnOk prog 68 A68 := fo spec_FormatGrades_eq func68 E68_ok (allCons (loop68_5 rfl) allNil)
/-! spec.FormatElement -/
noncomputable def E25 : Env := ⟨ty0, fun g => ifEq g 68 (some A68) (none), fun _ => none, fun _ => none, fun _ => none⟩
theorem E25_ok : FnsOk prog E25 := (oF A68_ok func68 (noFns _ _))
noncomputable def L25_0 : Nat → Option LoopD := fun _ => none
noncomputable def spec_FormatElement : ((Int × (List Int)) × ByteArray) → Option (ByteArray) := fun ((a0_0, a0_1), a0_2) =>
 if (((ByteArray.size a0_2) + (ByteArray.size (⟨#[(32 : UInt8)]⟩ : ByteArray))) ≤ 9223372036854775807) then
  Option.bind (spec_FormatGrades (a0_0, a0_1)) fun r0 =>
   if (((ByteArray.size (a0_2 ++ (⟨#[(32 : UInt8)]⟩ : ByteArray))) + (ByteArray.size r0)) ≤ 9223372036854775807) then
    some ((a0_2 ++ (⟨#[(32 : UInt8)]⟩ : ByteArray)) ++ r0)
   else
    none
 else
  none
noncomputable def A25 : FnA := ⟨[.v (.pair (.pair (.int .i64) (.sl (.int .i64))) .str)], true, [.str], fun x => spec_FormatElement x.1⟩
theorem spec_FormatElement_eq : fnF E25 L25_0 [.v (.pair (.pair (.int .i64) (.sl (.int .i64))) .str)] true [.str] f25.ntmps f25.results.toList (codeOf f25) = fun x => spec_FormatElement x.1 := by kernel_rfl
theorem A25_ok : FnOk prog 25 A25 := fo spec_FormatElement_eq func25 E25_ok allNil
/-! slices.IndexFunc[[]int,int] -/
noncomputable def E132 : Env := ⟨ty0, fun _ => none, fun _ => none, fun _ => none, fun _ => none⟩
theorem E132_ok : FnsOk prog E132 := (noFns _ _)
noncomputable def L132_0 : Nat → Option LoopD := fun _ => none
def sh132_2 : List Fm := .cell (.val (.sl (.int .i64))) :: .clo [.int .i64] .bool :: D 5 (.cell (.val (.int .i64)) :: .cell (.val (.int .i64)) :: D 10 [])
def xs132_2 : List (Ex × List Fm) := [(.ret, (D 4 (.cell (.val (.int .i64)) :: D 14 []))), (.exit 0, (D 19 []))]
noncomputable def slices_IndexFunc_l2 : ((List Int) × ((Int × Unit) → Option (Bool)) × Int × Int × Unit) → Option (((List Int) × ((Int × Unit) → Option (Bool)) × Int × Int × Unit) ⊕ ((Int × Unit) ⊕ (Unit))) := fun (v0, v1, v7, v8, _) =>
 bif (decide (v8 < v7)) then
  if (((0 : Int) ≤ v8) ∧ (v8 < (((List.length v0) : Nat) : Int))) then
   Option.bind (v1 ((List.getD v0 (Int.toNat v8) (0 : Int)), ())) fun r0 =>
    bif r0 then
     some (Sum.inr (Sum.inl (v8, ())))
    else
     some (Sum.inl (v0, v1, v7, (IntKind.wrap .i64 (v8 + (1 : Int))), ()))
  else
   none
 else
  some (Sum.inr (Sum.inr ()))
theorem slices_IndexFunc_l2_eq : loopStep 19 E132 L132_0 (loopOf f132 2) sh132_2 xs132_2 = slices_IndexFunc_l2 := by kernel_rfl
theorem loop132_2 {L} (h : L 2 = some ⟨19, sh132_2, xs132_2, slices_IndexFunc_l2⟩) : LoopOk prog L (loopOf f132 2) := lo slices_IndexFunc_l2_eq E132_ok allNil h
noncomputable def L132_1 : Nat → Option LoopD := fun n => ifEq n 2 (some ⟨19, sh132_2, xs132_2, slices_IndexFunc_l2⟩) (L132_0 n)
noncomputable def slices_IndexFunc : (List Int) → ((Int × Unit) → Option (Bool)) → Option (Int) := fun a0 a1 =>
 Option.bind (loopF slices_IndexFunc_l2 (a0, a1, (((List.length a0) : Nat) : Int), (0 : Int), ())) fun r0 =>
  (match r0 with
  | .inl (d1, _) =>
    some d1
  | .inr _ =>
    some (-1 : Int))
noncomputable def A132 : FnA := ⟨[.v (.sl (.int .i64)), .clo [.int .i64] .bool], true, [.int .i64], fun x => slices_IndexFunc x.1 x.2.1⟩
theorem slices_IndexFunc_eq : fnF E132 L132_1 [.v (.sl (.int .i64)), .clo [.int .i64] .bool] true [.int .i64] f132.ntmps f132.results.toList (codeOf f132) = fun x => slices_IndexFunc x.1 x.2.1 := by kernel_rfl
theorem A132_ok : FnOk prog 132 A132 := fo slices_IndexFunc_eq func132 E132_ok (allCons (loop132_2 rfl) allNil)
/-! slices.ContainsFunc[[]int,int] -/
noncomputable def E90 : Env := ⟨ty0, fun g => ifEq g 132 (some A132) (none), fun _ => none, fun _ => none, fun _ => none⟩
theorem E90_ok : FnsOk prog E90 := (oF A132_ok func132 (noFns _ _))
noncomputable def L90_0 : Nat → Option LoopD := fun _ => none
noncomputable def slices_ContainsFunc : (List Int) → ((Int × Unit) → Option (Bool)) → Option (Bool) := fun a0 a1 =>
 Option.bind (slices_IndexFunc a0 a1) fun r0 =>
  some (decide (r0 ≥ (0 : Int)))
noncomputable def A90 : FnA := ⟨[.v (.sl (.int .i64)), .clo [.int .i64] .bool], true, [.bool], fun x => slices_ContainsFunc x.1 x.2.1⟩
theorem slices_ContainsFunc_eq : fnF E90 L90_0 [.v (.sl (.int .i64)), .clo [.int .i64] .bool] true [.bool] f90.ntmps f90.results.toList (codeOf f90) = fun x => slices_ContainsFunc x.1 x.2.1 := by kernel_rfl
theorem A90_ok : FnOk prog 90 A90 := fo slices_ContainsFunc_eq func90 E90_ok allNil
/-! impl.CostValid -/
noncomputable def E92 : Env := ⟨ty0, fun _ => none, fun _ => none, fun _ => none, fun _ => none⟩
theorem E92_ok : FnsOk prog E92 := (noFns _ _)
noncomputable def L92_0 : Nat → Option LoopD := fun _ => none
noncomputable def impl_CostValid : Int → Option (Bool) := fun a0 =>
 bif (decide (a0 ≥ (0 : Int))) then
  some (decide (a0 ≤ (1000000 : Int)))
 else
  some false
noncomputable def A92 : FnA := ⟨[.v (.int .i64)], true, [.bool], fun x => impl_CostValid x.1⟩
theorem impl_CostValid_eq : fnF E92 L92_0 [.v (.int .i64)] true [.bool] f92.ntmps f92.results.toList (codeOf f92) = fun x => impl_CostValid x.1 := by kernel_rfl
theorem A92_ok : FnOk prog 92 A92 := fo impl_CostValid_eq func92 E92_ok allNil
/-! impl.MatrixValid$1 -/
noncomputable def E91 : Env := ⟨ty0, fun g => ifEq g 92 (some A92) (none), fun _ => none, fun _ => none, fun _ => none⟩
theorem E91_ok : FnsOk prog E91 := (oF A92_ok func92 (noFns _ _))
noncomputable def L91_0 : Nat → Option LoopD := fun _ => none
noncomputable def impl_MatrixValid_1 : Int → Option (Bool) := fun a0 =>
 Option.bind (impl_CostValid a0) fun r0 =>
  some (!r0)
noncomputable def A91 : FnA := ⟨[.v (.int .i64)], true, [.bool], fun x => impl_MatrixValid_1 x.1⟩
theorem impl_MatrixValid_1_eq : fnF E91 L91_0 [.v (.int .i64)] true [.bool] f91.ntmps f91.results.toList (codeOf f91) = fun x => impl_MatrixValid_1 x.1 := by kernel_rfl
theorem A91_ok : FnOk prog 91 A91 := fo impl_MatrixValid_1_eq func91 E91_ok allNil
/-! impl.MatrixValid -/
noncomputable def E42 : Env := ⟨ty0, fun g => ifEq g 90 (some A90) (ifEq g 91 (some A91) (none)), fun _ => none, fun _ => none, fun _ => none⟩
theorem E42_ok : FnsOk prog E42 := (oF A90_ok func90 (oF A91_ok func91 (noFns _ _)))
noncomputable def L42_0 : Nat → Option LoopD := fun _ => none
noncomputable def impl_MatrixValid : (Int × (List Int)) → Option (Bool) := fun (a0_0, a0_1) =>
 bif (decide (a0_0 < (1 : Int))) then
  some false
 else
  bif (decide (a0_0 > (4 : Int))) then
   some false
  else
   bif ((((List.length a0_1) : Nat) : Int) != (IntKind.wrap .i64 (a0_0 * a0_0))) then
    some false
   else
    Option.bind (slices_ContainsFunc a0_1 (fun y0 => (impl_MatrixValid_1 y0.1))) fun r1 =>
     some (!r1)
noncomputable def A42 : FnA := ⟨[.v (.pair (.int .i64) (.sl (.int .i64)))], true, [.bool], fun x => impl_MatrixValid x.1⟩
theorem impl_MatrixValid_eq : fnF E42 L42_0 [.v (.pair (.int .i64) (.sl (.int .i64)))] true [.bool] f42.ntmps f42.results.toList (codeOf f42) = fun x => impl_MatrixValid x.1 := by kernel_rfl
theorem A42_ok : FnOk prog 42 A42 := fo impl_MatrixValid_eq func42 E42_ok allNil
/-! impl.GradesValid$1 -/
noncomputable def E120 : Env := ⟨ty0, fun _ => none, fun _ => none, fun _ => none, fun _ => none⟩
theorem E120_ok : FnsOk prog E120 := (noFns _ _)
noncomputable def L120_0 : Nat → Option LoopD := fun _ => none
noncomputable def impl_GradesValid_1 : Int → Option (Bool) := fun a0 =>
 some (decide (a0 > (3 : Int)))
noncomputable def A120 : FnA := ⟨[.v (.int .i64)], true, [.bool], fun x => impl_GradesValid_1 x.1⟩
theorem impl_GradesValid_1_eq : fnF E120 L120_0 [.v (.int .i64)] true [.bool] f120.ntmps f120.results.toList (codeOf f120) = fun x => impl_GradesValid_1 x.1 := by kernel_rfl
theorem A120_ok : FnOk prog 120 A120 := fo impl_GradesValid_1_eq func120 E120_ok allNil
/-! impl.GradesValid -/
noncomputable def E77 : Env := ⟨ty0, fun g => ifEq g 42 (some A42) (ifEq g 90 (some A90) (ifEq g 120 (some A120) (none))), fun _ => none, fun _ => none, fun _ => none⟩
theorem E77_ok : FnsOk prog E77 := (oF A42_ok func42 (oF A90_ok func90 (oF A120_ok func120 (noFns _ _))))
noncomputable def L77_0 : Nat → Option LoopD := fun _ => none
noncomputable def impl_GradesValid : (Int × (List Int)) → Option (Bool) := fun (a0_0, a0_1) =>
 Option.bind (impl_MatrixValid (a0_0, a0_1)) fun r0 =>
  bif r0 then
   Option.bind (slices_ContainsFunc a0_1 (fun y1 => (impl_GradesValid_1 y1.1))) fun r2 =>
    some (!r2)
  else
   some false
noncomputable def A77 : FnA := ⟨[.v (.pair (.int .i64) (.sl (.int .i64)))], true, [.bool], fun x => impl_GradesValid x.1⟩
theorem impl_GradesValid_eq : fnF E77 L77_0 [.v (.pair (.int .i64) (.sl (.int .i64)))] true [.bool] f77.ntmps f77.results.toList (codeOf f77) = fun x => impl_GradesValid x.1 := by kernel_rfl
theorem A77_ok : FnOk prog 77 A77 := fo impl_GradesValid_eq func77 E77_ok allNil
/-! impl.rows -/
noncomputable def E113 : Env := ⟨ty0, fun g => ifEq g 140 (some A140) (none), fun _ => none, fun _ => none, fun _ => none⟩
theorem E113_ok : FnsOk prog E113 := (oF A140_ok func140 (noFns _ _))
noncomputable def L113_0 : Nat → Option LoopD := fun _ => none
def sh113_3 : List Fm := d :: .clo [.sl (.int .i64)] .str :: .box 100200 [.val (.int .i64), .val (.sl (.int .i64))] :: d :: d :: .cell (.own .str 100500 false) :: d :: d :: d :: .cell (.val (.int .i64)) :: .cell (.val (.int .i64)) :: D 22 []
def xs113_3 : List (Ex × List Fm) := [(.exit 0, (D 5 (.cell (.own .str 100500 false) :: D 27 [])))]
noncomputable def impl_rows_l3 : ((((List Int) × Unit) → Option (ByteArray)) × (Int × (List Int) × Unit) × (List ByteArray) × Int × Int × Unit) → Option (((((List Int) × Unit) → Option (ByteArray)) × (Int × (List Int) × Unit) × (List ByteArray) × Int × Int × Unit) ⊕ (((List ByteArray) × Unit))) := fun (v1, (v2_0, v2_1, _), v5, v9, v10, _) =>
 bif (decide (v10 < v9)) then
  if (((0 : Int) ≤ (IntKind.wrap .i64 (v10 * v2_0))) ∧ (((IntKind.wrap .i64 (v10 * v2_0)) ≤ (IntKind.wrap .i64 ((IntKind.wrap .i64 (v10 + (1 : Int))) * v2_0))) ∧ ((IntKind.wrap .i64 ((IntKind.wrap .i64 (v10 + (1 : Int))) * v2_0)) ≤ (((List.length v2_1) : Nat) : Int)))) then
   Option.bind (v1 ((List.take ((Int.toNat (IntKind.wrap .i64 ((IntKind.wrap .i64 (v10 + (1 : Int))) * v2_0))) - (Int.toNat (IntKind.wrap .i64 (v10 * v2_0)))) (List.drop (Int.toNat (IntKind.wrap .i64 (v10 * v2_0))) v2_1)), ())) fun r0 =>
    if (((0 + (List.length v5)) = (List.length v5)) ∧ ((((List.length v5) + (List.length (List.take 1 (List.drop 0 [r0])))) * 16) ≤ 140737488355328)) then
     some (Sum.inl (v1, (v2_0, v2_1, ()), (List.take ((List.length v5) + (List.length (List.take 1 (List.drop 0 [r0])))) (List.drop 0 ((List.drop 0 v5) ++ (List.take 1 (List.drop 0 [r0]))))), v9, (IntKind.wrap .i64 (v10 + (1 : Int))), ()))
    else
     none
  else
   none
 else
  some (Sum.inr ((List.take (List.length v5) (List.drop 0 v5)), ()))
theorem impl_rows_l3_eq : loopStep 33 E113 L113_0 (loopOf f113 3) sh113_3 xs113_3 = impl_rows_l3 := by kernel_rfl
theorem loop113_3 {L} (h : L 3 = some ⟨33, sh113_3, xs113_3, impl_rows_l3⟩) : LoopOk prog L (loopOf f113 3) := lo impl_rows_l3_eq E113_ok allNil h
noncomputable def L113_1 : Nat → Option LoopD := fun n => ifEq n 3 (some ⟨33, sh113_3, xs113_3, impl_rows_l3⟩) (L113_0 n)
noncomputable def impl_rows : (Int × (List Int)) → (((List Int) × Unit) → Option (ByteArray)) → Option (ByteArray) := fun (a0_0, a0_1) a1 =>
 Option.bind (loopF impl_rows_l3 (a1, (a0_0, a0_1, ()), (List.take 0 (List.drop 0 [])), a0_0, (0 : Int), ())) fun (r0, _) =>
  Option.bind (strings_Join (List.take (List.length r0) (List.drop 0 r0)) (⟨#[(47 : UInt8)]⟩ : ByteArray)) fun r1 =>
   some r1
noncomputable def A113 : FnA := ⟨[.v (.pair (.int .i64) (.sl (.int .i64))), .clo [.sl (.int .i64)] .str], true, [.str], fun x => impl_rows x.1 x.2.1⟩
theorem impl_rows_eq : fnF E113 L113_1 [.v (.pair (.int .i64) (.sl (.int .i64))), .clo [.sl (.int .i64)] .str] true [.str] f113.ntmps f113.results.toList (codeOf f113) = fun x => impl_rows x.1 x.2.1 := by kernel_rfl
theorem A113_ok : FnOk prog 113 A113 := fo impl_rows_eq func113 E113_ok (allCons (loop113_3 rfl) allNil)
/-! impl.FormatGrades$1 -/
noncomputable def E114 : Env := ⟨ty0, fun _ => none, fun _ => none, fun _ => none, fun _ => none⟩
theorem E114_ok : FnsOk prog E114 := (noFns _ _)
noncomputable def L114_0 : Nat → Option LoopD := fun _ => none
def sh114_3 : List Fm := d :: d :: d :: .cell (.val .str) :: d :: d :: .cell (.val (.sl (.int .i64))) :: .cell (.val (.int .i64)) :: .cell (.val (.int .i64)) :: D 11 []
def xs114_3 : List (Ex × List Fm) := [(.exit 0, (d :: d :: d :: .cell (.val .str) :: D 16 []))]
noncomputable def impl_FormatGrades_1_l3 : (ByteArray × (List Int) × Int × Int × Unit) → Option ((ByteArray × (List Int) × Int × Int × Unit) ⊕ ((ByteArray × Unit))) := fun (v3, v6, v7, v8, _) =>
 bif (decide (v8 < v7)) then
  if (((0 : Int) ≤ v8) ∧ (v8 < (((List.length v6) : Nat) : Int))) then
   if (((0 : Int) ≤ (List.getD v6 (Int.toNat v8) (0 : Int))) ∧ (((List.getD v6 (Int.toNat v8) (0 : Int)) ≤ (IntKind.wrap .i64 ((List.getD v6 (Int.toNat v8) (0 : Int)) + (1 : Int)))) ∧ ((IntKind.wrap .i64 ((List.getD v6 (Int.toNat v8) (0 : Int)) + (1 : Int))) ≤ (((ByteArray.size (⟨#[(48 : UInt8), (49 : UInt8), (119 : UInt8), (45 : UInt8)]⟩ : ByteArray)) : Nat) : Int)))) then
    if (((ByteArray.size v3) + (ByteArray.size (ByteArray.extract (⟨#[(48 : UInt8), (49 : UInt8), (119 : UInt8), (45 : UInt8)]⟩ : ByteArray) (Int.toNat (List.getD v6 (Int.toNat v8) (0 : Int))) (Int.toNat (IntKind.wrap .i64 ((List.getD v6 (Int.toNat v8) (0 : Int)) + (1 : Int))))))) ≤ 9223372036854775807) then
     some (Sum.inl ((v3 ++ (ByteArray.extract (⟨#[(48 : UInt8), (49 : UInt8), (119 : UInt8), (45 : UInt8)]⟩ : ByteArray) (Int.toNat (List.getD v6 (Int.toNat v8) (0 : Int))) (Int.toNat (IntKind.wrap .i64 ((List.getD v6 (Int.toNat v8) (0 : Int)) + (1 : Int)))))), v6, v7, (IntKind.wrap .i64 (v8 + (1 : Int))), ()))
    else
     none
   else
    none
  else
   none
 else
  some (Sum.inr (v3, ()))
theorem impl_FormatGrades_1_l3_eq : loopStep 20 E114 L114_0 (loopOf f114 3) sh114_3 xs114_3 = impl_FormatGrades_1_l3 := by kernel_rfl
theorem loop114_3 {L} (h : L 3 = some ⟨20, sh114_3, xs114_3, impl_FormatGrades_1_l3⟩) : LoopOk prog L (loopOf f114 3) := lo impl_FormatGrades_1_l3_eq E114_ok allNil h
noncomputable def L114_1 : Nat → Option LoopD := fun n => ifEq n 3 (some ⟨20, sh114_3, xs114_3, impl_FormatGrades_1_l3⟩) (L114_0 n)
noncomputable def impl_FormatGrades_1 : (List Int) → Option (ByteArray) := fun a0 =>
 Option.bind (loopF impl_FormatGrades_1_l3 ((⟨#[]⟩ : ByteArray), a0, (((List.length a0) : Nat) : Int), (0 : Int), ())) fun (r0, _) =>
  some r0
noncomputable def A114 : FnA := ⟨[.v (.sl (.int .i64))], true, [.str], fun x => impl_FormatGrades_1 x.1⟩
theorem impl_FormatGrades_1_eq : fnF E114 L114_1 [.v (.sl (.int .i64))] true [.str] f114.ntmps f114.results.toList (codeOf f114) = fun x => impl_FormatGrades_1 x.1 := by kernel_rfl
theorem A114_ok : FnOk prog 114 A114 := fo impl_FormatGrades_1_eq func114 E114_ok (allCons (loop114_3 rfl) allNil)
/-! impl.FormatGrades -/
noncomputable def E70 : Env := ⟨ty0, fun g => ifEq g 77 (some A77) (ifEq g 113 (some A113) (ifEq g 114 (some A114) (none))), fun _ => none, fun _ => none, fun _ => none⟩
theorem E70_ok : FnsOk prog E70 := (oF A77_ok func77 (oF A113_ok func113 (oF A114_ok func114 (noFns _ _))))
noncomputable def L70_0 : Nat → Option LoopD := fun _ => none
noncomputable def impl_FormatGrades : (Int × (List Int)) → Option (ByteArray) := fun (a0_0, a0_1) =>
 Option.bind (impl_GradesValid (a0_0, a0_1)) fun r0 =>
  bif (!r0) then
   some (⟨#[]⟩ : ByteArray)
  else
   Option.bind (impl_rows (a0_0, a0_1) (fun y1 => (impl_FormatGrades_1 y1.1))) fun r2 =>
    some r2
noncomputable def A70 : FnA := ⟨[.v (.pair (.int .i64) (.sl (.int .i64)))], true, [.str], fun x => impl_FormatGrades x.1⟩
theorem impl_FormatGrades_eq : fnF E70 L70_0 [.v (.pair (.int .i64) (.sl (.int .i64)))] true [.str] f70.ntmps f70.results.toList (codeOf f70) = fun x => impl_FormatGrades x.1 := by kernel_rfl
theorem A70_ok : FnOk prog 70 A70 := fo impl_FormatGrades_eq func70 E70_ok allNil
/-! impl.FormatElement -/
noncomputable def E27 : Env := ⟨ty0, fun g => ifEq g 70 (some A70) (none), fun _ => none, fun _ => none, fun _ => none⟩
theorem E27_ok : FnsOk prog E27 := (oF A70_ok func70 (noFns _ _))
noncomputable def L27_0 : Nat → Option LoopD := fun _ => none
noncomputable def impl_FormatElement : ((Int × (List Int)) × ByteArray) → Option (ByteArray) := fun ((a0_0, a0_1), a0_2) =>
 if (((ByteArray.size a0_2) + (ByteArray.size (⟨#[(32 : UInt8)]⟩ : ByteArray))) ≤ 9223372036854775807) then
  Option.bind (impl_FormatGrades (a0_0, a0_1)) fun r0 =>
   if (((ByteArray.size (a0_2 ++ (⟨#[(32 : UInt8)]⟩ : ByteArray))) + (ByteArray.size r0)) ≤ 9223372036854775807) then
    some ((a0_2 ++ (⟨#[(32 : UInt8)]⟩ : ByteArray)) ++ r0)
   else
    none
 else
  none
noncomputable def A27 : FnA := ⟨[.v (.pair (.pair (.int .i64) (.sl (.int .i64))) .str)], true, [.str], fun x => impl_FormatElement x.1⟩
theorem impl_FormatElement_eq : fnF E27 L27_0 [.v (.pair (.pair (.int .i64) (.sl (.int .i64))) .str)] true [.str] f27.ntmps f27.results.toList (codeOf f27) = fun x => impl_FormatElement x.1 := by kernel_rfl
theorem A27_ok : FnOk prog 27 A27 := fo impl_FormatElement_eq func27 E27_ok allNil
/-! laws.eqIntS -/
noncomputable def E115 : Env := ⟨ty0, fun _ => none, fun _ => none, fun _ => none, fun _ => none⟩
theorem E115_ok : FnsOk prog E115 := (noFns _ _)
noncomputable def L115_0 : Nat → Option LoopD := fun _ => none
def sh115_4 : List Fm := .cell (.val (.sl (.int .i64))) :: .cell (.val (.sl (.int .i64))) :: d :: d :: d :: .cell (.val (.int .i64)) :: D 20 []
def xs115_4 : List (Ex × List Fm) := [(.ret, (D 4 (.cell (.val .bool) :: D 21 []))), (.exit 0, (D 26 []))]
noncomputable def laws_eqIntS_l4 : ((List Int) × (List Int) × Int × Unit) → Option (((List Int) × (List Int) × Int × Unit) ⊕ ((Bool × Unit) ⊕ (Unit))) := fun (v0, v1, v5, _) =>
 bif (decide (v5 < (((List.length v0) : Nat) : Int))) then
  if (((0 : Int) ≤ v5) ∧ (v5 < (((List.length v0) : Nat) : Int))) then
   if (((0 : Int) ≤ v5) ∧ (v5 < (((List.length v1) : Nat) : Int))) then
    bif ((List.getD v0 (Int.toNat v5) (0 : Int)) != (List.getD v1 (Int.toNat v5) (0 : Int))) then
     some (Sum.inr (Sum.inl (false, ())))
    else
     some (Sum.inl (v0, v1, (IntKind.wrap .i64 (v5 + (1 : Int))), ()))
   else
    none
  else
   none
 else
  some (Sum.inr (Sum.inr ()))
theorem laws_eqIntS_l4_eq : loopStep 26 E115 L115_0 (loopOf f115 4) sh115_4 xs115_4 = laws_eqIntS_l4 := by kernel_rfl
theorem loop115_4 {L} (h : L 4 = some ⟨26, sh115_4, xs115_4, laws_eqIntS_l4⟩) : LoopOk prog L (loopOf f115 4) := lo laws_eqIntS_l4_eq E115_ok allNil h
noncomputable def L115_1 : Nat → Option LoopD := fun n => ifEq n 4 (some ⟨26, sh115_4, xs115_4, laws_eqIntS_l4⟩) (L115_0 n)
noncomputable def laws_eqIntS : (List Int) → (List Int) → Option (Bool) := fun a0 a1 =>
 bif ((((List.length a0) : Nat) : Int) != (((List.length a1) : Nat) : Int)) then
  some false
 else
  Option.bind (loopF laws_eqIntS_l4 (a0, a1, (0 : Int), ())) fun r0 =>
   (match r0 with
   | .inl (d1, _) =>
     some d1
   | .inr _ =>
     some true)
noncomputable def A115 : FnA := ⟨[.v (.sl (.int .i64)), .v (.sl (.int .i64))], true, [.bool], fun x => laws_eqIntS x.1 x.2.1⟩
theorem laws_eqIntS_eq : fnF E115 L115_1 [.v (.sl (.int .i64)), .v (.sl (.int .i64))] true [.bool] f115.ntmps f115.results.toList (codeOf f115) = fun x => laws_eqIntS x.1 x.2.1 := by kernel_rfl
theorem A115_ok : FnOk prog 115 A115 := fo laws_eqIntS_eq func115 E115_ok (allCons (loop115_4 rfl) allNil)
/-! laws.eqMatrix -/
noncomputable def E71 : Env := ⟨ty0, fun g => ifEq g 115 (some A115) (none), fun _ => none, fun _ => none, fun _ => none⟩
theorem E71_ok : FnsOk prog E71 := (oF A115_ok func115 (noFns _ _))
noncomputable def L71_0 : Nat → Option LoopD := fun _ => none
noncomputable def laws_eqMatrix : (Int × (List Int)) → (Int × (List Int)) → Option (Bool) := fun (a0_0, a0_1) (a1_0, a1_1) =>
 bif (a0_0 != a1_0) then
  some false
 else
  Option.bind (laws_eqIntS a0_1 a1_1) fun r0 =>
   bif (!r0) then
    some false
   else
    some true
noncomputable def A71 : FnA := ⟨[.v (.pair (.int .i64) (.sl (.int .i64))), .v (.pair (.int .i64) (.sl (.int .i64)))], true, [.bool], fun x => laws_eqMatrix x.1 x.2.1⟩
theorem laws_eqMatrix_eq : fnF E71 L71_0 [.v (.pair (.int .i64) (.sl (.int .i64))), .v (.pair (.int .i64) (.sl (.int .i64)))] true [.bool] f71.ntmps f71.results.toList (codeOf f71) = fun x => laws_eqMatrix x.1 x.2.1 := by kernel_rfl
theorem A71_ok : FnOk prog 71 A71 := fo laws_eqMatrix_eq func71 E71_ok allNil
/-! laws.eqElement -/
noncomputable def E28 : Env := ⟨ty0, fun g => ifEq g 71 (some A71) (none), fun _ => none, fun _ => none, fun _ => none⟩
theorem E28_ok : FnsOk prog E28 := (oF A71_ok func71 (noFns _ _))
noncomputable def L28_0 : Nat → Option LoopD := fun _ => none
noncomputable def laws_eqElement : ((Int × (List Int)) × ByteArray) → ((Int × (List Int)) × ByteArray) → Option (Bool) := fun ((a0_0, a0_1), a0_2) ((a1_0, a1_1), a1_2) =>
 Option.bind (laws_eqMatrix (a0_0, a0_1) (a1_0, a1_1)) fun r0 =>
  bif (!r0) then
   some false
  else
   bif (!((ByteArray.toList a0_2) == (ByteArray.toList a1_2))) then
    some false
   else
    some true
noncomputable def A28 : FnA := ⟨[.v (.pair (.pair (.int .i64) (.sl (.int .i64))) .str), .v (.pair (.pair (.int .i64) (.sl (.int .i64))) .str)], true, [.bool], fun x => laws_eqElement x.1 x.2.1⟩
theorem laws_eqElement_eq : fnF E28 L28_0 [.v (.pair (.pair (.int .i64) (.sl (.int .i64))) .str), .v (.pair (.pair (.int .i64) (.sl (.int .i64))) .str)] true [.bool] f28.ntmps f28.results.toList (codeOf f28) = fun x => laws_eqElement x.1 x.2.1 := by kernel_rfl
theorem A28_ok : FnOk prog 28 A28 := fo laws_eqElement_eq func28 E28_ok allNil
/-! laws.FnExactFormatElement -/
noncomputable def E5 : Env := ⟨ty0, fun g => ifEq g 24 (some A24) (ifEq g 26 (some A26) (ifEq g 25 (some A25) (ifEq g 27 (some A27) (ifEq g 28 (some A28) (none))))), fun _ => none, fun _ => none, fun _ => none⟩
theorem E5_ok : FnsOk prog E5 := (oF A24_ok func24 (oF A26_ok func26 (oF A25_ok func25 (oF A27_ok func27 (oF A28_ok func28 (noFns _ _))))))
noncomputable def L5_0 : Nat → Option LoopD := fun _ => none
noncomputable def laws_FnExactFormatElement : ((Int × (List Int)) × ByteArray) → Option (Bool) := fun ((a0_0, a0_1), a0_2) =>
 Option.bind (laws_szElement ((a0_0, a0_1), a0_2) (1048576 : Int)) fun r0 =>
  bif (decide (r0 < (0 : Int))) then
   some true
  else
   Option.bind (laws_toElement ((a0_0, a0_1), a0_2)) fun ((r1, r2), r3) =>
    Option.bind (spec_FormatElement ((r1, (List.take (List.length r2) (List.drop 0 r2))), r3)) fun r4 =>
     Option.bind (laws_toElement ((a0_0, a0_1), a0_2)) fun ((r5, r6), r7) =>
      Option.bind (impl_FormatElement ((r5, (List.take (List.length r6) (List.drop 0 r6))), r7)) fun r8 =>
       bif (!((ByteArray.toList r8) == (ByteArray.toList r4))) then
        some false
       else
        Option.bind (laws_toElement ((a0_0, a0_1), a0_2)) fun ((r9, r10), r11) =>
         Option.bind (laws_eqElement ((r5, (List.take (List.length r6) (List.drop 0 r6))), r7) ((r9, (List.take (List.length r10) (List.drop 0 r10))), r11)) fun r12 =>
          bif (!r12) then
           some false
          else
           some true
noncomputable def A5 : FnA := ⟨[.v (.pair (.pair (.int .i64) (.sl (.int .i64))) .str)], true, [.bool], fun x => laws_FnExactFormatElement x.1⟩
theorem laws_FnExactFormatElement_eq : fnF E5 L5_0 [.v (.pair (.pair (.int .i64) (.sl (.int .i64))) .str)] true [.bool] f5.ntmps f5.results.toList (codeOf f5) = fun x => laws_FnExactFormatElement x.1 := by kernel_rfl
theorem A5_ok : FnOk prog 5 A5 := fo laws_FnExactFormatElement_eq func5 E5_ok allNil
end Go.Proofs.Ytfdhmmnffahhgaa
