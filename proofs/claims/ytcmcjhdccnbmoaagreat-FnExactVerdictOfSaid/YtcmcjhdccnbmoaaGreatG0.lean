/- What Go functions that the laws reach compute, and that they do: written by a program of this session. -/
import Derived.Test.YtcmcjhdccnbmoaaGreatCmp
import Derived.Test.YtcmcjhdccnbmoaaGreatSort
import Derived.KernelRfl
set_option linter.unusedVariables false
namespace Go.Proofs.YtcmcjhdccnbmoaaGreat
open Go Go.Proofs.YtcmcjhdccnbmoaaGreat.Am Go.Proofs.Tryz
set_option maxRecDepth 100000
def tyl : List (Nat × TyD) := [(3, {kd := .int .i64}),
 (4, {kd := .bool}),
 (9, {kd := .str}),
 (22, {kd := .sl (.int .i64), elt := .int .i64, bytes := 8}),
 (23, {kd := .sl (.pair (.int .i64) (.pair .str (.pair (.int .i64) (.int .i64)))), elt := .pair (.int .i64) (.pair .str (.pair (.int .i64) (.int .i64))), bytes := 40}),
 (25, {kd := .pair (.int .i64) (.pair (.sl (.int .i64)) (.pair (.sl (.int .i64)) (.sl (.pair (.int .i64) (.pair .str (.pair (.int .i64) (.int .i64))))))), flds := [(0, .int .i64), (1, .sl (.int .i64)), (2, .sl (.int .i64)), (3, .sl (.pair (.int .i64) (.pair .str (.pair (.int .i64) (.int .i64)))))]}),
 (29, {kd := .sl (.pair (.int .i64) (.pair .str (.pair (.int .i64) (.int .i64)))), elt := .pair (.int .i64) (.pair .str (.pair (.int .i64) (.int .i64))), bytes := 40}),
 (31, {kd := .pair (.int .i64) (.pair (.sl (.int .i64)) (.pair (.sl (.int .i64)) (.sl (.pair (.int .i64) (.pair .str (.pair (.int .i64) (.int .i64))))))), flds := [(0, .int .i64), (1, .sl (.int .i64)), (2, .sl (.int .i64)), (3, .sl (.pair (.int .i64) (.pair .str (.pair (.int .i64) (.int .i64)))))]}),
 (40, {kd := .sl .str, elt := .str, bytes := 16}),
 (44, {kd := .pair (.int .i64) (.sl (.int .i64)), flds := [(0, .int .i64), (1, .sl (.int .i64))]}),
 (49, {kd := .sl (.pair (.pair (.int .i64) (.sl (.int .i64))) .str), elt := .pair (.pair (.int .i64) (.sl (.int .i64))) .str, bytes := 48}),
 (53, {kd := .pair (.pair (.int .i64) (.sl (.int .i64))) .str, flds := [(0, .pair (.int .i64) (.sl (.int .i64))), (2, .str)]}),
 (65, {kd := .pair .bool (.pair .bool (.pair .bool .bool)), arr := 4, elt := .bool}),
 (77, {kd := .sl (.pair .str .pt), elt := .pair .str .pt, bytes := 40}),
 (86, {kd := .pair (.sl (.pair (.pair (.int .i64) (.sl (.int .i64))) .str)) .bool, flds := [(0, .sl (.pair (.pair (.int .i64) (.sl (.int .i64))) .str)), (1, .bool)]}),
 (93, {kd := .pair (.int .i64) (.pair .str (.pair (.int .i64) (.int .i64))), flds := [(0, .int .i64), (1, .str), (2, .int .i64), (3, .int .i64)]}),
 (96, {kd := .sl (.sl (.int .i64)), elt := .sl (.int .i64), bytes := 24}),
 (100, {kd := .pair (.int .i64) (.pair .str (.pair (.int .i64) (.int .i64))), flds := [(0, .int .i64), (1, .str), (2, .int .i64), (3, .int .i64)]}),
 (105, {kd := .int .u64}),
 (116, {kd := .pair .str .pt, flds := [(0, .str), (1, .pt)]}),
 (141, {kd := .int .u64}),
 (153, {kd := .pair (.sl (.pair (.pair (.int .i64) (.sl (.int .i64))) .str)) .bool, flds := [(0, .sl (.pair (.pair (.int .i64) (.sl (.int .i64))) .str)), (1, .bool)]})]
def ty0 : Nat → Option TyD := assoc tyl
theorem tyl_ok : tysOkB prog tyl = true := by kernel_rfl
theorem mixed : prog.follows .mixedOrders = true := by kernel_rfl
def D : Nat → List Fm → List Fm
 | 0, l => l
 | n + 1, l => .cell .drop :: D n l
theorem oF {g : Nat} {f : FnA} {fn : Func} {ty : Nat → Option TyD} {rest : Nat → Option FnA} {ms : Nat → Option FnM} {bs : Nat → Option FnB} {il : Nat → Option (Nat × CallD)} (h : FnOk prog g f) (hf : prog.funcs[g]? = some fn) (hr : FnsOk prog ⟨ty, rest, ms, bs, il⟩)
  (h1 : (fn.name == "runtime.NumGoroutine") = false := by kernel_rfl) (h2 : fn.body.isSome = true := by kernel_rfl) : FnsOk prog ⟨ty, fun n => ifEq n g (some f) (rest n), ms, bs, il⟩ := oneFn h hf h1 h2 hr
theorem tyk {E : Env} (h : E.ty = ty0) : TysOk prog E := by
 obtain ⟨ty, fn, ms, bs, il⟩ := E
 obtain rfl : ty = ty0 := h
 exact tysOk_of tyl_ok
theorem fo {E : Env} {L : Nat → Option LoopD} {g : Nat} {fn : Func} {ps : List Prm} {own : Bool} {outs : List Kd} {F : PrmsT ps → Option (OutsT outs)} {bs : List Code} (he : fnF E L ps own outs fn.ntmps fn.results.toList (codeOf fn) = F) (hf : prog.funcs[g]? = some fn) (hF : FnsOk prog E)
  (hs : ∀ b ∈ bs, LoopOk prog L b) (hb : fn.body = some (codeOf fn) := by kernel_rfl) (hl : loopsOf (codeOf fn) = bs := by kernel_rfl) (hd : drawsB E (drawsOf (codeOf fn)) = true := by kernel_rfl) (hE : E.ty = ty0 := by rfl) : FnOk prog g ⟨ps, own, outs, F⟩ := by
 have h := fnOk_of_run (P := prog) (tyk hE) hF (L := L) (ps := ps) (own := own) (outs := outs) hf hb (codeOk_in (tyk hE) hF mixed hl hs hd)
 rw [he] at h
 exact h
theorem lo {E : Env} {L L' : Nat → Option LoopD} {n i : Nat} {b : Code} {bs : List Code} {sh : List Fm} {xs : List (Ex × List Fm)} {f : FmsT sh → Option (FmsT sh ⊕ XsT xs)} (he : loopStep n E L' b sh xs = f) (hF : FnsOk prog E)
  (hs : ∀ b ∈ bs, LoopOk prog L' b) (h : L i = some ⟨n, sh, xs, f⟩) (hl : loopsOf b = bs := by kernel_rfl) (hd : drawsB E (drawsOf b) = true := by kernel_rfl) (h1 : nodupN (toksF sh) = true := by kernel_rfl) (h2 : okXs xs = true := by kernel_rfl) (hi : firstId b = i := by kernel_rfl) (hE : E.ty = ty0 := by rfl) : LoopOk prog L b :=
 loopOk (tyk hE) hF (codeOk_in (tyk hE) hF mixed hl hs hd) h1 h2 he (by rw [hi]; exact h)
abbrev d : Fm := .cell .drop
/-! laws.szIntS -/
noncomputable def E34 : Env := ⟨ty0, fun _ => none, fun _ => none, fun _ => none, fun _ => none⟩
theorem E34_ok : FnsOk prog E34 := (noFns _ _)
noncomputable def L34_0 : Nat → Option LoopD := fun _ => none
noncomputable def laws_szIntS : (List Int) → Int → Option (Int) := fun a0 a1 =>
 bif (decide ((IntKind.wrap .i64 (a1 - (((List.length a0) : Nat) : Int))) < (0 : Int))) then
  some (-1 : Int)
 else
  some (IntKind.wrap .i64 (a1 - (((List.length a0) : Nat) : Int)))
noncomputable def A34 : FnA := ⟨[.v (.sl (.int .i64)), .v (.int .i64)], true, [.int .i64], fun x => laws_szIntS x.1 x.2.1⟩
theorem laws_szIntS_eq : fnF E34 L34_0 [.v (.sl (.int .i64)), .v (.int .i64)] true [.int .i64] f34.ntmps f34.results.toList (codeOf f34) = fun x => laws_szIntS x.1 x.2.1 := by kernel_rfl
theorem A34_ok : FnOk prog 34 A34 := fo laws_szIntS_eq func34 E34_ok allNil
/-! laws.szStep -/
noncomputable def E74 : Env := ⟨ty0, fun _ => none, fun _ => none, fun _ => none, fun _ => none⟩
theorem E74_ok : FnsOk prog E74 := (noFns _ _)
noncomputable def L74_0 : Nat → Option LoopD := fun _ => none
noncomputable def laws_szStep : (Int × (ByteArray × (Int × Int))) → Int → Option (Int) := fun (a0_0, a0_1, a0_2, a0_3) a1 =>
 bif (decide ((IntKind.wrap .i64 (a1 - (((ByteArray.size a0_1) : Nat) : Int))) < (0 : Int))) then
  some (-1 : Int)
 else
  some (IntKind.wrap .i64 (a1 - (((ByteArray.size a0_1) : Nat) : Int)))
noncomputable def A74 : FnA := ⟨[.v (.pair (.int .i64) (.pair .str (.pair (.int .i64) (.int .i64)))), .v (.int .i64)], true, [.int .i64], fun x => laws_szStep x.1 x.2.1⟩
theorem laws_szStep_eq : fnF E74 L74_0 [.v (.pair (.int .i64) (.pair .str (.pair (.int .i64) (.int .i64)))), .v (.int .i64)] true [.int .i64] f74.ntmps f74.results.toList (codeOf f74) = fun x => laws_szStep x.1 x.2.1 := by kernel_rfl
theorem A74_ok : FnOk prog 74 A74 := fo laws_szStep_eq func74 E74_ok allNil
/-! laws.szStepS -/
noncomputable def E35 : Env := ⟨ty0, fun g => ifEq g 74 (some A74) (none), fun _ => none, fun _ => none, fun _ => none⟩
theorem E35_ok : FnsOk prog E35 := (oF A74_ok func74 (noFns _ _))
noncomputable def L35_0 : Nat → Option LoopD := fun _ => none
def sh35_5 : List Fm := .cell (.val (.sl (.pair (.int .i64) (.pair .str (.pair (.int .i64) (.int .i64)))))) :: .cell (.val (.int .i64)) :: d :: d :: d :: .cell (.val (.int .i64)) :: D 21 []
def xs35_5 : List (Ex × List Fm) := [(.ret, (D 4 (.cell (.val (.int .i64)) :: D 22 []))), (.exit 0, (d :: .cell (.val (.int .i64)) :: D 25 []))]
noncomputable def laws_szStepS_l5 : ((List (Int × (ByteArray × (Int × Int)))) × Int × Int × Unit) → Option (((List (Int × (ByteArray × (Int × Int)))) × Int × Int × Unit) ⊕ ((Int × Unit) ⊕ (Int × Unit))) := fun (v0, v1, v5, _) =>
 bif (decide (v5 < (((List.length v0) : Nat) : Int))) then
  if (((0 : Int) ≤ v5) ∧ (v5 < (((List.length v0) : Nat) : Int))) then
   Option.bind (laws_szStep (List.getD v0 (Int.toNat v5) ((0 : Int), (⟨Array.empty⟩ : ByteArray), (0 : Int), (0 : Int))) v1) fun r0 =>
    bif (decide (r0 < (0 : Int))) then
     some (Sum.inr (Sum.inl ((-1 : Int), ())))
    else
     some (Sum.inl (v0, r0, (IntKind.wrap .i64 (v5 + (1 : Int))), ()))
  else
   none
 else
  some (Sum.inr (Sum.inr (v1, ())))
theorem laws_szStepS_l5_eq : loopStep 27 E35 L35_0 (loopOf f35 5) sh35_5 xs35_5 = laws_szStepS_l5 := by kernel_rfl
theorem loop35_5 {L} (h : L 5 = some ⟨27, sh35_5, xs35_5, laws_szStepS_l5⟩) : LoopOk prog L (loopOf f35 5) := lo laws_szStepS_l5_eq E35_ok allNil h
noncomputable def L35_1 : Nat → Option LoopD := fun n => ifEq n 5 (some ⟨27, sh35_5, xs35_5, laws_szStepS_l5⟩) (L35_0 n)
noncomputable def laws_szStepS : (List (Int × (ByteArray × (Int × Int)))) → Int → Option (Int) := fun a0 a1 =>
 bif (decide ((IntKind.wrap .i64 (a1 - (((List.length a0) : Nat) : Int))) < (0 : Int))) then
  some (-1 : Int)
 else
  Option.bind (loopF laws_szStepS_l5 (a0, (IntKind.wrap .i64 (a1 - (((List.length a0) : Nat) : Int))), (0 : Int), ())) fun r0 =>
   (match r0 with
   | .inl (d1, _) =>
     some d1
   | .inr (d2, _) =>
     some d2)
noncomputable def A35 : FnA := ⟨[.v (.sl (.pair (.int .i64) (.pair .str (.pair (.int .i64) (.int .i64))))), .v (.int .i64)], true, [.int .i64], fun x => laws_szStepS x.1 x.2.1⟩
theorem laws_szStepS_eq : fnF E35 L35_1 [.v (.sl (.pair (.int .i64) (.pair .str (.pair (.int .i64) (.int .i64))))), .v (.int .i64)] true [.int .i64] f35.ntmps f35.results.toList (codeOf f35) = fun x => laws_szStepS x.1 x.2.1 := by kernel_rfl
theorem A35_ok : FnOk prog 35 A35 := fo laws_szStepS_eq func35 E35_ok (allCons (loop35_5 rfl) allNil)
/-! laws.szAutomaton -/
noncomputable def E7 : Env := ⟨ty0, fun g => ifEq g 34 (some A34) (ifEq g 35 (some A35) (none)), fun _ => none, fun _ => none, fun _ => none⟩
theorem E7_ok : FnsOk prog E7 := (oF A34_ok func34 (oF A35_ok func35 (noFns _ _)))
noncomputable def L7_0 : Nat → Option LoopD := fun _ => none
noncomputable def laws_szAutomaton : (Int × ((List Int) × ((List Int) × (List (Int × (ByteArray × (Int × Int))))))) → Int → Option (Int) := fun (a0_0, a0_1, a0_2, a0_3) a1 =>
 Option.bind (laws_szIntS a0_1 a1) fun r0 =>
  bif (decide (r0 < (0 : Int))) then
   some (-1 : Int)
  else
   Option.bind (laws_szIntS a0_2 r0) fun r1 =>
    bif (decide (r1 < (0 : Int))) then
     some (-1 : Int)
    else
     Option.bind (laws_szStepS a0_3 r1) fun r2 =>
      bif (decide (r2 < (0 : Int))) then
       some (-1 : Int)
      else
       some r2
noncomputable def A7 : FnA := ⟨[.v (.pair (.int .i64) (.pair (.sl (.int .i64)) (.pair (.sl (.int .i64)) (.sl (.pair (.int .i64) (.pair .str (.pair (.int .i64) (.int .i64)))))))), .v (.int .i64)], true, [.int .i64], fun x => laws_szAutomaton x.1 x.2.1⟩
theorem laws_szAutomaton_eq : fnF E7 L7_0 [.v (.pair (.int .i64) (.pair (.sl (.int .i64)) (.pair (.sl (.int .i64)) (.sl (.pair (.int .i64) (.pair .str (.pair (.int .i64) (.int .i64)))))))), .v (.int .i64)] true [.int .i64] f7.ntmps f7.results.toList (codeOf f7) = fun x => laws_szAutomaton x.1 x.2.1 := by kernel_rfl
theorem A7_ok : FnOk prog 7 A7 := fo laws_szAutomaton_eq func7 E7_ok allNil
/-! laws.toIntS -/
noncomputable def E38 : Env := ⟨ty0, fun _ => none, fun _ => none, fun _ => none, fun _ => none⟩
theorem E38_ok : FnsOk prog E38 := (noFns _ _)
noncomputable def L38_0 : Nat → Option LoopD := fun _ => none
def sh38_3 : List Fm := .cell (.val (.sl (.int .i64))) :: d :: d :: .cell (.own (.int .i64) 100300 false) :: .cell (.val (.int .i64)) :: D 17 []
def xs38_3 : List (Ex × List Fm) := [(.exit 0, (d :: d :: d :: .cell (.own (.int .i64) 100300 false) :: D 18 []))]
noncomputable def laws_toIntS_l3 : ((List Int) × (List Int) × Int × Unit) → Option (((List Int) × (List Int) × Int × Unit) ⊕ (((List Int) × Unit))) := fun (v0, v3, v4, _) =>
 bif (decide (v4 < (((List.length v0) : Nat) : Int))) then
  if (((0 : Int) ≤ v4) ∧ (v4 < (((List.length v0) : Nat) : Int))) then
   if (((0 : Int) ≤ v4) ∧ (v4 < (((List.length v3) : Nat) : Int))) then
    some (Sum.inl (v0, (List.take (List.length v3) (List.drop 0 (List.set v3 (0 + (Int.toNat v4)) (List.getD v0 (Int.toNat v4) (0 : Int))))), (IntKind.wrap .i64 (v4 + (1 : Int))), ()))
   else
    none
  else
   none
 else
  some (Sum.inr ((List.take (List.length v3) (List.drop 0 v3)), ()))
theorem laws_toIntS_l3_eq : loopStep 22 E38 L38_0 (loopOf f38 3) sh38_3 xs38_3 = laws_toIntS_l3 := by kernel_rfl
theorem loop38_3 {L} (h : L 3 = some ⟨22, sh38_3, xs38_3, laws_toIntS_l3⟩) : LoopOk prog L (loopOf f38 3) := lo laws_toIntS_l3_eq E38_ok allNil h
noncomputable def L38_1 : Nat → Option LoopD := fun n => ifEq n 3 (some ⟨22, sh38_3, xs38_3, laws_toIntS_l3⟩) (L38_0 n)
noncomputable def laws_toIntS : (List Int) → Option ((List Int)) := fun a0 =>
 if (((0 : Int) ≤ (((List.length a0) : Nat) : Int)) ∧ (((((List.length a0) : Nat) : Int) = (((List.length a0) : Nat) : Int)) ∧ (((((List.length a0) : Nat) : Int) * ((8 : Nat) : Int)) ≤ (140737488355328 : Int)))) then
  Option.bind (loopF laws_toIntS_l3 (a0, (List.take (Int.toNat (((List.length a0) : Nat) : Int)) (List.drop 0 (List.replicate (Int.toNat (((List.length a0) : Nat) : Int)) (0 : Int)))), (0 : Int), ())) fun (r0, _) =>
   some (List.take (List.length r0) (List.drop 0 r0))
 else
  none
noncomputable def A38 : FnA := ⟨[.v (.sl (.int .i64))], true, [.sl (.int .i64)], fun x => laws_toIntS x.1⟩
theorem laws_toIntS_eq : fnF E38 L38_1 [.v (.sl (.int .i64))] true [.sl (.int .i64)] f38.ntmps f38.results.toList (codeOf f38) = fun x => laws_toIntS x.1 := by kernel_rfl
theorem A38_ok : FnOk prog 38 A38 := fo laws_toIntS_eq func38 E38_ok (allCons (loop38_3 rfl) allNil)
/-! laws.toStep -/
noncomputable def E77 : Env := ⟨ty0, fun _ => none, fun _ => none, fun _ => none, fun _ => none⟩
theorem E77_ok : FnsOk prog E77 := (noFns _ _)
noncomputable def L77_0 : Nat → Option LoopD := fun _ => none
noncomputable def laws_toStep : (Int × (ByteArray × (Int × Int))) → Option ((Int × (ByteArray × (Int × Int)))) := fun (a0_0, a0_1, a0_2, a0_3) =>
 some (a0_0, a0_1, a0_2, a0_3)
noncomputable def A77 : FnA := ⟨[.v (.pair (.int .i64) (.pair .str (.pair (.int .i64) (.int .i64))))], true, [.pair (.int .i64) (.pair .str (.pair (.int .i64) (.int .i64)))], fun x => laws_toStep x.1⟩
theorem laws_toStep_eq : fnF E77 L77_0 [.v (.pair (.int .i64) (.pair .str (.pair (.int .i64) (.int .i64))))] true [.pair (.int .i64) (.pair .str (.pair (.int .i64) (.int .i64)))] f77.ntmps f77.results.toList (codeOf f77) = fun x => laws_toStep x.1 := by kernel_rfl
theorem A77_ok : FnOk prog 77 A77 := fo laws_toStep_eq func77 E77_ok allNil
/-! laws.toStepS -/
noncomputable def E39 : Env := ⟨ty0, fun g => ifEq g 77 (some A77) (none), fun _ => none, fun _ => none, fun _ => none⟩
theorem E39_ok : FnsOk prog E39 := (oF A77_ok func77 (noFns _ _))
noncomputable def L39_0 : Nat → Option LoopD := fun _ => none
def sh39_3 : List Fm := .cell (.val (.sl (.pair (.int .i64) (.pair .str (.pair (.int .i64) (.int .i64)))))) :: d :: d :: .cell (.own (.pair (.int .i64) (.pair .str (.pair (.int .i64) (.int .i64)))) 100300 false) :: .cell (.val (.int .i64)) :: D 18 []
def xs39_3 : List (Ex × List Fm) := [(.exit 0, (d :: d :: d :: .cell (.own (.pair (.int .i64) (.pair .str (.pair (.int .i64) (.int .i64)))) 100300 false) :: D 19 []))]
noncomputable def laws_toStepS_l3 : ((List (Int × (ByteArray × (Int × Int)))) × (List (Int × (ByteArray × (Int × Int)))) × Int × Unit) → Option (((List (Int × (ByteArray × (Int × Int)))) × (List (Int × (ByteArray × (Int × Int)))) × Int × Unit) ⊕ (((List (Int × (ByteArray × (Int × Int)))) × Unit))) := fun (v0, v3, v4, _) =>
 bif (decide (v4 < (((List.length v0) : Nat) : Int))) then
  if (((0 : Int) ≤ v4) ∧ (v4 < (((List.length v0) : Nat) : Int))) then
   Option.bind (laws_toStep (List.getD v0 (Int.toNat v4) ((0 : Int), (⟨Array.empty⟩ : ByteArray), (0 : Int), (0 : Int)))) fun (r0, r1, r2, r3) =>
    if (((0 : Int) ≤ v4) ∧ (v4 < (((List.length v3) : Nat) : Int))) then
     some (Sum.inl (v0, (List.take (List.length v3) (List.drop 0 (List.set v3 (0 + (Int.toNat v4)) (r0, r1, r2, r3)))), (IntKind.wrap .i64 (v4 + (1 : Int))), ()))
    else
     none
  else
   none
 else
  some (Sum.inr ((List.take (List.length v3) (List.drop 0 v3)), ()))
theorem laws_toStepS_l3_eq : loopStep 23 E39 L39_0 (loopOf f39 3) sh39_3 xs39_3 = laws_toStepS_l3 := by kernel_rfl
theorem loop39_3 {L} (h : L 3 = some ⟨23, sh39_3, xs39_3, laws_toStepS_l3⟩) : LoopOk prog L (loopOf f39 3) := lo laws_toStepS_l3_eq E39_ok allNil h
noncomputable def L39_1 : Nat → Option LoopD := fun n => ifEq n 3 (some ⟨23, sh39_3, xs39_3, laws_toStepS_l3⟩) (L39_0 n)
noncomputable def laws_toStepS : (List (Int × (ByteArray × (Int × Int)))) → Option ((List (Int × (ByteArray × (Int × Int))))) := fun a0 =>
 if (((0 : Int) ≤ (((List.length a0) : Nat) : Int)) ∧ (((((List.length a0) : Nat) : Int) = (((List.length a0) : Nat) : Int)) ∧ (((((List.length a0) : Nat) : Int) * ((40 : Nat) : Int)) ≤ (140737488355328 : Int)))) then
  Option.bind (loopF laws_toStepS_l3 (a0, (List.take (Int.toNat (((List.length a0) : Nat) : Int)) (List.drop 0 (List.replicate (Int.toNat (((List.length a0) : Nat) : Int)) ((0 : Int), (⟨Array.empty⟩ : ByteArray), (0 : Int), (0 : Int))))), (0 : Int), ())) fun (r0, _) =>
   some (List.take (List.length r0) (List.drop 0 r0))
 else
  none
noncomputable def A39 : FnA := ⟨[.v (.sl (.pair (.int .i64) (.pair .str (.pair (.int .i64) (.int .i64)))))], true, [.sl (.pair (.int .i64) (.pair .str (.pair (.int .i64) (.int .i64))))], fun x => laws_toStepS x.1⟩
theorem laws_toStepS_eq : fnF E39 L39_1 [.v (.sl (.pair (.int .i64) (.pair .str (.pair (.int .i64) (.int .i64)))))] true [.sl (.pair (.int .i64) (.pair .str (.pair (.int .i64) (.int .i64))))] f39.ntmps f39.results.toList (codeOf f39) = fun x => laws_toStepS x.1 := by kernel_rfl
theorem A39_ok : FnOk prog 39 A39 := fo laws_toStepS_eq func39 E39_ok (allCons (loop39_3 rfl) allNil)
/-! laws.toAutomaton -/
noncomputable def E9 : Env := ⟨ty0, fun g => ifEq g 38 (some A38) (ifEq g 39 (some A39) (none)), fun _ => none, fun _ => none, fun _ => none⟩
theorem E9_ok : FnsOk prog E9 := (oF A38_ok func38 (oF A39_ok func39 (noFns _ _)))
noncomputable def L9_0 : Nat → Option LoopD := fun _ => none
noncomputable def laws_toAutomaton : (Int × ((List Int) × ((List Int) × (List (Int × (ByteArray × (Int × Int))))))) → Option ((Int × ((List Int) × ((List Int) × (List (Int × (ByteArray × (Int × Int)))))))) := fun (a0_0, a0_1, a0_2, a0_3) =>
 Option.bind (laws_toIntS a0_1) fun r0 =>
  Option.bind (laws_toIntS a0_2) fun r1 =>
   Option.bind (laws_toStepS a0_3) fun r2 =>
    some (a0_0, (List.take (List.length r0) (List.drop 0 r0)), (List.take (List.length r1) (List.drop 0 r1)), (List.take (List.length r2) (List.drop 0 r2)))
noncomputable def A9 : FnA := ⟨[.v (.pair (.int .i64) (.pair (.sl (.int .i64)) (.pair (.sl (.int .i64)) (.sl (.pair (.int .i64) (.pair .str (.pair (.int .i64) (.int .i64))))))))], true, [.pair (.int .i64) (.pair (.sl (.int .i64)) (.pair (.sl (.int .i64)) (.sl (.pair (.int .i64) (.pair .str (.pair (.int .i64) (.int .i64)))))))], fun x => laws_toAutomaton x.1⟩
theorem laws_toAutomaton_eq : fnF E9 L9_0 [.v (.pair (.int .i64) (.pair (.sl (.int .i64)) (.pair (.sl (.int .i64)) (.sl (.pair (.int .i64) (.pair .str (.pair (.int .i64) (.int .i64))))))))] true [.pair (.int .i64) (.pair (.sl (.int .i64)) (.pair (.sl (.int .i64)) (.sl (.pair (.int .i64) (.pair .str (.pair (.int .i64) (.int .i64)))))))] f9.ntmps f9.results.toList (codeOf f9) = fun x => laws_toAutomaton x.1 := by kernel_rfl
theorem A9_ok : FnOk prog 9 A9 := fo laws_toAutomaton_eq func9 E9_ok allNil
/-! spec.l1In -/
noncomputable def E94 : Env := ⟨ty0, fun _ => none, fun _ => none, fun _ => none, fun _ => none⟩
theorem E94_ok : FnsOk prog E94 := (noFns _ _)
noncomputable def L94_0 : Nat → Option LoopD := fun _ => none
noncomputable def spec_l1In : Int → Int → Int → Option (Bool) := fun a0 a1 a2 =>
 bif (decide (a0 ≥ a1)) then
  some (decide (a0 ≤ a2))
 else
  some false
noncomputable def A94 : FnA := ⟨[.v (.int .i64), .v (.int .i64), .v (.int .i64)], true, [.bool], fun x => spec_l1In x.1 x.2.1 x.2.2.1⟩
theorem spec_l1In_eq : fnF E94 L94_0 [.v (.int .i64), .v (.int .i64), .v (.int .i64)] true [.bool] f94.ntmps f94.results.toList (codeOf f94) = fun x => spec_l1In x.1 x.2.1 x.2.2.1 := by kernel_rfl
theorem A94_ok : FnOk prog 94 A94 := fo spec_l1In_eq func94 E94_ok allNil
/-! spec.l3Marks -/
noncomputable def E95 : Env := ⟨ty0, fun g => ifEq g 94 (some A94) (none), fun _ => none, fun _ => none, fun _ => none⟩
theorem E95_ok : FnsOk prog E95 := (oF A94_ok func94 (noFns _ _))
noncomputable def L95_0 : Nat → Option LoopD := fun _ => none
def sh95_2 : List Fm := .cell (.val (.int .i64)) :: .cell (.val (.sl (.int .i64))) :: D 5 (.cell (.val (.sl (.int .i64))) :: .cell (.val (.int .i64)) :: .cell (.val (.int .i64)) :: D 23 [])
def xs95_2 : List (Ex × List Fm) := [(.ret, (D 4 (.cell (.val .bool) :: D 28 []))), (.exit 0, (D 33 []))]
noncomputable def spec_l3Marks_l2 : (Int × (List Int) × (List Int) × Int × Int × Unit) → Option ((Int × (List Int) × (List Int) × Int × Int × Unit) ⊕ ((Bool × Unit) ⊕ (Unit))) := fun (v0, v1, v7, v8, v9, _) =>
 bif (decide (v9 < v8)) then
  if (((0 : Int) ≤ v9) ∧ (v9 < (((List.length v7) : Nat) : Int))) then
   Option.bind (spec_l1In (List.getD v7 (Int.toNat v9) (0 : Int)) (0 : Int) (IntKind.wrap .i64 (v0 - (1 : Int)))) fun r0 =>
    bif (!r0) then
     some (Sum.inr (Sum.inl (false, ())))
    else
     bif (decide (v9 > (0 : Int))) then
      if (((0 : Int) ≤ (IntKind.wrap .i64 (v9 - (1 : Int)))) ∧ ((IntKind.wrap .i64 (v9 - (1 : Int))) < (((List.length v1) : Nat) : Int))) then
       bif (decide ((List.getD v1 (Int.toNat (IntKind.wrap .i64 (v9 - (1 : Int)))) (0 : Int)) ≥ (List.getD v7 (Int.toNat v9) (0 : Int)))) then
        some (Sum.inr (Sum.inl (false, ())))
       else
        some (Sum.inl (v0, v1, v7, v8, (IntKind.wrap .i64 (v9 + (1 : Int))), ()))
      else
       none
     else
      some (Sum.inl (v0, v1, v7, v8, (IntKind.wrap .i64 (v9 + (1 : Int))), ()))
  else
   none
 else
  some (Sum.inr (Sum.inr ()))
theorem spec_l3Marks_l2_eq : loopStep 33 E95 L95_0 (loopOf f95 2) sh95_2 xs95_2 = spec_l3Marks_l2 := by kernel_rfl
theorem loop95_2 {L} (h : L 2 = some ⟨33, sh95_2, xs95_2, spec_l3Marks_l2⟩) : LoopOk prog L (loopOf f95 2) := lo spec_l3Marks_l2_eq E95_ok allNil h
noncomputable def L95_1 : Nat → Option LoopD := fun n => ifEq n 2 (some ⟨33, sh95_2, xs95_2, spec_l3Marks_l2⟩) (L95_0 n)
noncomputable def spec_l3Marks : Int → (List Int) → Option (Bool) := fun a0 a1 =>
 Option.bind (loopF spec_l3Marks_l2 (a0, a1, a1, (((List.length a1) : Nat) : Int), (0 : Int), ())) fun r0 =>
  (match r0 with
  | .inl (d1, _) =>
    some d1
  | .inr _ =>
    some true)
noncomputable def A95 : FnA := ⟨[.v (.int .i64), .v (.sl (.int .i64))], true, [.bool], fun x => spec_l3Marks x.1 x.2.1⟩
theorem spec_l3Marks_eq : fnF E95 L95_1 [.v (.int .i64), .v (.sl (.int .i64))] true [.bool] f95.ntmps f95.results.toList (codeOf f95) = fun x => spec_l3Marks x.1 x.2.1 := by kernel_rfl
theorem A95_ok : FnOk prog 95 A95 := fo spec_l3Marks_eq func95 E95_ok (allCons (loop95_2 rfl) allNil)
/-! spec.l3Step -/
noncomputable def E96 : Env := ⟨ty0, fun g => ifEq g 94 (some A94) (none), fun _ => none, fun _ => none, fun _ => none⟩
theorem E96_ok : FnsOk prog E96 := (oF A94_ok func94 (noFns _ _))
noncomputable def L96_0 : Nat → Option LoopD := fun _ => none
noncomputable def spec_l3Step : Int → (Int × (ByteArray × (Int × Int))) → Option (Bool) := fun a0 (a1_0, a1_1, a1_2, a1_3) =>
 Option.bind (spec_l1In a1_0 (0 : Int) (IntKind.wrap .i64 (a0 - (1 : Int)))) fun r0 =>
  bif r0 then
   Option.bind (spec_l1In a1_2 (0 : Int) (IntKind.wrap .i64 (a0 - (1 : Int)))) fun r1 =>
    bif r1 then
     Option.bind (spec_l1In a1_3 (0 : Int) (3 : Int)) fun r2 =>
      bif r2 then
       bif ((ByteArray.toList a1_1) == (ByteArray.toList (⟨#[(97 : UInt8)]⟩ : ByteArray))) then
        some true
       else
        some ((ByteArray.toList a1_1) == (ByteArray.toList (⟨#[(98 : UInt8)]⟩ : ByteArray)))
      else
       some false
    else
     some false
  else
   some false
noncomputable def A96 : FnA := ⟨[.v (.int .i64), .v (.pair (.int .i64) (.pair .str (.pair (.int .i64) (.int .i64))))], true, [.bool], fun x => spec_l3Step x.1 x.2.1⟩
theorem spec_l3Step_eq : fnF E96 L96_0 [.v (.int .i64), .v (.pair (.int .i64) (.pair .str (.pair (.int .i64) (.int .i64))))] true [.bool] f96.ntmps f96.results.toList (codeOf f96) = fun x => spec_l3Step x.1 x.2.1 := by kernel_rfl
theorem A96_ok : FnOk prog 96 A96 := fo spec_l3Step_eq func96 E96_ok allNil
/-! spec.l3Before -/
noncomputable def E97 : Env := ⟨ty0, fun _ => none, fun _ => none, fun _ => none, fun _ => none⟩
theorem E97_ok : FnsOk prog E97 := (noFns _ _)
noncomputable def L97_0 : Nat → Option LoopD := fun _ => none
noncomputable def spec_l3Before : (Int × (ByteArray × (Int × Int))) → (Int × (ByteArray × (Int × Int))) → Option (Bool) := fun (a0_0, a0_1, a0_2, a0_3) (a1_0, a1_1, a1_2, a1_3) =>
 bif (a0_0 != a1_0) then
  some (decide (a0_0 < a1_0))
 else
  bif (!((ByteArray.toList a0_1) == (ByteArray.toList a1_1))) then
   some (Op.bytesLess (ByteArray.toList a0_1) (ByteArray.toList a1_1))
  else
   some (decide (a0_2 < a1_2))
noncomputable def A97 : FnA := ⟨[.v (.pair (.int .i64) (.pair .str (.pair (.int .i64) (.int .i64)))), .v (.pair (.int .i64) (.pair .str (.pair (.int .i64) (.int .i64))))], true, [.bool], fun x => spec_l3Before x.1 x.2.1⟩
theorem spec_l3Before_eq : fnF E97 L97_0 [.v (.pair (.int .i64) (.pair .str (.pair (.int .i64) (.int .i64)))), .v (.pair (.int .i64) (.pair .str (.pair (.int .i64) (.int .i64))))] true [.bool] f97.ntmps f97.results.toList (codeOf f97) = fun x => spec_l3Before x.1 x.2.1 := by kernel_rfl
theorem A97_ok : FnOk prog 97 A97 := fo spec_l3Before_eq func97 E97_ok allNil
/-! spec.AutomatonValid -/
noncomputable def E62 : Env := ⟨ty0, fun g => ifEq g 94 (some A94) (ifEq g 95 (some A95) (ifEq g 96 (some A96) (ifEq g 97 (some A97) (none)))), fun _ => none, fun _ => none, fun _ => none⟩
theorem E62_ok : FnsOk prog E62 := (oF A94_ok func94 (oF A95_ok func95 (oF A96_ok func96 (oF A97_ok func97 (noFns _ _)))))
noncomputable def L62_0 : Nat → Option LoopD := fun _ => none
def sh62_4 : List Fm := d :: .box 100100 [.val (.int .i64), .val (.sl (.int .i64)), .val (.sl (.int .i64)), .val (.sl (.pair (.int .i64) (.pair .str (.pair (.int .i64) (.int .i64)))))] :: D 30 (.cell (.val (.sl (.pair (.int .i64) (.pair .str (.pair (.int .i64) (.int .i64)))))) :: .cell (.val (.int .i64)) :: .cell (.val (.int .i64)) :: D 25 [])
def xs62_4 : List (Ex × List Fm) := [(.ret, (d :: d :: .cell (.val .bool) :: D 57 [])), (.exit 0, (D 60 []))]
noncomputable def spec_AutomatonValid_l4 : ((Int × (List Int) × (List Int) × (List (Int × (ByteArray × (Int × Int)))) × Unit) × (List (Int × (ByteArray × (Int × Int)))) × Int × Int × Unit) → Option (((Int × (List Int) × (List Int) × (List (Int × (ByteArray × (Int × Int)))) × Unit) × (List (Int × (ByteArray × (Int × Int)))) × Int × Int × Unit) ⊕ ((Bool × Unit) ⊕ (Unit))) := fun ((v1_0, v1_1, v1_2, v1_3, _), v32, v33, v34, _) =>
 bif (decide (v34 < v33)) then
  if (((0 : Int) ≤ v34) ∧ (v34 < (((List.length v32) : Nat) : Int))) then
   Option.bind (spec_l3Step v1_0 ((List.getD v32 (Int.toNat v34) ((0 : Int), (⟨Array.empty⟩ : ByteArray), (0 : Int), (0 : Int))).1, (List.getD v32 (Int.toNat v34) ((0 : Int), (⟨Array.empty⟩ : ByteArray), (0 : Int), (0 : Int))).2.1, (List.getD v32 (Int.toNat v34) ((0 : Int), (⟨Array.empty⟩ : ByteArray), (0 : Int), (0 : Int))).2.2.1, (List.getD v32 (Int.toNat v34) ((0 : Int), (⟨Array.empty⟩ : ByteArray), (0 : Int), (0 : Int))).2.2.2)) fun r0 =>
    bif (!r0) then
     some (Sum.inr (Sum.inl (false, ())))
    else
     bif (decide (v34 > (0 : Int))) then
      if (((0 : Int) ≤ (IntKind.wrap .i64 (v34 - (1 : Int)))) ∧ ((IntKind.wrap .i64 (v34 - (1 : Int))) < (((List.length v1_3) : Nat) : Int))) then
       Option.bind (spec_l3Before (List.getD v1_3 (Int.toNat (IntKind.wrap .i64 (v34 - (1 : Int)))) ((0 : Int), (⟨Array.empty⟩ : ByteArray), (0 : Int), (0 : Int))) ((List.getD v32 (Int.toNat v34) ((0 : Int), (⟨Array.empty⟩ : ByteArray), (0 : Int), (0 : Int))).1, (List.getD v32 (Int.toNat v34) ((0 : Int), (⟨Array.empty⟩ : ByteArray), (0 : Int), (0 : Int))).2.1, (List.getD v32 (Int.toNat v34) ((0 : Int), (⟨Array.empty⟩ : ByteArray), (0 : Int), (0 : Int))).2.2.1, (List.getD v32 (Int.toNat v34) ((0 : Int), (⟨Array.empty⟩ : ByteArray), (0 : Int), (0 : Int))).2.2.2)) fun r1 =>
        bif (!r1) then
         some (Sum.inr (Sum.inl (false, ())))
        else
         some (Sum.inl ((v1_0, v1_1, v1_2, v1_3, ()), v32, v33, (IntKind.wrap .i64 (v34 + (1 : Int))), ()))
      else
       none
     else
      some (Sum.inl ((v1_0, v1_1, v1_2, v1_3, ()), v32, v33, (IntKind.wrap .i64 (v34 + (1 : Int))), ()))
  else
   none
 else
  some (Sum.inr (Sum.inr ()))
theorem spec_AutomatonValid_l4_eq : loopStep 60 E62 L62_0 (loopOf f62 4) sh62_4 xs62_4 = spec_AutomatonValid_l4 := by kernel_rfl
theorem loop62_4 {L} (h : L 4 = some ⟨60, sh62_4, xs62_4, spec_AutomatonValid_l4⟩) : LoopOk prog L (loopOf f62 4) := lo spec_AutomatonValid_l4_eq E62_ok allNil h
noncomputable def L62_1 : Nat → Option LoopD := fun n => ifEq n 4 (some ⟨60, sh62_4, xs62_4, spec_AutomatonValid_l4⟩) (L62_0 n)
noncomputable def spec_AutomatonValid : (Int × ((List Int) × ((List Int) × (List (Int × (ByteArray × (Int × Int))))))) → Option (Bool) := fun (a0_0, a0_1, a0_2, a0_3) =>
 Option.bind (spec_l1In a0_0 (1 : Int) (4 : Int)) fun r0 =>
  bif (!r0) then
   some false
  else
   Option.bind (spec_l3Marks a0_0 a0_1) fun r1 =>
    bif (!r1) then
     some false
    else
     Option.bind (spec_l3Marks a0_0 a0_2) fun r2 =>
      bif (!r2) then
       some false
      else
       bif (decide ((((List.length a0_3) : Nat) : Int) > (24 : Int))) then
        some false
       else
        Option.bind (loopF spec_AutomatonValid_l4 ((a0_0, a0_1, a0_2, a0_3, ()), a0_3, (((List.length a0_3) : Nat) : Int), (0 : Int), ())) fun r3 =>
         (match r3 with
         | .inl (d4, _) =>
           some d4
         | .inr _ =>
           some true)
noncomputable def A62 : FnA := ⟨[.v (.pair (.int .i64) (.pair (.sl (.int .i64)) (.pair (.sl (.int .i64)) (.sl (.pair (.int .i64) (.pair .str (.pair (.int .i64) (.int .i64))))))))], true, [.bool], fun x => spec_AutomatonValid x.1⟩
theorem spec_AutomatonValid_eq : fnF E62 L62_1 [.v (.pair (.int .i64) (.pair (.sl (.int .i64)) (.pair (.sl (.int .i64)) (.sl (.pair (.int .i64) (.pair .str (.pair (.int .i64) (.int .i64))))))))] true [.bool] f62.ntmps f62.results.toList (codeOf f62) = fun x => spec_AutomatonValid x.1 := by kernel_rfl
theorem A62_ok : FnOk prog 62 A62 := fo spec_AutomatonValid_eq func62 E62_ok (allCons (loop62_4 rfl) allNil)
/-! spec.l3Matrix -/
noncomputable def E132 : Env := ⟨ty0, fun _ => none, fun _ => none, fun _ => none, fun _ => none⟩
theorem E132_ok : FnsOk prog E132 := (noFns _ _)
noncomputable def L132_0 : Nat → Option LoopD := fun _ => none
def sh132_3 : List Fm := d :: .cell (.val .str) :: .box 100200 [.val (.int .i64), .val (.sl (.int .i64)), .val (.sl (.int .i64)), .val (.sl (.pair (.int .i64) (.pair .str (.pair (.int .i64) (.int .i64)))))] :: d :: .box 100400 [.val (.int .i64), .own (.int .i64) 100402 false] :: .box 100500 [.val (.int .i64), .own (.int .i64) 100502 false] :: D 9 (.cell (.val (.int .i64)) :: .cell (.val (.int .i64)) :: D 33 [])
def xs132_3 : List (Ex × List Fm) := [(.exit 0, [d, .cell (.val .str), .box 100200 [.val (.int .i64), .val (.sl (.int .i64)), .val (.sl (.int .i64)), .val (.sl (.pair (.int .i64) (.pair .str (.pair (.int .i64) (.int .i64)))))], d, .box 100400 [.val (.int .i64), .own (.int .i64) 100402 false], .box 100500 [.val (.int .i64), .own (.int .i64) 100502 false], d, d, d, d, d, d, d, d, d, d, d, d, d, d, d, d, d, d, d, d, d, d, d, d, d, d, d, d, d, d, d, d, d, d, d, d, d, d, d, d, d, d, d, d])]
noncomputable def spec_l3Matrix_l3 : (ByteArray × (Int × (List Int) × (List Int) × (List (Int × (ByteArray × (Int × Int)))) × Unit) × (Int × (List Int) × Unit) × (Int × (List Int) × Unit) × Int × Int × Unit) → Option ((ByteArray × (Int × (List Int) × (List Int) × (List (Int × (ByteArray × (Int × Int)))) × Unit) × (Int × (List Int) × Unit) × (Int × (List Int) × Unit) × Int × Int × Unit) ⊕ ((ByteArray × (Int × (List Int) × (List Int) × (List (Int × (ByteArray × (Int × Int)))) × Unit) × (Int × (List Int) × Unit) × (Int × (List Int) × Unit) × Unit))) := fun (v1, (v2_0, v2_1, v2_2, v2_3, _), (v4_0, v4_1, _), (v5_0, v5_1, _), v15, v16, _) =>
 bif (decide (v16 < v15)) then
  if (((0 + (List.length v5_1)) = (List.length v5_1)) ∧ ((((List.length v5_1) + (List.length (List.take 1 (List.drop 0 [(1000000 : Int)])))) * 8) ≤ 140737488355328)) then
   some (Sum.inl (v1, (v2_0, v2_1, v2_2, v2_3, ()), (v4_0, (List.take (List.length v4_1) (List.drop 0 v4_1)), ()), (v5_0, (List.take ((List.length v5_1) + (List.length (List.take 1 (List.drop 0 [(1000000 : Int)])))) (List.drop 0 ((List.drop 0 v5_1) ++ (List.take 1 (List.drop 0 [(1000000 : Int)]))))), ()), v15, (IntKind.wrap .i64 (v16 + (1 : Int))), ()))
  else
   none
 else
  some (Sum.inr (v1, (v2_0, v2_1, v2_2, v2_3, ()), (v4_0, (List.take (List.length v4_1) (List.drop 0 v4_1)), ()), (v5_0, (List.take (List.length v5_1) (List.drop 0 v5_1)), ()), ()))
theorem spec_l3Matrix_l3_eq : loopStep 50 E132 L132_0 (loopOf f132 3) sh132_3 xs132_3 = spec_l3Matrix_l3 := by kernel_rfl
theorem loop132_3 {L} (h : L 3 = some ⟨50, sh132_3, xs132_3, spec_l3Matrix_l3⟩) : LoopOk prog L (loopOf f132 3) := lo spec_l3Matrix_l3_eq E132_ok allNil h
noncomputable def L132_1 : Nat → Option LoopD := fun n => ifEq n 3 (some ⟨50, sh132_3, xs132_3, spec_l3Matrix_l3⟩) (L132_0 n)
def sh132_7 : List Fm := d :: .cell (.val .str) :: .box 100200 [.val (.int .i64), .val (.sl (.int .i64)), .val (.sl (.int .i64)), .val (.sl (.pair (.int .i64) (.pair .str (.pair (.int .i64) (.int .i64)))))] :: d :: .box 100400 [.val (.int .i64), .own (.int .i64) 100402 false] :: .box 100500 [.val (.int .i64), .own (.int .i64) 100502 false] :: D 19 (.cell (.val (.sl (.pair (.int .i64) (.pair .str (.pair (.int .i64) (.int .i64)))))) :: .cell (.val (.int .i64)) :: .cell (.val (.int .i64)) :: D 22 [])
def xs132_7 : List (Ex × List Fm) := [(.exit 2, [d, d, d, d, .box 100400 [.val (.int .i64), .own (.int .i64) 100402 false], .box 100500 [.val (.int .i64), .own (.int .i64) 100502 false], d, d, d, d, d, d, d, d, d, d, d, d, d, d, d, d, d, d, d, d, d, d, d, d, d, d, d, d, d, d, d, d, d, d, d, d, d, d, d, d, d, d, d, d])]
noncomputable def spec_l3Matrix_l7 : (ByteArray × (Int × (List Int) × (List Int) × (List (Int × (ByteArray × (Int × Int)))) × Unit) × (Int × (List Int) × Unit) × (Int × (List Int) × Unit) × (List (Int × (ByteArray × (Int × Int)))) × Int × Int × Unit) → Option ((ByteArray × (Int × (List Int) × (List Int) × (List (Int × (ByteArray × (Int × Int)))) × Unit) × (Int × (List Int) × Unit) × (Int × (List Int) × Unit) × (List (Int × (ByteArray × (Int × Int)))) × Int × Int × Unit) ⊕ (((Int × (List Int) × Unit) × (Int × (List Int) × Unit) × Unit))) := fun (v1, (v2_0, v2_1, v2_2, v2_3, _), (v4_0, v4_1, _), (v5_0, v5_1, _), v25, v26, v27, _) =>
 bif (decide (v27 < v26)) then
  if (((0 : Int) ≤ v27) ∧ (v27 < (((List.length v25) : Nat) : Int))) then
   bif ((ByteArray.toList (List.getD v25 (Int.toNat v27) ((0 : Int), (⟨Array.empty⟩ : ByteArray), (0 : Int), (0 : Int))).2.1) == (ByteArray.toList v1)) then
    if (((0 : Int) ≤ (IntKind.wrap .i64 ((IntKind.wrap .i64 ((List.getD v25 (Int.toNat v27) ((0 : Int), (⟨Array.empty⟩ : ByteArray), (0 : Int), (0 : Int))).1 * v2_0)) + (List.getD v25 (Int.toNat v27) ((0 : Int), (⟨Array.empty⟩ : ByteArray), (0 : Int), (0 : Int))).2.2.1))) ∧ ((IntKind.wrap .i64 ((IntKind.wrap .i64 ((List.getD v25 (Int.toNat v27) ((0 : Int), (⟨Array.empty⟩ : ByteArray), (0 : Int), (0 : Int))).1 * v2_0)) + (List.getD v25 (Int.toNat v27) ((0 : Int), (⟨Array.empty⟩ : ByteArray), (0 : Int), (0 : Int))).2.2.1)) < (((List.length v5_1) : Nat) : Int))) then
     some (Sum.inl (v1, (v2_0, v2_1, v2_2, v2_3, ()), (v4_0, (List.take (List.length v4_1) (List.drop 0 v4_1)), ()), (v5_0, (List.take (List.length v5_1) (List.drop 0 (List.set v5_1 (0 + (Int.toNat (IntKind.wrap .i64 ((IntKind.wrap .i64 ((List.getD v25 (Int.toNat v27) ((0 : Int), (⟨Array.empty⟩ : ByteArray), (0 : Int), (0 : Int))).1 * v2_0)) + (List.getD v25 (Int.toNat v27) ((0 : Int), (⟨Array.empty⟩ : ByteArray), (0 : Int), (0 : Int))).2.2.1)))) (List.getD v25 (Int.toNat v27) ((0 : Int), (⟨Array.empty⟩ : ByteArray), (0 : Int), (0 : Int))).2.2.2))), ()), v25, v26, (IntKind.wrap .i64 (v27 + (1 : Int))), ()))
    else
     none
   else
    some (Sum.inl (v1, (v2_0, v2_1, v2_2, v2_3, ()), (v4_0, (List.take (List.length v4_1) (List.drop 0 v4_1)), ()), (v5_0, (List.take (List.length v5_1) (List.drop 0 v5_1)), ()), v25, v26, (IntKind.wrap .i64 (v27 + (1 : Int))), ()))
  else
   none
 else
  some (Sum.inr ((v4_0, (List.take (List.length v4_1) (List.drop 0 v4_1)), ()), (v5_0, (List.take (List.length v5_1) (List.drop 0 v5_1)), ()), ()))
theorem spec_l3Matrix_l7_eq : loopStep 50 E132 L132_1 (loopOf f132 7) sh132_7 xs132_7 = spec_l3Matrix_l7 := by kernel_rfl
theorem loop132_7 {L} (h : L 7 = some ⟨50, sh132_7, xs132_7, spec_l3Matrix_l7⟩) : LoopOk prog L (loopOf f132 7) := lo spec_l3Matrix_l7_eq E132_ok allNil h
noncomputable def L132_2 : Nat → Option LoopD := fun n => ifEq n 7 (some ⟨50, sh132_7, xs132_7, spec_l3Matrix_l7⟩) (L132_1 n)
noncomputable def spec_l3Matrix : (Int × ((List Int) × ((List Int) × (List (Int × (ByteArray × (Int × Int))))))) → ByteArray → Option ((Int × (List Int))) := fun (a0_0, a0_1, a0_2, a0_3) a1 =>
 Option.bind (loopF spec_l3Matrix_l3 (a1, (a0_0, a0_1, a0_2, a0_3, ()), ((0 : Int), [], ()), (a0_0, [], ()), (IntKind.wrap .i64 (a0_0 * a0_0)), (0 : Int), ())) fun (r0, (r1, r2, r3, r4, _), (r5, r6, _), (r7, r8, _), _) =>
  Option.bind (loopF spec_l3Matrix_l7 (r0, (r1, r2, r3, r4, ()), (r5, (List.take (List.length r6) (List.drop 0 r6)), ()), (r7, (List.take (List.length r8) (List.drop 0 r8)), ()), r4, (((List.length r4) : Nat) : Int), (0 : Int), ())) fun ((r9, r10, _), (r11, r12, _), _) =>
   some (r11, (List.take (List.length r12) (List.drop 0 r12)))
noncomputable def A132 : FnA := ⟨[.v (.pair (.int .i64) (.pair (.sl (.int .i64)) (.pair (.sl (.int .i64)) (.sl (.pair (.int .i64) (.pair .str (.pair (.int .i64) (.int .i64)))))))), .v .str], true, [.pair (.int .i64) (.sl (.int .i64))], fun x => spec_l3Matrix x.1 x.2.1⟩
theorem spec_l3Matrix_eq : fnF E132 L132_2 [.v (.pair (.int .i64) (.pair (.sl (.int .i64)) (.pair (.sl (.int .i64)) (.sl (.pair (.int .i64) (.pair .str (.pair (.int .i64) (.int .i64)))))))), .v .str] true [.pair (.int .i64) (.sl (.int .i64))] f132.ntmps f132.results.toList (codeOf f132) = fun x => spec_l3Matrix x.1 x.2.1 := by kernel_rfl
theorem A132_ok : FnOk prog 132 A132 := fo spec_l3Matrix_eq func132 E132_ok (allCons (loop132_3 rfl) (allCons (loop132_7 rfl) allNil))
/-! spec.l6Grades -/
noncomputable def E131 : Env := ⟨ty0, fun _ => none, fun _ => none, fun _ => none, fun _ => none⟩
theorem E131_ok : FnsOk prog E131 := (noFns _ _)
noncomputable def L131_0 : Nat → Option LoopD := fun _ => none
def sh131_3 : List Fm := d :: d :: .box 100200 [.val (.int .i64), .own (.int .i64) 100202 false] :: .box 100300 [.val (.int .i64), .own (.int .i64) 100302 false] :: D 6 (.cell (.val (.sl (.int .i64))) :: .cell (.val (.int .i64)) :: .cell (.val (.int .i64)) :: D 25 [])
def xs131_3 : List (Ex × List Fm) := [(.exit 0, [d, d, .box 100200 [.val (.int .i64), .own (.int .i64) 100202 false], .box 100300 [.val (.int .i64), .own (.int .i64) 100302 false], d, d, d, d, d, d, d, d, d, d, d, d, d, d, d, d, d, d, d, d, d, d, d, d, d, d, d, d, d, d, d, d, d, d])]
noncomputable def spec_l6Grades_l3 : ((Int × (List Int) × Unit) × (Int × (List Int) × Unit) × (List Int) × Int × Int × Unit) → Option (((Int × (List Int) × Unit) × (Int × (List Int) × Unit) × (List Int) × Int × Int × Unit) ⊕ (((Int × (List Int) × Unit) × (Int × (List Int) × Unit) × Unit))) := fun ((v2_0, v2_1, _), (v3_0, v3_1, _), v10, v11, v12, _) =>
 bif (decide (v12 < v11)) then
  if (((0 : Int) ≤ v12) ∧ (v12 < (((List.length v10) : Nat) : Int))) then
   bif ((List.getD v10 (Int.toNat v12) (0 : Int)) == (0 : Int)) then
    if (((0 + (List.length v3_1)) = (List.length v3_1)) ∧ ((((List.length v3_1) + (List.length (List.take 1 (List.drop 0 [(0 : Int)])))) * 8) ≤ 140737488355328)) then
     some (Sum.inl ((v2_0, (List.take (List.length v2_1) (List.drop 0 v2_1)), ()), (v3_0, (List.take ((List.length v3_1) + (List.length (List.take 1 (List.drop 0 [(0 : Int)])))) (List.drop 0 ((List.drop 0 v3_1) ++ (List.take 1 (List.drop 0 [(0 : Int)]))))), ()), v10, v11, (IntKind.wrap .i64 (v12 + (1 : Int))), ()))
    else
     none
   else
    bif ((List.getD v10 (Int.toNat v12) (0 : Int)) == (1000000 : Int)) then
     if (((0 + (List.length v3_1)) = (List.length v3_1)) ∧ ((((List.length v3_1) + (List.length (List.take 1 (List.drop 0 [(3 : Int)])))) * 8) ≤ 140737488355328)) then
      some (Sum.inl ((v2_0, (List.take (List.length v2_1) (List.drop 0 v2_1)), ()), (v3_0, (List.take ((List.length v3_1) + (List.length (List.take 1 (List.drop 0 [(3 : Int)])))) (List.drop 0 ((List.drop 0 v3_1) ++ (List.take 1 (List.drop 0 [(3 : Int)]))))), ()), v10, v11, (IntKind.wrap .i64 (v12 + (1 : Int))), ()))
     else
      none
    else
     if (((0 + (List.length v3_1)) = (List.length v3_1)) ∧ ((((List.length v3_1) + (List.length (List.take 1 (List.drop 0 [(1 : Int)])))) * 8) ≤ 140737488355328)) then
      some (Sum.inl ((v2_0, (List.take (List.length v2_1) (List.drop 0 v2_1)), ()), (v3_0, (List.take ((List.length v3_1) + (List.length (List.take 1 (List.drop 0 [(1 : Int)])))) (List.drop 0 ((List.drop 0 v3_1) ++ (List.take 1 (List.drop 0 [(1 : Int)]))))), ()), v10, v11, (IntKind.wrap .i64 (v12 + (1 : Int))), ()))
     else
      none
  else
   none
 else
  some (Sum.inr ((v2_0, (List.take (List.length v2_1) (List.drop 0 v2_1)), ()), (v3_0, (List.take (List.length v3_1) (List.drop 0 v3_1)), ()), ()))
theorem spec_l6Grades_l3_eq : loopStep 38 E131 L131_0 (loopOf f131 3) sh131_3 xs131_3 = spec_l6Grades_l3 := by kernel_rfl
theorem loop131_3 {L} (h : L 3 = some ⟨38, sh131_3, xs131_3, spec_l6Grades_l3⟩) : LoopOk prog L (loopOf f131 3) := lo spec_l6Grades_l3_eq E131_ok allNil h
noncomputable def L131_1 : Nat → Option LoopD := fun n => ifEq n 3 (some ⟨38, sh131_3, xs131_3, spec_l6Grades_l3⟩) (L131_0 n)
noncomputable def spec_l6Grades : (Int × (List Int)) → Option ((Int × (List Int))) := fun (a0_0, a0_1) =>
 Option.bind (loopF spec_l6Grades_l3 (((0 : Int), [], ()), (a0_0, [], ()), a0_1, (((List.length a0_1) : Nat) : Int), (0 : Int), ())) fun ((r0, r1, _), (r2, r3, _), _) =>
  some (r2, (List.take (List.length r3) (List.drop 0 r3)))
noncomputable def A131 : FnA := ⟨[.v (.pair (.int .i64) (.sl (.int .i64)))], true, [.pair (.int .i64) (.sl (.int .i64))], fun x => spec_l6Grades x.1⟩
theorem spec_l6Grades_eq : fnF E131 L131_1 [.v (.pair (.int .i64) (.sl (.int .i64)))] true [.pair (.int .i64) (.sl (.int .i64))] f131.ntmps f131.results.toList (codeOf f131) = fun x => spec_l6Grades x.1 := by kernel_rfl
theorem A131_ok : FnOk prog 131 A131 := fo spec_l6Grades_eq func131 E131_ok (allCons (loop131_3 rfl) allNil)
/-! spec.l2Same -/
noncomputable def E50 : Env := ⟨ty0, fun _ => none, fun _ => none, fun _ => none, fun _ => none⟩
theorem E50_ok : FnsOk prog E50 := (noFns _ _)
noncomputable def L50_0 : Nat → Option LoopD := fun _ => none
def sh50_2 : List Fm := .cell (.val (.sl (.int .i64))) :: .cell (.val (.sl (.int .i64))) :: D 8 (.cell (.val (.int .i64)) :: .cell (.val (.int .i64)) :: D 17 [])
def xs50_2 : List (Ex × List Fm) := [(.ret, (D 4 (.cell (.val .bool) :: D 24 []))), (.exit 0, (.cell (.val (.sl (.int .i64))) :: .cell (.val (.sl (.int .i64))) :: D 27 []))]
noncomputable def spec_l2Same_l2 : ((List Int) × (List Int) × Int × Int × Unit) → Option (((List Int) × (List Int) × Int × Int × Unit) ⊕ ((Bool × Unit) ⊕ ((List Int) × (List Int) × Unit))) := fun (v0, v1, v10, v11, _) =>
 bif (decide (v11 < v10)) then
  if (((0 : Int) ≤ v11) ∧ (v11 < (((List.length v0) : Nat) : Int))) then
   if (((0 : Int) ≤ v11) ∧ (v11 < (((List.length v1) : Nat) : Int))) then
    bif ((List.getD v0 (Int.toNat v11) (0 : Int)) != (List.getD v1 (Int.toNat v11) (0 : Int))) then
     some (Sum.inr (Sum.inl (false, ())))
    else
     some (Sum.inl (v0, v1, v10, (IntKind.wrap .i64 (v11 + (1 : Int))), ()))
   else
    none
  else
   none
 else
  some (Sum.inr (Sum.inr (v0, v1, ())))
theorem spec_l2Same_l2_eq : loopStep 29 E50 L50_0 (loopOf f50 2) sh50_2 xs50_2 = spec_l2Same_l2 := by kernel_rfl
theorem loop50_2 {L} (h : L 2 = some ⟨29, sh50_2, xs50_2, spec_l2Same_l2⟩) : LoopOk prog L (loopOf f50 2) := lo spec_l2Same_l2_eq E50_ok allNil h
noncomputable def L50_1 : Nat → Option LoopD := fun n => ifEq n 2 (some ⟨29, sh50_2, xs50_2, spec_l2Same_l2⟩) (L50_0 n)
noncomputable def spec_l2Same : (List Int) → (List Int) → Option (Bool) := fun a0 a1 =>
 Option.bind (loopF spec_l2Same_l2 (a0, a1, (if ((((List.length a1) : Nat) : Int) < (((List.length a0) : Nat) : Int)) then (((List.length a1) : Nat) : Int) else (((List.length a0) : Nat) : Int)), (0 : Int), ())) fun r0 =>
  (match r0 with
  | .inl (d1, _) =>
    some d1
  | .inr (d2, d3, _) =>
    some ((((List.length d2) : Nat) : Int) == (((List.length d3) : Nat) : Int)))
noncomputable def A50 : FnA := ⟨[.v (.sl (.int .i64)), .v (.sl (.int .i64))], true, [.bool], fun x => spec_l2Same x.1 x.2.1⟩
theorem spec_l2Same_eq : fnF E50 L50_1 [.v (.sl (.int .i64)), .v (.sl (.int .i64))] true [.bool] f50.ntmps f50.results.toList (codeOf f50) = fun x => spec_l2Same x.1 x.2.1 := by kernel_rfl
theorem A50_ok : FnOk prog 50 A50 := fo spec_l2Same_eq func50 E50_ok (allCons (loop50_2 rfl) allNil)
/-! spec.l6Mul -/
noncomputable def E86 : Env := ⟨ty0, fun _ => none, fun _ => none, fun _ => none, fun _ => none⟩
theorem E86_ok : FnsOk prog E86 := (noFns _ _)
noncomputable def L86_0 : Nat → Option LoopD := fun _ => none
def sh86_7 : List Fm := d :: d :: .box 100200 [.val (.int .i64), .val (.sl (.int .i64))] :: .box 100300 [.val (.int .i64), .val (.sl (.int .i64))] :: .box 100400 [.val (.int .i64), .own (.int .i64) 100402 false] :: .box 100500 [.val (.int .i64), .own (.int .i64) 100502 false] :: .cell (.val (.int .i64)) :: .cell (.val (.int .i64)) :: D 8 (.cell (.val (.int .i64)) :: .cell (.val (.int .i64)) :: d :: d :: d :: .cell (.val (.int .i64)) :: .cell (.val (.int .i64)) :: D 40 [])
def xs86_7 : List (Ex × List Fm) := [(.exit 2, [d, d, .box 100200 [.val (.int .i64), .val (.sl (.int .i64))], .box 100300 [.val (.int .i64), .val (.sl (.int .i64))], .box 100400 [.val (.int .i64), .own (.int .i64) 100402 false], .box 100500 [.val (.int .i64), .own (.int .i64) 100502 false], d, .cell (.val (.int .i64)), d, d, d, d, d, d, d, d, .cell (.val (.int .i64)), .cell (.val (.int .i64)), d, d, d, d, d, d, d, d, d, d, d, d, d, d, d, d, d, d, d, d, d, d, d, d, d, d, d, d, d, d, d, d, d, d, d, d, d, d, d, d, d, d, d, d, d])]
noncomputable def spec_l6Mul_l7 : ((Int × (List Int) × Unit) × (Int × (List Int) × Unit) × (Int × (List Int) × Unit) × (Int × (List Int) × Unit) × Int × Int × Int × Int × Int × Int × Unit) → Option (((Int × (List Int) × Unit) × (Int × (List Int) × Unit) × (Int × (List Int) × Unit) × (Int × (List Int) × Unit) × Int × Int × Int × Int × Int × Int × Unit) ⊕ (((Int × (List Int) × Unit) × (Int × (List Int) × Unit) × (Int × (List Int) × Unit) × (Int × (List Int) × Unit) × Int × Int × Int × Unit))) := fun ((v2_0, v2_1, _), (v3_0, v3_1, _), (v4_0, v4_1, _), (v5_0, v5_1, _), v6, v7, v16, v17, v21, v22, _) =>
 bif (decide (v22 < v21)) then
  if (v2_0 = (0 : Int)) then
   none
  else
   if (((0 : Int) ≤ (IntKind.wrap .i64 ((IntKind.wrap .i64 ((IntKind.wrap .i64 (Int.tdiv v6 v2_0)) * v2_0)) + v22))) ∧ ((IntKind.wrap .i64 ((IntKind.wrap .i64 ((IntKind.wrap .i64 (Int.tdiv v6 v2_0)) * v2_0)) + v22)) < (((List.length v2_1) : Nat) : Int))) then
    if (v2_0 = (0 : Int)) then
     none
    else
     if (((0 : Int) ≤ (IntKind.wrap .i64 ((IntKind.wrap .i64 (v22 * v2_0)) + (Int.tmod v6 v2_0)))) ∧ ((IntKind.wrap .i64 ((IntKind.wrap .i64 (v22 * v2_0)) + (Int.tmod v6 v2_0))) < (((List.length v3_1) : Nat) : Int))) then
      some (Sum.inl ((v2_0, v2_1, ()), (v3_0, v3_1, ()), (v4_0, (List.take (List.length v4_1) (List.drop 0 v4_1)), ()), (v5_0, (List.take (List.length v5_1) (List.drop 0 v5_1)), ()), v6, (if ((if ((List.getD v3_1 (Int.toNat (IntKind.wrap .i64 ((IntKind.wrap .i64 (v22 * v2_0)) + (Int.tmod v6 v2_0)))) (0 : Int)) > (List.getD v2_1 (Int.toNat (IntKind.wrap .i64 ((IntKind.wrap .i64 ((IntKind.wrap .i64 (Int.tdiv v6 v2_0)) * v2_0)) + v22))) (0 : Int))) then (List.getD v3_1 (Int.toNat (IntKind.wrap .i64 ((IntKind.wrap .i64 (v22 * v2_0)) + (Int.tmod v6 v2_0)))) (0 : Int)) else (List.getD v2_1 (Int.toNat (IntKind.wrap .i64 ((IntKind.wrap .i64 ((IntKind.wrap .i64 (Int.tdiv v6 v2_0)) * v2_0)) + v22))) (0 : Int))) < v7) then (if ((List.getD v3_1 (Int.toNat (IntKind.wrap .i64 ((IntKind.wrap .i64 (v22 * v2_0)) + (Int.tmod v6 v2_0)))) (0 : Int)) > (List.getD v2_1 (Int.toNat (IntKind.wrap .i64 ((IntKind.wrap .i64 ((IntKind.wrap .i64 (Int.tdiv v6 v2_0)) * v2_0)) + v22))) (0 : Int))) then (List.getD v3_1 (Int.toNat (IntKind.wrap .i64 ((IntKind.wrap .i64 (v22 * v2_0)) + (Int.tmod v6 v2_0)))) (0 : Int)) else (List.getD v2_1 (Int.toNat (IntKind.wrap .i64 ((IntKind.wrap .i64 ((IntKind.wrap .i64 (Int.tdiv v6 v2_0)) * v2_0)) + v22))) (0 : Int))) else v7), v16, v17, v21, (IntKind.wrap .i64 (v22 + (1 : Int))), ()))
     else
      none
   else
    none
 else
  some (Sum.inr ((v2_0, v2_1, ()), (v3_0, v3_1, ()), (v4_0, (List.take (List.length v4_1) (List.drop 0 v4_1)), ()), (v5_0, (List.take (List.length v5_1) (List.drop 0 v5_1)), ()), v7, v16, v17, ()))
theorem spec_l6Mul_l7_eq : loopStep 63 E86 L86_0 (loopOf f86 7) sh86_7 xs86_7 = spec_l6Mul_l7 := by kernel_rfl
theorem loop86_7 {L} (h : L 7 = some ⟨63, sh86_7, xs86_7, spec_l6Mul_l7⟩) : LoopOk prog L (loopOf f86 7) := lo spec_l6Mul_l7_eq E86_ok allNil h
noncomputable def L86_1 : Nat → Option LoopD := fun n => ifEq n 7 (some ⟨63, sh86_7, xs86_7, spec_l6Mul_l7⟩) (L86_0 n)
def sh86_3 : List Fm := d :: d :: .box 100200 [.val (.int .i64), .val (.sl (.int .i64))] :: .box 100300 [.val (.int .i64), .val (.sl (.int .i64))] :: .box 100400 [.val (.int .i64), .own (.int .i64) 100402 false] :: .box 100500 [.val (.int .i64), .own (.int .i64) 100502 false] :: D 10 (.cell (.val (.int .i64)) :: .cell (.val (.int .i64)) :: D 45 [])
def xs86_3 : List (Ex × List Fm) := [(.exit 0, [d, d, d, d, .box 100400 [.val (.int .i64), .own (.int .i64) 100402 false], .box 100500 [.val (.int .i64), .own (.int .i64) 100502 false], d, d, d, d, d, d, d, d, d, d, d, d, d, d, d, d, d, d, d, d, d, d, d, d, d, d, d, d, d, d, d, d, d, d, d, d, d, d, d, d, d, d, d, d, d, d, d, d, d, d, d, d, d, d, d, d, d])]
noncomputable def spec_l6Mul_l3 : ((Int × (List Int) × Unit) × (Int × (List Int) × Unit) × (Int × (List Int) × Unit) × (Int × (List Int) × Unit) × Int × Int × Unit) → Option (((Int × (List Int) × Unit) × (Int × (List Int) × Unit) × (Int × (List Int) × Unit) × (Int × (List Int) × Unit) × Int × Int × Unit) ⊕ (((Int × (List Int) × Unit) × (Int × (List Int) × Unit) × Unit))) := fun ((v2_0, v2_1, _), (v3_0, v3_1, _), (v4_0, v4_1, _), (v5_0, v5_1, _), v16, v17, _) =>
 bif (decide (v17 < v16)) then
  Option.bind (loopF spec_l6Mul_l7 ((v2_0, v2_1, ()), (v3_0, v3_1, ()), (v4_0, (List.take (List.length v4_1) (List.drop 0 v4_1)), ()), (v5_0, (List.take (List.length v5_1) (List.drop 0 v5_1)), ()), v17, (3 : Int), v16, v17, v2_0, (0 : Int), ())) fun ((r0, r1, _), (r2, r3, _), (r4, r5, _), (r6, r7, _), r8, r9, r10, _) =>
   if (((0 + (List.length r7)) = (List.length r7)) ∧ ((((List.length r7) + (List.length (List.take 1 (List.drop 0 [r8])))) * 8) ≤ 140737488355328)) then
    some (Sum.inl ((r0, r1, ()), (r2, r3, ()), (r4, (List.take (List.length r5) (List.drop 0 r5)), ()), (r6, (List.take ((List.length r7) + (List.length (List.take 1 (List.drop 0 [r8])))) (List.drop 0 ((List.drop 0 r7) ++ (List.take 1 (List.drop 0 [r8]))))), ()), r9, (IntKind.wrap .i64 (r10 + (1 : Int))), ()))
   else
    none
 else
  some (Sum.inr ((v4_0, (List.take (List.length v4_1) (List.drop 0 v4_1)), ()), (v5_0, (List.take (List.length v5_1) (List.drop 0 v5_1)), ()), ()))
theorem spec_l6Mul_l3_eq : loopStep 63 E86 L86_1 (loopOf f86 3) sh86_3 xs86_3 = spec_l6Mul_l3 := by kernel_rfl
theorem loop86_3 {L} (h : L 3 = some ⟨63, sh86_3, xs86_3, spec_l6Mul_l3⟩) : LoopOk prog L (loopOf f86 3) := lo spec_l6Mul_l3_eq E86_ok (allCons (loop86_7 rfl) allNil) h
noncomputable def L86_2 : Nat → Option LoopD := fun n => ifEq n 3 (some ⟨63, sh86_3, xs86_3, spec_l6Mul_l3⟩) (L86_1 n)
noncomputable def spec_l6Mul : (Int × (List Int)) → (Int × (List Int)) → Option ((Int × (List Int))) := fun (a0_0, a0_1) (a1_0, a1_1) =>
 Option.bind (loopF spec_l6Mul_l3 ((a0_0, a0_1, ()), (a1_0, a1_1, ()), ((0 : Int), [], ()), (a0_0, [], ()), (IntKind.wrap .i64 (a0_0 * a0_0)), (0 : Int), ())) fun ((r0, r1, _), (r2, r3, _), _) =>
  some (r2, (List.take (List.length r3) (List.drop 0 r3)))
noncomputable def A86 : FnA := ⟨[.v (.pair (.int .i64) (.sl (.int .i64))), .v (.pair (.int .i64) (.sl (.int .i64)))], true, [.pair (.int .i64) (.sl (.int .i64))], fun x => spec_l6Mul x.1 x.2.1⟩
theorem spec_l6Mul_eq : fnF E86 L86_2 [.v (.pair (.int .i64) (.sl (.int .i64))), .v (.pair (.int .i64) (.sl (.int .i64)))] true [.pair (.int .i64) (.sl (.int .i64))] f86.ntmps f86.results.toList (codeOf f86) = fun x => spec_l6Mul x.1 x.2.1 := by kernel_rfl
theorem A86_ok : FnOk prog 86 A86 := fo spec_l6Mul_eq func86 E86_ok (allCons (loop86_3 rfl) allNil)
/-! spec.l6Idempotent -/
noncomputable def E49 : Env := ⟨ty0, fun g => ifEq g 86 (some A86) (ifEq g 50 (some A50) (none)), fun _ => none, fun _ => none, fun _ => none⟩
theorem E49_ok : FnsOk prog E49 := (oF A86_ok func86 (oF A50_ok func50 (noFns _ _)))
noncomputable def L49_0 : Nat → Option LoopD := fun _ => none
noncomputable def spec_l6Idempotent : (Int × (List Int)) → Option (Bool) := fun (a0_0, a0_1) =>
 Option.bind (spec_l6Mul (a0_0, a0_1) (a0_0, a0_1)) fun (r0, r1) =>
  Option.bind (spec_l2Same (List.take (List.length r1) (List.drop 0 r1)) a0_1) fun r2 =>
   some r2
noncomputable def A49 : FnA := ⟨[.v (.pair (.int .i64) (.sl (.int .i64)))], true, [.bool], fun x => spec_l6Idempotent x.1⟩
theorem spec_l6Idempotent_eq : fnF E49 L49_0 [.v (.pair (.int .i64) (.sl (.int .i64)))] true [.bool] f49.ntmps f49.results.toList (codeOf f49) = fun x => spec_l6Idempotent x.1 := by kernel_rfl
theorem A49_ok : FnOk prog 49 A49 := fo spec_l6Idempotent_eq func49 E49_ok allNil
/-! spec.l6Again -/
noncomputable def E87 : Env := ⟨ty0, fun _ => none, fun _ => none, fun _ => none, fun _ => none⟩
theorem E87_ok : FnsOk prog E87 := (noFns _ _)
noncomputable def L87_0 : Nat → Option LoopD := fun _ => none
noncomputable def spec_l6Again : Int → Option (Int) := fun a0 =>
 bif (a0 == (1 : Int)) then
  some (2 : Int)
 else
  some a0
noncomputable def A87 : FnA := ⟨[.v (.int .i64)], true, [.int .i64], fun x => spec_l6Again x.1⟩
theorem spec_l6Again_eq : fnF E87 L87_0 [.v (.int .i64)] true [.int .i64] f87.ntmps f87.results.toList (codeOf f87) = fun x => spec_l6Again x.1 := by kernel_rfl
theorem A87_ok : FnOk prog 87 A87 := fo spec_l6Again_eq func87 E87_ok allNil
/-! spec.l6Stable -/
noncomputable def E51 : Env := ⟨ty0, fun g => ifEq g 87 (some A87) (none), fun _ => none, fun _ => none, fun _ => none⟩
theorem E51_ok : FnsOk prog E51 := (oF A87_ok func87 (noFns _ _))
noncomputable def L51_0 : Nat → Option LoopD := fun _ => none
def sh51_7 : List Fm := d :: .box 100100 [.val (.int .i64), .val (.sl (.int .i64))] :: .box 100200 [.val (.int .i64), .own (.int .i64) 100202 false] :: .box 100300 [.val (.int .i64), .own (.int .i64) 100302 false] :: .cell (.val (.int .i64)) :: .cell (.val (.int .i64)) :: D 8 (.cell (.val (.int .i64)) :: .cell (.val (.int .i64)) :: d :: d :: d :: .cell (.val (.int .i64)) :: .cell (.val (.int .i64)) :: D 51 [])
def xs51_7 : List (Ex × List Fm) := [(.exit 2, [d, .box 100100 [.val (.int .i64), .val (.sl (.int .i64))], .box 100200 [.val (.int .i64), .own (.int .i64) 100202 false], .box 100300 [.val (.int .i64), .own (.int .i64) 100302 false], d, .cell (.val (.int .i64)), d, d, d, d, d, d, d, d, .cell (.val (.int .i64)), .cell (.val (.int .i64)), d, d, d, d, d, d, d, d, d, d, d, d, d, d, d, d, d, d, d, d, d, d, d, d, d, d, d, d, d, d, d, d, d, d, d, d, d, d, d, d, d, d, d, d, d, d, d, d, d, d, d, d, d, d, d, d])]
noncomputable def spec_l6Stable_l7 : ((Int × (List Int) × Unit) × (Int × (List Int) × Unit) × (Int × (List Int) × Unit) × Int × Int × Int × Int × Int × Int × Unit) → Option (((Int × (List Int) × Unit) × (Int × (List Int) × Unit) × (Int × (List Int) × Unit) × Int × Int × Int × Int × Int × Int × Unit) ⊕ (((Int × (List Int) × Unit) × (Int × (List Int) × Unit) × (Int × (List Int) × Unit) × Int × Int × Int × Unit))) := fun ((v1_0, v1_1, _), (v2_0, v2_1, _), (v3_0, v3_1, _), v4, v5, v14, v15, v19, v20, _) =>
 bif (decide (v20 < v19)) then
  if (v1_0 = (0 : Int)) then
   none
  else
   if (((0 : Int) ≤ (IntKind.wrap .i64 ((IntKind.wrap .i64 ((IntKind.wrap .i64 (Int.tdiv v4 v1_0)) * v1_0)) + v20))) ∧ ((IntKind.wrap .i64 ((IntKind.wrap .i64 ((IntKind.wrap .i64 (Int.tdiv v4 v1_0)) * v1_0)) + v20)) < (((List.length v1_1) : Nat) : Int))) then
    if (((0 : Int) ≤ (IntKind.wrap .i64 ((IntKind.wrap .i64 (v20 * v1_0)) + v20))) ∧ ((IntKind.wrap .i64 ((IntKind.wrap .i64 (v20 * v1_0)) + v20)) < (((List.length v1_1) : Nat) : Int))) then
     Option.bind (spec_l6Again (List.getD v1_1 (Int.toNat (IntKind.wrap .i64 ((IntKind.wrap .i64 (v20 * v1_0)) + v20))) (0 : Int))) fun r0 =>
      if (v1_0 = (0 : Int)) then
       none
      else
       if (((0 : Int) ≤ (IntKind.wrap .i64 ((IntKind.wrap .i64 (v20 * v1_0)) + (Int.tmod v4 v1_0)))) ∧ ((IntKind.wrap .i64 ((IntKind.wrap .i64 (v20 * v1_0)) + (Int.tmod v4 v1_0))) < (((List.length v1_1) : Nat) : Int))) then
        some (Sum.inl ((v1_0, v1_1, ()), (v2_0, (List.take (List.length v2_1) (List.drop 0 v2_1)), ()), (v3_0, (List.take (List.length v3_1) (List.drop 0 v3_1)), ()), v4, (if ((if ((List.getD v1_1 (Int.toNat (IntKind.wrap .i64 ((IntKind.wrap .i64 (v20 * v1_0)) + (Int.tmod v4 v1_0)))) (0 : Int)) > (if (r0 > (List.getD v1_1 (Int.toNat (IntKind.wrap .i64 ((IntKind.wrap .i64 ((IntKind.wrap .i64 (Int.tdiv v4 v1_0)) * v1_0)) + v20))) (0 : Int))) then r0 else (List.getD v1_1 (Int.toNat (IntKind.wrap .i64 ((IntKind.wrap .i64 ((IntKind.wrap .i64 (Int.tdiv v4 v1_0)) * v1_0)) + v20))) (0 : Int)))) then (List.getD v1_1 (Int.toNat (IntKind.wrap .i64 ((IntKind.wrap .i64 (v20 * v1_0)) + (Int.tmod v4 v1_0)))) (0 : Int)) else (if (r0 > (List.getD v1_1 (Int.toNat (IntKind.wrap .i64 ((IntKind.wrap .i64 ((IntKind.wrap .i64 (Int.tdiv v4 v1_0)) * v1_0)) + v20))) (0 : Int))) then r0 else (List.getD v1_1 (Int.toNat (IntKind.wrap .i64 ((IntKind.wrap .i64 ((IntKind.wrap .i64 (Int.tdiv v4 v1_0)) * v1_0)) + v20))) (0 : Int)))) < v5) then (if ((List.getD v1_1 (Int.toNat (IntKind.wrap .i64 ((IntKind.wrap .i64 (v20 * v1_0)) + (Int.tmod v4 v1_0)))) (0 : Int)) > (if (r0 > (List.getD v1_1 (Int.toNat (IntKind.wrap .i64 ((IntKind.wrap .i64 ((IntKind.wrap .i64 (Int.tdiv v4 v1_0)) * v1_0)) + v20))) (0 : Int))) then r0 else (List.getD v1_1 (Int.toNat (IntKind.wrap .i64 ((IntKind.wrap .i64 ((IntKind.wrap .i64 (Int.tdiv v4 v1_0)) * v1_0)) + v20))) (0 : Int)))) then (List.getD v1_1 (Int.toNat (IntKind.wrap .i64 ((IntKind.wrap .i64 (v20 * v1_0)) + (Int.tmod v4 v1_0)))) (0 : Int)) else (if (r0 > (List.getD v1_1 (Int.toNat (IntKind.wrap .i64 ((IntKind.wrap .i64 ((IntKind.wrap .i64 (Int.tdiv v4 v1_0)) * v1_0)) + v20))) (0 : Int))) then r0 else (List.getD v1_1 (Int.toNat (IntKind.wrap .i64 ((IntKind.wrap .i64 ((IntKind.wrap .i64 (Int.tdiv v4 v1_0)) * v1_0)) + v20))) (0 : Int)))) else v5), v14, v15, v19, (IntKind.wrap .i64 (v20 + (1 : Int))), ()))
       else
        none
    else
     none
   else
    none
 else
  some (Sum.inr ((v1_0, v1_1, ()), (v2_0, (List.take (List.length v2_1) (List.drop 0 v2_1)), ()), (v3_0, (List.take (List.length v3_1) (List.drop 0 v3_1)), ()), v5, v14, v15, ()))
theorem spec_l6Stable_l7_eq : loopStep 72 E51 L51_0 (loopOf f51 7) sh51_7 xs51_7 = spec_l6Stable_l7 := by kernel_rfl
theorem loop51_7 {L} (h : L 7 = some ⟨72, sh51_7, xs51_7, spec_l6Stable_l7⟩) : LoopOk prog L (loopOf f51 7) := lo spec_l6Stable_l7_eq E51_ok allNil h
noncomputable def L51_1 : Nat → Option LoopD := fun n => ifEq n 7 (some ⟨72, sh51_7, xs51_7, spec_l6Stable_l7⟩) (L51_0 n)
def sh51_3 : List Fm := d :: .box 100100 [.val (.int .i64), .val (.sl (.int .i64))] :: .box 100200 [.val (.int .i64), .own (.int .i64) 100202 false] :: .box 100300 [.val (.int .i64), .own (.int .i64) 100302 false] :: D 10 (.cell (.val (.int .i64)) :: .cell (.val (.int .i64)) :: D 56 [])
def xs51_3 : List (Ex × List Fm) := [(.exit 0, [d, d, .box 100200 [.val (.int .i64), .own (.int .i64) 100202 false], .box 100300 [.val (.int .i64), .own (.int .i64) 100302 false], d, d, d, d, d, d, d, d, d, d, d, d, d, d, d, d, d, d, d, d, d, d, d, d, d, d, d, d, d, d, d, d, d, d, d, d, d, d, d, d, d, d, d, d, d, d, d, d, d, d, d, d, d, d, d, d, d, d, d, d, d, d, d, d, d, d, d, d])]
noncomputable def spec_l6Stable_l3 : ((Int × (List Int) × Unit) × (Int × (List Int) × Unit) × (Int × (List Int) × Unit) × Int × Int × Unit) → Option (((Int × (List Int) × Unit) × (Int × (List Int) × Unit) × (Int × (List Int) × Unit) × Int × Int × Unit) ⊕ (((Int × (List Int) × Unit) × (Int × (List Int) × Unit) × Unit))) := fun ((v1_0, v1_1, _), (v2_0, v2_1, _), (v3_0, v3_1, _), v14, v15, _) =>
 bif (decide (v15 < v14)) then
  Option.bind (loopF spec_l6Stable_l7 ((v1_0, v1_1, ()), (v2_0, (List.take (List.length v2_1) (List.drop 0 v2_1)), ()), (v3_0, (List.take (List.length v3_1) (List.drop 0 v3_1)), ()), v15, (3 : Int), v14, v15, v1_0, (0 : Int), ())) fun ((r0, r1, _), (r2, r3, _), (r4, r5, _), r6, r7, r8, _) =>
   if (((0 + (List.length r5)) = (List.length r5)) ∧ ((((List.length r5) + (List.length (List.take 1 (List.drop 0 [r6])))) * 8) ≤ 140737488355328)) then
    some (Sum.inl ((r0, r1, ()), (r2, (List.take (List.length r3) (List.drop 0 r3)), ()), (r4, (List.take ((List.length r5) + (List.length (List.take 1 (List.drop 0 [r6])))) (List.drop 0 ((List.drop 0 r5) ++ (List.take 1 (List.drop 0 [r6]))))), ()), r7, (IntKind.wrap .i64 (r8 + (1 : Int))), ()))
   else
    none
 else
  some (Sum.inr ((v2_0, (List.take (List.length v2_1) (List.drop 0 v2_1)), ()), (v3_0, (List.take (List.length v3_1) (List.drop 0 v3_1)), ()), ()))
theorem spec_l6Stable_l3_eq : loopStep 72 E51 L51_1 (loopOf f51 3) sh51_3 xs51_3 = spec_l6Stable_l3 := by kernel_rfl
theorem loop51_3 {L} (h : L 3 = some ⟨72, sh51_3, xs51_3, spec_l6Stable_l3⟩) : LoopOk prog L (loopOf f51 3) := lo spec_l6Stable_l3_eq E51_ok (allCons (loop51_7 rfl) allNil) h
noncomputable def L51_2 : Nat → Option LoopD := fun n => ifEq n 3 (some ⟨72, sh51_3, xs51_3, spec_l6Stable_l3⟩) (L51_1 n)
noncomputable def spec_l6Stable : (Int × (List Int)) → Option ((Int × (List Int))) := fun (a0_0, a0_1) =>
 Option.bind (loopF spec_l6Stable_l3 ((a0_0, a0_1, ()), ((0 : Int), [], ()), (a0_0, [], ()), (IntKind.wrap .i64 (a0_0 * a0_0)), (0 : Int), ())) fun ((r0, r1, _), (r2, r3, _), _) =>
  some (r2, (List.take (List.length r3) (List.drop 0 r3)))
noncomputable def A51 : FnA := ⟨[.v (.pair (.int .i64) (.sl (.int .i64)))], true, [.pair (.int .i64) (.sl (.int .i64))], fun x => spec_l6Stable x.1⟩
theorem spec_l6Stable_eq : fnF E51 L51_2 [.v (.pair (.int .i64) (.sl (.int .i64)))] true [.pair (.int .i64) (.sl (.int .i64))] f51.ntmps f51.results.toList (codeOf f51) = fun x => spec_l6Stable x.1 := by kernel_rfl
theorem A51_ok : FnOk prog 51 A51 := fo spec_l6Stable_eq func51 E51_ok (allCons (loop51_3 rfl) allNil)
/-! spec.l8Elements -/
noncomputable def E103_at39 : Env := ⟨ty0, fun g => ifEq g 132 (some A132) (ifEq g 131 (some A131) (ifEq g 50 (some A50) (ifEq g 49 (some A49) (ifEq g 51 (some A51) (ifEq g 86 (some A86) (none)))))), fun _ => none, fun _ => none, fun _ => none⟩
theorem E103_at39_ok : FnsOk prog E103_at39 := (oF A132_ok func132 (oF A131_ok func131 (oF A50_ok func50 (oF A49_ok func49 (oF A51_ok func51 (oF A86_ok func86 (noFns _ _)))))))
noncomputable def L103_at39_0 : Nat → Option LoopD := fun _ => none
def sh103_at39_2 : List Fm := .box 100000 [.own (.pair (.pair (.int .i64) (.sl (.int .i64))) .str) 100001 true, .val .bool] :: d :: .cell (.val .str) :: d :: .box 100400 [.val (.int .i64), .val (.sl (.int .i64))] :: D 6 (.cell (.val (.sl (.pair (.pair (.int .i64) (.sl (.int .i64))) .str))) :: .cell (.val (.int .i64)) :: .cell (.val (.int .i64)) :: D 48 (.cell (.val .bool) :: .box 106300 [.val (.int .i64), .val (.sl (.int .i64)), .val (.sl (.int .i64)), .val (.sl (.pair (.int .i64) (.pair .str (.pair (.int .i64) (.int .i64)))))] :: d :: d :: d :: .ali 100000 0 :: .cell (.own (.pair (.pair (.int .i64) (.sl (.int .i64))) .str) 106800 false) :: D 12 (.cell (.own .str 108100 false) :: .cell (.val (.int .i64)) :: .cell (.val (.int .i64)) :: D 108 [])))
def xs103_at39_2 : List (Ex × List Fm) := [(.ret, [d, d, d, d, d, d, d, d, d, d, d, d, d, d, d, d, d, d, d, d, d, d, d, d, d, d, d, d, d, d, d, d, d, d, d, d, d, d, d, d, d, d, d, d, d, d, d, d, d, d, d, d, d, d, d, d, d, d, d, d, d, d, .cell (.val .bool), .box 106300 [.val (.int .i64), .val (.sl (.int .i64)), .val (.sl (.int .i64)), .val (.sl (.pair (.int .i64) (.pair .str (.pair (.int .i64) (.int .i64)))))], d, d, d, .box 106700 [.own (.pair (.pair (.int .i64) (.sl (.int .i64))) .str) 106701 true, .val .bool], .cell (.own (.pair (.pair (.int .i64) (.sl (.int .i64))) .str) 106800 false), d, d, d, d, d, d, d, d, d, d, d, d, .cell (.own .str 108100 false), .cell (.val (.int .i64)), .cell (.val (.int .i64)), d, d, d, d, d, d, d, d, d, d, d, d, d, d, d, d, d, d, d, d, d, d, d, d, d, d, d, d, d, d, d, d, d, d, d, d, d, d, d, d, d, d, d, d, d, d, d, d, d, d, d, d, d, d, d, d, d, d, d, d, d, d, d, d, d, d, d, d, d, d, d, d, d, d, d, d, d, d, d, d, d, d, d, d, d, d, d, d, d, d, d, d, d, d, d, d, d, d, d, d, d, d, d, d, d, d, d, d]), (.exit 0, [.box 100000 [.own (.pair (.pair (.int .i64) (.sl (.int .i64))) .str) 100001 true, .val .bool], d, .cell (.val .str), d, .box 100400 [.val (.int .i64), .val (.sl (.int .i64))], d, d, d, d, d, d, d, d, d, d, d, d, d, d, d, d, d, d, d, d, d, d, d, d, d, d, d, d, d, d, d, d, d, d, d, d, d, d, d, d, d, d, d, d, d, d, d, d, d, d, d, d, d, d, d, d, d, .cell (.val .bool), .box 106300 [.val (.int .i64), .val (.sl (.int .i64)), .val (.sl (.int .i64)), .val (.sl (.pair (.int .i64) (.pair .str (.pair (.int .i64) (.int .i64)))))], d, d, d, .ali 100000 0, .cell (.own (.pair (.pair (.int .i64) (.sl (.int .i64))) .str) 106800 false), d, d, d, d, d, d, d, d, d, d, d, d, .cell (.own .str 108100 false), .cell (.val (.int .i64)), .cell (.val (.int .i64)), d, d, d, d, d, d, d, d, d, d, d, d, d, d, d, d, d, d, d, d, d, d, d, d, d, d, d, d, d, d, d, d, d, d, d, d, d, d, d, d, d, d, d, d, d, d, d, d, d, d, d, d, d, d, d, d, d, d, d, d, d, d, d, d, d, d, d, d, d, d, d, d, d, d, d, d, d, d, d, d, d, d, d, d, d, d, d, d, d, d, d, d, d, d, d, d, d, d, d, d, d, d, d, d, d, d, d, d])]
noncomputable def spec_l8Elements_at39_l2 : (((List ((Int × (List Int)) × ByteArray)) × Bool × Unit) × ByteArray × (Int × (List Int) × Unit) × (List ((Int × (List Int)) × ByteArray)) × Int × Int × Bool × (Int × (List Int) × (List Int) × (List (Int × (ByteArray × (Int × Int)))) × Unit) × (List ((Int × (List Int)) × ByteArray)) × (List ByteArray) × Int × Int × Unit) → Option ((((List ((Int × (List Int)) × ByteArray)) × Bool × Unit) × ByteArray × (Int × (List Int) × Unit) × (List ((Int × (List Int)) × ByteArray)) × Int × Int × Bool × (Int × (List Int) × (List Int) × (List (Int × (ByteArray × (Int × Int)))) × Unit) × (List ((Int × (List Int)) × ByteArray)) × (List ByteArray) × Int × Int × Unit) ⊕ ((Bool × (Int × (List Int) × (List Int) × (List (Int × (ByteArray × (Int × Int)))) × Unit) × ((List ((Int × (List Int)) × ByteArray)) × Bool × Unit) × (List ((Int × (List Int)) × ByteArray)) × (List ByteArray) × Int × Int × Unit) ⊕ (((List ((Int × (List Int)) × ByteArray)) × Bool × Unit) × ByteArray × (Int × (List Int) × Unit) × Bool × (Int × (List Int) × (List Int) × (List (Int × (ByteArray × (Int × Int)))) × Unit) × (List ((Int × (List Int)) × ByteArray)) × (List ByteArray) × Int × Int × Unit))) := fun ((v0_0, v0_1, _), v2, (v4_0, v4_1, _), v11, v12, v13, v62, (v63_0, v63_1, v63_2, v63_3, _), v68, v81, v82, v83, _) =>
 bif (decide (v13 < v12)) then
  if (((0 : Int) ≤ v13) ∧ (v13 < (((List.length v11) : Nat) : Int))) then
   Option.bind (spec_l2Same (List.getD v11 (Int.toNat v13) (((0 : Int), []), (⟨Array.empty⟩ : ByteArray))).1.2 v4_1) fun r0 =>
    bif r0 then
     if ((0 + (List.length v0_0)) = (List.length v0_0)) then
      some (Sum.inr (Sum.inl (v62, (v63_0, v63_1, v63_2, v63_3, ()), ((List.drop 0 v0_0), v0_1, ()), (List.take (List.length v68) (List.drop 0 v68)), (List.take (List.length v81) (List.drop 0 v81)), v82, v83, ())))
     else
      none
    else
     if ((0 + (List.length v0_0)) = (List.length v0_0)) then
      some (Sum.inl (((List.drop 0 v0_0), v0_1, ()), v2, (v4_0, v4_1, ()), v11, v12, (IntKind.wrap .i64 (v13 + (1 : Int))), v62, (v63_0, v63_1, v63_2, v63_3, ()), (List.take (List.length v68) (List.drop 0 v68)), (List.take (List.length v81) (List.drop 0 v81)), v82, v83, ()))
     else
      none
  else
   none
 else
  if ((0 + (List.length v0_0)) = (List.length v0_0)) then
   some (Sum.inr (Sum.inr (((List.drop 0 v0_0), v0_1, ()), v2, (v4_0, v4_1, ()), v62, (v63_0, v63_1, v63_2, v63_3, ()), (List.take (List.length v68) (List.drop 0 v68)), (List.take (List.length v81) (List.drop 0 v81)), v82, v83, ())))
  else
   none
theorem spec_l8Elements_at39_l2_eq : loopStep 61 E103_at39 L103_at39_0 (loopOf f133 2) sh103_at39_2 xs103_at39_2 = spec_l8Elements_at39_l2 := by kernel_rfl
theorem loop103_at39_2 {L} (h : L 2 = some ⟨61, sh103_at39_2, xs103_at39_2, spec_l8Elements_at39_l2⟩) : LoopOk prog L (loopOf f133 2) := lo spec_l8Elements_at39_l2_eq E103_at39_ok allNil h
noncomputable def L103_at39_1 : Nat → Option LoopD := fun n => ifEq n 2 (some ⟨61, sh103_at39_2, xs103_at39_2, spec_l8Elements_at39_l2⟩) (L103_at39_0 n)
def shi103_at39 : List Fm := .box 100000 [.own (.pair (.pair (.int .i64) (.sl (.int .i64))) .str) 100001 true, .val .bool] :: .cell (.val (.pair (.int .i64) (.sl (.int .i64)))) :: .cell (.val .str) :: D 59 (.cell (.val .bool) :: .box 106300 [.val (.int .i64), .val (.sl (.int .i64)), .val (.sl (.int .i64)), .val (.sl (.pair (.int .i64) (.pair .str (.pair (.int .i64) (.int .i64)))))] :: d :: d :: d :: .ali 100000 0 :: .cell (.own (.pair (.pair (.int .i64) (.sl (.int .i64))) .str) 106800 false) :: D 12 (.cell (.own .str 108100 false) :: .cell (.val (.int .i64)) :: .cell (.val (.int .i64)) :: D 108 []))
def sho103_at39 : List Fm := d :: .cell (.val .bool) :: .box 100200 [.val (.int .i64), .val (.sl (.int .i64)), .val (.sl (.int .i64)), .val (.sl (.pair (.int .i64) (.pair .str (.pair (.int .i64) (.int .i64)))))] :: d :: d :: d :: .box 100600 [.own (.pair (.pair (.int .i64) (.sl (.int .i64))) .str) 100601 true, .val .bool] :: .cell (.own (.pair (.pair (.int .i64) (.sl (.int .i64))) .str) 100700 false) :: D 12 (.cell (.own .str 102000 false) :: .cell (.val (.int .i64)) :: .cell (.val (.int .i64)) :: D 108 [])
noncomputable def spec_l8Elements_at39 : (((List ((Int × (List Int)) × ByteArray)) × Bool × Unit) × (Int × (List Int)) × ByteArray × Bool × (Int × (List Int) × (List Int) × (List (Int × (ByteArray × (Int × Int)))) × Unit) × (List ((Int × (List Int)) × ByteArray)) × (List ByteArray) × Int × Int × Unit) → Option (Bool × (Int × (List Int) × (List Int) × (List (Int × (ByteArray × (Int × Int)))) × Unit) × ((List ((Int × (List Int)) × ByteArray)) × Bool × Unit) × (List ((Int × (List Int)) × ByteArray)) × (List ByteArray) × Int × Int × Unit) := fun ((v0_0, v0_1, _), (v1_0, v1_1), v2, v62, (v63_0, v63_1, v63_2, v63_3, _), v68, v81, v82, v83, _) =>
 if ((0 + (List.length v0_0)) = (List.length v0_0)) then
  Option.bind (loopF spec_l8Elements_at39_l2 (((List.drop 0 v0_0), v0_1, ()), v2, (v1_0, v1_1, ()), (List.take (List.length v0_0) (List.drop 0 v0_0)), (((List.length v0_0) : Nat) : Int), (0 : Int), v62, (v63_0, v63_1, v63_2, v63_3, ()), (List.take (List.length v68) (List.drop 0 v68)), (List.take (List.length v81) (List.drop 0 v81)), v82, v83, ())) fun r0 =>
   (match r0 with
   | .inl (d1, (d2, d3, d4, d5, _), (d6, d7, _), d8, d9, d10, d11, _) =>
     if ((0 + (List.length d6)) = (List.length d6)) then
      some (d1, (d2, d3, d4, d5, ()), ((List.drop 0 d6), d7, ()), (List.take (List.length d8) (List.drop 0 d8)), (List.take (List.length d9) (List.drop 0 d9)), d10, d11, ())
     else
      none
   | .inr ((d12, d13, _), d14, (d15, d16, _), d17, (d18, d19, d20, d21, _), d22, d23, d24, d25, _) =>
     bif d13 then
      if ((0 + (List.length d12)) = (List.length d12)) then
       some (d17, (d18, d19, d20, d21, ()), ((List.drop 0 d12), true, ()), (List.take (List.length d22) (List.drop 0 d22)), (List.take (List.length d23) (List.drop 0 d23)), d24, d25, ())
      else
       none
     else
      bif (decide ((((List.length d12) : Nat) : Int) ≥ (120 : Int))) then
       if ((0 + (List.length d12)) = (List.length d12)) then
        some (d17, (d18, d19, d20, d21, ()), ((List.drop 0 d12), true, ()), (List.take (List.length d22) (List.drop 0 d22)), (List.take (List.length d23) (List.drop 0 d23)), d24, d25, ())
       else
        none
      else
       bif (!(decide ((((ByteArray.size d14) : Nat) : Int) > (120 : Int)))) then
        if (((0 + (List.length d12)) = (List.length d12)) ∧ ((((List.length d12) + (List.length (List.take 1 (List.drop 0 [((d15, d16), d14)])))) * 48) ≤ 140737488355328)) then
         if ((0 + ((List.length d12) + (List.length (List.take 1 (List.drop 0 [((d15, d16), d14)]))))) = (List.length ((List.drop 0 d12) ++ (List.take 1 (List.drop 0 [((d15, d16), d14)]))))) then
          some (d17, (d18, d19, d20, d21, ()), ((List.drop 0 ((List.drop 0 d12) ++ (List.take 1 (List.drop 0 [((d15, d16), d14)])))), (decide ((((ByteArray.size d14) : Nat) : Int) > (120 : Int))), ()), (List.take (List.length d22) (List.drop 0 d22)), (List.take (List.length d23) (List.drop 0 d23)), d24, d25, ())
         else
          none
        else
         none
       else
        if ((0 + (List.length d12)) = (List.length d12)) then
         some (d17, (d18, d19, d20, d21, ()), ((List.drop 0 d12), (decide ((((ByteArray.size d14) : Nat) : Int) > (120 : Int))), ()), (List.take (List.length d22) (List.drop 0 d22)), (List.take (List.length d23) (List.drop 0 d23)), d24, d25, ())
        else
         none)
 else
  none
theorem spec_l8Elements_at39_eq : inlStep f133.ntmps 131 39 E103_at39 L103_at39_1 f133.results.toList (codeOf f133) shi103_at39 sho103_at39 = spec_l8Elements_at39 := by kernel_rfl
noncomputable def I103_at39 : CallD := ⟨f133.ntmps, shi103_at39, 131, sho103_at39, spec_l8Elements_at39, 0⟩
theorem I103_at39_ok : InlOk prog 39 133 I103_at39 := inlOk_of (tysOk_of tyl_ok) E103_at39_ok (L := L103_at39_1) func133 (by kernel_rfl) (c := codeOf f133) (by kernel_rfl) (codeOk_in (L := L103_at39_1) (tysOk_of tyl_ok) E103_at39_ok mixed (c := codeOf f133) (bs := [loopOf f133 2]) (by kernel_rfl) (allCons (loop103_at39_2 rfl) allNil) (by kernel_rfl)) (by kernel_rfl) (by kernel_rfl) spec_l8Elements_at39_eq
noncomputable def E103_at78 : Env := ⟨ty0, fun g => ifEq g 132 (some A132) (ifEq g 131 (some A131) (ifEq g 50 (some A50) (ifEq g 49 (some A49) (ifEq g 51 (some A51) (ifEq g 86 (some A86) (none)))))), fun _ => none, fun _ => none, fun _ => none⟩
theorem E103_at78_ok : FnsOk prog E103_at78 := (oF A132_ok func132 (oF A131_ok func131 (oF A50_ok func50 (oF A49_ok func49 (oF A51_ok func51 (oF A86_ok func86 (noFns _ _)))))))
noncomputable def L103_at78_0 : Nat → Option LoopD := fun _ => none
def sh103_at78_2 : List Fm := .box 100000 [.own (.pair (.pair (.int .i64) (.sl (.int .i64))) .str) 100001 true, .val .bool] :: d :: .cell (.val .str) :: d :: .box 100400 [.val (.int .i64), .own (.int .i64) 100402 false] :: D 6 (.cell (.val (.sl (.pair (.pair (.int .i64) (.sl (.int .i64))) .str))) :: .cell (.val (.int .i64)) :: .cell (.val (.int .i64)) :: D 48 (.cell (.val .bool) :: D 4 (.ali 100000 0 :: .cell (.val (.sl (.pair (.pair (.int .i64) (.sl (.int .i64))) .str))) :: d :: d :: d :: .cell (.val (.int .i64)) :: .box 107300 [.val (.int .i64), .val (.sl (.int .i64)), .val .str] :: D 118 [])))
def xs103_at78_2 : List (Ex × List Fm) := [(.ret, [d, d, d, d, d, d, d, d, d, d, d, d, d, d, d, d, d, d, d, d, d, d, d, d, d, d, d, d, d, d, d, d, d, d, d, d, d, d, d, d, d, d, d, d, d, d, d, d, d, d, d, d, d, d, d, d, d, d, d, d, d, d, .cell (.val .bool), d, d, d, d, .box 106700 [.own (.pair (.pair (.int .i64) (.sl (.int .i64))) .str) 106701 true, .val .bool], .cell (.val (.sl (.pair (.pair (.int .i64) (.sl (.int .i64))) .str))), d, d, d, .cell (.val (.int .i64)), .box 107300 [.val (.int .i64), .val (.sl (.int .i64)), .val .str], d, d, d, d, d, d, d, d, d, d, d, d, d, d, d, d, d, d, d, d, d, d, d, d, d, d, d, d, d, d, d, d, d, d, d, d, d, d, d, d, d, d, d, d, d, d, d, d, d, d, d, d, d, d, d, d, d, d, d, d, d, d, d, d, d, d, d, d, d, d, d, d, d, d, d, d, d, d, d, d, d, d, d, d, d, d, d, d, d, d, d, d, d, d, d, d, d, d, d, d, d, d, d, d, d, d, d, d, d, d, d, d, d, d, d, d, d, d]), (.exit 0, [.box 100000 [.own (.pair (.pair (.int .i64) (.sl (.int .i64))) .str) 100001 true, .val .bool], d, .cell (.val .str), d, .box 100400 [.val (.int .i64), .own (.int .i64) 100402 false], d, d, d, d, d, d, d, d, d, d, d, d, d, d, d, d, d, d, d, d, d, d, d, d, d, d, d, d, d, d, d, d, d, d, d, d, d, d, d, d, d, d, d, d, d, d, d, d, d, d, d, d, d, d, d, d, d, .cell (.val .bool), d, d, d, d, .ali 100000 0, .cell (.val (.sl (.pair (.pair (.int .i64) (.sl (.int .i64))) .str))), d, d, d, .cell (.val (.int .i64)), .box 107300 [.val (.int .i64), .val (.sl (.int .i64)), .val .str], d, d, d, d, d, d, d, d, d, d, d, d, d, d, d, d, d, d, d, d, d, d, d, d, d, d, d, d, d, d, d, d, d, d, d, d, d, d, d, d, d, d, d, d, d, d, d, d, d, d, d, d, d, d, d, d, d, d, d, d, d, d, d, d, d, d, d, d, d, d, d, d, d, d, d, d, d, d, d, d, d, d, d, d, d, d, d, d, d, d, d, d, d, d, d, d, d, d, d, d, d, d, d, d, d, d, d, d, d, d, d, d, d, d, d, d, d, d])]
noncomputable def spec_l8Elements_at78_l2 : (((List ((Int × (List Int)) × ByteArray)) × Bool × Unit) × ByteArray × (Int × (List Int) × Unit) × (List ((Int × (List Int)) × ByteArray)) × Int × Int × Bool × (List ((Int × (List Int)) × ByteArray)) × Int × (Int × (List Int) × ByteArray × Unit) × Unit) → Option ((((List ((Int × (List Int)) × ByteArray)) × Bool × Unit) × ByteArray × (Int × (List Int) × Unit) × (List ((Int × (List Int)) × ByteArray)) × Int × Int × Bool × (List ((Int × (List Int)) × ByteArray)) × Int × (Int × (List Int) × ByteArray × Unit) × Unit) ⊕ ((Bool × ((List ((Int × (List Int)) × ByteArray)) × Bool × Unit) × (List ((Int × (List Int)) × ByteArray)) × Int × (Int × (List Int) × ByteArray × Unit) × Unit) ⊕ (((List ((Int × (List Int)) × ByteArray)) × Bool × Unit) × ByteArray × (Int × (List Int) × Unit) × Bool × (List ((Int × (List Int)) × ByteArray)) × Int × (Int × (List Int) × ByteArray × Unit) × Unit))) := fun ((v0_0, v0_1, _), v2, (v4_0, v4_1, _), v11, v12, v13, v62, v68, v72, (v73_0, v73_1, v73_2, _), _) =>
 bif (decide (v13 < v12)) then
  if (((0 : Int) ≤ v13) ∧ (v13 < (((List.length v11) : Nat) : Int))) then
   Option.bind (spec_l2Same (List.getD v11 (Int.toNat v13) (((0 : Int), []), (⟨Array.empty⟩ : ByteArray))).1.2 (List.take (List.length v4_1) (List.drop 0 v4_1))) fun r0 =>
    bif r0 then
     if ((0 + (List.length v0_0)) = (List.length v0_0)) then
      some (Sum.inr (Sum.inl (v62, ((List.drop 0 v0_0), v0_1, ()), v68, v72, (v73_0, v73_1, v73_2, ()), ())))
     else
      none
    else
     if ((0 + (List.length v0_0)) = (List.length v0_0)) then
      some (Sum.inl (((List.drop 0 v0_0), v0_1, ()), v2, (v4_0, (List.take (List.length v4_1) (List.drop 0 v4_1)), ()), v11, v12, (IntKind.wrap .i64 (v13 + (1 : Int))), v62, v68, v72, (v73_0, v73_1, v73_2, ()), ()))
     else
      none
  else
   none
 else
  if ((0 + (List.length v0_0)) = (List.length v0_0)) then
   some (Sum.inr (Sum.inr (((List.drop 0 v0_0), v0_1, ()), v2, (v4_0, (List.take (List.length v4_1) (List.drop 0 v4_1)), ()), v62, v68, v72, (v73_0, v73_1, v73_2, ()), ())))
  else
   none
theorem spec_l8Elements_at78_l2_eq : loopStep 61 E103_at78 L103_at78_0 (loopOf f133 2) sh103_at78_2 xs103_at78_2 = spec_l8Elements_at78_l2 := by kernel_rfl
theorem loop103_at78_2 {L} (h : L 2 = some ⟨61, sh103_at78_2, xs103_at78_2, spec_l8Elements_at78_l2⟩) : LoopOk prog L (loopOf f133 2) := lo spec_l8Elements_at78_l2_eq E103_at78_ok allNil h
noncomputable def L103_at78_1 : Nat → Option LoopD := fun n => ifEq n 2 (some ⟨61, sh103_at78_2, xs103_at78_2, spec_l8Elements_at78_l2⟩) (L103_at78_0 n)
def shi103_at78 : List Fm := .box 100000 [.own (.pair (.pair (.int .i64) (.sl (.int .i64))) .str) 100001 true, .val .bool] :: .agg [.val (.int .i64), .own (.int .i64) 100102 false] :: .cell (.val .str) :: D 59 (.cell (.val .bool) :: D 4 (.ali 100000 0 :: .cell (.val (.sl (.pair (.pair (.int .i64) (.sl (.int .i64))) .str))) :: d :: d :: d :: .cell (.val (.int .i64)) :: .box 107300 [.val (.int .i64), .val (.sl (.int .i64)), .val .str] :: D 118 []))
def sho103_at78 : List Fm := d :: .cell (.val .bool) :: D 4 (.box 100600 [.own (.pair (.pair (.int .i64) (.sl (.int .i64))) .str) 100601 true, .val .bool] :: .cell (.val (.sl (.pair (.pair (.int .i64) (.sl (.int .i64))) .str))) :: d :: d :: d :: .cell (.val (.int .i64)) :: .box 101200 [.val (.int .i64), .val (.sl (.int .i64)), .val .str] :: D 118 [])
noncomputable def spec_l8Elements_at78 : (((List ((Int × (List Int)) × ByteArray)) × Bool × Unit) × (Int × (List Int) × Unit) × ByteArray × Bool × (List ((Int × (List Int)) × ByteArray)) × Int × (Int × (List Int) × ByteArray × Unit) × Unit) → Option (Bool × ((List ((Int × (List Int)) × ByteArray)) × Bool × Unit) × (List ((Int × (List Int)) × ByteArray)) × Int × (Int × (List Int) × ByteArray × Unit) × Unit) := fun ((v0_0, v0_1, _), (v1_0, v1_1, _), v2, v62, v68, v72, (v73_0, v73_1, v73_2, _), _) =>
 if ((0 + (List.length v0_0)) = (List.length v0_0)) then
  Option.bind (loopF spec_l8Elements_at78_l2 (((List.drop 0 v0_0), v0_1, ()), v2, (v1_0, (List.take (List.length v1_1) (List.drop 0 v1_1)), ()), (List.take (List.length v0_0) (List.drop 0 v0_0)), (((List.length v0_0) : Nat) : Int), (0 : Int), v62, v68, v72, (v73_0, v73_1, v73_2, ()), ())) fun r0 =>
   (match r0 with
   | .inl (d1, (d2, d3, _), d4, d5, (d6, d7, d8, _), _) =>
     if ((0 + (List.length d2)) = (List.length d2)) then
      some (d1, ((List.drop 0 d2), d3, ()), d4, d5, (d6, d7, d8, ()), ())
     else
      none
   | .inr ((d9, d10, _), d11, (d12, d13, _), d14, d15, d16, (d17, d18, d19, _), _) =>
     bif d10 then
      if ((0 + (List.length d9)) = (List.length d9)) then
       some (d14, ((List.drop 0 d9), true, ()), d15, d16, (d17, d18, d19, ()), ())
      else
       none
     else
      bif (decide ((((List.length d9) : Nat) : Int) ≥ (120 : Int))) then
       if ((0 + (List.length d9)) = (List.length d9)) then
        some (d14, ((List.drop 0 d9), true, ()), d15, d16, (d17, d18, d19, ()), ())
       else
        none
      else
       bif (!(decide ((((ByteArray.size d11) : Nat) : Int) > (120 : Int)))) then
        if (((0 + (List.length d9)) = (List.length d9)) ∧ ((((List.length d9) + (List.length (List.take 1 (List.drop 0 [((d12, (List.take (List.length d13) (List.drop 0 d13))), d11)])))) * 48) ≤ 140737488355328)) then
         if ((0 + ((List.length d9) + (List.length (List.take 1 (List.drop 0 [((d12, (List.take (List.length d13) (List.drop 0 d13))), d11)]))))) = (List.length ((List.drop 0 d9) ++ (List.take 1 (List.drop 0 [((d12, (List.take (List.length d13) (List.drop 0 d13))), d11)]))))) then
          some (d14, ((List.drop 0 ((List.drop 0 d9) ++ (List.take 1 (List.drop 0 [((d12, (List.take (List.length d13) (List.drop 0 d13))), d11)])))), (decide ((((ByteArray.size d11) : Nat) : Int) > (120 : Int))), ()), d15, d16, (d17, d18, d19, ()), ())
         else
          none
        else
         none
       else
        if ((0 + (List.length d9)) = (List.length d9)) then
         some (d14, ((List.drop 0 d9), (decide ((((ByteArray.size d11) : Nat) : Int) > (120 : Int))), ()), d15, d16, (d17, d18, d19, ()), ())
        else
         none)
 else
  none
theorem spec_l8Elements_at78_eq : inlStep f133.ntmps 131 78 E103_at78 L103_at78_1 f133.results.toList (codeOf f133) shi103_at78 sho103_at78 = spec_l8Elements_at78 := by kernel_rfl
noncomputable def I103_at78 : CallD := ⟨f133.ntmps, shi103_at78, 131, sho103_at78, spec_l8Elements_at78, 0⟩
theorem I103_at78_ok : InlOk prog 78 133 I103_at78 := inlOk_of (tysOk_of tyl_ok) E103_at78_ok (L := L103_at78_1) func133 (by kernel_rfl) (c := codeOf f133) (by kernel_rfl) (codeOk_in (L := L103_at78_1) (tysOk_of tyl_ok) E103_at78_ok mixed (c := codeOf f133) (bs := [loopOf f133 2]) (by kernel_rfl) (allCons (loop103_at78_2 rfl) allNil) (by kernel_rfl)) (by kernel_rfl) (by kernel_rfl) spec_l8Elements_at78_eq
noncomputable def E103_at107 : Env := ⟨ty0, fun g => ifEq g 132 (some A132) (ifEq g 131 (some A131) (ifEq g 50 (some A50) (ifEq g 49 (some A49) (ifEq g 51 (some A51) (ifEq g 86 (some A86) (none)))))), fun _ => none, fun _ => none, fun _ => none⟩
theorem E103_at107_ok : FnsOk prog E103_at107 := (oF A132_ok func132 (oF A131_ok func131 (oF A50_ok func50 (oF A49_ok func49 (oF A51_ok func51 (oF A86_ok func86 (noFns _ _)))))))
noncomputable def L103_at107_0 : Nat → Option LoopD := fun _ => none
def sh103_at107_2 : List Fm := .box 100000 [.own (.pair (.pair (.int .i64) (.sl (.int .i64))) .str) 100001 true, .val .bool] :: d :: .cell (.val .str) :: d :: .box 100400 [.val (.int .i64), .own (.int .i64) 100402 false] :: D 6 (.cell (.val (.sl (.pair (.pair (.int .i64) (.sl (.int .i64))) .str))) :: .cell (.val (.int .i64)) :: .cell (.val (.int .i64)) :: D 48 (.cell (.val .bool) :: D 4 (.ali 100000 0 :: .cell (.val (.sl (.pair (.pair (.int .i64) (.sl (.int .i64))) .str))) :: d :: d :: d :: .cell (.val (.int .i64)) :: .box 107300 [.val (.int .i64), .val (.sl (.int .i64)), .val .str] :: d :: d :: .box 107600 [.val (.int .i64), .val (.sl (.int .i64)), .val .str] :: D 74 (.cell (.val (.sl (.pair (.pair (.int .i64) (.sl (.int .i64))) .str))) :: .cell (.val (.int .i64)) :: .cell (.val (.int .i64)) :: D 38 []))))
def xs103_at107_2 : List (Ex × List Fm) := [(.ret, [d, d, d, d, d, d, d, d, d, d, d, d, d, d, d, d, d, d, d, d, d, d, d, d, d, d, d, d, d, d, d, d, d, d, d, d, d, d, d, d, d, d, d, d, d, d, d, d, d, d, d, d, d, d, d, d, d, d, d, d, d, d, .cell (.val .bool), d, d, d, d, .box 106700 [.own (.pair (.pair (.int .i64) (.sl (.int .i64))) .str) 106701 true, .val .bool], .cell (.val (.sl (.pair (.pair (.int .i64) (.sl (.int .i64))) .str))), d, d, d, .cell (.val (.int .i64)), .box 107300 [.val (.int .i64), .val (.sl (.int .i64)), .val .str], d, d, .box 107600 [.val (.int .i64), .val (.sl (.int .i64)), .val .str], d, d, d, d, d, d, d, d, d, d, d, d, d, d, d, d, d, d, d, d, d, d, d, d, d, d, d, d, d, d, d, d, d, d, d, d, d, d, d, d, d, d, d, d, d, d, d, d, d, d, d, d, d, d, d, d, d, d, d, d, d, d, d, d, d, d, d, d, d, d, d, d, d, d, .cell (.val (.sl (.pair (.pair (.int .i64) (.sl (.int .i64))) .str))), .cell (.val (.int .i64)), .cell (.val (.int .i64)), d, d, d, d, d, d, d, d, d, d, d, d, d, d, d, d, d, d, d, d, d, d, d, d, d, d, d, d, d, d, d, d, d, d, d, d, d, d]), (.exit 0, [.box 100000 [.own (.pair (.pair (.int .i64) (.sl (.int .i64))) .str) 100001 true, .val .bool], d, .cell (.val .str), d, .box 100400 [.val (.int .i64), .own (.int .i64) 100402 false], d, d, d, d, d, d, d, d, d, d, d, d, d, d, d, d, d, d, d, d, d, d, d, d, d, d, d, d, d, d, d, d, d, d, d, d, d, d, d, d, d, d, d, d, d, d, d, d, d, d, d, d, d, d, d, d, d, .cell (.val .bool), d, d, d, d, .ali 100000 0, .cell (.val (.sl (.pair (.pair (.int .i64) (.sl (.int .i64))) .str))), d, d, d, .cell (.val (.int .i64)), .box 107300 [.val (.int .i64), .val (.sl (.int .i64)), .val .str], d, d, .box 107600 [.val (.int .i64), .val (.sl (.int .i64)), .val .str], d, d, d, d, d, d, d, d, d, d, d, d, d, d, d, d, d, d, d, d, d, d, d, d, d, d, d, d, d, d, d, d, d, d, d, d, d, d, d, d, d, d, d, d, d, d, d, d, d, d, d, d, d, d, d, d, d, d, d, d, d, d, d, d, d, d, d, d, d, d, d, d, d, d, .cell (.val (.sl (.pair (.pair (.int .i64) (.sl (.int .i64))) .str))), .cell (.val (.int .i64)), .cell (.val (.int .i64)), d, d, d, d, d, d, d, d, d, d, d, d, d, d, d, d, d, d, d, d, d, d, d, d, d, d, d, d, d, d, d, d, d, d, d, d, d, d])]
noncomputable def spec_l8Elements_at107_l2 : (((List ((Int × (List Int)) × ByteArray)) × Bool × Unit) × ByteArray × (Int × (List Int) × Unit) × (List ((Int × (List Int)) × ByteArray)) × Int × Int × Bool × (List ((Int × (List Int)) × ByteArray)) × Int × (Int × (List Int) × ByteArray × Unit) × (Int × (List Int) × ByteArray × Unit) × (List ((Int × (List Int)) × ByteArray)) × Int × Int × Unit) → Option ((((List ((Int × (List Int)) × ByteArray)) × Bool × Unit) × ByteArray × (Int × (List Int) × Unit) × (List ((Int × (List Int)) × ByteArray)) × Int × Int × Bool × (List ((Int × (List Int)) × ByteArray)) × Int × (Int × (List Int) × ByteArray × Unit) × (Int × (List Int) × ByteArray × Unit) × (List ((Int × (List Int)) × ByteArray)) × Int × Int × Unit) ⊕ ((Bool × ((List ((Int × (List Int)) × ByteArray)) × Bool × Unit) × (List ((Int × (List Int)) × ByteArray)) × Int × (Int × (List Int) × ByteArray × Unit) × (Int × (List Int) × ByteArray × Unit) × (List ((Int × (List Int)) × ByteArray)) × Int × Int × Unit) ⊕ (((List ((Int × (List Int)) × ByteArray)) × Bool × Unit) × ByteArray × (Int × (List Int) × Unit) × Bool × (List ((Int × (List Int)) × ByteArray)) × Int × (Int × (List Int) × ByteArray × Unit) × (Int × (List Int) × ByteArray × Unit) × (List ((Int × (List Int)) × ByteArray)) × Int × Int × Unit))) := fun ((v0_0, v0_1, _), v2, (v4_0, v4_1, _), v11, v12, v13, v62, v68, v72, (v73_0, v73_1, v73_2, _), (v76_0, v76_1, v76_2, _), v151, v152, v153, _) =>
 bif (decide (v13 < v12)) then
  if (((0 : Int) ≤ v13) ∧ (v13 < (((List.length v11) : Nat) : Int))) then
   Option.bind (spec_l2Same (List.getD v11 (Int.toNat v13) (((0 : Int), []), (⟨Array.empty⟩ : ByteArray))).1.2 (List.take (List.length v4_1) (List.drop 0 v4_1))) fun r0 =>
    bif r0 then
     if ((0 + (List.length v0_0)) = (List.length v0_0)) then
      some (Sum.inr (Sum.inl (v62, ((List.drop 0 v0_0), v0_1, ()), v68, v72, (v73_0, v73_1, v73_2, ()), (v76_0, v76_1, v76_2, ()), v151, v152, v153, ())))
     else
      none
    else
     if ((0 + (List.length v0_0)) = (List.length v0_0)) then
      some (Sum.inl (((List.drop 0 v0_0), v0_1, ()), v2, (v4_0, (List.take (List.length v4_1) (List.drop 0 v4_1)), ()), v11, v12, (IntKind.wrap .i64 (v13 + (1 : Int))), v62, v68, v72, (v73_0, v73_1, v73_2, ()), (v76_0, v76_1, v76_2, ()), v151, v152, v153, ()))
     else
      none
  else
   none
 else
  if ((0 + (List.length v0_0)) = (List.length v0_0)) then
   some (Sum.inr (Sum.inr (((List.drop 0 v0_0), v0_1, ()), v2, (v4_0, (List.take (List.length v4_1) (List.drop 0 v4_1)), ()), v62, v68, v72, (v73_0, v73_1, v73_2, ()), (v76_0, v76_1, v76_2, ()), v151, v152, v153, ())))
  else
   none
theorem spec_l8Elements_at107_l2_eq : loopStep 61 E103_at107 L103_at107_0 (loopOf f133 2) sh103_at107_2 xs103_at107_2 = spec_l8Elements_at107_l2 := by kernel_rfl
theorem loop103_at107_2 {L} (h : L 2 = some ⟨61, sh103_at107_2, xs103_at107_2, spec_l8Elements_at107_l2⟩) : LoopOk prog L (loopOf f133 2) := lo spec_l8Elements_at107_l2_eq E103_at107_ok allNil h
noncomputable def L103_at107_1 : Nat → Option LoopD := fun n => ifEq n 2 (some ⟨61, sh103_at107_2, xs103_at107_2, spec_l8Elements_at107_l2⟩) (L103_at107_0 n)
def shi103_at107 : List Fm := .box 100000 [.own (.pair (.pair (.int .i64) (.sl (.int .i64))) .str) 100001 true, .val .bool] :: .agg [.val (.int .i64), .own (.int .i64) 100102 false] :: .cell (.val .str) :: D 59 (.cell (.val .bool) :: D 4 (.ali 100000 0 :: .cell (.val (.sl (.pair (.pair (.int .i64) (.sl (.int .i64))) .str))) :: d :: d :: d :: .cell (.val (.int .i64)) :: .box 107300 [.val (.int .i64), .val (.sl (.int .i64)), .val .str] :: d :: d :: .box 107600 [.val (.int .i64), .val (.sl (.int .i64)), .val .str] :: D 74 (.cell (.val (.sl (.pair (.pair (.int .i64) (.sl (.int .i64))) .str))) :: .cell (.val (.int .i64)) :: .cell (.val (.int .i64)) :: D 38 [])))
def sho103_at107 : List Fm := d :: .cell (.val .bool) :: D 4 (.box 100600 [.own (.pair (.pair (.int .i64) (.sl (.int .i64))) .str) 100601 true, .val .bool] :: .cell (.val (.sl (.pair (.pair (.int .i64) (.sl (.int .i64))) .str))) :: d :: d :: d :: .cell (.val (.int .i64)) :: .box 101200 [.val (.int .i64), .val (.sl (.int .i64)), .val .str] :: d :: d :: .box 101500 [.val (.int .i64), .val (.sl (.int .i64)), .val .str] :: D 74 (.cell (.val (.sl (.pair (.pair (.int .i64) (.sl (.int .i64))) .str))) :: .cell (.val (.int .i64)) :: .cell (.val (.int .i64)) :: D 38 []))
noncomputable def spec_l8Elements_at107 : (((List ((Int × (List Int)) × ByteArray)) × Bool × Unit) × (Int × (List Int) × Unit) × ByteArray × Bool × (List ((Int × (List Int)) × ByteArray)) × Int × (Int × (List Int) × ByteArray × Unit) × (Int × (List Int) × ByteArray × Unit) × (List ((Int × (List Int)) × ByteArray)) × Int × Int × Unit) → Option (Bool × ((List ((Int × (List Int)) × ByteArray)) × Bool × Unit) × (List ((Int × (List Int)) × ByteArray)) × Int × (Int × (List Int) × ByteArray × Unit) × (Int × (List Int) × ByteArray × Unit) × (List ((Int × (List Int)) × ByteArray)) × Int × Int × Unit) := fun ((v0_0, v0_1, _), (v1_0, v1_1, _), v2, v62, v68, v72, (v73_0, v73_1, v73_2, _), (v76_0, v76_1, v76_2, _), v151, v152, v153, _) =>
 if ((0 + (List.length v0_0)) = (List.length v0_0)) then
  Option.bind (loopF spec_l8Elements_at107_l2 (((List.drop 0 v0_0), v0_1, ()), v2, (v1_0, (List.take (List.length v1_1) (List.drop 0 v1_1)), ()), (List.take (List.length v0_0) (List.drop 0 v0_0)), (((List.length v0_0) : Nat) : Int), (0 : Int), v62, v68, v72, (v73_0, v73_1, v73_2, ()), (v76_0, v76_1, v76_2, ()), v151, v152, v153, ())) fun r0 =>
   (match r0 with
   | .inl (d1, (d2, d3, _), d4, d5, (d6, d7, d8, _), (d9, d10, d11, _), d12, d13, d14, _) =>
     if ((0 + (List.length d2)) = (List.length d2)) then
      some (d1, ((List.drop 0 d2), d3, ()), d4, d5, (d6, d7, d8, ()), (d9, d10, d11, ()), d12, d13, d14, ())
     else
      none
   | .inr ((d15, d16, _), d17, (d18, d19, _), d20, d21, d22, (d23, d24, d25, _), (d26, d27, d28, _), d29, d30, d31, _) =>
     bif d16 then
      if ((0 + (List.length d15)) = (List.length d15)) then
       some (d20, ((List.drop 0 d15), true, ()), d21, d22, (d23, d24, d25, ()), (d26, d27, d28, ()), d29, d30, d31, ())
      else
       none
     else
      bif (decide ((((List.length d15) : Nat) : Int) ≥ (120 : Int))) then
       if ((0 + (List.length d15)) = (List.length d15)) then
        some (d20, ((List.drop 0 d15), true, ()), d21, d22, (d23, d24, d25, ()), (d26, d27, d28, ()), d29, d30, d31, ())
       else
        none
      else
       bif (!(decide ((((ByteArray.size d17) : Nat) : Int) > (120 : Int)))) then
        if (((0 + (List.length d15)) = (List.length d15)) ∧ ((((List.length d15) + (List.length (List.take 1 (List.drop 0 [((d18, (List.take (List.length d19) (List.drop 0 d19))), d17)])))) * 48) ≤ 140737488355328)) then
         if ((0 + ((List.length d15) + (List.length (List.take 1 (List.drop 0 [((d18, (List.take (List.length d19) (List.drop 0 d19))), d17)]))))) = (List.length ((List.drop 0 d15) ++ (List.take 1 (List.drop 0 [((d18, (List.take (List.length d19) (List.drop 0 d19))), d17)]))))) then
          some (d20, ((List.drop 0 ((List.drop 0 d15) ++ (List.take 1 (List.drop 0 [((d18, (List.take (List.length d19) (List.drop 0 d19))), d17)])))), (decide ((((ByteArray.size d17) : Nat) : Int) > (120 : Int))), ()), d21, d22, (d23, d24, d25, ()), (d26, d27, d28, ()), d29, d30, d31, ())
         else
          none
        else
         none
       else
        if ((0 + (List.length d15)) = (List.length d15)) then
         some (d20, ((List.drop 0 d15), (decide ((((ByteArray.size d17) : Nat) : Int) > (120 : Int))), ()), d21, d22, (d23, d24, d25, ()), (d26, d27, d28, ()), d29, d30, d31, ())
        else
         none)
 else
  none
theorem spec_l8Elements_at107_eq : inlStep f133.ntmps 131 107 E103_at107 L103_at107_1 f133.results.toList (codeOf f133) shi103_at107 sho103_at107 = spec_l8Elements_at107 := by kernel_rfl
noncomputable def I103_at107 : CallD := ⟨f133.ntmps, shi103_at107, 131, sho103_at107, spec_l8Elements_at107, 0⟩
theorem I103_at107_ok : InlOk prog 107 133 I103_at107 := inlOk_of (tysOk_of tyl_ok) E103_at107_ok (L := L103_at107_1) func133 (by kernel_rfl) (c := codeOf f133) (by kernel_rfl) (codeOk_in (L := L103_at107_1) (tysOk_of tyl_ok) E103_at107_ok mixed (c := codeOf f133) (bs := [loopOf f133 2]) (by kernel_rfl) (allCons (loop103_at107_2 rfl) allNil) (by kernel_rfl)) (by kernel_rfl) (by kernel_rfl) spec_l8Elements_at107_eq
noncomputable def E103_at120 : Env := ⟨ty0, fun g => ifEq g 132 (some A132) (ifEq g 131 (some A131) (ifEq g 50 (some A50) (ifEq g 49 (some A49) (ifEq g 51 (some A51) (ifEq g 86 (some A86) (none)))))), fun _ => none, fun _ => none, fun _ => none⟩
theorem E103_at120_ok : FnsOk prog E103_at120 := (oF A132_ok func132 (oF A131_ok func131 (oF A50_ok func50 (oF A49_ok func49 (oF A51_ok func51 (oF A86_ok func86 (noFns _ _)))))))
noncomputable def L103_at120_0 : Nat → Option LoopD := fun _ => none
def sh103_at120_2 : List Fm := .box 100000 [.own (.pair (.pair (.int .i64) (.sl (.int .i64))) .str) 100001 true, .val .bool] :: d :: .cell (.val .str) :: d :: .box 100400 [.val (.int .i64), .own (.int .i64) 100402 false] :: D 6 (.cell (.val (.sl (.pair (.pair (.int .i64) (.sl (.int .i64))) .str))) :: .cell (.val (.int .i64)) :: .cell (.val (.int .i64)) :: D 48 (.cell (.val .bool) :: D 4 (.ali 100000 0 :: .cell (.val (.sl (.pair (.pair (.int .i64) (.sl (.int .i64))) .str))) :: d :: d :: d :: .cell (.val (.int .i64)) :: .box 107300 [.val (.int .i64), .val (.sl (.int .i64)), .val .str] :: D 77 (.cell (.val (.sl (.pair (.pair (.int .i64) (.sl (.int .i64))) .str))) :: .cell (.val (.int .i64)) :: .cell (.val (.int .i64)) :: D 38 []))))
def xs103_at120_2 : List (Ex × List Fm) := [(.ret, [d, d, d, d, d, d, d, d, d, d, d, d, d, d, d, d, d, d, d, d, d, d, d, d, d, d, d, d, d, d, d, d, d, d, d, d, d, d, d, d, d, d, d, d, d, d, d, d, d, d, d, d, d, d, d, d, d, d, d, d, d, d, .cell (.val .bool), d, d, d, d, .box 106700 [.own (.pair (.pair (.int .i64) (.sl (.int .i64))) .str) 106701 true, .val .bool], .cell (.val (.sl (.pair (.pair (.int .i64) (.sl (.int .i64))) .str))), d, d, d, .cell (.val (.int .i64)), .box 107300 [.val (.int .i64), .val (.sl (.int .i64)), .val .str], d, d, d, d, d, d, d, d, d, d, d, d, d, d, d, d, d, d, d, d, d, d, d, d, d, d, d, d, d, d, d, d, d, d, d, d, d, d, d, d, d, d, d, d, d, d, d, d, d, d, d, d, d, d, d, d, d, d, d, d, d, d, d, d, d, d, d, d, d, d, d, d, d, d, d, d, d, .cell (.val (.sl (.pair (.pair (.int .i64) (.sl (.int .i64))) .str))), .cell (.val (.int .i64)), .cell (.val (.int .i64)), d, d, d, d, d, d, d, d, d, d, d, d, d, d, d, d, d, d, d, d, d, d, d, d, d, d, d, d, d, d, d, d, d, d, d, d, d, d]), (.exit 0, [.box 100000 [.own (.pair (.pair (.int .i64) (.sl (.int .i64))) .str) 100001 true, .val .bool], d, .cell (.val .str), d, .box 100400 [.val (.int .i64), .own (.int .i64) 100402 false], d, d, d, d, d, d, d, d, d, d, d, d, d, d, d, d, d, d, d, d, d, d, d, d, d, d, d, d, d, d, d, d, d, d, d, d, d, d, d, d, d, d, d, d, d, d, d, d, d, d, d, d, d, d, d, d, d, .cell (.val .bool), d, d, d, d, .ali 100000 0, .cell (.val (.sl (.pair (.pair (.int .i64) (.sl (.int .i64))) .str))), d, d, d, .cell (.val (.int .i64)), .box 107300 [.val (.int .i64), .val (.sl (.int .i64)), .val .str], d, d, d, d, d, d, d, d, d, d, d, d, d, d, d, d, d, d, d, d, d, d, d, d, d, d, d, d, d, d, d, d, d, d, d, d, d, d, d, d, d, d, d, d, d, d, d, d, d, d, d, d, d, d, d, d, d, d, d, d, d, d, d, d, d, d, d, d, d, d, d, d, d, d, d, d, d, .cell (.val (.sl (.pair (.pair (.int .i64) (.sl (.int .i64))) .str))), .cell (.val (.int .i64)), .cell (.val (.int .i64)), d, d, d, d, d, d, d, d, d, d, d, d, d, d, d, d, d, d, d, d, d, d, d, d, d, d, d, d, d, d, d, d, d, d, d, d, d, d])]
noncomputable def spec_l8Elements_at120_l2 : (((List ((Int × (List Int)) × ByteArray)) × Bool × Unit) × ByteArray × (Int × (List Int) × Unit) × (List ((Int × (List Int)) × ByteArray)) × Int × Int × Bool × (List ((Int × (List Int)) × ByteArray)) × Int × (Int × (List Int) × ByteArray × Unit) × (List ((Int × (List Int)) × ByteArray)) × Int × Int × Unit) → Option ((((List ((Int × (List Int)) × ByteArray)) × Bool × Unit) × ByteArray × (Int × (List Int) × Unit) × (List ((Int × (List Int)) × ByteArray)) × Int × Int × Bool × (List ((Int × (List Int)) × ByteArray)) × Int × (Int × (List Int) × ByteArray × Unit) × (List ((Int × (List Int)) × ByteArray)) × Int × Int × Unit) ⊕ ((Bool × ((List ((Int × (List Int)) × ByteArray)) × Bool × Unit) × (List ((Int × (List Int)) × ByteArray)) × Int × (Int × (List Int) × ByteArray × Unit) × (List ((Int × (List Int)) × ByteArray)) × Int × Int × Unit) ⊕ (((List ((Int × (List Int)) × ByteArray)) × Bool × Unit) × ByteArray × (Int × (List Int) × Unit) × Bool × (List ((Int × (List Int)) × ByteArray)) × Int × (Int × (List Int) × ByteArray × Unit) × (List ((Int × (List Int)) × ByteArray)) × Int × Int × Unit))) := fun ((v0_0, v0_1, _), v2, (v4_0, v4_1, _), v11, v12, v13, v62, v68, v72, (v73_0, v73_1, v73_2, _), v151, v152, v153, _) =>
 bif (decide (v13 < v12)) then
  if (((0 : Int) ≤ v13) ∧ (v13 < (((List.length v11) : Nat) : Int))) then
   Option.bind (spec_l2Same (List.getD v11 (Int.toNat v13) (((0 : Int), []), (⟨Array.empty⟩ : ByteArray))).1.2 (List.take (List.length v4_1) (List.drop 0 v4_1))) fun r0 =>
    bif r0 then
     if ((0 + (List.length v0_0)) = (List.length v0_0)) then
      some (Sum.inr (Sum.inl (v62, ((List.drop 0 v0_0), v0_1, ()), v68, v72, (v73_0, v73_1, v73_2, ()), v151, v152, v153, ())))
     else
      none
    else
     if ((0 + (List.length v0_0)) = (List.length v0_0)) then
      some (Sum.inl (((List.drop 0 v0_0), v0_1, ()), v2, (v4_0, (List.take (List.length v4_1) (List.drop 0 v4_1)), ()), v11, v12, (IntKind.wrap .i64 (v13 + (1 : Int))), v62, v68, v72, (v73_0, v73_1, v73_2, ()), v151, v152, v153, ()))
     else
      none
  else
   none
 else
  if ((0 + (List.length v0_0)) = (List.length v0_0)) then
   some (Sum.inr (Sum.inr (((List.drop 0 v0_0), v0_1, ()), v2, (v4_0, (List.take (List.length v4_1) (List.drop 0 v4_1)), ()), v62, v68, v72, (v73_0, v73_1, v73_2, ()), v151, v152, v153, ())))
  else
   none
theorem spec_l8Elements_at120_l2_eq : loopStep 61 E103_at120 L103_at120_0 (loopOf f133 2) sh103_at120_2 xs103_at120_2 = spec_l8Elements_at120_l2 := by kernel_rfl
theorem loop103_at120_2 {L} (h : L 2 = some ⟨61, sh103_at120_2, xs103_at120_2, spec_l8Elements_at120_l2⟩) : LoopOk prog L (loopOf f133 2) := lo spec_l8Elements_at120_l2_eq E103_at120_ok allNil h
noncomputable def L103_at120_1 : Nat → Option LoopD := fun n => ifEq n 2 (some ⟨61, sh103_at120_2, xs103_at120_2, spec_l8Elements_at120_l2⟩) (L103_at120_0 n)
def shi103_at120 : List Fm := .box 100000 [.own (.pair (.pair (.int .i64) (.sl (.int .i64))) .str) 100001 true, .val .bool] :: .agg [.val (.int .i64), .own (.int .i64) 100102 false] :: .cell (.val .str) :: D 59 (.cell (.val .bool) :: D 4 (.ali 100000 0 :: .cell (.val (.sl (.pair (.pair (.int .i64) (.sl (.int .i64))) .str))) :: d :: d :: d :: .cell (.val (.int .i64)) :: .box 107300 [.val (.int .i64), .val (.sl (.int .i64)), .val .str] :: D 77 (.cell (.val (.sl (.pair (.pair (.int .i64) (.sl (.int .i64))) .str))) :: .cell (.val (.int .i64)) :: .cell (.val (.int .i64)) :: D 38 [])))
def sho103_at120 : List Fm := d :: .cell (.val .bool) :: D 4 (.box 100600 [.own (.pair (.pair (.int .i64) (.sl (.int .i64))) .str) 100601 true, .val .bool] :: .cell (.val (.sl (.pair (.pair (.int .i64) (.sl (.int .i64))) .str))) :: d :: d :: d :: .cell (.val (.int .i64)) :: .box 101200 [.val (.int .i64), .val (.sl (.int .i64)), .val .str] :: D 77 (.cell (.val (.sl (.pair (.pair (.int .i64) (.sl (.int .i64))) .str))) :: .cell (.val (.int .i64)) :: .cell (.val (.int .i64)) :: D 38 []))
noncomputable def spec_l8Elements_at120 : (((List ((Int × (List Int)) × ByteArray)) × Bool × Unit) × (Int × (List Int) × Unit) × ByteArray × Bool × (List ((Int × (List Int)) × ByteArray)) × Int × (Int × (List Int) × ByteArray × Unit) × (List ((Int × (List Int)) × ByteArray)) × Int × Int × Unit) → Option (Bool × ((List ((Int × (List Int)) × ByteArray)) × Bool × Unit) × (List ((Int × (List Int)) × ByteArray)) × Int × (Int × (List Int) × ByteArray × Unit) × (List ((Int × (List Int)) × ByteArray)) × Int × Int × Unit) := fun ((v0_0, v0_1, _), (v1_0, v1_1, _), v2, v62, v68, v72, (v73_0, v73_1, v73_2, _), v151, v152, v153, _) =>
 if ((0 + (List.length v0_0)) = (List.length v0_0)) then
  Option.bind (loopF spec_l8Elements_at120_l2 (((List.drop 0 v0_0), v0_1, ()), v2, (v1_0, (List.take (List.length v1_1) (List.drop 0 v1_1)), ()), (List.take (List.length v0_0) (List.drop 0 v0_0)), (((List.length v0_0) : Nat) : Int), (0 : Int), v62, v68, v72, (v73_0, v73_1, v73_2, ()), v151, v152, v153, ())) fun r0 =>
   (match r0 with
   | .inl (d1, (d2, d3, _), d4, d5, (d6, d7, d8, _), d9, d10, d11, _) =>
     if ((0 + (List.length d2)) = (List.length d2)) then
      some (d1, ((List.drop 0 d2), d3, ()), d4, d5, (d6, d7, d8, ()), d9, d10, d11, ())
     else
      none
   | .inr ((d12, d13, _), d14, (d15, d16, _), d17, d18, d19, (d20, d21, d22, _), d23, d24, d25, _) =>
     bif d13 then
      if ((0 + (List.length d12)) = (List.length d12)) then
       some (d17, ((List.drop 0 d12), true, ()), d18, d19, (d20, d21, d22, ()), d23, d24, d25, ())
      else
       none
     else
      bif (decide ((((List.length d12) : Nat) : Int) ≥ (120 : Int))) then
       if ((0 + (List.length d12)) = (List.length d12)) then
        some (d17, ((List.drop 0 d12), true, ()), d18, d19, (d20, d21, d22, ()), d23, d24, d25, ())
       else
        none
      else
       bif (!(decide ((((ByteArray.size d14) : Nat) : Int) > (120 : Int)))) then
        if (((0 + (List.length d12)) = (List.length d12)) ∧ ((((List.length d12) + (List.length (List.take 1 (List.drop 0 [((d15, (List.take (List.length d16) (List.drop 0 d16))), d14)])))) * 48) ≤ 140737488355328)) then
         if ((0 + ((List.length d12) + (List.length (List.take 1 (List.drop 0 [((d15, (List.take (List.length d16) (List.drop 0 d16))), d14)]))))) = (List.length ((List.drop 0 d12) ++ (List.take 1 (List.drop 0 [((d15, (List.take (List.length d16) (List.drop 0 d16))), d14)]))))) then
          some (d17, ((List.drop 0 ((List.drop 0 d12) ++ (List.take 1 (List.drop 0 [((d15, (List.take (List.length d16) (List.drop 0 d16))), d14)])))), (decide ((((ByteArray.size d14) : Nat) : Int) > (120 : Int))), ()), d18, d19, (d20, d21, d22, ()), d23, d24, d25, ())
         else
          none
        else
         none
       else
        if ((0 + (List.length d12)) = (List.length d12)) then
         some (d17, ((List.drop 0 d12), (decide ((((ByteArray.size d14) : Nat) : Int) > (120 : Int))), ()), d18, d19, (d20, d21, d22, ()), d23, d24, d25, ())
        else
         none)
 else
  none
theorem spec_l8Elements_at120_eq : inlStep f133.ntmps 131 120 E103_at120 L103_at120_1 f133.results.toList (codeOf f133) shi103_at120 sho103_at120 = spec_l8Elements_at120 := by kernel_rfl
noncomputable def I103_at120 : CallD := ⟨f133.ntmps, shi103_at120, 131, sho103_at120, spec_l8Elements_at120, 0⟩
theorem I103_at120_ok : InlOk prog 120 133 I103_at120 := inlOk_of (tysOk_of tyl_ok) E103_at120_ok (L := L103_at120_1) func133 (by kernel_rfl) (c := codeOf f133) (by kernel_rfl) (codeOk_in (L := L103_at120_1) (tysOk_of tyl_ok) E103_at120_ok mixed (c := codeOf f133) (bs := [loopOf f133 2]) (by kernel_rfl) (allCons (loop103_at120_2 rfl) allNil) (by kernel_rfl)) (by kernel_rfl) (by kernel_rfl) spec_l8Elements_at120_eq
noncomputable def E103 : Env := ⟨ty0, fun g => ifEq g 132 (some A132) (ifEq g 131 (some A131) (ifEq g 50 (some A50) (ifEq g 49 (some A49) (ifEq g 51 (some A51) (ifEq g 86 (some A86) (none)))))), fun _ => none, fun _ => none, fun d => ifI (Nat.beq d 39) (some (133, I103_at39)) (ifI (Nat.beq d 78) (some (133, I103_at78)) (ifI (Nat.beq d 107) (some (133, I103_at107)) (ifI (Nat.beq d 120) (some (133, I103_at120)) (none))))⟩
theorem E103_ok : FnsOk prog E103 := (oneIl (d0 := 39) (g0 := 133) I103_at39_ok (oneIl (d0 := 78) (g0 := 133) I103_at78_ok (oneIl (d0 := 107) (g0 := 133) I103_at107_ok (oneIl (d0 := 120) (g0 := 133) I103_at120_ok (oF A132_ok func132 (oF A131_ok func131 (oF A50_ok func50 (oF A49_ok func49 (oF A51_ok func51 (oF A86_ok func86 (noFns _ _)))))))))))
noncomputable def L103_0 : Nat → Option LoopD := fun _ => none
def sh103_4 : List Fm := d :: .cell (.val .bool) :: .box 100200 [.val (.int .i64), .val (.sl (.int .i64)), .val (.sl (.int .i64)), .val (.sl (.pair (.int .i64) (.pair .str (.pair (.int .i64) (.int .i64)))))] :: d :: d :: d :: .box 100600 [.own (.pair (.pair (.int .i64) (.sl (.int .i64))) .str) 100601 true, .val .bool] :: .cell (.own (.pair (.pair (.int .i64) (.sl (.int .i64))) .str) 100700 false) :: D 12 (.cell (.own .str 102000 false) :: .cell (.val (.int .i64)) :: .cell (.val (.int .i64)) :: D 108 [])
def xs103_4 : List (Ex × List Fm) := [(.exit 0, [d, .cell (.val .bool), d, d, d, d, .box 100600 [.own (.pair (.pair (.int .i64) (.sl (.int .i64))) .str) 100601 true, .val .bool], .cell (.own (.pair (.pair (.int .i64) (.sl (.int .i64))) .str) 100700 false), d, d, d, d, d, d, d, d, d, d, d, d, d, d, d, d, d, d, d, d, d, d, d, d, d, d, d, d, d, d, d, d, d, d, d, d, d, d, d, d, d, d, d, d, d, d, d, d, d, d, d, d, d, d, d, d, d, d, d, d, d, d, d, d, d, d, d, d, d, d, d, d, d, d, d, d, d, d, d, d, d, d, d, d, d, d, d, d, d, d, d, d, d, d, d, d, d, d, d, d, d, d, d, d, d, d, d, d, d, d, d, d, d, d, d, d, d, d, d, d, d, d, d])]
noncomputable def spec_l8Elements_l4 : (Bool × (Int × (List Int) × (List Int) × (List (Int × (ByteArray × (Int × Int)))) × Unit) × ((List ((Int × (List Int)) × ByteArray)) × Bool × Unit) × (List ((Int × (List Int)) × ByteArray)) × (List ByteArray) × Int × Int × Unit) → Option ((Bool × (Int × (List Int) × (List Int) × (List (Int × (ByteArray × (Int × Int)))) × Unit) × ((List ((Int × (List Int)) × ByteArray)) × Bool × Unit) × (List ((Int × (List Int)) × ByteArray)) × (List ByteArray) × Int × Int × Unit) ⊕ ((Bool × ((List ((Int × (List Int)) × ByteArray)) × Bool × Unit) × (List ((Int × (List Int)) × ByteArray)) × Unit))) := fun (v1, (v2_0, v2_1, v2_2, v2_3, _), (v6_0, v6_1, _), v7, v20, v21, v22, _) =>
 bif (decide (v22 < v21)) then
  if (((0 : Int) ≤ v22) ∧ (v22 < (((List.length v20) : Nat) : Int))) then
   Option.bind (spec_l3Matrix (v2_0, v2_1, v2_2, v2_3) (List.getD v20 (0 + (Int.toNat v22)) (⟨Array.empty⟩ : ByteArray))) fun (r0, r1) =>
    Option.bind (spec_l6Grades (r0, (List.take (List.length r1) (List.drop 0 r1)))) fun (r2, r3) =>
     if (((0 + (List.length v7)) = (List.length v7)) ∧ ((((List.length v7) + (List.length (List.take 1 (List.drop 0 [((r2, (List.take (List.length r3) (List.drop 0 r3))), (List.getD v20 (0 + (Int.toNat v22)) (⟨Array.empty⟩ : ByteArray)))])))) * 48) ≤ 140737488355328)) then
      if ((0 + (List.length v6_0)) = (List.length v6_0)) then
       Option.bind (spec_l8Elements_at39 (((List.drop 0 v6_0), v6_1, ()), (r2, (List.take (List.length r3) (List.drop 0 r3))), (List.getD v20 (0 + (Int.toNat v22)) (⟨Array.empty⟩ : ByteArray)), v1, (v2_0, v2_1, v2_2, v2_3, ()), (List.take ((List.length v7) + (List.length (List.take 1 (List.drop 0 [((r2, (List.take (List.length r3) (List.drop 0 r3))), (List.getD v20 (0 + (Int.toNat v22)) (⟨Array.empty⟩ : ByteArray)))])))) (List.drop 0 ((List.drop 0 v7) ++ (List.take 1 (List.drop 0 [((r2, (List.take (List.length r3) (List.drop 0 r3))), (List.getD v20 (0 + (Int.toNat v22)) (⟨Array.empty⟩ : ByteArray)))]))))), (List.take (List.length v20) (List.drop 0 v20)), v21, v22, ())) fun (r4, (r5, r6, r7, r8, _), (r9, r10, _), r11, r12, r13, r14, _) =>
        if ((0 + (List.length r9)) = (List.length r9)) then
         some (Sum.inl (r4, (r5, r6, r7, r8, ()), ((List.drop 0 r9), r10, ()), (List.take (List.length r11) (List.drop 0 r11)), (List.take (List.length r12) (List.drop 0 r12)), r13, (IntKind.wrap .i64 (r14 + (1 : Int))), ()))
        else
         none
      else
       none
     else
      none
  else
   none
 else
  if ((0 + (List.length v6_0)) = (List.length v6_0)) then
   some (Sum.inr (v1, ((List.drop 0 v6_0), v6_1, ()), (List.take (List.length v7) (List.drop 0 v7)), ()))
  else
   none
theorem spec_l8Elements_l4_eq : loopStep 131 E103 L103_0 (loopOf f103 4) sh103_4 xs103_4 = spec_l8Elements_l4 := by kernel_rfl
theorem loop103_4 {L} (h : L 4 = some ⟨131, sh103_4, xs103_4, spec_l8Elements_l4⟩) : LoopOk prog L (loopOf f103 4) := lo spec_l8Elements_l4_eq E103_ok allNil h
noncomputable def L103_1 : Nat → Option LoopD := fun n => ifEq n 4 (some ⟨131, sh103_4, xs103_4, spec_l8Elements_l4⟩) (L103_0 n)
def sh103_20 : List Fm := d :: .cell (.val .bool) :: D 4 (.box 100600 [.own (.pair (.pair (.int .i64) (.sl (.int .i64))) .str) 100601 true, .val .bool] :: .cell (.val (.sl (.pair (.pair (.int .i64) (.sl (.int .i64))) .str))) :: d :: d :: d :: .cell (.val (.int .i64)) :: .box 101200 [.val (.int .i64), .val (.sl (.int .i64)), .val .str] :: D 77 (.cell (.val (.sl (.pair (.pair (.int .i64) (.sl (.int .i64))) .str))) :: .cell (.val (.int .i64)) :: .cell (.val (.int .i64)) :: D 38 []))
def xs103_20 : List (Ex × List Fm) := [(.exit 4, [d, .cell (.val .bool), d, d, d, d, .box 100600 [.own (.pair (.pair (.int .i64) (.sl (.int .i64))) .str) 100601 true, .val .bool], .cell (.val (.sl (.pair (.pair (.int .i64) (.sl (.int .i64))) .str))), d, d, d, .cell (.val (.int .i64)), d, d, d, d, d, d, d, d, d, d, d, d, d, d, d, d, d, d, d, d, d, d, d, d, d, d, d, d, d, d, d, d, d, d, d, d, d, d, d, d, d, d, d, d, d, d, d, d, d, d, d, d, d, d, d, d, d, d, d, d, d, d, d, d, d, d, d, d, d, d, d, d, d, d, d, d, d, d, d, d, d, d, d, d, d, d, d, d, d, d, d, d, d, d, d, d, d, d, d, d, d, d, d, d, d, d, d, d, d, d, d, d, d, d, d, d, d, d, d])]
noncomputable def spec_l8Elements_l20 : (Bool × ((List ((Int × (List Int)) × ByteArray)) × Bool × Unit) × (List ((Int × (List Int)) × ByteArray)) × Int × (Int × (List Int) × ByteArray × Unit) × (List ((Int × (List Int)) × ByteArray)) × Int × Int × Unit) → Option ((Bool × ((List ((Int × (List Int)) × ByteArray)) × Bool × Unit) × (List ((Int × (List Int)) × ByteArray)) × Int × (Int × (List Int) × ByteArray × Unit) × (List ((Int × (List Int)) × ByteArray)) × Int × Int × Unit) ⊕ ((Bool × ((List ((Int × (List Int)) × ByteArray)) × Bool × Unit) × (List ((Int × (List Int)) × ByteArray)) × Int × Unit))) := fun (v1, (v6_0, v6_1, _), v7, v11, (v12_0, v12_1, v12_2, _), v90, v91, v92, _) =>
 bif (decide (v92 < v91)) then
  if (((0 : Int) ≤ v92) ∧ (v92 < (((List.length v90) : Nat) : Int))) then
   Option.bind (spec_l6Mul (v12_0, v12_1) ((List.getD v90 (Int.toNat v92) (((0 : Int), []), (⟨Array.empty⟩ : ByteArray))).1.1, (List.getD v90 (Int.toNat v92) (((0 : Int), []), (⟨Array.empty⟩ : ByteArray))).1.2)) fun (r0, r1) =>
    if (((ByteArray.size v12_2) + (ByteArray.size (List.getD v90 (Int.toNat v92) (((0 : Int), []), (⟨Array.empty⟩ : ByteArray))).2)) ≤ 9223372036854775807) then
     if ((0 + (List.length v6_0)) = (List.length v6_0)) then
      Option.bind (spec_l8Elements_at107 (((List.drop 0 v6_0), v6_1, ()), (r0, (List.take (List.length r1) (List.drop 0 r1)), ()), (v12_2 ++ (List.getD v90 (Int.toNat v92) (((0 : Int), []), (⟨Array.empty⟩ : ByteArray))).2), v1, v7, v11, (v12_0, v12_1, v12_2, ()), ((List.getD v90 (Int.toNat v92) (((0 : Int), []), (⟨Array.empty⟩ : ByteArray))).1.1, (List.getD v90 (Int.toNat v92) (((0 : Int), []), (⟨Array.empty⟩ : ByteArray))).1.2, (List.getD v90 (Int.toNat v92) (((0 : Int), []), (⟨Array.empty⟩ : ByteArray))).2, ()), v90, v91, v92, ())) fun (r2, (r3, r4, _), r5, r6, (r7, r8, r9, _), (r10, r11, r12, _), r13, r14, r15, _) =>
       bif r2 then
        Option.bind (spec_l6Mul (r10, r11) (r7, r8)) fun (r16, r17) =>
         if (((ByteArray.size r12) + (ByteArray.size r9)) ≤ 9223372036854775807) then
          if ((0 + (List.length r3)) = (List.length r3)) then
           Option.bind (spec_l8Elements_at120 (((List.drop 0 r3), r4, ()), (r16, (List.take (List.length r17) (List.drop 0 r17)), ()), (r12 ++ r9), r2, r5, r6, (r7, r8, r9, ()), r13, r14, r15, ())) fun (r18, (r19, r20, _), r21, r22, (r23, r24, r25, _), r26, r27, r28, _) =>
            if ((0 + (List.length r19)) = (List.length r19)) then
             some (Sum.inl (r18, ((List.drop 0 r19), r20, ()), r21, r22, (r23, r24, r25, ()), r26, r27, (IntKind.wrap .i64 (r28 + (1 : Int))), ()))
            else
             none
          else
           none
         else
          none
       else
        if ((0 + (List.length r3)) = (List.length r3)) then
         some (Sum.inl (r2, ((List.drop 0 r3), r4, ()), r5, r6, (r7, r8, r9, ()), r13, r14, (IntKind.wrap .i64 (r15 + (1 : Int))), ()))
        else
         none
     else
      none
    else
     none
  else
   none
 else
  if ((0 + (List.length v6_0)) = (List.length v6_0)) then
   some (Sum.inr (v1, ((List.drop 0 v6_0), v6_1, ()), v7, v11, ()))
  else
   none
theorem spec_l8Elements_l20_eq : loopStep 131 E103 L103_1 (loopOf f103 20) sh103_20 xs103_20 = spec_l8Elements_l20 := by kernel_rfl
theorem loop103_20 {L} (h : L 20 = some ⟨131, sh103_20, xs103_20, spec_l8Elements_l20⟩) : LoopOk prog L (loopOf f103 20) := lo spec_l8Elements_l20_eq E103_ok allNil h
noncomputable def L103_2 : Nat → Option LoopD := fun n => ifEq n 20 (some ⟨131, sh103_20, xs103_20, spec_l8Elements_l20⟩) (L103_1 n)
def sh103_11 : List Fm := d :: .cell (.val .bool) :: D 4 (.box 100600 [.own (.pair (.pair (.int .i64) (.sl (.int .i64))) .str) 100601 true, .val .bool] :: .cell (.val (.sl (.pair (.pair (.int .i64) (.sl (.int .i64))) .str))) :: d :: d :: d :: .cell (.val (.int .i64)) :: D 119 [])
def xs103_11 : List (Ex × List Fm) := [(.exit 2, [d, d, d, d, d, d, .box 100600 [.val (.sl (.pair (.pair (.int .i64) (.sl (.int .i64))) .str)), .val .bool], d, d, d, d, d, d, d, d, d, d, d, d, d, d, d, d, d, d, d, d, d, d, d, d, d, d, d, d, d, d, d, d, d, d, d, d, d, d, d, d, d, d, d, d, d, d, d, d, d, d, d, d, d, d, d, d, d, d, d, d, d, d, d, d, d, d, d, d, d, d, d, d, d, d, d, d, d, d, d, d, d, d, d, d, d, d, d, d, d, d, d, d, d, d, d, d, d, d, d, d, d, d, d, d, d, d, d, d, d, d, d, d, d, d, d, d, d, d, d, d, d, d, d, d])]
noncomputable def spec_l8Elements_l11 : (Bool × ((List ((Int × (List Int)) × ByteArray)) × Bool × Unit) × (List ((Int × (List Int)) × ByteArray)) × Int × Unit) → Option ((Bool × ((List ((Int × (List Int)) × ByteArray)) × Bool × Unit) × (List ((Int × (List Int)) × ByteArray)) × Int × Unit) ⊕ ((((List ((Int × (List Int)) × ByteArray)) × Bool × Unit) × Unit))) := fun (v1, (v6_0, v6_1, _), v7, v11, _) =>
 bif (decide (v11 < (((List.length v6_0) : Nat) : Int))) then
  bif (!v6_1) then
   if (((0 : Int) ≤ v11) ∧ (v11 < (((List.length v6_0) : Nat) : Int))) then
    bif v1 then
     Option.bind (spec_l6Idempotent ((List.getD v6_0 (0 + (Int.toNat v11)) (((0 : Int), []), (⟨Array.empty⟩ : ByteArray))).1.1, (List.getD v6_0 (0 + (Int.toNat v11)) (((0 : Int), []), (⟨Array.empty⟩ : ByteArray))).1.2)) fun r0 =>
      bif r0 then
       Option.bind (spec_l6Stable ((List.getD v6_0 (0 + (Int.toNat v11)) (((0 : Int), []), (⟨Array.empty⟩ : ByteArray))).1.1, (List.getD v6_0 (0 + (Int.toNat v11)) (((0 : Int), []), (⟨Array.empty⟩ : ByteArray))).1.2)) fun (r1, r2) =>
        if (((ByteArray.size (⟨#[(40 : UInt8)]⟩ : ByteArray)) + (ByteArray.size (List.getD v6_0 (0 + (Int.toNat v11)) (((0 : Int), []), (⟨Array.empty⟩ : ByteArray))).2)) ≤ 9223372036854775807) then
         if (((ByteArray.size ((⟨#[(40 : UInt8)]⟩ : ByteArray) ++ (List.getD v6_0 (0 + (Int.toNat v11)) (((0 : Int), []), (⟨Array.empty⟩ : ByteArray))).2)) + (ByteArray.size (⟨#[(41 : UInt8), (35 : UInt8)]⟩ : ByteArray))) ≤ 9223372036854775807) then
          if ((0 + (List.length v6_0)) = (List.length v6_0)) then
           Option.bind (spec_l8Elements_at78 (((List.drop 0 v6_0), v6_1, ()), (r1, (List.take (List.length r2) (List.drop 0 r2)), ()), (((⟨#[(40 : UInt8)]⟩ : ByteArray) ++ (List.getD v6_0 (0 + (Int.toNat v11)) (((0 : Int), []), (⟨Array.empty⟩ : ByteArray))).2) ++ (⟨#[(41 : UInt8), (35 : UInt8)]⟩ : ByteArray)), v1, v7, v11, ((List.getD v6_0 (0 + (Int.toNat v11)) (((0 : Int), []), (⟨Array.empty⟩ : ByteArray))).1.1, (List.getD v6_0 (0 + (Int.toNat v11)) (((0 : Int), []), (⟨Array.empty⟩ : ByteArray))).1.2, (List.getD v6_0 (0 + (Int.toNat v11)) (((0 : Int), []), (⟨Array.empty⟩ : ByteArray))).2, ()), ())) fun (r3, (r4, r5, _), r6, r7, (r8, r9, r10, _), _) =>
            bif r3 then
             if (((0 : Int) ≤ (IntKind.wrap .i64 (r7 + (1 : Int)))) ∧ ((IntKind.wrap .i64 (r7 + (1 : Int))) ≤ (((List.length r4) : Nat) : Int))) then
              if (((0 + 0) = (List.length ([] : List Unit))) ∧ (((0 + (List.length (List.take ((Int.toNat (IntKind.wrap .i64 (r7 + (1 : Int)))) - 0) (List.drop (0 + 0) r4)))) * 48) ≤ 140737488355328)) then
               if ((0 + (List.length r4)) = (List.length r4)) then
                Option.bind (loopF spec_l8Elements_l20 (r3, ((List.drop 0 r4), r5, ()), r6, r7, (r8, r9, r10, ()), (List.take (0 + (List.length (List.take ((Int.toNat (IntKind.wrap .i64 (r7 + (1 : Int)))) - 0) (List.drop (0 + 0) r4)))) (List.drop 0 ((List.drop 0 []) ++ (List.take ((Int.toNat (IntKind.wrap .i64 (r7 + (1 : Int)))) - 0) (List.drop (0 + 0) r4))))), (((0 + (List.length (List.take ((Int.toNat (IntKind.wrap .i64 (r7 + (1 : Int)))) - 0) (List.drop (0 + 0) r4)))) : Nat) : Int), (0 : Int), ())) fun (r11, (r12, r13, _), r14, r15, _) =>
                 if ((0 + (List.length r12)) = (List.length r12)) then
                  some (Sum.inl (r11, ((List.drop 0 r12), r13, ()), r14, (IntKind.wrap .i64 (r15 + (1 : Int))), ()))
                 else
                  none
               else
                none
              else
               none
             else
              none
            else
             if ((0 + (List.length r4)) = (List.length r4)) then
              Option.bind (loopF spec_l8Elements_l20 (r3, ((List.drop 0 r4), r5, ()), r6, r7, (r8, r9, r10, ()), r6, (((List.length r6) : Nat) : Int), (0 : Int), ())) fun (r16, (r17, r18, _), r19, r20, _) =>
               if ((0 + (List.length r17)) = (List.length r17)) then
                some (Sum.inl (r16, ((List.drop 0 r17), r18, ()), r19, (IntKind.wrap .i64 (r20 + (1 : Int))), ()))
               else
                none
             else
              none
          else
           none
         else
          none
        else
         none
      else
       bif v1 then
        if (((0 : Int) ≤ (IntKind.wrap .i64 (v11 + (1 : Int)))) ∧ ((IntKind.wrap .i64 (v11 + (1 : Int))) ≤ (((List.length v6_0) : Nat) : Int))) then
         if (((0 + 0) = (List.length ([] : List Unit))) ∧ (((0 + (List.length (List.take ((Int.toNat (IntKind.wrap .i64 (v11 + (1 : Int)))) - 0) (List.drop (0 + 0) v6_0)))) * 48) ≤ 140737488355328)) then
          if ((0 + (List.length v6_0)) = (List.length v6_0)) then
           Option.bind (loopF spec_l8Elements_l20 (v1, ((List.drop 0 v6_0), v6_1, ()), v7, v11, ((List.getD v6_0 (0 + (Int.toNat v11)) (((0 : Int), []), (⟨Array.empty⟩ : ByteArray))).1.1, (List.getD v6_0 (0 + (Int.toNat v11)) (((0 : Int), []), (⟨Array.empty⟩ : ByteArray))).1.2, (List.getD v6_0 (0 + (Int.toNat v11)) (((0 : Int), []), (⟨Array.empty⟩ : ByteArray))).2, ()), (List.take (0 + (List.length (List.take ((Int.toNat (IntKind.wrap .i64 (v11 + (1 : Int)))) - 0) (List.drop (0 + 0) v6_0)))) (List.drop 0 ((List.drop 0 []) ++ (List.take ((Int.toNat (IntKind.wrap .i64 (v11 + (1 : Int)))) - 0) (List.drop (0 + 0) v6_0))))), (((0 + (List.length (List.take ((Int.toNat (IntKind.wrap .i64 (v11 + (1 : Int)))) - 0) (List.drop (0 + 0) v6_0)))) : Nat) : Int), (0 : Int), ())) fun (r21, (r22, r23, _), r24, r25, _) =>
            if ((0 + (List.length r22)) = (List.length r22)) then
             some (Sum.inl (r21, ((List.drop 0 r22), r23, ()), r24, (IntKind.wrap .i64 (r25 + (1 : Int))), ()))
            else
             none
          else
           none
         else
          none
        else
         none
       else
        if ((0 + (List.length v6_0)) = (List.length v6_0)) then
         Option.bind (loopF spec_l8Elements_l20 (v1, ((List.drop 0 v6_0), v6_1, ()), v7, v11, ((List.getD v6_0 (0 + (Int.toNat v11)) (((0 : Int), []), (⟨Array.empty⟩ : ByteArray))).1.1, (List.getD v6_0 (0 + (Int.toNat v11)) (((0 : Int), []), (⟨Array.empty⟩ : ByteArray))).1.2, (List.getD v6_0 (0 + (Int.toNat v11)) (((0 : Int), []), (⟨Array.empty⟩ : ByteArray))).2, ()), v7, (((List.length v7) : Nat) : Int), (0 : Int), ())) fun (r26, (r27, r28, _), r29, r30, _) =>
          if ((0 + (List.length r27)) = (List.length r27)) then
           some (Sum.inl (r26, ((List.drop 0 r27), r28, ()), r29, (IntKind.wrap .i64 (r30 + (1 : Int))), ()))
          else
           none
        else
         none
    else
     bif v1 then
      if (((0 : Int) ≤ (IntKind.wrap .i64 (v11 + (1 : Int)))) ∧ ((IntKind.wrap .i64 (v11 + (1 : Int))) ≤ (((List.length v6_0) : Nat) : Int))) then
       if (((0 + 0) = (List.length ([] : List Unit))) ∧ (((0 + (List.length (List.take ((Int.toNat (IntKind.wrap .i64 (v11 + (1 : Int)))) - 0) (List.drop (0 + 0) v6_0)))) * 48) ≤ 140737488355328)) then
        if ((0 + (List.length v6_0)) = (List.length v6_0)) then
         Option.bind (loopF spec_l8Elements_l20 (v1, ((List.drop 0 v6_0), v6_1, ()), v7, v11, ((List.getD v6_0 (0 + (Int.toNat v11)) (((0 : Int), []), (⟨Array.empty⟩ : ByteArray))).1.1, (List.getD v6_0 (0 + (Int.toNat v11)) (((0 : Int), []), (⟨Array.empty⟩ : ByteArray))).1.2, (List.getD v6_0 (0 + (Int.toNat v11)) (((0 : Int), []), (⟨Array.empty⟩ : ByteArray))).2, ()), (List.take (0 + (List.length (List.take ((Int.toNat (IntKind.wrap .i64 (v11 + (1 : Int)))) - 0) (List.drop (0 + 0) v6_0)))) (List.drop 0 ((List.drop 0 []) ++ (List.take ((Int.toNat (IntKind.wrap .i64 (v11 + (1 : Int)))) - 0) (List.drop (0 + 0) v6_0))))), (((0 + (List.length (List.take ((Int.toNat (IntKind.wrap .i64 (v11 + (1 : Int)))) - 0) (List.drop (0 + 0) v6_0)))) : Nat) : Int), (0 : Int), ())) fun (r31, (r32, r33, _), r34, r35, _) =>
          if ((0 + (List.length r32)) = (List.length r32)) then
           some (Sum.inl (r31, ((List.drop 0 r32), r33, ()), r34, (IntKind.wrap .i64 (r35 + (1 : Int))), ()))
          else
           none
        else
         none
       else
        none
      else
       none
     else
      if ((0 + (List.length v6_0)) = (List.length v6_0)) then
       Option.bind (loopF spec_l8Elements_l20 (v1, ((List.drop 0 v6_0), v6_1, ()), v7, v11, ((List.getD v6_0 (0 + (Int.toNat v11)) (((0 : Int), []), (⟨Array.empty⟩ : ByteArray))).1.1, (List.getD v6_0 (0 + (Int.toNat v11)) (((0 : Int), []), (⟨Array.empty⟩ : ByteArray))).1.2, (List.getD v6_0 (0 + (Int.toNat v11)) (((0 : Int), []), (⟨Array.empty⟩ : ByteArray))).2, ()), v7, (((List.length v7) : Nat) : Int), (0 : Int), ())) fun (r36, (r37, r38, _), r39, r40, _) =>
        if ((0 + (List.length r37)) = (List.length r37)) then
         some (Sum.inl (r36, ((List.drop 0 r37), r38, ()), r39, (IntKind.wrap .i64 (r40 + (1 : Int))), ()))
        else
         none
      else
       none
   else
    none
  else
   some (Sum.inr (((List.take (List.length v6_0) (List.drop 0 v6_0)), v6_1, ()), ()))
 else
  some (Sum.inr (((List.take (List.length v6_0) (List.drop 0 v6_0)), v6_1, ()), ()))
theorem spec_l8Elements_l11_eq : loopStep 131 E103 L103_2 (loopOf f103 11) sh103_11 xs103_11 = spec_l8Elements_l11 := by kernel_rfl
theorem loop103_11 {L} (h : L 11 = some ⟨131, sh103_11, xs103_11, spec_l8Elements_l11⟩) : LoopOk prog L (loopOf f103 11) := lo spec_l8Elements_l11_eq E103_ok (allCons (loop103_20 rfl) allNil) h
noncomputable def L103_3 : Nat → Option LoopD := fun n => ifEq n 11 (some ⟨131, sh103_11, xs103_11, spec_l8Elements_l11⟩) (L103_2 n)
noncomputable def spec_l8Elements : (Int × ((List Int) × ((List Int) × (List (Int × (ByteArray × (Int × Int))))))) → Bool → Option ((List ((Int × (List Int)) × ByteArray)) × Bool) := fun (a0_0, a0_1, a0_2, a0_3) a1 =>
 if ((0 + 0) = (List.length ([] : List Unit))) then
  Option.bind (loopF spec_l8Elements_l4 (a1, (a0_0, a0_1, a0_2, a0_3, ()), ((List.drop 0 []), false, ()), (List.take 0 (List.drop 0 [])), (List.take 2 (List.drop 0 [(⟨#[(97 : UInt8)]⟩ : ByteArray), (⟨#[(98 : UInt8)]⟩ : ByteArray)])), ((2 : Nat) : Int), (0 : Int), ())) fun (r0, (r1, r2, _), r3, _) =>
   if ((0 + (List.length r1)) = (List.length r1)) then
    Option.bind (loopF spec_l8Elements_l11 (r0, ((List.drop 0 r1), r2, ()), (List.take (List.length r3) (List.drop 0 r3)), (0 : Int), ())) fun ((r4, r5, _), _) =>
     some (r4, (!r5))
   else
    none
 else
  none
noncomputable def A103 : FnA := ⟨[.v (.pair (.int .i64) (.pair (.sl (.int .i64)) (.pair (.sl (.int .i64)) (.sl (.pair (.int .i64) (.pair .str (.pair (.int .i64) (.int .i64)))))))), .v .bool], false, [.sl (.pair (.pair (.int .i64) (.sl (.int .i64))) .str), .bool], fun x => spec_l8Elements x.1 x.2.1⟩
theorem spec_l8Elements_eq : fnF E103 L103_3 [.v (.pair (.int .i64) (.pair (.sl (.int .i64)) (.pair (.sl (.int .i64)) (.sl (.pair (.int .i64) (.pair .str (.pair (.int .i64) (.int .i64)))))))), .v .bool] false [.sl (.pair (.pair (.int .i64) (.sl (.int .i64))) .str), .bool] f103.ntmps f103.results.toList (codeOf f103) = fun x => spec_l8Elements x.1 x.2.1 := by kernel_rfl
theorem A103_ok : FnOk prog 103 A103 := fo spec_l8Elements_eq func103 E103_ok (allCons (loop103_4 rfl) (allCons (loop103_11 rfl) allNil))
/-! spec.l8RawElementsOf -/
noncomputable def E75 : Env := ⟨ty0, fun g => ifEq g 62 (some A62) (ifEq g 103 (some A103) (none)), fun _ => none, fun _ => none, fun _ => none⟩
theorem E75_ok : FnsOk prog E75 := (oF A62_ok func62 (oF A103_ok func103 (noFns _ _)))
noncomputable def L75_0 : Nat → Option LoopD := fun _ => none
noncomputable def spec_l8RawElementsOf : (Int × ((List Int) × ((List Int) × (List (Int × (ByteArray × (Int × Int))))))) → Option ((List ((Int × (List Int)) × ByteArray)) × Bool) := fun (a0_0, a0_1, a0_2, a0_3) =>
 Option.bind (spec_AutomatonValid (a0_0, a0_1, a0_2, a0_3)) fun r0 =>
  bif (!r0) then
   some ((List.take 0 (List.drop 0 [])), false)
  else
   Option.bind (spec_l8Elements (a0_0, a0_1, a0_2, a0_3) true) fun (r1, r2) =>
    bif (!r2) then
     some ((List.take 0 (List.drop 0 [])), false)
    else
     some (r1, true)
noncomputable def A75 : FnA := ⟨[.v (.pair (.int .i64) (.pair (.sl (.int .i64)) (.pair (.sl (.int .i64)) (.sl (.pair (.int .i64) (.pair .str (.pair (.int .i64) (.int .i64))))))))], false, [.sl (.pair (.pair (.int .i64) (.sl (.int .i64))) .str), .bool], fun x => spec_l8RawElementsOf x.1⟩
theorem spec_l8RawElementsOf_eq : fnF E75 L75_0 [.v (.pair (.int .i64) (.pair (.sl (.int .i64)) (.pair (.sl (.int .i64)) (.sl (.pair (.int .i64) (.pair .str (.pair (.int .i64) (.int .i64))))))))] false [.sl (.pair (.pair (.int .i64) (.sl (.int .i64))) .str), .bool] f75.ntmps f75.results.toList (codeOf f75) = fun x => spec_l8RawElementsOf x.1 := by kernel_rfl
theorem A75_ok : FnOk prog 75 A75 := fo spec_l8RawElementsOf_eq func75 E75_ok allNil
/-! spec.l13OwnMatrix -/
noncomputable def E134 : Env := ⟨ty0, fun _ => none, fun _ => none, fun _ => none, fun _ => none⟩
theorem E134_ok : FnsOk prog E134 := (noFns _ _)
noncomputable def L134_0 : Nat → Option LoopD := fun _ => none
noncomputable def spec_l13OwnMatrix : (Int × (List Int)) → Option ((Int × (List Int))) := fun (a0_0, a0_1) =>
 if (((0 + 0) = (List.length ([] : List Unit))) ∧ (((0 + (List.length a0_1)) * 8) ≤ 140737488355328)) then
  some (a0_0, (List.take (0 + (List.length a0_1)) (List.drop 0 ((List.drop 0 []) ++ a0_1))))
 else
  none
noncomputable def A134 : FnA := ⟨[.v (.pair (.int .i64) (.sl (.int .i64)))], true, [.pair (.int .i64) (.sl (.int .i64))], fun x => spec_l13OwnMatrix x.1⟩
theorem spec_l13OwnMatrix_eq : fnF E134 L134_0 [.v (.pair (.int .i64) (.sl (.int .i64)))] true [.pair (.int .i64) (.sl (.int .i64))] f134.ntmps f134.results.toList (codeOf f134) = fun x => spec_l13OwnMatrix x.1 := by kernel_rfl
theorem A134_ok : FnOk prog 134 A134 := fo spec_l13OwnMatrix_eq func134 E134_ok allNil
/-! spec.l13OwnElement -/
noncomputable def E104 : Env := ⟨ty0, fun g => ifEq g 134 (some A134) (none), fun _ => none, fun _ => none, fun _ => none⟩
theorem E104_ok : FnsOk prog E104 := (oF A134_ok func134 (noFns _ _))
noncomputable def L104_0 : Nat → Option LoopD := fun _ => none
noncomputable def spec_l13OwnElement : ((Int × (List Int)) × ByteArray) → Option (((Int × (List Int)) × ByteArray)) := fun ((a0_0, a0_1), a0_2) =>
 Option.bind (spec_l13OwnMatrix (a0_0, a0_1)) fun (r0, r1) =>
  some ((r0, (List.take (List.length r1) (List.drop 0 r1))), a0_2)
noncomputable def A104 : FnA := ⟨[.v (.pair (.pair (.int .i64) (.sl (.int .i64))) .str)], true, [.pair (.pair (.int .i64) (.sl (.int .i64))) .str], fun x => spec_l13OwnElement x.1⟩
theorem spec_l13OwnElement_eq : fnF E104 L104_0 [.v (.pair (.pair (.int .i64) (.sl (.int .i64))) .str)] true [.pair (.pair (.int .i64) (.sl (.int .i64))) .str] f104.ntmps f104.results.toList (codeOf f104) = fun x => spec_l13OwnElement x.1 := by kernel_rfl
theorem A104_ok : FnOk prog 104 A104 := fo spec_l13OwnElement_eq func104 E104_ok allNil
/-! spec.l13OwnListElement -/
noncomputable def E76 : Env := ⟨ty0, fun g => ifEq g 104 (some A104) (none), fun _ => none, fun _ => none, fun _ => none⟩
theorem E76_ok : FnsOk prog E76 := (oF A104_ok func104 (noFns _ _))
noncomputable def L76_0 : Nat → Option LoopD := fun _ => none
def sh76_3 : List Fm := d :: d :: d :: .cell (.own (.pair (.pair (.int .i64) (.sl (.int .i64))) .str) 100300 false) :: d :: d :: d :: .cell (.val (.sl (.pair (.pair (.int .i64) (.sl (.int .i64))) .str))) :: .cell (.val (.int .i64)) :: .cell (.val (.int .i64)) :: D 10 []
def xs76_3 : List (Ex × List Fm) := [(.exit 0, (d :: d :: d :: .cell (.own (.pair (.pair (.int .i64) (.sl (.int .i64))) .str) 100300 false) :: D 16 []))]
noncomputable def spec_l13OwnListElement_l3 : ((List ((Int × (List Int)) × ByteArray)) × (List ((Int × (List Int)) × ByteArray)) × Int × Int × Unit) → Option (((List ((Int × (List Int)) × ByteArray)) × (List ((Int × (List Int)) × ByteArray)) × Int × Int × Unit) ⊕ (((List ((Int × (List Int)) × ByteArray)) × Unit))) := fun (v3, v7, v8, v9, _) =>
 bif (decide (v9 < v8)) then
  if (((0 : Int) ≤ v9) ∧ (v9 < (((List.length v7) : Nat) : Int))) then
   Option.bind (spec_l13OwnElement (((List.getD v7 (Int.toNat v9) (((0 : Int), []), (⟨Array.empty⟩ : ByteArray))).1.1, (List.getD v7 (Int.toNat v9) (((0 : Int), []), (⟨Array.empty⟩ : ByteArray))).1.2), (List.getD v7 (Int.toNat v9) (((0 : Int), []), (⟨Array.empty⟩ : ByteArray))).2)) fun ((r0, r1), r2) =>
    if (((0 + (List.length v3)) = (List.length v3)) ∧ ((((List.length v3) + (List.length (List.take 1 (List.drop 0 [((r0, (List.take (List.length r1) (List.drop 0 r1))), r2)])))) * 48) ≤ 140737488355328)) then
     some (Sum.inl ((List.take ((List.length v3) + (List.length (List.take 1 (List.drop 0 [((r0, (List.take (List.length r1) (List.drop 0 r1))), r2)])))) (List.drop 0 ((List.drop 0 v3) ++ (List.take 1 (List.drop 0 [((r0, (List.take (List.length r1) (List.drop 0 r1))), r2)]))))), v7, v8, (IntKind.wrap .i64 (v9 + (1 : Int))), ()))
    else
     none
  else
   none
 else
  some (Sum.inr ((List.take (List.length v3) (List.drop 0 v3)), ()))
theorem spec_l13OwnListElement_l3_eq : loopStep 20 E76 L76_0 (loopOf f76 3) sh76_3 xs76_3 = spec_l13OwnListElement_l3 := by kernel_rfl
theorem loop76_3 {L} (h : L 3 = some ⟨20, sh76_3, xs76_3, spec_l13OwnListElement_l3⟩) : LoopOk prog L (loopOf f76 3) := lo spec_l13OwnListElement_l3_eq E76_ok allNil h
noncomputable def L76_1 : Nat → Option LoopD := fun n => ifEq n 3 (some ⟨20, sh76_3, xs76_3, spec_l13OwnListElement_l3⟩) (L76_0 n)
noncomputable def spec_l13OwnListElement : (List ((Int × (List Int)) × ByteArray)) → Option ((List ((Int × (List Int)) × ByteArray))) := fun a0 =>
 Option.bind (loopF spec_l13OwnListElement_l3 ((List.take 0 (List.drop 0 [])), a0, (((List.length a0) : Nat) : Int), (0 : Int), ())) fun (r0, _) =>
  some (List.take (List.length r0) (List.drop 0 r0))
noncomputable def A76 : FnA := ⟨[.v (.sl (.pair (.pair (.int .i64) (.sl (.int .i64))) .str))], true, [.sl (.pair (.pair (.int .i64) (.sl (.int .i64))) .str)], fun x => spec_l13OwnListElement x.1⟩
theorem spec_l13OwnListElement_eq : fnF E76 L76_1 [.v (.sl (.pair (.pair (.int .i64) (.sl (.int .i64))) .str))] true [.sl (.pair (.pair (.int .i64) (.sl (.int .i64))) .str)] f76.ntmps f76.results.toList (codeOf f76) = fun x => spec_l13OwnListElement x.1 := by kernel_rfl
theorem A76_ok : FnOk prog 76 A76 := fo spec_l13OwnListElement_eq func76 E76_ok (allCons (loop76_3 rfl) allNil)
/-! spec.ElementsOf -/
noncomputable def E36 : Env := ⟨ty0, fun g => ifEq g 75 (some A75) (ifEq g 76 (some A76) (none)), fun _ => none, fun _ => none, fun _ => none⟩
theorem E36_ok : FnsOk prog E36 := (oF A75_ok func75 (oF A76_ok func76 (noFns _ _)))
noncomputable def L36_0 : Nat → Option LoopD := fun _ => none
noncomputable def spec_ElementsOf : (Int × ((List Int) × ((List Int) × (List (Int × (ByteArray × (Int × Int))))))) → Option ((List ((Int × (List Int)) × ByteArray)) × Bool) := fun (a0_0, a0_1, a0_2, a0_3) =>
 Option.bind (spec_l8RawElementsOf (a0_0, a0_1, a0_2, a0_3)) fun (r0, r1) =>
  Option.bind (spec_l13OwnListElement r0) fun r2 =>
   some ((List.take (List.length r2) (List.drop 0 r2)), r1)
noncomputable def A36 : FnA := ⟨[.v (.pair (.int .i64) (.pair (.sl (.int .i64)) (.pair (.sl (.int .i64)) (.sl (.pair (.int .i64) (.pair .str (.pair (.int .i64) (.int .i64))))))))], true, [.sl (.pair (.pair (.int .i64) (.sl (.int .i64))) .str), .bool], fun x => spec_ElementsOf x.1⟩
theorem spec_ElementsOf_eq : fnF E36 L36_0 [.v (.pair (.int .i64) (.pair (.sl (.int .i64)) (.pair (.sl (.int .i64)) (.sl (.pair (.int .i64) (.pair .str (.pair (.int .i64) (.int .i64))))))))] true [.sl (.pair (.pair (.int .i64) (.sl (.int .i64))) .str), .bool] f36.ntmps f36.results.toList (codeOf f36) = fun x => spec_ElementsOf x.1 := by kernel_rfl
theorem A36_ok : FnOk prog 36 A36 := fo spec_ElementsOf_eq func36 E36_ok allNil
/-! spec.l6Between -/
noncomputable def E37 : Env := ⟨ty0, fun _ => none, fun _ => none, fun _ => none, fun _ => none⟩
theorem E37_ok : FnsOk prog E37 := (noFns _ _)
noncomputable def L37_0 : Nat → Option LoopD := fun _ => none
def sh37_6 : List Fm := d :: d :: .box 100200 [.val (.int .i64), .val (.sl (.int .i64)), .val (.sl (.int .i64)), .val (.sl (.pair (.int .i64) (.pair .str (.pair (.int .i64) (.int .i64)))))] :: .box 100300 [.val (.int .i64), .val (.sl (.int .i64))] :: d :: .cell (.val (.int .i64)) :: d :: .cell (.val (.int .i64)) :: d :: d :: d :: .cell (.val (.sl (.int .i64))) :: .cell (.val (.int .i64)) :: .cell (.val (.int .i64)) :: D 4 (.cell (.val (.sl (.int .i64))) :: .cell (.val (.int .i64)) :: .cell (.val (.int .i64)) :: D 18 [])
def xs37_6 : List (Ex × List Fm) := [(.exit 2, [d, d, .box 100200 [.val (.int .i64), .val (.sl (.int .i64)), .val (.sl (.int .i64)), .val (.sl (.pair (.int .i64) (.pair .str (.pair (.int .i64) (.int .i64)))))], .box 100300 [.val (.int .i64), .val (.sl (.int .i64))], d, .cell (.val (.int .i64)), d, d, d, d, d, .cell (.val (.sl (.int .i64))), .cell (.val (.int .i64)), .cell (.val (.int .i64)), d, d, d, d, d, d, d, d, d, d, d, d, d, d, d, d, d, d, d, d, d, d, d, d, d])]
noncomputable def spec_l6Between_l6 : ((Int × (List Int) × (List Int) × (List (Int × (ByteArray × (Int × Int)))) × Unit) × (Int × (List Int) × Unit) × Int × Int × (List Int) × Int × Int × (List Int) × Int × Int × Unit) → Option (((Int × (List Int) × (List Int) × (List (Int × (ByteArray × (Int × Int)))) × Unit) × (Int × (List Int) × Unit) × Int × Int × (List Int) × Int × Int × (List Int) × Int × Int × Unit) ⊕ (((Int × (List Int) × (List Int) × (List (Int × (ByteArray × (Int × Int)))) × Unit) × (Int × (List Int) × Unit) × Int × (List Int) × Int × Int × Unit))) := fun ((v2_0, v2_1, v2_2, v2_3, _), (v3_0, v3_1, _), v5, v7, v11, v12, v13, v18, v19, v20, _) =>
 bif (decide (v20 < v19)) then
  if (((0 : Int) ≤ v20) ∧ (v20 < (((List.length v18) : Nat) : Int))) then
   if (((0 : Int) ≤ (IntKind.wrap .i64 ((IntKind.wrap .i64 (v7 * v2_0)) + (List.getD v18 (Int.toNat v20) (0 : Int))))) ∧ ((IntKind.wrap .i64 ((IntKind.wrap .i64 (v7 * v2_0)) + (List.getD v18 (Int.toNat v20) (0 : Int)))) < (((List.length v3_1) : Nat) : Int))) then
    some (Sum.inl ((v2_0, v2_1, v2_2, v2_3, ()), (v3_0, v3_1, ()), (if ((List.getD v3_1 (Int.toNat (IntKind.wrap .i64 ((IntKind.wrap .i64 (v7 * v2_0)) + (List.getD v18 (Int.toNat v20) (0 : Int))))) (0 : Int)) < v5) then (List.getD v3_1 (Int.toNat (IntKind.wrap .i64 ((IntKind.wrap .i64 (v7 * v2_0)) + (List.getD v18 (Int.toNat v20) (0 : Int))))) (0 : Int)) else v5), v7, v11, v12, v13, v18, v19, (IntKind.wrap .i64 (v20 + (1 : Int))), ()))
   else
    none
  else
   none
 else
  some (Sum.inr ((v2_0, v2_1, v2_2, v2_3, ()), (v3_0, v3_1, ()), v5, v11, v12, v13, ()))
theorem spec_l6Between_l6_eq : loopStep 39 E37 L37_0 (loopOf f37 6) sh37_6 xs37_6 = spec_l6Between_l6 := by kernel_rfl
theorem loop37_6 {L} (h : L 6 = some ⟨39, sh37_6, xs37_6, spec_l6Between_l6⟩) : LoopOk prog L (loopOf f37 6) := lo spec_l6Between_l6_eq E37_ok allNil h
noncomputable def L37_1 : Nat → Option LoopD := fun n => ifEq n 6 (some ⟨39, sh37_6, xs37_6, spec_l6Between_l6⟩) (L37_0 n)
def sh37_3 : List Fm := d :: d :: .box 100200 [.val (.int .i64), .val (.sl (.int .i64)), .val (.sl (.int .i64)), .val (.sl (.pair (.int .i64) (.pair .str (.pair (.int .i64) (.int .i64)))))] :: .box 100300 [.val (.int .i64), .val (.sl (.int .i64))] :: d :: .cell (.val (.int .i64)) :: D 5 (.cell (.val (.sl (.int .i64))) :: .cell (.val (.int .i64)) :: .cell (.val (.int .i64)) :: D 25 [])
def xs37_3 : List (Ex × List Fm) := [(.exit 0, (D 5 (.cell (.val (.int .i64)) :: D 33 [])))]
noncomputable def spec_l6Between_l3 : ((Int × (List Int) × (List Int) × (List (Int × (ByteArray × (Int × Int)))) × Unit) × (Int × (List Int) × Unit) × Int × (List Int) × Int × Int × Unit) → Option (((Int × (List Int) × (List Int) × (List (Int × (ByteArray × (Int × Int)))) × Unit) × (Int × (List Int) × Unit) × Int × (List Int) × Int × Int × Unit) ⊕ ((Int × Unit))) := fun ((v2_0, v2_1, v2_2, v2_3, _), (v3_0, v3_1, _), v5, v11, v12, v13, _) =>
 bif (decide (v13 < v12)) then
  if (((0 : Int) ≤ v13) ∧ (v13 < (((List.length v11) : Nat) : Int))) then
   Option.bind (loopF spec_l6Between_l6 ((v2_0, v2_1, v2_2, v2_3, ()), (v3_0, v3_1, ()), v5, (List.getD v11 (Int.toNat v13) (0 : Int)), v11, v12, v13, v2_2, (((List.length v2_2) : Nat) : Int), (0 : Int), ())) fun ((r0, r1, r2, r3, _), (r4, r5, _), r6, r7, r8, r9, _) =>
    some (Sum.inl ((r0, r1, r2, r3, ()), (r4, r5, ()), r6, r7, r8, (IntKind.wrap .i64 (r9 + (1 : Int))), ()))
  else
   none
 else
  some (Sum.inr (v5, ()))
theorem spec_l6Between_l3_eq : loopStep 39 E37 L37_1 (loopOf f37 3) sh37_3 xs37_3 = spec_l6Between_l3 := by kernel_rfl
theorem loop37_3 {L} (h : L 3 = some ⟨39, sh37_3, xs37_3, spec_l6Between_l3⟩) : LoopOk prog L (loopOf f37 3) := lo spec_l6Between_l3_eq E37_ok (allCons (loop37_6 rfl) allNil) h
noncomputable def L37_2 : Nat → Option LoopD := fun n => ifEq n 3 (some ⟨39, sh37_3, xs37_3, spec_l6Between_l3⟩) (L37_1 n)
noncomputable def spec_l6Between : (Int × ((List Int) × ((List Int) × (List (Int × (ByteArray × (Int × Int))))))) → (Int × (List Int)) → Option (Int) := fun (a0_0, a0_1, a0_2, a0_3) (a1_0, a1_1) =>
 Option.bind (loopF spec_l6Between_l3 ((a0_0, a0_1, a0_2, a0_3, ()), (a1_0, a1_1, ()), (3 : Int), a0_1, (((List.length a0_1) : Nat) : Int), (0 : Int), ())) fun (r0, _) =>
  some r0
noncomputable def A37 : FnA := ⟨[.v (.pair (.int .i64) (.pair (.sl (.int .i64)) (.pair (.sl (.int .i64)) (.sl (.pair (.int .i64) (.pair .str (.pair (.int .i64) (.int .i64)))))))), .v (.pair (.int .i64) (.sl (.int .i64)))], true, [.int .i64], fun x => spec_l6Between x.1 x.2.1⟩
theorem spec_l6Between_eq : fnF E37 L37_2 [.v (.pair (.int .i64) (.pair (.sl (.int .i64)) (.pair (.sl (.int .i64)) (.sl (.pair (.int .i64) (.pair .str (.pair (.int .i64) (.int .i64)))))))), .v (.pair (.int .i64) (.sl (.int .i64)))] true [.int .i64] f37.ntmps f37.results.toList (codeOf f37) = fun x => spec_l6Between x.1 x.2.1 := by kernel_rfl
theorem A37_ok : FnOk prog 37 A37 := fo spec_l6Between_eq func37 E37_ok (allCons (loop37_3 rfl) allNil)
/-! spec.GradesIn -/
noncomputable def E8 : Env := ⟨ty0, fun g => ifEq g 36 (some A36) (ifEq g 37 (some A37) (none)), fun _ => none, fun _ => none, fun _ => none⟩
theorem E8_ok : FnsOk prog E8 := (oF A36_ok func36 (oF A37_ok func37 (noFns _ _)))
noncomputable def L8_0 : Nat → Option LoopD := fun _ => none
def sh8_7 : List Fm := d :: .box 100100 [.val (.int .i64), .val (.sl (.int .i64)), .val (.sl (.int .i64)), .val (.sl (.pair (.int .i64) (.pair .str (.pair (.int .i64) (.int .i64)))))] :: d :: d :: .cell (.own (.int .i64) 100400 false) :: d :: d :: .box 100700 [.val .bool, .val .bool, .val .bool, .val .bool] :: D 13 (.cell (.own (.pair (.pair (.int .i64) (.sl (.int .i64))) .str) 102100 false) :: .cell (.val (.int .i64)) :: .cell (.val (.int .i64)) :: D 21 [])
def xs8_7 : List (Ex × List Fm) := [(.exit 0, [d, d, d, d, .cell (.own (.int .i64) 100400 false), d, d, .box 100700 [.val .bool, .val .bool, .val .bool, .val .bool], d, d, d, d, d, d, d, d, d, d, d, d, d, d, d, d, d, d, d, d, d, d, d, d, d, d, d, d, d, d, d, d, d, d, d, d, d])]
noncomputable def spec_GradesIn_l7 : ((Int × (List Int) × (List Int) × (List (Int × (ByteArray × (Int × Int)))) × Unit) × (List Int) × (Bool × Bool × Bool × Bool × Unit) × (List ((Int × (List Int)) × ByteArray)) × Int × Int × Unit) → Option (((Int × (List Int) × (List Int) × (List (Int × (ByteArray × (Int × Int)))) × Unit) × (List Int) × (Bool × Bool × Bool × Bool × Unit) × (List ((Int × (List Int)) × ByteArray)) × Int × Int × Unit) ⊕ (((List Int) × (Bool × Bool × Bool × Bool × Unit) × Unit))) := fun ((v1_0, v1_1, v1_2, v1_3, _), v4, (v7_0, v7_1, v7_2, v7_3, _), v21, v22, v23, _) =>
 bif (decide (v23 < v22)) then
  if (((0 : Int) ≤ v23) ∧ (v23 < (((List.length v21) : Nat) : Int))) then
   Option.bind (spec_l6Between (v1_0, v1_1, v1_2, v1_3) ((List.getD v21 (0 + (Int.toNat v23)) (((0 : Int), []), (⟨Array.empty⟩ : ByteArray))).1.1, (List.getD v21 (0 + (Int.toNat v23)) (((0 : Int), []), (⟨Array.empty⟩ : ByteArray))).1.2)) fun r0 =>
    if (((0 : Int) ≤ r0) ∧ (r0 < ((4 : Nat) : Int))) then
     some (Sum.inl ((v1_0, v1_1, v1_2, v1_3, ()), (List.take (List.length v4) (List.drop 0 v4)), ((bif (Nat.beq (Int.toNat r0) 0) then true else v7_0), (bif (Nat.beq (Int.toNat r0) (0 + 1)) then true else v7_1), (bif (Nat.beq (Int.toNat r0) ((0 + 1) + 1)) then true else v7_2), (bif (Nat.beq (Int.toNat r0) (((0 + 1) + 1) + 1)) then true else v7_3), ()), (List.take (List.length v21) (List.drop 0 v21)), v22, (IntKind.wrap .i64 (v23 + (1 : Int))), ()))
    else
     none
  else
   none
 else
  some (Sum.inr ((List.take (List.length v4) (List.drop 0 v4)), (v7_0, v7_1, v7_2, v7_3, ()), ()))
theorem spec_GradesIn_l7_eq : loopStep 45 E8 L8_0 (loopOf f8 7) sh8_7 xs8_7 = spec_GradesIn_l7 := by kernel_rfl
theorem loop8_7 {L} (h : L 7 = some ⟨45, sh8_7, xs8_7, spec_GradesIn_l7⟩) : LoopOk prog L (loopOf f8 7) := lo spec_GradesIn_l7_eq E8_ok allNil h
noncomputable def L8_1 : Nat → Option LoopD := fun n => ifEq n 7 (some ⟨45, sh8_7, xs8_7, spec_GradesIn_l7⟩) (L8_0 n)
def sh8_12 : List Fm := D 4 (.cell (.own (.int .i64) 100400 false) :: D 28 (.cell (.val (.pair .bool (.pair .bool (.pair .bool .bool)))) :: .cell (.val (.int .i64)) :: D 10 []))
def xs8_12 : List (Ex × List Fm) := [(.exit 2, (D 4 (.cell (.own (.int .i64) 100400 false) :: D 40 [])))]
noncomputable def spec_GradesIn_l12 : ((List Int) × (Bool × (Bool × (Bool × Bool))) × Int × Unit) → Option (((List Int) × (Bool × (Bool × (Bool × Bool))) × Int × Unit) ⊕ (((List Int) × Unit))) := fun (v4, (v33_0, v33_1, v33_2, v33_3), v34, _) =>
 bif (decide (v34 < (4 : Int))) then
  if (((0 : Int) ≤ v34) ∧ (v34 < ((4 : Nat) : Int))) then
   bif (List.getD [v33_0, v33_1, v33_2, v33_3] (Int.toNat v34) false) then
    if (((0 + (List.length v4)) = (List.length v4)) ∧ ((((List.length v4) + (List.length (List.take 1 (List.drop 0 [v34])))) * 8) ≤ 140737488355328)) then
     some (Sum.inl ((List.take ((List.length v4) + (List.length (List.take 1 (List.drop 0 [v34])))) (List.drop 0 ((List.drop 0 v4) ++ (List.take 1 (List.drop 0 [v34]))))), (v33_0, v33_1, v33_2, v33_3), (IntKind.wrap .i64 (v34 + (1 : Int))), ()))
    else
     none
   else
    some (Sum.inl ((List.take (List.length v4) (List.drop 0 v4)), (v33_0, v33_1, v33_2, v33_3), (IntKind.wrap .i64 (v34 + (1 : Int))), ()))
  else
   none
 else
  some (Sum.inr ((List.take (List.length v4) (List.drop 0 v4)), ()))
theorem spec_GradesIn_l12_eq : loopStep 45 E8 L8_1 (loopOf f8 12) sh8_12 xs8_12 = spec_GradesIn_l12 := by kernel_rfl
theorem loop8_12 {L} (h : L 12 = some ⟨45, sh8_12, xs8_12, spec_GradesIn_l12⟩) : LoopOk prog L (loopOf f8 12) := lo spec_GradesIn_l12_eq E8_ok allNil h
noncomputable def L8_2 : Nat → Option LoopD := fun n => ifEq n 12 (some ⟨45, sh8_12, xs8_12, spec_GradesIn_l12⟩) (L8_1 n)
noncomputable def spec_GradesIn : (Int × ((List Int) × ((List Int) × (List (Int × (ByteArray × (Int × Int))))))) → Option ((List Int) × Bool) := fun (a0_0, a0_1, a0_2, a0_3) =>
 Option.bind (spec_ElementsOf (a0_0, a0_1, a0_2, a0_3)) fun (r0, r1) =>
  bif (!r1) then
   some ((List.take 0 (List.drop 0 [])), false)
  else
   Option.bind (loopF spec_GradesIn_l7 ((a0_0, a0_1, a0_2, a0_3, ()), (List.take 0 (List.drop 0 [])), (false, false, false, false, ()), (List.take (List.length r0) (List.drop 0 r0)), (((List.length r0) : Nat) : Int), (0 : Int), ())) fun (r2, (r3, r4, r5, r6, _), _) =>
    Option.bind (loopF spec_GradesIn_l12 ((List.take (List.length r2) (List.drop 0 r2)), (r3, r4, r5, r6), (0 : Int), ())) fun (r7, _) =>
     some ((List.take (List.length r7) (List.drop 0 r7)), true)
noncomputable def A8 : FnA := ⟨[.v (.pair (.int .i64) (.pair (.sl (.int .i64)) (.pair (.sl (.int .i64)) (.sl (.pair (.int .i64) (.pair .str (.pair (.int .i64) (.int .i64))))))))], true, [.sl (.int .i64), .bool], fun x => spec_GradesIn x.1⟩
theorem spec_GradesIn_eq : fnF E8 L8_2 [.v (.pair (.int .i64) (.pair (.sl (.int .i64)) (.pair (.sl (.int .i64)) (.sl (.pair (.int .i64) (.pair .str (.pair (.int .i64) (.int .i64))))))))] true [.sl (.int .i64), .bool] f8.ntmps f8.results.toList (codeOf f8) = fun x => spec_GradesIn x.1 := by kernel_rfl
theorem A8_ok : FnOk prog 8 A8 := fo spec_GradesIn_eq func8 E8_ok (allCons (loop8_7 rfl) (allCons (loop8_12 rfl) allNil))
/-! spec.l4In -/
noncomputable def E63 : Env := ⟨ty0, fun _ => none, fun _ => none, fun _ => none, fun _ => none⟩
theorem E63_ok : FnsOk prog E63 := (noFns _ _)
noncomputable def L63_0 : Nat → Option LoopD := fun _ => none
def sh63_2 : List Fm := d :: .cell (.val (.int .i64)) :: D 5 (.cell (.val (.sl (.int .i64))) :: .cell (.val (.int .i64)) :: .cell (.val (.int .i64)) :: D 7 [])
def xs63_2 : List (Ex × List Fm) := [(.ret, (D 4 (.cell (.val .bool) :: D 12 []))), (.exit 0, (D 17 []))]
noncomputable def spec_l4In_l2 : (Int × (List Int) × Int × Int × Unit) → Option ((Int × (List Int) × Int × Int × Unit) ⊕ ((Bool × Unit) ⊕ (Unit))) := fun (v1, v7, v8, v9, _) =>
 bif (decide (v9 < v8)) then
  if (((0 : Int) ≤ v9) ∧ (v9 < (((List.length v7) : Nat) : Int))) then
   bif ((List.getD v7 (Int.toNat v9) (0 : Int)) == v1) then
    some (Sum.inr (Sum.inl (true, ())))
   else
    some (Sum.inl (v1, v7, v8, (IntKind.wrap .i64 (v9 + (1 : Int))), ()))
  else
   none
 else
  some (Sum.inr (Sum.inr ()))
theorem spec_l4In_l2_eq : loopStep 17 E63 L63_0 (loopOf f63 2) sh63_2 xs63_2 = spec_l4In_l2 := by kernel_rfl
theorem loop63_2 {L} (h : L 2 = some ⟨17, sh63_2, xs63_2, spec_l4In_l2⟩) : LoopOk prog L (loopOf f63 2) := lo spec_l4In_l2_eq E63_ok allNil h
noncomputable def L63_1 : Nat → Option LoopD := fun n => ifEq n 2 (some ⟨17, sh63_2, xs63_2, spec_l4In_l2⟩) (L63_0 n)
noncomputable def spec_l4In : (List Int) → Int → Option (Bool) := fun a0 a1 =>
 Option.bind (loopF spec_l4In_l2 (a1, a0, (((List.length a0) : Nat) : Int), (0 : Int), ())) fun r0 =>
  (match r0 with
  | .inl (d1, _) =>
    some d1
  | .inr _ =>
    some false)
noncomputable def A63 : FnA := ⟨[.v (.sl (.int .i64)), .v (.int .i64)], true, [.bool], fun x => spec_l4In x.1 x.2.1⟩
theorem spec_l4In_eq : fnF E63 L63_1 [.v (.sl (.int .i64)), .v (.int .i64)] true [.bool] f63.ntmps f63.results.toList (codeOf f63) = fun x => spec_l4In x.1 x.2.1 := by kernel_rfl
theorem A63_ok : FnOk prog 63 A63 := fo spec_l4In_eq func63 E63_ok (allCons (loop63_2 rfl) allNil)
/-! spec.l5Empty -/
noncomputable def E64 : Env := ⟨ty0, fun g => ifEq g 63 (some A63) (none), fun _ => none, fun _ => none, fun _ => none⟩
theorem E64_ok : FnsOk prog E64 := (oF A63_ok func63 (noFns _ _))
noncomputable def L64_0 : Nat → Option LoopD := fun _ => none
def sh64_2 : List Fm := d :: .box 100100 [.val (.int .i64), .val (.sl (.int .i64)), .val (.sl (.int .i64)), .val (.sl (.pair (.int .i64) (.pair .str (.pair (.int .i64) (.int .i64)))))] :: D 4 (.cell (.val (.sl (.int .i64))) :: .cell (.val (.int .i64)) :: .cell (.val (.int .i64)) :: D 8 [])
def xs64_2 : List (Ex × List Fm) := [(.ret, (d :: d :: .cell (.val .bool) :: D 14 [])), (.exit 0, (D 17 []))]
noncomputable def spec_l5Empty_l2 : ((Int × (List Int) × (List Int) × (List (Int × (ByteArray × (Int × Int)))) × Unit) × (List Int) × Int × Int × Unit) → Option (((Int × (List Int) × (List Int) × (List (Int × (ByteArray × (Int × Int)))) × Unit) × (List Int) × Int × Int × Unit) ⊕ ((Bool × Unit) ⊕ (Unit))) := fun ((v1_0, v1_1, v1_2, v1_3, _), v6, v7, v8, _) =>
 bif (decide (v8 < v7)) then
  if (((0 : Int) ≤ v8) ∧ (v8 < (((List.length v6) : Nat) : Int))) then
   Option.bind (spec_l4In v1_2 (List.getD v6 (Int.toNat v8) (0 : Int))) fun r0 =>
    bif r0 then
     some (Sum.inr (Sum.inl (true, ())))
    else
     some (Sum.inl ((v1_0, v1_1, v1_2, v1_3, ()), v6, v7, (IntKind.wrap .i64 (v8 + (1 : Int))), ()))
  else
   none
 else
  some (Sum.inr (Sum.inr ()))
theorem spec_l5Empty_l2_eq : loopStep 17 E64 L64_0 (loopOf f64 2) sh64_2 xs64_2 = spec_l5Empty_l2 := by kernel_rfl
theorem loop64_2 {L} (h : L 2 = some ⟨17, sh64_2, xs64_2, spec_l5Empty_l2⟩) : LoopOk prog L (loopOf f64 2) := lo spec_l5Empty_l2_eq E64_ok allNil h
noncomputable def L64_1 : Nat → Option LoopD := fun n => ifEq n 2 (some ⟨17, sh64_2, xs64_2, spec_l5Empty_l2⟩) (L64_0 n)
noncomputable def spec_l5Empty : (Int × ((List Int) × ((List Int) × (List (Int × (ByteArray × (Int × Int))))))) → Option (Bool) := fun (a0_0, a0_1, a0_2, a0_3) =>
 Option.bind (loopF spec_l5Empty_l2 ((a0_0, a0_1, a0_2, a0_3, ()), a0_1, (((List.length a0_1) : Nat) : Int), (0 : Int), ())) fun r0 =>
  (match r0 with
  | .inl (d1, _) =>
    some d1
  | .inr _ =>
    some false)
noncomputable def A64 : FnA := ⟨[.v (.pair (.int .i64) (.pair (.sl (.int .i64)) (.pair (.sl (.int .i64)) (.sl (.pair (.int .i64) (.pair .str (.pair (.int .i64) (.int .i64))))))))], true, [.bool], fun x => spec_l5Empty x.1⟩
theorem spec_l5Empty_eq : fnF E64 L64_1 [.v (.pair (.int .i64) (.pair (.sl (.int .i64)) (.pair (.sl (.int .i64)) (.sl (.pair (.int .i64) (.pair .str (.pair (.int .i64) (.int .i64))))))))] true [.bool] f64.ntmps f64.results.toList (codeOf f64) = fun x => spec_l5Empty x.1 := by kernel_rfl
theorem A64_ok : FnOk prog 64 A64 := fo spec_l5Empty_eq func64 E64_ok (allCons (loop64_2 rfl) allNil)
/-! spec.VerdictOf -/
noncomputable def E25 : Env := ⟨ty0, fun g => ifEq g 8 (some A8) (ifEq g 62 (some A62) (ifEq g 63 (some A63) (ifEq g 64 (some A64) (none)))), fun _ => none, fun _ => none, fun _ => none⟩
theorem E25_ok : FnsOk prog E25 := (oF A8_ok func8 (oF A62_ok func62 (oF A63_ok func63 (oF A64_ok func64 (noFns _ _)))))
noncomputable def L25_0 : Nat → Option LoopD := fun _ => none
noncomputable def spec_VerdictOf : (Int × ((List Int) × ((List Int) × (List (Int × (ByteArray × (Int × Int))))))) → Option (ByteArray) := fun (a0_0, a0_1, a0_2, a0_3) =>
 Option.bind (spec_GradesIn (a0_0, a0_1, a0_2, a0_3)) fun (r0, r1) =>
  Option.bind (spec_AutomatonValid (a0_0, a0_1, a0_2, a0_3)) fun r2 =>
   bif (!r2) then
    some (⟨#[]⟩ : ByteArray)
   else
    bif (!r1) then
     some (⟨#[(117 : UInt8), (110 : UInt8), (107 : UInt8), (110 : UInt8), (111 : UInt8), (119 : UInt8), (110 : UInt8)]⟩ : ByteArray)
    else
     Option.bind (spec_l4In (List.take (List.length r0) (List.drop 0 r0)) (2 : Int)) fun r3 =>
      bif r3 then
       some (⟨#[(103 : UInt8), (114 : UInt8), (111 : UInt8), (119 : UInt8), (105 : UInt8), (110 : UInt8), (103 : UInt8)]⟩ : ByteArray)
      else
       Option.bind (spec_l4In (List.take (List.length r0) (List.drop 0 r0)) (1 : Int)) fun r4 =>
        bif r4 then
         some (⟨#[(98 : UInt8), (111 : UInt8), (117 : UInt8), (110 : UInt8), (100 : UInt8), (101 : UInt8), (100 : UInt8)]⟩ : ByteArray)
        else
         Option.bind (spec_l4In (List.take (List.length r0) (List.drop 0 r0)) (0 : Int)) fun r5 =>
          bif r5 then
           some (⟨#[(102 : UInt8), (114 : UInt8), (101 : UInt8), (101 : UInt8)]⟩ : ByteArray)
          else
           Option.bind (spec_l5Empty (a0_0, a0_1, a0_2, a0_3)) fun r6 =>
            bif r6 then
             some (⟨#[(102 : UInt8), (114 : UInt8), (101 : UInt8), (101 : UInt8)]⟩ : ByteArray)
            else
             some (⟨#[(110 : UInt8), (111 : UInt8), (110 : UInt8), (101 : UInt8)]⟩ : ByteArray)
noncomputable def A25 : FnA := ⟨[.v (.pair (.int .i64) (.pair (.sl (.int .i64)) (.pair (.sl (.int .i64)) (.sl (.pair (.int .i64) (.pair .str (.pair (.int .i64) (.int .i64))))))))], true, [.str], fun x => spec_VerdictOf x.1⟩
theorem spec_VerdictOf_eq : fnF E25 L25_0 [.v (.pair (.int .i64) (.pair (.sl (.int .i64)) (.pair (.sl (.int .i64)) (.sl (.pair (.int .i64) (.pair .str (.pair (.int .i64) (.int .i64))))))))] true [.str] f25.ntmps f25.results.toList (codeOf f25) = fun x => spec_VerdictOf x.1 := by kernel_rfl
theorem A25_ok : FnOk prog 25 A25 := fo spec_VerdictOf_eq func25 E25_ok allNil
/-! impl.statesOk -/
noncomputable def E68 : Env := ⟨ty0, fun _ => none, fun _ => none, fun _ => none, fun _ => none⟩
theorem E68_ok : FnsOk prog E68 := (noFns _ _)
noncomputable def L68_0 : Nat → Option LoopD := fun _ => none
def sh68_2 : List Fm := .cell (.val (.sl (.int .i64))) :: .cell (.val (.int .i64)) :: D 5 (.cell (.val (.sl (.int .i64))) :: .cell (.val (.int .i64)) :: .cell (.val (.int .i64)) :: D 25 [])
def xs68_2 : List (Ex × List Fm) := [(.ret, (D 4 (.cell (.val .bool) :: D 30 []))), (.exit 0, (D 35 []))]
noncomputable def impl_statesOk_l2 : ((List Int) × Int × (List Int) × Int × Int × Unit) → Option (((List Int) × Int × (List Int) × Int × Int × Unit) ⊕ ((Bool × Unit) ⊕ (Unit))) := fun (v0, v1, v7, v8, v9, _) =>
 bif (decide (v9 < v8)) then
  if (((0 : Int) ≤ v9) ∧ (v9 < (((List.length v7) : Nat) : Int))) then
   bif (decide ((List.getD v7 (Int.toNat v9) (0 : Int)) < (0 : Int))) then
    some (Sum.inr (Sum.inl (false, ())))
   else
    bif (decide ((List.getD v7 (Int.toNat v9) (0 : Int)) ≥ v1)) then
     some (Sum.inr (Sum.inl (false, ())))
    else
     bif (decide (v9 > (0 : Int))) then
      if (((0 : Int) ≤ (IntKind.wrap .i64 (v9 - (1 : Int)))) ∧ ((IntKind.wrap .i64 (v9 - (1 : Int))) < (((List.length v0) : Nat) : Int))) then
       bif (decide ((List.getD v0 (Int.toNat (IntKind.wrap .i64 (v9 - (1 : Int)))) (0 : Int)) ≥ (List.getD v7 (Int.toNat v9) (0 : Int)))) then
        some (Sum.inr (Sum.inl (false, ())))
       else
        some (Sum.inl (v0, v1, v7, v8, (IntKind.wrap .i64 (v9 + (1 : Int))), ()))
      else
       none
     else
      some (Sum.inl (v0, v1, v7, v8, (IntKind.wrap .i64 (v9 + (1 : Int))), ()))
  else
   none
 else
  some (Sum.inr (Sum.inr ()))
theorem impl_statesOk_l2_eq : loopStep 35 E68 L68_0 (loopOf f68 2) sh68_2 xs68_2 = impl_statesOk_l2 := by kernel_rfl
theorem loop68_2 {L} (h : L 2 = some ⟨35, sh68_2, xs68_2, impl_statesOk_l2⟩) : LoopOk prog L (loopOf f68 2) := lo impl_statesOk_l2_eq E68_ok allNil h
noncomputable def L68_1 : Nat → Option LoopD := fun n => ifEq n 2 (some ⟨35, sh68_2, xs68_2, impl_statesOk_l2⟩) (L68_0 n)
noncomputable def impl_statesOk : (List Int) → Int → Option (Bool) := fun a0 a1 =>
 Option.bind (loopF impl_statesOk_l2 (a0, a1, a0, (((List.length a0) : Nat) : Int), (0 : Int), ())) fun r0 =>
  (match r0 with
  | .inl (d1, _) =>
    some d1
  | .inr _ =>
    some true)
noncomputable def A68 : FnA := ⟨[.v (.sl (.int .i64)), .v (.int .i64)], true, [.bool], fun x => impl_statesOk x.1 x.2.1⟩
theorem impl_statesOk_eq : fnF E68 L68_1 [.v (.sl (.int .i64)), .v (.int .i64)] true [.bool] f68.ntmps f68.results.toList (codeOf f68) = fun x => impl_statesOk x.1 x.2.1 := by kernel_rfl
theorem A68_ok : FnOk prog 68 A68 := fo impl_statesOk_eq func68 E68_ok (allCons (loop68_2 rfl) allNil)
/-! cmp.isNaN[int] -/
noncomputable def E128 : Env := ⟨ty0, fun _ => none, fun _ => none, fun _ => none, fun _ => none⟩
theorem E128_ok : FnsOk prog E128 := (noFns _ _)
noncomputable def L128_0 : Nat → Option LoopD := fun _ => none
noncomputable def cmp_isNaN : Int → Option (Bool) := fun a0 =>
 some (a0 != a0)
noncomputable def A128 : FnA := ⟨[.v (.int .i64)], true, [.bool], fun x => cmp_isNaN x.1⟩
theorem cmp_isNaN_eq : fnF E128 L128_0 [.v (.int .i64)] true [.bool] f128.ntmps f128.results.toList (codeOf f128) = fun x => cmp_isNaN x.1 := by kernel_rfl
theorem A128_ok : FnOk prog 128 A128 := fo cmp_isNaN_eq func128 E128_ok allNil
/-! cmp.Compare[int] -/
noncomputable def E100 : Env := ⟨ty0, fun g => ifEq g 128 (some A128) (none), fun _ => none, fun _ => none, fun _ => none⟩
theorem E100_ok : FnsOk prog E100 := (oF A128_ok func128 (noFns _ _))
noncomputable def L100_0 : Nat → Option LoopD := fun _ => none
noncomputable def cmp_Compare : Int → Int → Option (Int) := fun a0 a1 =>
 Option.bind (cmp_isNaN a0) fun r0 =>
  Option.bind (cmp_isNaN a1) fun r1 =>
   bif r0 then
    bif r1 then
     some (0 : Int)
    else
     some (-1 : Int)
   else
    bif r1 then
     some (1 : Int)
    else
     bif (decide (a0 < a1)) then
      some (-1 : Int)
     else
      bif (decide (a0 > a1)) then
       some (1 : Int)
      else
       some (0 : Int)
noncomputable def A100 : FnA := ⟨[.v (.int .i64), .v (.int .i64)], true, [.int .i64], fun x => cmp_Compare x.1 x.2.1⟩
theorem cmp_Compare_eq : fnF E100 L100_0 [.v (.int .i64), .v (.int .i64)] true [.int .i64] f100.ntmps f100.results.toList (codeOf f100) = fun x => cmp_Compare x.1 x.2.1 := by kernel_rfl
theorem A100_ok : FnOk prog 100 A100 := fo cmp_Compare_eq func100 E100_ok allNil
/-! cmp.Or[int] -/
noncomputable def E99 : Env := ⟨ty0, fun _ => none, fun _ => none, fun _ => none, fun _ => none⟩
theorem E99_ok : FnsOk prog E99 := (noFns _ _)
noncomputable def L99_0 : Nat → Option LoopD := fun _ => none
def sh99_3 : List Fm := d :: d :: d :: .cell (.val (.int .i64)) :: d :: d :: .cell (.val (.sl (.int .i64))) :: .cell (.val (.int .i64)) :: .cell (.val (.int .i64)) :: D 9 []
def xs99_3 : List (Ex × List Fm) := [(.ret, (d :: d :: .cell (.val (.int .i64)) :: D 15 [])), (.exit 0, (d :: d :: d :: .cell (.val (.int .i64)) :: D 14 []))]
noncomputable def cmp_Or_l3 : (Int × (List Int) × Int × Int × Unit) → Option ((Int × (List Int) × Int × Int × Unit) ⊕ ((Int × Unit) ⊕ (Int × Unit))) := fun (v3, v6, v7, v8, _) =>
 bif (decide (v8 < v7)) then
  if (((0 : Int) ≤ v8) ∧ (v8 < (((List.length v6) : Nat) : Int))) then
   bif ((List.getD v6 (Int.toNat v8) (0 : Int)) != v3) then
    some (Sum.inr (Sum.inl ((List.getD v6 (Int.toNat v8) (0 : Int)), ())))
   else
    some (Sum.inl (v3, v6, v7, (IntKind.wrap .i64 (v8 + (1 : Int))), ()))
  else
   none
 else
  some (Sum.inr (Sum.inr (v3, ())))
theorem cmp_Or_l3_eq : loopStep 18 E99 L99_0 (loopOf f99 3) sh99_3 xs99_3 = cmp_Or_l3 := by kernel_rfl
theorem loop99_3 {L} (h : L 3 = some ⟨18, sh99_3, xs99_3, cmp_Or_l3⟩) : LoopOk prog L (loopOf f99 3) := lo cmp_Or_l3_eq E99_ok allNil h
noncomputable def L99_1 : Nat → Option LoopD := fun n => ifEq n 3 (some ⟨18, sh99_3, xs99_3, cmp_Or_l3⟩) (L99_0 n)
noncomputable def cmp_Or : (List Int) → Option (Int) := fun a0 =>
 Option.bind (loopF cmp_Or_l3 ((0 : Int), a0, (((List.length a0) : Nat) : Int), (0 : Int), ())) fun r0 =>
  (match r0 with
  | .inl (d1, _) =>
    some d1
  | .inr (d2, _) =>
    some d2)
noncomputable def A99 : FnA := ⟨[.v (.sl (.int .i64))], true, [.int .i64], fun x => cmp_Or x.1⟩
theorem cmp_Or_eq : fnF E99 L99_1 [.v (.sl (.int .i64))] true [.int .i64] f99.ntmps f99.results.toList (codeOf f99) = fun x => cmp_Or x.1 := by kernel_rfl
theorem A99_ok : FnOk prog 99 A99 := fo cmp_Or_eq func99 E99_ok (allCons (loop99_3 rfl) allNil)
/-! impl.stepOrder -/
noncomputable def E69 : Env := ⟨ty0, fun g => ifEq g 100 (some A100) (ifEq g 101 (some A101) (ifEq g 99 (some A99) (none))), fun _ => none, fun _ => none, fun _ => none⟩
theorem E69_ok : FnsOk prog E69 := (oF A100_ok func100 (oF A101_ok func101 (oF A99_ok func99 (noFns _ _))))
noncomputable def L69_0 : Nat → Option LoopD := fun _ => none
noncomputable def impl_stepOrder : (Int × (ByteArray × (Int × Int))) → (Int × (ByteArray × (Int × Int))) → Option (Int) := fun (a0_0, a0_1, a0_2, a0_3) (a1_0, a1_1, a1_2, a1_3) =>
 Option.bind (cmp_Compare a0_0 a1_0) fun r0 =>
  Option.bind (strings_Compare a0_1 a1_1) fun r1 =>
   Option.bind (cmp_Compare a0_2 a1_2) fun r2 =>
    Option.bind (cmp_Or (List.take 3 (List.drop 0 [r0, r1, r2]))) fun r3 =>
     some r3
noncomputable def A69 : FnA := ⟨[.v (.pair (.int .i64) (.pair .str (.pair (.int .i64) (.int .i64)))), .v (.pair (.int .i64) (.pair .str (.pair (.int .i64) (.int .i64))))], true, [.int .i64], fun x => impl_stepOrder x.1 x.2.1⟩
theorem impl_stepOrder_eq : fnF E69 L69_0 [.v (.pair (.int .i64) (.pair .str (.pair (.int .i64) (.int .i64)))), .v (.pair (.int .i64) (.pair .str (.pair (.int .i64) (.int .i64))))] true [.int .i64] f69.ntmps f69.results.toList (codeOf f69) = fun x => impl_stepOrder x.1 x.2.1 := by kernel_rfl
theorem A69_ok : FnOk prog 69 A69 := fo impl_stepOrder_eq func69 E69_ok allNil
/-! impl.AutomatonValid -/
noncomputable def E28 : Env := ⟨ty0, fun g => ifEq g 68 (some A68) (ifEq g 69 (some A69) (none)), fun _ => none, fun _ => none, fun _ => none⟩
theorem E28_ok : FnsOk prog E28 := (oF A68_ok func68 (oF A69_ok func69 (noFns _ _)))
noncomputable def L28_0 : Nat → Option LoopD := fun _ => none
def sh28_4 : List Fm := d :: .box 100100 [.val (.int .i64), .val (.sl (.int .i64)), .val (.sl (.int .i64)), .val (.sl (.pair (.int .i64) (.pair .str (.pair (.int .i64) (.int .i64)))))] :: D 34 (.cell (.val (.sl (.pair (.int .i64) (.pair .str (.pair (.int .i64) (.int .i64)))))) :: .cell (.val (.int .i64)) :: .cell (.val (.int .i64)) :: D 62 [])
def xs28_4 : List (Ex × List Fm) := [(.ret, (d :: d :: .cell (.val .bool) :: D 98 [])), (.exit 0, (D 101 []))]
noncomputable def impl_AutomatonValid_l4 : ((Int × (List Int) × (List Int) × (List (Int × (ByteArray × (Int × Int)))) × Unit) × (List (Int × (ByteArray × (Int × Int)))) × Int × Int × Unit) → Option (((Int × (List Int) × (List Int) × (List (Int × (ByteArray × (Int × Int)))) × Unit) × (List (Int × (ByteArray × (Int × Int)))) × Int × Int × Unit) ⊕ ((Bool × Unit) ⊕ (Unit))) := fun ((v1_0, v1_1, v1_2, v1_3, _), v36, v37, v38, _) =>
 bif (decide (v38 < v37)) then
  if (((0 : Int) ≤ v38) ∧ (v38 < (((List.length v36) : Nat) : Int))) then
   bif (decide ((List.getD v36 (Int.toNat v38) ((0 : Int), (⟨Array.empty⟩ : ByteArray), (0 : Int), (0 : Int))).1 < (0 : Int))) then
    some (Sum.inr (Sum.inl (false, ())))
   else
    bif (decide ((List.getD v36 (Int.toNat v38) ((0 : Int), (⟨Array.empty⟩ : ByteArray), (0 : Int), (0 : Int))).1 ≥ v1_0)) then
     some (Sum.inr (Sum.inl (false, ())))
    else
     bif (decide ((List.getD v36 (Int.toNat v38) ((0 : Int), (⟨Array.empty⟩ : ByteArray), (0 : Int), (0 : Int))).2.2.1 < (0 : Int))) then
      some (Sum.inr (Sum.inl (false, ())))
     else
      bif (decide ((List.getD v36 (Int.toNat v38) ((0 : Int), (⟨Array.empty⟩ : ByteArray), (0 : Int), (0 : Int))).2.2.1 ≥ v1_0)) then
       some (Sum.inr (Sum.inl (false, ())))
      else
       bif (!((ByteArray.toList (List.getD v36 (Int.toNat v38) ((0 : Int), (⟨Array.empty⟩ : ByteArray), (0 : Int), (0 : Int))).2.1) == (ByteArray.toList (⟨#[(97 : UInt8)]⟩ : ByteArray)))) then
        bif (!((ByteArray.toList (List.getD v36 (Int.toNat v38) ((0 : Int), (⟨Array.empty⟩ : ByteArray), (0 : Int), (0 : Int))).2.1) == (ByteArray.toList (⟨#[(98 : UInt8)]⟩ : ByteArray)))) then
         some (Sum.inr (Sum.inl (false, ())))
        else
         bif (decide ((List.getD v36 (Int.toNat v38) ((0 : Int), (⟨Array.empty⟩ : ByteArray), (0 : Int), (0 : Int))).2.2.2 < (0 : Int))) then
          some (Sum.inr (Sum.inl (false, ())))
         else
          bif (decide ((List.getD v36 (Int.toNat v38) ((0 : Int), (⟨Array.empty⟩ : ByteArray), (0 : Int), (0 : Int))).2.2.2 > (3 : Int))) then
           some (Sum.inr (Sum.inl (false, ())))
          else
           bif (decide (v38 > (0 : Int))) then
            if (((0 : Int) ≤ (IntKind.wrap .i64 (v38 - (1 : Int)))) ∧ ((IntKind.wrap .i64 (v38 - (1 : Int))) < (((List.length v1_3) : Nat) : Int))) then
             Option.bind (impl_stepOrder (List.getD v1_3 (Int.toNat (IntKind.wrap .i64 (v38 - (1 : Int)))) ((0 : Int), (⟨Array.empty⟩ : ByteArray), (0 : Int), (0 : Int))) ((List.getD v36 (Int.toNat v38) ((0 : Int), (⟨Array.empty⟩ : ByteArray), (0 : Int), (0 : Int))).1, (List.getD v36 (Int.toNat v38) ((0 : Int), (⟨Array.empty⟩ : ByteArray), (0 : Int), (0 : Int))).2.1, (List.getD v36 (Int.toNat v38) ((0 : Int), (⟨Array.empty⟩ : ByteArray), (0 : Int), (0 : Int))).2.2.1, (List.getD v36 (Int.toNat v38) ((0 : Int), (⟨Array.empty⟩ : ByteArray), (0 : Int), (0 : Int))).2.2.2)) fun r0 =>
              bif (decide (r0 ≥ (0 : Int))) then
               some (Sum.inr (Sum.inl (false, ())))
              else
               some (Sum.inl ((v1_0, v1_1, v1_2, v1_3, ()), v36, v37, (IntKind.wrap .i64 (v38 + (1 : Int))), ()))
            else
             none
           else
            some (Sum.inl ((v1_0, v1_1, v1_2, v1_3, ()), v36, v37, (IntKind.wrap .i64 (v38 + (1 : Int))), ()))
       else
        bif (decide ((List.getD v36 (Int.toNat v38) ((0 : Int), (⟨Array.empty⟩ : ByteArray), (0 : Int), (0 : Int))).2.2.2 < (0 : Int))) then
         some (Sum.inr (Sum.inl (false, ())))
        else
         bif (decide ((List.getD v36 (Int.toNat v38) ((0 : Int), (⟨Array.empty⟩ : ByteArray), (0 : Int), (0 : Int))).2.2.2 > (3 : Int))) then
          some (Sum.inr (Sum.inl (false, ())))
         else
          bif (decide (v38 > (0 : Int))) then
           if (((0 : Int) ≤ (IntKind.wrap .i64 (v38 - (1 : Int)))) ∧ ((IntKind.wrap .i64 (v38 - (1 : Int))) < (((List.length v1_3) : Nat) : Int))) then
            Option.bind (impl_stepOrder (List.getD v1_3 (Int.toNat (IntKind.wrap .i64 (v38 - (1 : Int)))) ((0 : Int), (⟨Array.empty⟩ : ByteArray), (0 : Int), (0 : Int))) ((List.getD v36 (Int.toNat v38) ((0 : Int), (⟨Array.empty⟩ : ByteArray), (0 : Int), (0 : Int))).1, (List.getD v36 (Int.toNat v38) ((0 : Int), (⟨Array.empty⟩ : ByteArray), (0 : Int), (0 : Int))).2.1, (List.getD v36 (Int.toNat v38) ((0 : Int), (⟨Array.empty⟩ : ByteArray), (0 : Int), (0 : Int))).2.2.1, (List.getD v36 (Int.toNat v38) ((0 : Int), (⟨Array.empty⟩ : ByteArray), (0 : Int), (0 : Int))).2.2.2)) fun r1 =>
             bif (decide (r1 ≥ (0 : Int))) then
              some (Sum.inr (Sum.inl (false, ())))
             else
              some (Sum.inl ((v1_0, v1_1, v1_2, v1_3, ()), v36, v37, (IntKind.wrap .i64 (v38 + (1 : Int))), ()))
           else
            none
          else
           some (Sum.inl ((v1_0, v1_1, v1_2, v1_3, ()), v36, v37, (IntKind.wrap .i64 (v38 + (1 : Int))), ()))
  else
   none
 else
  some (Sum.inr (Sum.inr ()))
theorem impl_AutomatonValid_l4_eq : loopStep 101 E28 L28_0 (loopOf f28 4) sh28_4 xs28_4 = impl_AutomatonValid_l4 := by kernel_rfl
theorem loop28_4 {L} (h : L 4 = some ⟨101, sh28_4, xs28_4, impl_AutomatonValid_l4⟩) : LoopOk prog L (loopOf f28 4) := lo impl_AutomatonValid_l4_eq E28_ok allNil h
noncomputable def L28_1 : Nat → Option LoopD := fun n => ifEq n 4 (some ⟨101, sh28_4, xs28_4, impl_AutomatonValid_l4⟩) (L28_0 n)
noncomputable def impl_AutomatonValid : (Int × ((List Int) × ((List Int) × (List (Int × (ByteArray × (Int × Int))))))) → Option (Bool) := fun (a0_0, a0_1, a0_2, a0_3) =>
 bif (decide (a0_0 < (1 : Int))) then
  some false
 else
  bif (decide (a0_0 > (4 : Int))) then
   some false
  else
   bif (decide ((((List.length a0_3) : Nat) : Int) > (24 : Int))) then
    some false
   else
    Option.bind (impl_statesOk a0_1 a0_0) fun r0 =>
     bif (!r0) then
      some false
     else
      Option.bind (impl_statesOk a0_2 a0_0) fun r1 =>
       bif (!r1) then
        some false
       else
        Option.bind (loopF impl_AutomatonValid_l4 ((a0_0, a0_1, a0_2, a0_3, ()), a0_3, (((List.length a0_3) : Nat) : Int), (0 : Int), ())) fun r2 =>
         (match r2 with
         | .inl (d3, _) =>
           some d3
         | .inr _ =>
           some true)
noncomputable def A28 : FnA := ⟨[.v (.pair (.int .i64) (.pair (.sl (.int .i64)) (.pair (.sl (.int .i64)) (.sl (.pair (.int .i64) (.pair .str (.pair (.int .i64) (.int .i64))))))))], true, [.bool], fun x => impl_AutomatonValid x.1⟩
theorem impl_AutomatonValid_eq : fnF E28 L28_1 [.v (.pair (.int .i64) (.pair (.sl (.int .i64)) (.pair (.sl (.int .i64)) (.sl (.pair (.int .i64) (.pair .str (.pair (.int .i64) (.int .i64))))))))] true [.bool] f28.ntmps f28.results.toList (codeOf f28) = fun x => impl_AutomatonValid x.1 := by kernel_rfl
theorem A28_ok : FnOk prog 28 A28 := fo impl_AutomatonValid_eq func28 E28_ok (allCons (loop28_4 rfl) allNil)
/-! internal/stringslite.HasPrefix -/
noncomputable def E144 : Env := ⟨ty0, fun _ => none, fun _ => none, fun _ => none, fun _ => none⟩
theorem E144_ok : FnsOk prog E144 := (noFns _ _)
noncomputable def L144_0 : Nat → Option LoopD := fun _ => none
noncomputable def internal_stringslite_HasPrefix : ByteArray → ByteArray → Option (Bool) := fun a0 a1 =>
 bif (decide ((((ByteArray.size a0) : Nat) : Int) ≥ (((ByteArray.size a1) : Nat) : Int))) then
  if (((0 : Int) ≤ (((ByteArray.size a1) : Nat) : Int)) ∧ ((((ByteArray.size a1) : Nat) : Int) ≤ (((ByteArray.size a0) : Nat) : Int))) then
   some ((ByteArray.toList (ByteArray.extract a0 0 (Int.toNat (((ByteArray.size a1) : Nat) : Int)))) == (ByteArray.toList a1))
  else
   none
 else
  some false
noncomputable def A144 : FnA := ⟨[.v .str, .v .str], true, [.bool], fun x => internal_stringslite_HasPrefix x.1 x.2.1⟩
theorem internal_stringslite_HasPrefix_eq : fnF E144 L144_0 [.v .str, .v .str] true [.bool] f144.ntmps f144.results.toList (codeOf f144) = fun x => internal_stringslite_HasPrefix x.1 x.2.1 := by kernel_rfl
theorem A144_ok : FnOk prog 144 A144 := fo internal_stringslite_HasPrefix_eq func144 E144_ok allNil
/-! strings.HasPrefix -/
noncomputable def E124 : Env := ⟨ty0, fun g => ifEq g 144 (some A144) (none), fun _ => none, fun _ => none, fun _ => none⟩
theorem E124_ok : FnsOk prog E124 := (oF A144_ok func144 (noFns _ _))
noncomputable def L124_0 : Nat → Option LoopD := fun _ => none
noncomputable def strings_HasPrefix : ByteArray → ByteArray → Option (Bool) := fun a0 a1 =>
 Option.bind (internal_stringslite_HasPrefix a0 a1) fun r0 =>
  some r0
noncomputable def A124 : FnA := ⟨[.v .str, .v .str], true, [.bool], fun x => strings_HasPrefix x.1 x.2.1⟩
theorem strings_HasPrefix_eq : fnF E124 L124_0 [.v .str, .v .str] true [.bool] f124.ntmps f124.results.toList (codeOf f124) = fun x => strings_HasPrefix x.1 x.2.1 := by kernel_rfl
theorem A124_ok : FnOk prog 124 A124 := fo strings_HasPrefix_eq func124 E124_ok allNil
/-! impl.readParts -/
noncomputable def R88 (impl_readParts_rec : ByteArray → Option ((List (ByteArray × PT)) × ByteArray)) : FnA := ⟨[.v .str], true, [.sl (.pair .str .pt), .str], fun x => impl_readParts_rec x.1⟩
noncomputable def E88 (impl_readParts_rec : ByteArray → Option ((List (ByteArray × PT)) × ByteArray)) : Env := ⟨ty0, fun g => ifEq g 88 (some (R88 impl_readParts_rec)) (ifEq g 124 (some A124) (none)), fun _ => none, fun _ => none, fun _ => none⟩
theorem E88_ok (impl_readParts_rec : ByteArray → Option ((List (ByteArray × PT)) × ByteArray)) (hrec : FnOk prog 88 (R88 impl_readParts_rec)) : FnsOk prog (E88 impl_readParts_rec) := (oF hrec func88 (oF A124_ok func124 (noFns _ _)))
noncomputable def L88_0 (impl_readParts_rec : ByteArray → Option ((List (ByteArray × PT)) × ByteArray)) : Nat → Option LoopD := fun _ => none
def sh88_2 : List Fm := .cell (.val .str) :: d :: d :: d :: .cell (.own (.pair .str .pt) 100400 false) :: D 44 []
def xs88_2 : List (Ex × List Fm) := [(.ret, (d :: d :: .cell (.own (.pair .str .pt) 100200 false) :: .cell (.val .str) :: D 45 [])), (.exit 0, (.cell (.val .str) :: d :: d :: d :: .cell (.own (.pair .str .pt) 100400 false) :: D 44 []))]
noncomputable def impl_readParts_l2 (impl_readParts_rec : ByteArray → Option ((List (ByteArray × PT)) × ByteArray)) : (ByteArray × (List (ByteArray × PT)) × Unit) → Option ((ByteArray × (List (ByteArray × PT)) × Unit) ⊕ (((List (ByteArray × PT)) × ByteArray × Unit) ⊕ (ByteArray × (List (ByteArray × PT)) × Unit))) := fun (v0, v4, _) =>
 bif (!((ByteArray.toList v0) == (ByteArray.toList (⟨#[]⟩ : ByteArray)))) then
  if (((0 : Int) ≤ (0 : Int)) ∧ ((0 : Int) < (((ByteArray.size v0) : Nat) : Int))) then
   bif ((((UInt8.toNat (Array.getD (ByteArray.data v0) (Int.toNat (0 : Int)) (0 : UInt8))) : Nat) : Int) == (97 : Int)) then
    bif ((((UInt8.toNat (Array.getD (ByteArray.data v0) (Int.toNat (0 : Int)) (0 : UInt8))) : Nat) : Int) == (97 : Int)) then
     if (((0 : Int) ≤ (1 : Int)) ∧ ((1 : Int) ≤ (((ByteArray.size v0) : Nat) : Int))) then
      if (((0 + (List.length v4)) = (List.length v4)) ∧ ((((List.length v4) + (List.length (List.take 1 (List.drop 0 [((ByteArray.extract v0 0 (Int.toNat (1 : Int))), (PT.mk []))])))) * 40) ≤ 140737488355328)) then
       if (((0 : Int) ≤ (1 : Int)) ∧ ((1 : Int) ≤ (((ByteArray.size v0) : Nat) : Int))) then
        some (Sum.inl ((ByteArray.extract v0 (Int.toNat (1 : Int)) (ByteArray.size v0)), (List.take ((List.length v4) + (List.length (List.take 1 (List.drop 0 [((ByteArray.extract v0 0 (Int.toNat (1 : Int))), (PT.mk []))])))) (List.drop 0 ((List.drop 0 v4) ++ (List.take 1 (List.drop 0 [((ByteArray.extract v0 0 (Int.toNat (1 : Int))), (PT.mk []))]))))), ()))
       else
        none
      else
       none
     else
      none
    else
     bif ((((UInt8.toNat (Array.getD (ByteArray.data v0) (Int.toNat (0 : Int)) (0 : UInt8))) : Nat) : Int) == (40 : Int)) then
      if (((0 : Int) ≤ (1 : Int)) ∧ ((1 : Int) ≤ (((ByteArray.size v0) : Nat) : Int))) then
       Option.bind (impl_readParts_rec (ByteArray.extract v0 (Int.toNat (1 : Int)) (ByteArray.size v0))) fun (r0, r1) =>
        bif (decide ((((List.length r0) : Nat) : Int) > (0 : Int))) then
         Option.bind (strings_HasPrefix r1 (⟨#[(41 : UInt8), (35 : UInt8)]⟩ : ByteArray)) fun r2 =>
          bif r2 then
           if (((0 + (List.length v4)) = (List.length v4)) ∧ ((((List.length v4) + (List.length (List.take 1 (List.drop 0 [((⟨Array.empty⟩ : ByteArray), (PT.mk (List.take (List.length r0) (List.drop 0 r0))))])))) * 40) ≤ 140737488355328)) then
            if (((0 : Int) ≤ (2 : Int)) ∧ ((2 : Int) ≤ (((ByteArray.size r1) : Nat) : Int))) then
             some (Sum.inl ((ByteArray.extract r1 (Int.toNat (2 : Int)) (ByteArray.size r1)), (List.take ((List.length v4) + (List.length (List.take 1 (List.drop 0 [((⟨Array.empty⟩ : ByteArray), (PT.mk (List.take (List.length r0) (List.drop 0 r0))))])))) (List.drop 0 ((List.drop 0 v4) ++ (List.take 1 (List.drop 0 [((⟨Array.empty⟩ : ByteArray), (PT.mk (List.take (List.length r0) (List.drop 0 r0))))]))))), ()))
            else
             none
           else
            none
          else
           some (Sum.inr (Sum.inl ((List.take (List.length v4) (List.drop 0 v4)), v0, ())))
        else
         some (Sum.inr (Sum.inl ((List.take (List.length v4) (List.drop 0 v4)), v0, ())))
      else
       none
     else
      some (Sum.inr (Sum.inl ((List.take (List.length v4) (List.drop 0 v4)), v0, ())))
   else
    bif ((((UInt8.toNat (Array.getD (ByteArray.data v0) (Int.toNat (0 : Int)) (0 : UInt8))) : Nat) : Int) == (98 : Int)) then
     if (((0 : Int) ≤ (1 : Int)) ∧ ((1 : Int) ≤ (((ByteArray.size v0) : Nat) : Int))) then
      if (((0 + (List.length v4)) = (List.length v4)) ∧ ((((List.length v4) + (List.length (List.take 1 (List.drop 0 [((ByteArray.extract v0 0 (Int.toNat (1 : Int))), (PT.mk []))])))) * 40) ≤ 140737488355328)) then
       if (((0 : Int) ≤ (1 : Int)) ∧ ((1 : Int) ≤ (((ByteArray.size v0) : Nat) : Int))) then
        some (Sum.inl ((ByteArray.extract v0 (Int.toNat (1 : Int)) (ByteArray.size v0)), (List.take ((List.length v4) + (List.length (List.take 1 (List.drop 0 [((ByteArray.extract v0 0 (Int.toNat (1 : Int))), (PT.mk []))])))) (List.drop 0 ((List.drop 0 v4) ++ (List.take 1 (List.drop 0 [((ByteArray.extract v0 0 (Int.toNat (1 : Int))), (PT.mk []))]))))), ()))
       else
        none
      else
       none
     else
      none
    else
     bif ((((UInt8.toNat (Array.getD (ByteArray.data v0) (Int.toNat (0 : Int)) (0 : UInt8))) : Nat) : Int) == (40 : Int)) then
      if (((0 : Int) ≤ (1 : Int)) ∧ ((1 : Int) ≤ (((ByteArray.size v0) : Nat) : Int))) then
       Option.bind (impl_readParts_rec (ByteArray.extract v0 (Int.toNat (1 : Int)) (ByteArray.size v0))) fun (r3, r4) =>
        bif (decide ((((List.length r3) : Nat) : Int) > (0 : Int))) then
         Option.bind (strings_HasPrefix r4 (⟨#[(41 : UInt8), (35 : UInt8)]⟩ : ByteArray)) fun r5 =>
          bif r5 then
           if (((0 + (List.length v4)) = (List.length v4)) ∧ ((((List.length v4) + (List.length (List.take 1 (List.drop 0 [((⟨Array.empty⟩ : ByteArray), (PT.mk (List.take (List.length r3) (List.drop 0 r3))))])))) * 40) ≤ 140737488355328)) then
            if (((0 : Int) ≤ (2 : Int)) ∧ ((2 : Int) ≤ (((ByteArray.size r4) : Nat) : Int))) then
             some (Sum.inl ((ByteArray.extract r4 (Int.toNat (2 : Int)) (ByteArray.size r4)), (List.take ((List.length v4) + (List.length (List.take 1 (List.drop 0 [((⟨Array.empty⟩ : ByteArray), (PT.mk (List.take (List.length r3) (List.drop 0 r3))))])))) (List.drop 0 ((List.drop 0 v4) ++ (List.take 1 (List.drop 0 [((⟨Array.empty⟩ : ByteArray), (PT.mk (List.take (List.length r3) (List.drop 0 r3))))]))))), ()))
            else
             none
           else
            none
          else
           some (Sum.inr (Sum.inl ((List.take (List.length v4) (List.drop 0 v4)), v0, ())))
        else
         some (Sum.inr (Sum.inl ((List.take (List.length v4) (List.drop 0 v4)), v0, ())))
      else
       none
     else
      some (Sum.inr (Sum.inl ((List.take (List.length v4) (List.drop 0 v4)), v0, ())))
  else
   none
 else
  some (Sum.inr (Sum.inr (v0, (List.take (List.length v4) (List.drop 0 v4)), ())))
theorem impl_readParts_l2_eq (impl_readParts_rec : ByteArray → Option ((List (ByteArray × PT)) × ByteArray)) : loopStep 49 (E88 impl_readParts_rec) (L88_0 impl_readParts_rec) (loopOf f88 2) sh88_2 xs88_2 = (impl_readParts_l2 impl_readParts_rec) := by kernel_rfl
theorem loop88_2 (impl_readParts_rec : ByteArray → Option ((List (ByteArray × PT)) × ByteArray)) (hrec : FnOk prog 88 (R88 impl_readParts_rec)) {L : Nat → Option LoopD} (h : L 2 = some ⟨49, sh88_2, xs88_2, (impl_readParts_l2 impl_readParts_rec)⟩) : LoopOk prog L (loopOf f88 2) :=
 loopOk (tysOk_of tyl_ok) (E88_ok impl_readParts_rec hrec) (codeOk_in (L := (L88_0 impl_readParts_rec)) (tysOk_of tyl_ok) (E88_ok impl_readParts_rec hrec) mixed (c := loopOf f88 2) (bs := []) (by kernel_rfl) allNil (by kernel_rfl)) (by kernel_rfl) (by kernel_rfl) (impl_readParts_l2_eq impl_readParts_rec) (by rw [show firstId (loopOf f88 2) = 2 from by kernel_rfl]; exact h)
noncomputable def L88_1 (impl_readParts_rec : ByteArray → Option ((List (ByteArray × PT)) × ByteArray)) : Nat → Option LoopD := fun n => ifEq n 2 (some ⟨49, sh88_2, xs88_2, (impl_readParts_l2 impl_readParts_rec)⟩) ((L88_0 impl_readParts_rec) n)
noncomputable def impl_readParts_step (impl_readParts_rec : ByteArray → Option ((List (ByteArray × PT)) × ByteArray)) : ByteArray → Option ((List (ByteArray × PT)) × ByteArray) := fun a0 =>
 Option.bind (loopF (impl_readParts_l2 impl_readParts_rec) (a0, (List.take 0 (List.drop 0 [])), ())) fun r0 =>
  (match r0 with
  | .inl (d1, d2, _) =>
    some ((List.take (List.length d1) (List.drop 0 d1)), d2)
  | .inr (d3, d4, _) =>
    some ((List.take (List.length d4) (List.drop 0 d4)), d3))
theorem impl_readParts_step_eq (impl_readParts_rec : ByteArray → Option ((List (ByteArray × PT)) × ByteArray)) : fnF (E88 impl_readParts_rec) (L88_1 impl_readParts_rec) [.v .str] true [.sl (.pair .str .pt), .str] f88.ntmps f88.results.toList (codeOf f88) = fun x => (impl_readParts_step impl_readParts_rec) x.1 := by kernel_rfl
theorem impl_readParts_step_ok (impl_readParts_rec : ByteArray → Option ((List (ByteArray × PT)) × ByteArray)) (hrec : FnOk prog 88 (R88 impl_readParts_rec)) : FnOk prog 88 ⟨[.v .str], true, [.sl (.pair .str .pt), .str], fun x => (impl_readParts_step impl_readParts_rec) x.1⟩ := by
 have h := fnOk_of_run (P := prog) (E := (E88 impl_readParts_rec)) (tysOk_of tyl_ok) (E88_ok impl_readParts_rec hrec) (L := (L88_1 impl_readParts_rec)) (ps := [.v .str]) (own := true) (outs := [.sl (.pair .str .pt), .str]) func88 (c := codeOf f88) (by kernel_rfl) (codeOk_in (L := (L88_1 impl_readParts_rec)) (tysOk_of tyl_ok) (E88_ok impl_readParts_rec hrec) mixed (c := codeOf f88) (bs := [loopOf f88 2]) (by kernel_rfl) (allCons (loop88_2 impl_readParts_rec hrec rfl) allNil) (by kernel_rfl))
 rw [(impl_readParts_step_eq impl_readParts_rec)] at h
 exact h
/-- so many calls within each other -/
noncomputable def impl_readParts_fuel : Nat → ByteArray → Option ((List (ByteArray × PT)) × ByteArray)
 | 0 => fun _ => none
 | n + 1 => impl_readParts_step (impl_readParts_fuel n)
theorem impl_readParts_fuel_ok : ∀ n, FnOk prog 88 (R88 (impl_readParts_fuel n))
 | 0 => fun xs r h => by cases h
 | n + 1 => impl_readParts_step_ok (impl_readParts_fuel n) (impl_readParts_fuel_ok n)
noncomputable def impl_readParts : ByteArray → Option ((List (ByteArray × PT)) × ByteArray) := impl_readParts_fuel 200
noncomputable def A88 : FnA := R88 impl_readParts
theorem A88_ok : FnOk prog 88 A88 := impl_readParts_fuel_ok 200
end Go.Proofs.YtcmcjhdccnbmoaaGreat
