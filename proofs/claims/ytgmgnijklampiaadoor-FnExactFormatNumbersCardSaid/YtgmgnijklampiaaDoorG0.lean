/- What Go functions that the laws reach compute, and that they do: written by a program of this session. -/
import Derived.Test.YtgmgnijklampiaaDoorCmp
import Derived.Test.YtgmgnijklampiaaDoorRep
import Derived.KernelRfl
set_option linter.unusedVariables false
namespace Go.Proofs.YtgmgnijklampiaaDoor
open Go Go.Proofs.YtgmgnijklampiaaDoor.Am Go.Proofs.Tryd
set_option maxRecDepth 100000
def tyl : List (Nat × TyD) := [(3, {kd := .int .i64}),
 (4, {kd := .bool}),
 (5, {kd := .int .u8}),
 (9, {kd := .str}),
 (22, {kd := .sl (.int .i64), elt := .int .i64, bytes := 8}),
 (27, {kd := .sl (.int .u8), elt := .int .u8, bytes := 1}),
 (46, {kd := .sl .str, elt := .str, bytes := 16})]
def ty0 : Nat → Option TyD := assoc tyl
theorem tyl_ok : tysOkB prog tyl = true := by kernel_rfl
theorem mixed : prog.follows .mixedOrders = true := by kernel_rfl
def D : Nat → List Fm → List Fm
 | 0, l => l
 | n + 1, l => .cell .drop :: D n l
theorem oF {g : Nat} {f : FnA} {fn : Func} {ty : Nat → Option TyD} {rest : Nat → Option FnA} {ms : Nat → Option FnM} {bs : Nat → Option FnB} {il : Nat → Option (Nat × CallD)} (h : FnOk prog g f) (hf : prog.funcs[g]? = some fn) (hr : FnsOk prog ⟨ty, rest, ms, bs, il⟩)
  (h1 : (fn.name == "runtime.NumGoroutine") = false := by kernel_rfl) (h2 : fn.body.isSome = true := by kernel_rfl) : FnsOk prog ⟨ty, fun n => ifEq n g (some f) (rest n), ms, bs, il⟩ := oneFn h hf h1 h2 hr
theorem tyk {E : Env} (h : E.ty = ty0) : TysOk prog E := by
 obtain ⟨ty, fn, ms, bs, il⟩ := E
 obtain rfl : ty = ty0 := h
 exact tysOk_of tyl_ok
theorem fo {E : Env} {L : Nat → Option LoopD} {g : Nat} {fn : Func} {ps : List Prm} {own : Bool} {outs : List Kd} {F : PrmsT ps → Option (OutsT outs)} {bs : List Code} (he : fnF E L ps own outs fn.ntmps fn.results.toList (codeOf fn) = F) (hf : prog.funcs[g]? = some fn) (hF : FnsOk prog E)
  (hs : ∀ b ∈ bs, LoopOk prog L b) (hb : fn.body = some (codeOf fn) := by kernel_rfl) (hl : loopsOf (codeOf fn) = bs := by kernel_rfl) (hd : drawsB E (drawsOf (codeOf fn)) = true := by kernel_rfl) (hE : E.ty = ty0 := by rfl) : FnOk prog g ⟨ps, own, outs, F⟩ := by
 have h := fnOk_of_run (P := prog) (tyk hE) hF (L := L) (ps := ps) (own := own) (outs := outs) hf hb (codeOk_in (tyk hE) hF mixed hl hs hd)
 rw [he] at h
 exact h
theorem lo {E : Env} {L L' : Nat → Option LoopD} {n i : Nat} {b : Code} {bs : List Code} {sh : List Fm} {xs : List (Ex × List Fm)} {f : FmsT sh → Option (FmsT sh ⊕ XsT xs)} (he : loopStep n E L' b sh xs = f) (hF : FnsOk prog E)
  (hs : ∀ b ∈ bs, LoopOk prog L' b) (h : L i = some ⟨n, sh, xs, f⟩) (hl : loopsOf b = bs := by kernel_rfl) (hd : drawsB E (drawsOf b) = true := by kernel_rfl) (h1 : nodupN (toksF sh) = true := by kernel_rfl) (h2 : okXs xs = true := by kernel_rfl) (hi : firstId b = i := by kernel_rfl) (hE : E.ty = ty0 := by rfl) : LoopOk prog L b :=
 loopOk (tyk hE) hF (codeOk_in (tyk hE) hF mixed hl hs hd) h1 h2 he (by rw [hi]; exact h)
abbrev d : Fm := .cell .drop
/-! laws.toIntS -/
noncomputable def E6 : Env := ⟨ty0, fun _ => none, fun _ => none, fun _ => none, fun _ => none⟩
theorem E6_ok : FnsOk prog E6 := (noFns _ _)
noncomputable def L6_0 : Nat → Option LoopD := fun _ => none
def sh6_3 : List Fm := .cell (.val (.sl (.int .i64))) :: d :: d :: .cell (.own (.int .i64) 100300 false) :: .cell (.val (.int .i64)) :: D 17 []
def xs6_3 : List (Ex × List Fm) := [(.exit 0, (d :: d :: d :: .cell (.own (.int .i64) 100300 false) :: D 18 []))]
noncomputable def laws_toIntS_l3 : ((List Int) × (List Int) × Int × Unit) → Option (((List Int) × (List Int) × Int × Unit) ⊕ (((List Int) × Unit))) := fun (v0, v3, v4, _) =>
 bif (decide (v4 < (((List.length v0) : Nat) : Int))) then
  if (((0 : Int) ≤ v4) ∧ (v4 < (((List.length v0) : Nat) : Int))) then
   if (((0 : Int) ≤ v4) ∧ (v4 < (((List.length v3) : Nat) : Int))) then
    some (Sum.inl (v0, (List.take (List.length v3) (List.drop 0 (List.set v3 (0 + (Int.toNat v4)) (List.getD v0 (Int.toNat v4) (0 : Int))))), (IntKind.wrap .i64 (v4 + (1 : Int))), ()))
   else
    none
  else
   none
 else
  some (Sum.inr ((List.take (List.length v3) (List.drop 0 v3)), ()))
theorem laws_toIntS_l3_eq : loopStep 22 E6 L6_0 (loopOf f6 3) sh6_3 xs6_3 = laws_toIntS_l3 := by kernel_rfl
theorem loop6_3 {L} (h : L 3 = some ⟨22, sh6_3, xs6_3, laws_toIntS_l3⟩) : LoopOk prog L (loopOf f6 3) := lo laws_toIntS_l3_eq E6_ok allNil h
noncomputable def L6_1 : Nat → Option LoopD := fun n => ifEq n 3 (some ⟨22, sh6_3, xs6_3, laws_toIntS_l3⟩) (L6_0 n)
noncomputable def laws_toIntS : (List Int) → Option ((List Int)) := fun a0 =>
 if (((0 : Int) ≤ (((List.length a0) : Nat) : Int)) ∧ (((((List.length a0) : Nat) : Int) = (((List.length a0) : Nat) : Int)) ∧ (((((List.length a0) : Nat) : Int) * ((8 : Nat) : Int)) ≤ (140737488355328 : Int)))) then
  Option.bind (loopF laws_toIntS_l3 (a0, (List.take (Int.toNat (((List.length a0) : Nat) : Int)) (List.drop 0 (List.replicate (Int.toNat (((List.length a0) : Nat) : Int)) (0 : Int)))), (0 : Int), ())) fun (r0, _) =>
   some (List.take (List.length r0) (List.drop 0 r0))
 else
  none
noncomputable def A6 : FnA := ⟨[.v (.sl (.int .i64))], true, [.sl (.int .i64)], fun x => laws_toIntS x.1⟩
theorem laws_toIntS_eq : fnF E6 L6_1 [.v (.sl (.int .i64))] true [.sl (.int .i64)] f6.ntmps f6.results.toList (codeOf f6) = fun x => laws_toIntS x.1 := by kernel_rfl
theorem A6_ok : FnOk prog 6 A6 := fo laws_toIntS_eq func6 E6_ok (allCons (loop6_3 rfl) allNil)
/-! spec.l13Dec -/
noncomputable def R27 (spec_l13Dec_rec : Int → Option (ByteArray)) : FnA := ⟨[.v (.int .i64)], true, [.str], fun x => spec_l13Dec_rec x.1⟩
noncomputable def E27 (spec_l13Dec_rec : Int → Option (ByteArray)) : Env := ⟨ty0, fun g => ifEq g 27 (some (R27 spec_l13Dec_rec)) (none), fun _ => none, fun _ => none, fun _ => none⟩
theorem E27_ok (spec_l13Dec_rec : Int → Option (ByteArray)) (hrec : FnOk prog 27 (R27 spec_l13Dec_rec)) : FnsOk prog (E27 spec_l13Dec_rec) := (oF hrec func27 (noFns _ _))
noncomputable def L27_0 (spec_l13Dec_rec : Int → Option (ByteArray)) : Nat → Option LoopD := fun _ => none
def sh27_6 : List Fm := .cell (.val (.int .i64)) :: d :: d :: .cell (.val .str) :: D 27 []
def xs27_6 : List (Ex × List Fm) := [(.exit 0, (.cell (.val (.int .i64)) :: d :: d :: .cell (.val .str) :: D 27 []))]
noncomputable def spec_l13Dec_l6 (spec_l13Dec_rec : Int → Option (ByteArray)) : (Int × ByteArray × Unit) → Option ((Int × ByteArray × Unit) ⊕ ((Int × ByteArray × Unit))) := fun (v0, v3, _) =>
 bif (decide (v0 > (9 : Int))) then
  if ((10 : Int) = (0 : Int)) then
   none
  else
   if (((ByteArray.size (strOfNums (List.take 1 (List.drop 0 [(IntKind.wrap .u8 (IntKind.wrap .i64 ((48 : Int) + (Int.tmod v0 (10 : Int)))))])))) + (ByteArray.size v3)) ≤ 9223372036854775807) then
    if ((10 : Int) = (0 : Int)) then
     none
    else
     some (Sum.inl ((IntKind.wrap .i64 (Int.tdiv v0 (10 : Int))), ((strOfNums (List.take 1 (List.drop 0 [(IntKind.wrap .u8 (IntKind.wrap .i64 ((48 : Int) + (Int.tmod v0 (10 : Int)))))]))) ++ v3), ()))
   else
    none
 else
  some (Sum.inr (v0, v3, ()))
theorem spec_l13Dec_l6_eq (spec_l13Dec_rec : Int → Option (ByteArray)) : loopStep 31 (E27 spec_l13Dec_rec) (L27_0 spec_l13Dec_rec) (loopOf f27 6) sh27_6 xs27_6 = (spec_l13Dec_l6 spec_l13Dec_rec) := by kernel_rfl
theorem loop27_6 (spec_l13Dec_rec : Int → Option (ByteArray)) (hrec : FnOk prog 27 (R27 spec_l13Dec_rec)) {L : Nat → Option LoopD} (h : L 6 = some ⟨31, sh27_6, xs27_6, (spec_l13Dec_l6 spec_l13Dec_rec)⟩) : LoopOk prog L (loopOf f27 6) :=
 loopOk (tysOk_of tyl_ok) (E27_ok spec_l13Dec_rec hrec) (codeOk_in (L := (L27_0 spec_l13Dec_rec)) (tysOk_of tyl_ok) (E27_ok spec_l13Dec_rec hrec) mixed (c := loopOf f27 6) (bs := []) (by kernel_rfl) allNil (by kernel_rfl)) (by kernel_rfl) (by kernel_rfl) (spec_l13Dec_l6_eq spec_l13Dec_rec) (by rw [show firstId (loopOf f27 6) = 6 from by kernel_rfl]; exact h)
noncomputable def L27_1 (spec_l13Dec_rec : Int → Option (ByteArray)) : Nat → Option LoopD := fun n => ifEq n 6 (some ⟨31, sh27_6, xs27_6, (spec_l13Dec_l6 spec_l13Dec_rec)⟩) ((L27_0 spec_l13Dec_rec) n)
noncomputable def spec_l13Dec_step (spec_l13Dec_rec : Int → Option (ByteArray)) : Int → Option (ByteArray) := fun a0 =>
 bif (decide (a0 < (-9223372036854775807 : Int))) then
  some (⟨#[(45 : UInt8), (57 : UInt8), (50 : UInt8), (50 : UInt8), (51 : UInt8), (51 : UInt8), (55 : UInt8), (50 : UInt8), (48 : UInt8), (51 : UInt8), (54 : UInt8), (56 : UInt8), (53 : UInt8), (52 : UInt8), (55 : UInt8), (55 : UInt8), (53 : UInt8), (56 : UInt8), (48 : UInt8), (56 : UInt8)]⟩ : ByteArray)
 else
  bif (decide (a0 < (0 : Int))) then
   Option.bind (spec_l13Dec_rec (IntKind.wrap .i64 ((0 : Int) - a0))) fun r0 =>
    if (((ByteArray.size (⟨#[(45 : UInt8)]⟩ : ByteArray)) + (ByteArray.size r0)) ≤ 9223372036854775807) then
     some ((⟨#[(45 : UInt8)]⟩ : ByteArray) ++ r0)
    else
     none
  else
   Option.bind (loopF (spec_l13Dec_l6 spec_l13Dec_rec) (a0, (⟨#[]⟩ : ByteArray), ())) fun (r1, r2, _) =>
    if (((ByteArray.size (strOfNums (List.take 1 (List.drop 0 [(IntKind.wrap .u8 (IntKind.wrap .i64 ((48 : Int) + r1)))])))) + (ByteArray.size r2)) ≤ 9223372036854775807) then
     some ((strOfNums (List.take 1 (List.drop 0 [(IntKind.wrap .u8 (IntKind.wrap .i64 ((48 : Int) + r1)))]))) ++ r2)
    else
     none
theorem spec_l13Dec_step_eq (spec_l13Dec_rec : Int → Option (ByteArray)) : fnF (E27 spec_l13Dec_rec) (L27_1 spec_l13Dec_rec) [.v (.int .i64)] true [.str] f27.ntmps f27.results.toList (codeOf f27) = fun x => (spec_l13Dec_step spec_l13Dec_rec) x.1 := by kernel_rfl
theorem spec_l13Dec_step_ok (spec_l13Dec_rec : Int → Option (ByteArray)) (hrec : FnOk prog 27 (R27 spec_l13Dec_rec)) : FnOk prog 27 ⟨[.v (.int .i64)], true, [.str], fun x => (spec_l13Dec_step spec_l13Dec_rec) x.1⟩ := by
 have h := fnOk_of_run (P := prog) (E := (E27 spec_l13Dec_rec)) (tysOk_of tyl_ok) (E27_ok spec_l13Dec_rec hrec) (L := (L27_1 spec_l13Dec_rec)) (ps := [.v (.int .i64)]) (own := true) (outs := [.str]) func27 (c := codeOf f27) (by kernel_rfl) (codeOk_in (L := (L27_1 spec_l13Dec_rec)) (tysOk_of tyl_ok) (E27_ok spec_l13Dec_rec hrec) mixed (c := codeOf f27) (bs := [loopOf f27 6]) (by kernel_rfl) (allCons (loop27_6 spec_l13Dec_rec hrec rfl) allNil) (by kernel_rfl))
 rw [(spec_l13Dec_step_eq spec_l13Dec_rec)] at h
 exact h
/-- so many calls within each other -/
noncomputable def spec_l13Dec_fuel : Nat → Int → Option (ByteArray)
 | 0 => fun _ => none
 | n + 1 => spec_l13Dec_step (spec_l13Dec_fuel n)
theorem spec_l13Dec_fuel_ok : ∀ n, FnOk prog 27 (R27 (spec_l13Dec_fuel n))
 | 0 => fun xs r h => by cases h
 | n + 1 => spec_l13Dec_step_ok (spec_l13Dec_fuel n) (spec_l13Dec_fuel_ok n)
noncomputable def spec_l13Dec : Int → Option (ByteArray) := spec_l13Dec_fuel 200
noncomputable def A27 : FnA := R27 spec_l13Dec
theorem A27_ok : FnOk prog 27 A27 := spec_l13Dec_fuel_ok 200
/-! spec.l3Numbers -/
noncomputable def E17 : Env := ⟨ty0, fun g => ifEq g 27 (some A27) (none), fun _ => none, fun _ => none, fun _ => none⟩
theorem E17_ok : FnsOk prog E17 := (oF A27_ok func27 (noFns _ _))
noncomputable def L17_0 : Nat → Option LoopD := fun _ => none
def sh17_3 : List Fm := d :: d :: d :: .cell (.val .str) :: d :: d :: .cell (.val (.sl (.int .i64))) :: .cell (.val (.int .i64)) :: .cell (.val (.int .i64)) :: D 14 []
def xs17_3 : List (Ex × List Fm) := [(.exit 0, (d :: d :: d :: .cell (.val .str) :: D 19 []))]
noncomputable def spec_l3Numbers_l3 : (ByteArray × (List Int) × Int × Int × Unit) → Option ((ByteArray × (List Int) × Int × Int × Unit) ⊕ ((ByteArray × Unit))) := fun (v3, v6, v7, v8, _) =>
 bif (decide (v8 < v7)) then
  if (((0 : Int) ≤ v8) ∧ (v8 < (((List.length v6) : Nat) : Int))) then
   bif (decide (v8 > (0 : Int))) then
    if (((ByteArray.size v3) + (ByteArray.size (⟨#[(32 : UInt8)]⟩ : ByteArray))) ≤ 9223372036854775807) then
     Option.bind (spec_l13Dec (List.getD v6 (Int.toNat v8) (0 : Int))) fun r0 =>
      if (((ByteArray.size (v3 ++ (⟨#[(32 : UInt8)]⟩ : ByteArray))) + (ByteArray.size r0)) ≤ 9223372036854775807) then
       some (Sum.inl (((v3 ++ (⟨#[(32 : UInt8)]⟩ : ByteArray)) ++ r0), v6, v7, (IntKind.wrap .i64 (v8 + (1 : Int))), ()))
      else
       none
    else
     none
   else
    Option.bind (spec_l13Dec (List.getD v6 (Int.toNat v8) (0 : Int))) fun r1 =>
     if (((ByteArray.size v3) + (ByteArray.size r1)) ≤ 9223372036854775807) then
      some (Sum.inl ((v3 ++ r1), v6, v7, (IntKind.wrap .i64 (v8 + (1 : Int))), ()))
     else
      none
  else
   none
 else
  some (Sum.inr (v3, ()))
theorem spec_l3Numbers_l3_eq : loopStep 23 E17 L17_0 (loopOf f17 3) sh17_3 xs17_3 = spec_l3Numbers_l3 := by kernel_rfl
theorem loop17_3 {L} (h : L 3 = some ⟨23, sh17_3, xs17_3, spec_l3Numbers_l3⟩) : LoopOk prog L (loopOf f17 3) := lo spec_l3Numbers_l3_eq E17_ok allNil h
noncomputable def L17_1 : Nat → Option LoopD := fun n => ifEq n 3 (some ⟨23, sh17_3, xs17_3, spec_l3Numbers_l3⟩) (L17_0 n)
noncomputable def spec_l3Numbers : (List Int) → Option (ByteArray) := fun a0 =>
 Option.bind (loopF spec_l3Numbers_l3 ((⟨#[]⟩ : ByteArray), a0, (((List.length a0) : Nat) : Int), (0 : Int), ())) fun (r0, _) =>
  some r0
noncomputable def A17 : FnA := ⟨[.v (.sl (.int .i64))], true, [.str], fun x => spec_l3Numbers x.1⟩
theorem spec_l3Numbers_eq : fnF E17 L17_1 [.v (.sl (.int .i64))] true [.str] f17.ntmps f17.results.toList (codeOf f17) = fun x => spec_l3Numbers x.1 := by kernel_rfl
theorem A17_ok : FnOk prog 17 A17 := fo spec_l3Numbers_eq func17 E17_ok (allCons (loop17_3 rfl) allNil)
/-! spec.FormatNumbers -/
noncomputable def E5 : Env := ⟨ty0, fun g => ifEq g 17 (some A17) (none), fun _ => none, fun _ => none, fun _ => none⟩
theorem E5_ok : FnsOk prog E5 := (oF A17_ok func17 (noFns _ _))
noncomputable def L5_0 : Nat → Option LoopD := fun _ => none
noncomputable def spec_FormatNumbers : (List Int) → Option (ByteArray) := fun a0 =>
 bif ((((List.length a0) : Nat) : Int) == (0 : Int)) then
  some (⟨#[(45 : UInt8)]⟩ : ByteArray)
 else
  Option.bind (spec_l3Numbers a0) fun r0 =>
   some r0
noncomputable def A5 : FnA := ⟨[.v (.sl (.int .i64))], true, [.str], fun x => spec_FormatNumbers x.1⟩
theorem spec_FormatNumbers_eq : fnF E5 L5_0 [.v (.sl (.int .i64))] true [.str] f5.ntmps f5.results.toList (codeOf f5) = fun x => spec_FormatNumbers x.1 := by kernel_rfl
theorem A5_ok : FnOk prog 5 A5 := fo spec_FormatNumbers_eq func5 E5_ok allNil
/-! impl.numbers -/
noncomputable def E18 : Env := ⟨ty0, fun g => ifEq g 28 (some A28) (ifEq g 29 (some A29) (none)), fun _ => none, fun _ => none, fun _ => none⟩
theorem E18_ok : FnsOk prog E18 := (oF A28_ok func28 (oF A29_ok func29 (noFns _ _)))
noncomputable def L18_0 : Nat → Option LoopD := fun _ => none
def sh18_3 : List Fm := d :: d :: d :: .cell (.own .str 100300 false) :: d :: d :: d :: .cell (.val (.sl (.int .i64))) :: .cell (.val (.int .i64)) :: .cell (.val (.int .i64)) :: D 11 []
def xs18_3 : List (Ex × List Fm) := [(.exit 0, (d :: d :: d :: .cell (.own .str 100300 false) :: D 17 []))]
noncomputable def impl_numbers_l3 : ((List ByteArray) × (List Int) × Int × Int × Unit) → Option (((List ByteArray) × (List Int) × Int × Int × Unit) ⊕ (((List ByteArray) × Unit))) := fun (v3, v7, v8, v9, _) =>
 bif (decide (v9 < v8)) then
  if (((0 : Int) ≤ v9) ∧ (v9 < (((List.length v7) : Nat) : Int))) then
   Option.bind (strconv_Itoa (List.getD v7 (Int.toNat v9) (0 : Int))) fun r0 =>
    if (((0 + (List.length v3)) = (List.length v3)) ∧ ((((List.length v3) + (List.length (List.take 1 (List.drop 0 [r0])))) * 16) ≤ 140737488355328)) then
     some (Sum.inl ((List.take ((List.length v3) + (List.length (List.take 1 (List.drop 0 [r0])))) (List.drop 0 ((List.drop 0 v3) ++ (List.take 1 (List.drop 0 [r0]))))), v7, v8, (IntKind.wrap .i64 (v9 + (1 : Int))), ()))
    else
     none
  else
   none
 else
  some (Sum.inr ((List.take (List.length v3) (List.drop 0 v3)), ()))
theorem impl_numbers_l3_eq : loopStep 21 E18 L18_0 (loopOf f18 3) sh18_3 xs18_3 = impl_numbers_l3 := by kernel_rfl
theorem loop18_3 {L} (h : L 3 = some ⟨21, sh18_3, xs18_3, impl_numbers_l3⟩) : LoopOk prog L (loopOf f18 3) := lo impl_numbers_l3_eq E18_ok allNil h
noncomputable def L18_1 : Nat → Option LoopD := fun n => ifEq n 3 (some ⟨21, sh18_3, xs18_3, impl_numbers_l3⟩) (L18_0 n)
noncomputable def impl_numbers : (List Int) → Option (ByteArray) := fun a0 =>
 Option.bind (loopF impl_numbers_l3 ((List.take 0 (List.drop 0 [])), a0, (((List.length a0) : Nat) : Int), (0 : Int), ())) fun (r0, _) =>
  Option.bind (strings_Join (List.take (List.length r0) (List.drop 0 r0)) (⟨#[(32 : UInt8)]⟩ : ByteArray)) fun r1 =>
   some r1
noncomputable def A18 : FnA := ⟨[.v (.sl (.int .i64))], true, [.str], fun x => impl_numbers x.1⟩
theorem impl_numbers_eq : fnF E18 L18_1 [.v (.sl (.int .i64))] true [.str] f18.ntmps f18.results.toList (codeOf f18) = fun x => impl_numbers x.1 := by kernel_rfl
theorem A18_ok : FnOk prog 18 A18 := fo impl_numbers_eq func18 E18_ok (allCons (loop18_3 rfl) allNil)
/-! impl.FormatNumbers -/
noncomputable def E7 : Env := ⟨ty0, fun g => ifEq g 18 (some A18) (none), fun _ => none, fun _ => none, fun _ => none⟩
theorem E7_ok : FnsOk prog E7 := (oF A18_ok func18 (noFns _ _))
noncomputable def L7_0 : Nat → Option LoopD := fun _ => none
noncomputable def impl_FormatNumbers : (List Int) → Option (ByteArray) := fun a0 =>
 bif ((((List.length a0) : Nat) : Int) == (0 : Int)) then
  some (⟨#[(45 : UInt8)]⟩ : ByteArray)
 else
  Option.bind (impl_numbers a0) fun r0 =>
   some r0
noncomputable def A7 : FnA := ⟨[.v (.sl (.int .i64))], true, [.str], fun x => impl_FormatNumbers x.1⟩
theorem impl_FormatNumbers_eq : fnF E7 L7_0 [.v (.sl (.int .i64))] true [.str] f7.ntmps f7.results.toList (codeOf f7) = fun x => impl_FormatNumbers x.1 := by kernel_rfl
theorem A7_ok : FnOk prog 7 A7 := fo impl_FormatNumbers_eq func7 E7_ok allNil
/-! laws.eqIntS -/
noncomputable def E8 : Env := ⟨ty0, fun _ => none, fun _ => none, fun _ => none, fun _ => none⟩
theorem E8_ok : FnsOk prog E8 := (noFns _ _)
noncomputable def L8_0 : Nat → Option LoopD := fun _ => none
def sh8_4 : List Fm := .cell (.val (.sl (.int .i64))) :: .cell (.val (.sl (.int .i64))) :: d :: d :: d :: .cell (.val (.int .i64)) :: D 20 []
def xs8_4 : List (Ex × List Fm) := [(.ret, (D 4 (.cell (.val .bool) :: D 21 []))), (.exit 0, (D 26 []))]
noncomputable def laws_eqIntS_l4 : ((List Int) × (List Int) × Int × Unit) → Option (((List Int) × (List Int) × Int × Unit) ⊕ ((Bool × Unit) ⊕ (Unit))) := fun (v0, v1, v5, _) =>
 bif (decide (v5 < (((List.length v0) : Nat) : Int))) then
  if (((0 : Int) ≤ v5) ∧ (v5 < (((List.length v0) : Nat) : Int))) then
   if (((0 : Int) ≤ v5) ∧ (v5 < (((List.length v1) : Nat) : Int))) then
    bif ((List.getD v0 (Int.toNat v5) (0 : Int)) != (List.getD v1 (Int.toNat v5) (0 : Int))) then
     some (Sum.inr (Sum.inl (false, ())))
    else
     some (Sum.inl (v0, v1, (IntKind.wrap .i64 (v5 + (1 : Int))), ()))
   else
    none
  else
   none
 else
  some (Sum.inr (Sum.inr ()))
theorem laws_eqIntS_l4_eq : loopStep 26 E8 L8_0 (loopOf f8 4) sh8_4 xs8_4 = laws_eqIntS_l4 := by kernel_rfl
theorem loop8_4 {L} (h : L 4 = some ⟨26, sh8_4, xs8_4, laws_eqIntS_l4⟩) : LoopOk prog L (loopOf f8 4) := lo laws_eqIntS_l4_eq E8_ok allNil h
noncomputable def L8_1 : Nat → Option LoopD := fun n => ifEq n 4 (some ⟨26, sh8_4, xs8_4, laws_eqIntS_l4⟩) (L8_0 n)
noncomputable def laws_eqIntS : (List Int) → (List Int) → Option (Bool) := fun a0 a1 =>
 bif ((((List.length a0) : Nat) : Int) != (((List.length a1) : Nat) : Int)) then
  some false
 else
  Option.bind (loopF laws_eqIntS_l4 (a0, a1, (0 : Int), ())) fun r0 =>
   (match r0 with
   | .inl (d1, _) =>
     some d1
   | .inr _ =>
     some true)
noncomputable def A8 : FnA := ⟨[.v (.sl (.int .i64)), .v (.sl (.int .i64))], true, [.bool], fun x => laws_eqIntS x.1 x.2.1⟩
theorem laws_eqIntS_eq : fnF E8 L8_1 [.v (.sl (.int .i64)), .v (.sl (.int .i64))] true [.bool] f8.ntmps f8.results.toList (codeOf f8) = fun x => laws_eqIntS x.1 x.2.1 := by kernel_rfl
theorem A8_ok : FnOk prog 8 A8 := fo laws_eqIntS_eq func8 E8_ok (allCons (loop8_4 rfl) allNil)
/-! laws.FnExactFormatNumbers -/
noncomputable def E3 : Env := ⟨ty0, fun g => ifEq g 6 (some A6) (ifEq g 5 (some A5) (ifEq g 7 (some A7) (ifEq g 8 (some A8) (none)))), fun _ => none, fun _ => none, fun _ => none⟩
theorem E3_ok : FnsOk prog E3 := (oF A6_ok func6 (oF A5_ok func5 (oF A7_ok func7 (oF A8_ok func8 (noFns _ _)))))
noncomputable def L3_0 : Nat → Option LoopD := fun _ => none
noncomputable def laws_FnExactFormatNumbers : (List Int) → Option (Bool) := fun a0 =>
 bif (decide ((((List.length a0) : Nat) : Int) > (1048576 : Int))) then
  some true
 else
  Option.bind (laws_toIntS a0) fun r0 =>
   Option.bind (spec_FormatNumbers (List.take (List.length r0) (List.drop 0 r0))) fun r1 =>
    Option.bind (laws_toIntS a0) fun r2 =>
     Option.bind (impl_FormatNumbers (List.take (List.length r2) (List.drop 0 r2))) fun r3 =>
      bif (!((ByteArray.toList r3) == (ByteArray.toList r1))) then
       some false
      else
       Option.bind (laws_toIntS a0) fun r4 =>
        Option.bind (laws_eqIntS (List.take (List.length r2) (List.drop 0 r2)) (List.take (List.length r4) (List.drop 0 r4))) fun r5 =>
         bif (!r5) then
          some false
         else
          some true
noncomputable def A3 : FnA := ⟨[.v (.sl (.int .i64))], true, [.bool], fun x => laws_FnExactFormatNumbers x.1⟩
theorem laws_FnExactFormatNumbers_eq : fnF E3 L3_0 [.v (.sl (.int .i64))] true [.bool] f3.ntmps f3.results.toList (codeOf f3) = fun x => laws_FnExactFormatNumbers x.1 := by kernel_rfl
theorem A3_ok : FnOk prog 3 A3 := fo laws_FnExactFormatNumbers_eq func3 E3_ok allNil
end Go.Proofs.YtgmgnijklampiaaDoor
