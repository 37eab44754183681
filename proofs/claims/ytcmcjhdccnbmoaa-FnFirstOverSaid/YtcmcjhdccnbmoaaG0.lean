/- What Go functions that the laws reach compute, and that they do: written by a program of this session. -/
import Derived.Test.YtcmcjhdccnbmoaaCmp
import Derived.KernelRfl
set_option linter.unusedVariables false
namespace Go.Proofs.Ytcmcjhdccnbmoaa
open Go Go.Proofs.Ytcmcjhdccnbmoaa.Am Go.Proofs.Try
set_option maxRecDepth 100000
def tyl : List (Nat × TyD) := [(3, {kd := .int .i64}),
 (4, {kd := .bool}),
 (5, {kd := .int .u8}),
 (9, {kd := .str}),
 (22, {kd := .sl (.int .u8), elt := .int .u8, bytes := 1}),
 (23, {kd := .sl (.int .i64), elt := .int .i64, bytes := 8}),
 (24, {kd := .sl (.pair (.int .i64) (.pair .str (.pair (.int .i64) (.int .i64)))), elt := .pair (.int .i64) (.pair .str (.pair (.int .i64) (.int .i64))), bytes := 40}),
 (26, {kd := .pair (.int .i64) (.pair (.sl (.int .i64)) (.pair (.sl (.int .i64)) (.sl (.pair (.int .i64) (.pair .str (.pair (.int .i64) (.int .i64))))))), flds := [(0, .int .i64), (1, .sl (.int .i64)), (2, .sl (.int .i64)), (3, .sl (.pair (.int .i64) (.pair .str (.pair (.int .i64) (.int .i64)))))]}),
 (32, {kd := .sl .str, elt := .str, bytes := 16}),
 (50, {kd := .pair (.int .i64) (.pair .str (.pair (.int .i64) (.int .i64))), flds := [(0, .int .i64), (1, .str), (2, .int .i64), (3, .int .i64)]}),
 (53, {kd := .sl (.sl (.int .i64)), elt := .sl (.int .i64), bytes := 24}),
 (64, {kd := .pair (.sl (.int .u8)) (.int .i64), flds := [(0, .sl (.int .u8)), (1, .int .i64)]}),
 (65, {kd := .sl (.pair (.int .i64) (.pair (.sl (.int .i64)) (.pair (.sl (.int .i64)) (.sl (.pair (.int .i64) (.pair .str (.pair (.int .i64) (.int .i64)))))))), elt := .pair (.int .i64) (.pair (.sl (.int .i64)) (.pair (.sl (.int .i64)) (.sl (.pair (.int .i64) (.pair .str (.pair (.int .i64) (.int .i64))))))), bytes := 80}),
 (69, {kd := .pair (.int .i64) (.sl (.int .i64)), flds := [(0, .int .i64), (1, .sl (.int .i64))]}),
 (81, {kd := .pair (.int .i64) (.pair (.int .i64) (.pair (.int .i64) (.int .i64))), arr := 4, elt := .int .i64}),
 (89, {kd := .int .u64}),
 (99, {kd := .pair .bool (.pair .bool (.pair .bool .bool)), arr := 4, elt := .bool}),
 (104, {kd := .int .u64})]
def ty0 : Nat → Option TyD := assoc tyl
theorem tyl_ok : tysOkB prog tyl = true := by kernel_rfl
theorem mixed : prog.follows .mixedOrders = true := by kernel_rfl
def D : Nat → List Fm → List Fm
 | 0, l => l
 | n + 1, l => .cell .drop :: D n l
theorem oF {g : Nat} {f : FnA} {fn : Func} {ty : Nat → Option TyD} {rest : Nat → Option FnA} {ms : Nat → Option FnM} {bs : Nat → Option FnB} {il : Nat → Option (Nat × CallD)} (h : FnOk prog g f) (hf : prog.funcs[g]? = some fn) (hr : FnsOk prog ⟨ty, rest, ms, bs, il⟩)
  (h1 : (fn.name == "runtime.NumGoroutine") = false := by kernel_rfl) (h2 : fn.body.isSome = true := by kernel_rfl) : FnsOk prog ⟨ty, fun n => ifEq n g (some f) (rest n), ms, bs, il⟩ := oneFn h hf h1 h2 hr
theorem tyk {E : Env} (h : E.ty = ty0) : TysOk prog E := by
 obtain ⟨ty, fn, ms, bs, il⟩ := E
 obtain rfl : ty = ty0 := h
 exact tysOk_of tyl_ok
theorem fo {E : Env} {L : Nat → Option LoopD} {g : Nat} {fn : Func} {ps : List Prm} {own : Bool} {outs : List Kd} {F : PrmsT ps → Option (OutsT outs)} {bs : List Code} (he : fnF E L ps own outs fn.ntmps fn.results.toList (codeOf fn) = F) (hf : prog.funcs[g]? = some fn) (hF : FnsOk prog E)
  (hs : ∀ b ∈ bs, LoopOk prog L b) (hb : fn.body = some (codeOf fn) := by kernel_rfl) (hl : loopsOf (codeOf fn) = bs := by kernel_rfl) (hd : drawsB E (drawsOf (codeOf fn)) = true := by kernel_rfl) (hE : E.ty = ty0 := by rfl) : FnOk prog g ⟨ps, own, outs, F⟩ := by
 have h := fnOk_of_run (P := prog) (tyk hE) hF (L := L) (ps := ps) (own := own) (outs := outs) hf hb (codeOk_in (tyk hE) hF mixed hl hs hd)
 rw [he] at h
 exact h
theorem lo {E : Env} {L L' : Nat → Option LoopD} {n i : Nat} {b : Code} {bs : List Code} {sh : List Fm} {xs : List (Ex × List Fm)} {f : FmsT sh → Option (FmsT sh ⊕ XsT xs)} (he : loopStep n E L' b sh xs = f) (hF : FnsOk prog E)
  (hs : ∀ b ∈ bs, LoopOk prog L' b) (h : L i = some ⟨n, sh, xs, f⟩) (hl : loopsOf b = bs := by kernel_rfl) (hd : drawsB E (drawsOf b) = true := by kernel_rfl) (h1 : nodupN (toksF sh) = true := by kernel_rfl) (h2 : okXs xs = true := by kernel_rfl) (hi : firstId b = i := by kernel_rfl) (hE : E.ty = ty0 := by rfl) : LoopOk prog L b :=
 loopOk (tyk hE) hF (codeOk_in (tyk hE) hF mixed hl hs hd) h1 h2 he (by rw [hi]; exact h)
abbrev d : Fm := .cell .drop
/-! spec.l13Open -/
noncomputable def E19 : Env := ⟨ty0, fun _ => none, fun _ => none, fun _ => none, fun _ => none⟩
theorem E19_ok : FnsOk prog E19 := (noFns _ _)
noncomputable def L19_0 : Nat → Option LoopD := fun _ => none
noncomputable def spec_l13Open : (List Int) → Option (((List Int) × Int)) := fun a0 =>
 bif (decide ((((List.length a0) : Nat) : Int) > (2000 : Int))) then
  if (((0 : Int) ≤ (2000 : Int)) ∧ ((2000 : Int) ≤ (((List.length a0) : Nat) : Int))) then
   some ((List.take ((Int.toNat (2000 : Int)) - 0) (List.drop 0 a0)), (0 : Int))
  else
   none
 else
  some (a0, (0 : Int))
noncomputable def A19 : FnB := ⟨[.v (.sl (.int .u8))], .pair (.sl (.int .u8)) (.int .i64), fun x => spec_l13Open x.1⟩
theorem spec_l13Open_eq : fnBF E19 L19_0 [.v (.sl (.int .u8))] (.pair (.sl (.int .u8)) (.int .i64)) f19.ntmps f19.results.toList (codeOf f19) = fun x => spec_l13Open x.1 := by kernel_rfl
theorem A19_ok : FnBOk prog 19 A19 := by
 have h := fnBOk_of_run (P := prog) (E := E19) (tysOk_of tyl_ok) E19_ok (L := L19_0) (ps := [.v (.sl (.int .u8))]) (k := .pair (.sl (.int .u8)) (.int .i64)) func19 (c := codeOf f19) (by kernel_rfl) (codeOk_in (L := L19_0) (tysOk_of tyl_ok) E19_ok mixed (c := codeOf f19) (bs := []) (by kernel_rfl) allNil (by kernel_rfl))
 rw [spec_l13Open_eq] at h
 exact h
/-! (*spec.l13Rd).pick -/
noncomputable def E32 : Env := ⟨ty0, fun _ => none, fun _ => none, fun _ => none, fun _ => none⟩
theorem E32_ok : FnsOk prog E32 := (noFns _ _)
noncomputable def L32_0 : Nat → Option LoopD := fun _ => none
noncomputable def spec_l13Rd_pick : ((List Int) × Int) → Int → Option ((Int) × (((List Int) × Int) × Unit)) := fun (a0_0, a0_1) a1 =>
 bif (decide (a1 < (1 : Int))) then
  some ((0 : Int), (a0_0, (IntKind.wrap .i64 (a0_1 + (1 : Int)))), ())
 else
  bif ((((List.length a0_0) : Nat) : Int) == (0 : Int)) then
   some ((0 : Int), (a0_0, (IntKind.wrap .i64 (a0_1 + (1 : Int)))), ())
  else
   bif (decide ((IntKind.wrap .i64 ((IntKind.wrap .i64 (a0_1 + (1 : Int))) - (1 : Int))) < (((List.length a0_0) : Nat) : Int))) then
    if (((0 : Int) ≤ (IntKind.wrap .i64 ((IntKind.wrap .i64 (a0_1 + (1 : Int))) - (1 : Int)))) ∧ ((IntKind.wrap .i64 ((IntKind.wrap .i64 (a0_1 + (1 : Int))) - (1 : Int))) < (((List.length a0_0) : Nat) : Int))) then
     if (a1 = (0 : Int)) then
      none
     else
      some ((Int.tmod (IntKind.wrap .i64 (List.getD a0_0 (Int.toNat (IntKind.wrap .i64 ((IntKind.wrap .i64 (a0_1 + (1 : Int))) - (1 : Int)))) (0 : Int))) a1), (a0_0, (IntKind.wrap .i64 (a0_1 + (1 : Int)))), ())
    else
     none
   else
    if ((((List.length a0_0) : Nat) : Int) = (0 : Int)) then
     none
    else
     if (((0 : Int) ≤ (Int.tmod (IntKind.wrap .i64 ((IntKind.wrap .i64 (a0_1 + (1 : Int))) - (1 : Int))) (((List.length a0_0) : Nat) : Int))) ∧ ((Int.tmod (IntKind.wrap .i64 ((IntKind.wrap .i64 (a0_1 + (1 : Int))) - (1 : Int))) (((List.length a0_0) : Nat) : Int)) < (((List.length a0_0) : Nat) : Int))) then
      if ((((List.length a0_0) : Nat) : Int) = (0 : Int)) then
       none
      else
       if (((0 : Int) ≤ (Int.tmod (IntKind.wrap .i64 ((IntKind.wrap .i64 ((IntKind.wrap .i64 ((IntKind.wrap .i64 (a0_1 + (1 : Int))) - (1 : Int))) * (7 : Int))) + (3 : Int))) (((List.length a0_0) : Nat) : Int))) ∧ ((Int.tmod (IntKind.wrap .i64 ((IntKind.wrap .i64 ((IntKind.wrap .i64 ((IntKind.wrap .i64 (a0_1 + (1 : Int))) - (1 : Int))) * (7 : Int))) + (3 : Int))) (((List.length a0_0) : Nat) : Int)) < (((List.length a0_0) : Nat) : Int))) then
        if ((((List.length a0_0) : Nat) : Int) = (0 : Int)) then
         none
        else
         if ((64 : Int) = (0 : Int)) then
          none
         else
          if (a1 = (0 : Int)) then
           none
          else
           some ((Int.tmod (Decidable.rec (fun y0 => ((((BitVec.toNat ((BitVec.ofInt (IntKind.bits .i64) (IntKind.wrap .i64 ((IntKind.wrap .i64 ((IntKind.wrap .i64 ((IntKind.wrap .i64 ((IntKind.wrap .i64 (List.getD a0_0 (Int.toNat (Int.tmod (IntKind.wrap .i64 ((IntKind.wrap .i64 (a0_1 + (1 : Int))) - (1 : Int))) (((List.length a0_0) : Nat) : Int))) (0 : Int))) * (131 : Int))) + (IntKind.wrap .i64 ((IntKind.wrap .i64 (List.getD a0_0 (Int.toNat (Int.tmod (IntKind.wrap .i64 ((IntKind.wrap .i64 ((IntKind.wrap .i64 ((IntKind.wrap .i64 (a0_1 + (1 : Int))) - (1 : Int))) * (7 : Int))) + (3 : Int))) (((List.length a0_0) : Nat) : Int))) (0 : Int))) * (1117 : Int))))) + (IntKind.wrap .i64 ((IntKind.wrap .i64 ((IntKind.wrap .i64 (a0_1 + (1 : Int))) - (1 : Int))) * (29 : Int))))) + (IntKind.wrap .i64 ((IntKind.wrap .i64 (Int.tdiv (IntKind.wrap .i64 ((IntKind.wrap .i64 (a0_1 + (1 : Int))) - (1 : Int))) (((List.length a0_0) : Nat) : Int))) * (53 : Int)))))) ^^^ (BitVec.ofInt (IntKind.bits .i64) (IntKind.wrap .i64 (Int.tdiv (IntKind.wrap .i64 ((IntKind.wrap .i64 ((IntKind.wrap .i64 ((IntKind.wrap .i64 ((IntKind.wrap .i64 (List.getD a0_0 (Int.toNat (Int.tmod (IntKind.wrap .i64 ((IntKind.wrap .i64 (a0_1 + (1 : Int))) - (1 : Int))) (((List.length a0_0) : Nat) : Int))) (0 : Int))) * (131 : Int))) + (IntKind.wrap .i64 ((IntKind.wrap .i64 (List.getD a0_0 (Int.toNat (Int.tmod (IntKind.wrap .i64 ((IntKind.wrap .i64 ((IntKind.wrap .i64 ((IntKind.wrap .i64 (a0_1 + (1 : Int))) - (1 : Int))) * (7 : Int))) + (3 : Int))) (((List.length a0_0) : Nat) : Int))) (0 : Int))) * (1117 : Int))))) + (IntKind.wrap .i64 ((IntKind.wrap .i64 ((IntKind.wrap .i64 (a0_1 + (1 : Int))) - (1 : Int))) * (29 : Int))))) + (IntKind.wrap .i64 ((IntKind.wrap .i64 (Int.tdiv (IntKind.wrap .i64 ((IntKind.wrap .i64 (a0_1 + (1 : Int))) - (1 : Int))) (((List.length a0_0) : Nat) : Int))) * (53 : Int))))) (64 : Int)))))) : Nat) : Int) % ((2 : Int) ^ (IntKind.bits .i64)))) (fun y1 => (((((BitVec.toNat ((BitVec.ofInt (IntKind.bits .i64) (IntKind.wrap .i64 ((IntKind.wrap .i64 ((IntKind.wrap .i64 ((IntKind.wrap .i64 ((IntKind.wrap .i64 (List.getD a0_0 (Int.toNat (Int.tmod (IntKind.wrap .i64 ((IntKind.wrap .i64 (a0_1 + (1 : Int))) - (1 : Int))) (((List.length a0_0) : Nat) : Int))) (0 : Int))) * (131 : Int))) + (IntKind.wrap .i64 ((IntKind.wrap .i64 (List.getD a0_0 (Int.toNat (Int.tmod (IntKind.wrap .i64 ((IntKind.wrap .i64 ((IntKind.wrap .i64 ((IntKind.wrap .i64 (a0_1 + (1 : Int))) - (1 : Int))) * (7 : Int))) + (3 : Int))) (((List.length a0_0) : Nat) : Int))) (0 : Int))) * (1117 : Int))))) + (IntKind.wrap .i64 ((IntKind.wrap .i64 ((IntKind.wrap .i64 (a0_1 + (1 : Int))) - (1 : Int))) * (29 : Int))))) + (IntKind.wrap .i64 ((IntKind.wrap .i64 (Int.tdiv (IntKind.wrap .i64 ((IntKind.wrap .i64 (a0_1 + (1 : Int))) - (1 : Int))) (((List.length a0_0) : Nat) : Int))) * (53 : Int)))))) ^^^ (BitVec.ofInt (IntKind.bits .i64) (IntKind.wrap .i64 (Int.tdiv (IntKind.wrap .i64 ((IntKind.wrap .i64 ((IntKind.wrap .i64 ((IntKind.wrap .i64 ((IntKind.wrap .i64 (List.getD a0_0 (Int.toNat (Int.tmod (IntKind.wrap .i64 ((IntKind.wrap .i64 (a0_1 + (1 : Int))) - (1 : Int))) (((List.length a0_0) : Nat) : Int))) (0 : Int))) * (131 : Int))) + (IntKind.wrap .i64 ((IntKind.wrap .i64 (List.getD a0_0 (Int.toNat (Int.tmod (IntKind.wrap .i64 ((IntKind.wrap .i64 ((IntKind.wrap .i64 ((IntKind.wrap .i64 (a0_1 + (1 : Int))) - (1 : Int))) * (7 : Int))) + (3 : Int))) (((List.length a0_0) : Nat) : Int))) (0 : Int))) * (1117 : Int))))) + (IntKind.wrap .i64 ((IntKind.wrap .i64 ((IntKind.wrap .i64 (a0_1 + (1 : Int))) - (1 : Int))) * (29 : Int))))) + (IntKind.wrap .i64 ((IntKind.wrap .i64 (Int.tdiv (IntKind.wrap .i64 ((IntKind.wrap .i64 (a0_1 + (1 : Int))) - (1 : Int))) (((List.length a0_0) : Nat) : Int))) * (53 : Int))))) (64 : Int)))))) : Nat) : Int) % ((2 : Int) ^ (IntKind.bits .i64))) - ((2 : Int) ^ (IntKind.bits .i64)))) (instDecidableEqBool ((IntKind.signed .i64) && (decide (((((BitVec.toNat ((BitVec.ofInt (IntKind.bits .i64) (IntKind.wrap .i64 ((IntKind.wrap .i64 ((IntKind.wrap .i64 ((IntKind.wrap .i64 ((IntKind.wrap .i64 (List.getD a0_0 (Int.toNat (Int.tmod (IntKind.wrap .i64 ((IntKind.wrap .i64 (a0_1 + (1 : Int))) - (1 : Int))) (((List.length a0_0) : Nat) : Int))) (0 : Int))) * (131 : Int))) + (IntKind.wrap .i64 ((IntKind.wrap .i64 (List.getD a0_0 (Int.toNat (Int.tmod (IntKind.wrap .i64 ((IntKind.wrap .i64 ((IntKind.wrap .i64 ((IntKind.wrap .i64 (a0_1 + (1 : Int))) - (1 : Int))) * (7 : Int))) + (3 : Int))) (((List.length a0_0) : Nat) : Int))) (0 : Int))) * (1117 : Int))))) + (IntKind.wrap .i64 ((IntKind.wrap .i64 ((IntKind.wrap .i64 (a0_1 + (1 : Int))) - (1 : Int))) * (29 : Int))))) + (IntKind.wrap .i64 ((IntKind.wrap .i64 (Int.tdiv (IntKind.wrap .i64 ((IntKind.wrap .i64 (a0_1 + (1 : Int))) - (1 : Int))) (((List.length a0_0) : Nat) : Int))) * (53 : Int)))))) ^^^ (BitVec.ofInt (IntKind.bits .i64) (IntKind.wrap .i64 (Int.tdiv (IntKind.wrap .i64 ((IntKind.wrap .i64 ((IntKind.wrap .i64 ((IntKind.wrap .i64 ((IntKind.wrap .i64 (List.getD a0_0 (Int.toNat (Int.tmod (IntKind.wrap .i64 ((IntKind.wrap .i64 (a0_1 + (1 : Int))) - (1 : Int))) (((List.length a0_0) : Nat) : Int))) (0 : Int))) * (131 : Int))) + (IntKind.wrap .i64 ((IntKind.wrap .i64 (List.getD a0_0 (Int.toNat (Int.tmod (IntKind.wrap .i64 ((IntKind.wrap .i64 ((IntKind.wrap .i64 ((IntKind.wrap .i64 (a0_1 + (1 : Int))) - (1 : Int))) * (7 : Int))) + (3 : Int))) (((List.length a0_0) : Nat) : Int))) (0 : Int))) * (1117 : Int))))) + (IntKind.wrap .i64 ((IntKind.wrap .i64 ((IntKind.wrap .i64 (a0_1 + (1 : Int))) - (1 : Int))) * (29 : Int))))) + (IntKind.wrap .i64 ((IntKind.wrap .i64 (Int.tdiv (IntKind.wrap .i64 ((IntKind.wrap .i64 (a0_1 + (1 : Int))) - (1 : Int))) (((List.length a0_0) : Nat) : Int))) * (53 : Int))))) (64 : Int)))))) : Nat) : Int) % ((2 : Int) ^ (IntKind.bits .i64))) ≥ ((2 : Int) ^ ((IntKind.bits .i64) - 1))))) true)) a1), (a0_0, (IntKind.wrap .i64 (a0_1 + (1 : Int)))), ())
       else
        none
     else
      none
noncomputable def A32 : FnM := ⟨[.bx (.pair (.sl (.int .u8)) (.int .i64)), .v (.int .i64)], true, [.int .i64], none, fun x => spec_l13Rd_pick x.1 x.2.1⟩
theorem spec_l13Rd_pick_eq : fnMF E32 L32_0 [.bx (.pair (.sl (.int .u8)) (.int .i64)), .v (.int .i64)] true [.int .i64] f32.ntmps f32.results.toList (codeOf f32) = fun x => spec_l13Rd_pick x.1 x.2.1 := by kernel_rfl
theorem A32_ok : FnMOk prog 32 A32 := by
 have h := fnMOk_of_run (P := prog) (E := E32) (tysOk_of tyl_ok) E32_ok (L := L32_0) (ps := [.bx (.pair (.sl (.int .u8)) (.int .i64)), .v (.int .i64)]) (own := true) (outs := [.int .i64]) func32 (c := codeOf f32) (by kernel_rfl) (codeOk_in (L := L32_0) (tysOk_of tyl_ok) E32_ok mixed (c := codeOf f32) (bs := []) (by kernel_rfl) allNil (by kernel_rfl)) (by kernel_rfl)
 rw [spec_l13Rd_pick_eq] at h
 exact h
/-! spec.l13Cut -/
noncomputable def E103 : Env := ⟨ty0, fun _ => none, fun _ => none, fun _ => none, fun _ => none⟩
theorem E103_ok : FnsOk prog E103 := (noFns _ _)
noncomputable def L103_0 : Nat → Option LoopD := fun _ => none
def sh103_4 : List Fm := .cell (.val .str) :: .cell (.val (.int .u8)) :: d :: d :: d :: .cell (.own .str 100500 false) :: .cell (.val (.int .i64)) :: .cell (.val (.int .i64)) :: D 28 []
def xs103_4 : List (Ex × List Fm) := [(.exit 0, (D 5 (.cell (.own .str 100500 false) :: D 30 [])))]
noncomputable def spec_l13Cut_l4 : (ByteArray × Int × (List ByteArray) × Int × Int × Unit) → Option ((ByteArray × Int × (List ByteArray) × Int × Int × Unit) ⊕ (((List ByteArray) × Unit))) := fun (v0, v1, v5, v6, v7, _) =>
 bif (decide (v7 ≤ (((ByteArray.size v0) : Nat) : Int))) then
  bif (v7 == (((ByteArray.size v0) : Nat) : Int)) then
   if (((0 : Int) ≤ v6) ∧ ((v6 ≤ v7) ∧ (v7 ≤ (((ByteArray.size v0) : Nat) : Int)))) then
    if (((0 + (List.length v5)) = (List.length v5)) ∧ ((((List.length v5) + (List.length (List.take 1 (List.drop 0 [(ByteArray.extract v0 (Int.toNat v6) (Int.toNat v7))])))) * 16) ≤ 140737488355328)) then
     some (Sum.inl (v0, v1, (List.take ((List.length v5) + (List.length (List.take 1 (List.drop 0 [(ByteArray.extract v0 (Int.toNat v6) (Int.toNat v7))])))) (List.drop 0 ((List.drop 0 v5) ++ (List.take 1 (List.drop 0 [(ByteArray.extract v0 (Int.toNat v6) (Int.toNat v7))]))))), (IntKind.wrap .i64 (v7 + (1 : Int))), (IntKind.wrap .i64 (v7 + (1 : Int))), ()))
    else
     none
   else
    none
  else
   if (((0 : Int) ≤ v7) ∧ (v7 < (((ByteArray.size v0) : Nat) : Int))) then
    bif ((((UInt8.toNat (Array.getD (ByteArray.data v0) (Int.toNat v7) (0 : UInt8))) : Nat) : Int) == v1) then
     if (((0 : Int) ≤ v6) ∧ ((v6 ≤ v7) ∧ (v7 ≤ (((ByteArray.size v0) : Nat) : Int)))) then
      if (((0 + (List.length v5)) = (List.length v5)) ∧ ((((List.length v5) + (List.length (List.take 1 (List.drop 0 [(ByteArray.extract v0 (Int.toNat v6) (Int.toNat v7))])))) * 16) ≤ 140737488355328)) then
       some (Sum.inl (v0, v1, (List.take ((List.length v5) + (List.length (List.take 1 (List.drop 0 [(ByteArray.extract v0 (Int.toNat v6) (Int.toNat v7))])))) (List.drop 0 ((List.drop 0 v5) ++ (List.take 1 (List.drop 0 [(ByteArray.extract v0 (Int.toNat v6) (Int.toNat v7))]))))), (IntKind.wrap .i64 (v7 + (1 : Int))), (IntKind.wrap .i64 (v7 + (1 : Int))), ()))
      else
       none
     else
      none
    else
     some (Sum.inl (v0, v1, (List.take (List.length v5) (List.drop 0 v5)), v6, (IntKind.wrap .i64 (v7 + (1 : Int))), ()))
   else
    none
 else
  some (Sum.inr ((List.take (List.length v5) (List.drop 0 v5)), ()))
theorem spec_l13Cut_l4_eq : loopStep 36 E103 L103_0 (loopOf f103 4) sh103_4 xs103_4 = spec_l13Cut_l4 := by kernel_rfl
theorem loop103_4 {L} (h : L 4 = some ⟨36, sh103_4, xs103_4, spec_l13Cut_l4⟩) : LoopOk prog L (loopOf f103 4) := lo spec_l13Cut_l4_eq E103_ok allNil h
noncomputable def L103_1 : Nat → Option LoopD := fun n => ifEq n 4 (some ⟨36, sh103_4, xs103_4, spec_l13Cut_l4⟩) (L103_0 n)
noncomputable def spec_l13Cut : ByteArray → Int → Option ((List ByteArray)) := fun a0 a1 =>
 Option.bind (loopF spec_l13Cut_l4 (a0, a1, (List.take 0 (List.drop 0 [])), (0 : Int), (0 : Int), ())) fun (r0, _) =>
  some (List.take (List.length r0) (List.drop 0 r0))
noncomputable def A103 : FnA := ⟨[.v .str, .v (.int .u8)], true, [.sl .str], fun x => spec_l13Cut x.1 x.2.1⟩
theorem spec_l13Cut_eq : fnF E103 L103_1 [.v .str, .v (.int .u8)] true [.sl .str] f103.ntmps f103.results.toList (codeOf f103) = fun x => spec_l13Cut x.1 x.2.1 := by kernel_rfl
theorem A103_ok : FnOk prog 103 A103 := fo spec_l13Cut_eq func103 E103_ok (allCons (loop103_4 rfl) allNil)
/-! spec.l13Num -/
noncomputable def E104 : Env := ⟨ty0, fun _ => none, fun _ => none, fun _ => none, fun _ => none⟩
theorem E104_ok : FnsOk prog E104 := (noFns _ _)
noncomputable def L104_0 : Nat → Option LoopD := fun _ => none
def sh104_8 : List Fm := .cell (.val .str) :: d :: d :: d :: .cell (.val .bool) :: .cell (.val (.int .i64)) :: .cell (.val (.int .i64)) :: D 60 []
def xs104_8 : List (Ex × List Fm) := [(.ret, (d :: d :: .cell (.val (.int .i64)) :: .cell (.val .bool) :: D 63 [])), (.exit 0, (D 4 (.cell (.val .bool) :: .cell (.val (.int .i64)) :: D 61 [])))]
noncomputable def spec_l13Num_l8 : (ByteArray × Bool × Int × Int × Unit) → Option ((ByteArray × Bool × Int × Int × Unit) ⊕ ((Int × Bool × Unit) ⊕ (Bool × Int × Unit))) := fun (v0, v4, v5, v6, _) =>
 bif (decide (v6 < (((ByteArray.size v0) : Nat) : Int))) then
  if (((0 : Int) ≤ v6) ∧ (v6 < (((ByteArray.size v0) : Nat) : Int))) then
   bif (decide ((((UInt8.toNat (Array.getD (ByteArray.data v0) (Int.toNat v6) (0 : UInt8))) : Nat) : Int) < (48 : Int))) then
    some (Sum.inr (Sum.inl ((0 : Int), false, ())))
   else
    if (((0 : Int) ≤ v6) ∧ (v6 < (((ByteArray.size v0) : Nat) : Int))) then
     bif (decide ((((UInt8.toNat (Array.getD (ByteArray.data v0) (Int.toNat v6) (0 : UInt8))) : Nat) : Int) > (57 : Int))) then
      some (Sum.inr (Sum.inl ((0 : Int), false, ())))
     else
      if (((0 : Int) ≤ v6) ∧ (v6 < (((ByteArray.size v0) : Nat) : Int))) then
       some (Sum.inl (v0, v4, (IntKind.wrap .i64 ((IntKind.wrap .i64 (v5 * (10 : Int))) + (IntKind.wrap .i64 (IntKind.wrap .u8 ((((UInt8.toNat (Array.getD (ByteArray.data v0) (Int.toNat v6) (0 : UInt8))) : Nat) : Int) - (48 : Int)))))), (IntKind.wrap .i64 (v6 + (1 : Int))), ()))
      else
       none
    else
     none
  else
   none
 else
  some (Sum.inr (Sum.inr (v4, v5, ())))
theorem spec_l13Num_l8_eq : loopStep 67 E104 L104_0 (loopOf f104 8) sh104_8 xs104_8 = spec_l13Num_l8 := by kernel_rfl
theorem loop104_8 {L} (h : L 8 = some ⟨67, sh104_8, xs104_8, spec_l13Num_l8⟩) : LoopOk prog L (loopOf f104 8) := lo spec_l13Num_l8_eq E104_ok allNil h
noncomputable def L104_1 : Nat → Option LoopD := fun n => ifEq n 8 (some ⟨67, sh104_8, xs104_8, spec_l13Num_l8⟩) (L104_0 n)
noncomputable def spec_l13Num : ByteArray → Option (Int × Bool) := fun a0 =>
 bif (decide ((((ByteArray.size a0) : Nat) : Int) > (0 : Int))) then
  if (((0 : Int) ≤ (0 : Int)) ∧ ((0 : Int) < (((ByteArray.size a0) : Nat) : Int))) then
   bif ((((UInt8.toNat (Array.getD (ByteArray.data a0) (Int.toNat (0 : Int)) (0 : UInt8))) : Nat) : Int) == (45 : Int)) then
    if (((0 : Int) ≤ (1 : Int)) ∧ ((1 : Int) ≤ (((ByteArray.size a0) : Nat) : Int))) then
     bif ((((ByteArray.size (ByteArray.extract a0 (Int.toNat (1 : Int)) (ByteArray.size a0))) : Nat) : Int) == (0 : Int)) then
      some ((0 : Int), false)
     else
      bif (decide ((((ByteArray.size (ByteArray.extract a0 (Int.toNat (1 : Int)) (ByteArray.size a0))) : Nat) : Int) > (17 : Int))) then
       some ((0 : Int), false)
      else
       if (((0 : Int) ≤ (0 : Int)) ∧ ((0 : Int) < (((ByteArray.size (ByteArray.extract a0 (Int.toNat (1 : Int)) (ByteArray.size a0))) : Nat) : Int))) then
        bif ((((UInt8.toNat (Array.getD (ByteArray.data (ByteArray.extract a0 (Int.toNat (1 : Int)) (ByteArray.size a0))) (Int.toNat (0 : Int)) (0 : UInt8))) : Nat) : Int) == (48 : Int)) then
         bif (decide ((((ByteArray.size (ByteArray.extract a0 (Int.toNat (1 : Int)) (ByteArray.size a0))) : Nat) : Int) > (1 : Int))) then
          some ((0 : Int), false)
         else
          bif ((((UInt8.toNat (Array.getD (ByteArray.data a0) (Int.toNat (0 : Int)) (0 : UInt8))) : Nat) : Int) == (45 : Int)) then
           some ((0 : Int), false)
          else
           Option.bind (loopF spec_l13Num_l8 ((ByteArray.extract a0 (Int.toNat (1 : Int)) (ByteArray.size a0)), ((((UInt8.toNat (Array.getD (ByteArray.data a0) (Int.toNat (0 : Int)) (0 : UInt8))) : Nat) : Int) == (45 : Int)), (0 : Int), (0 : Int), ())) fun r0 =>
            (match r0 with
            | .inl (d1, d2, _) =>
              some (d1, d2)
            | .inr (d3, d4, _) =>
              bif d3 then
               some ((IntKind.wrap .i64 ((0 : Int) - d4)), true)
              else
               some (d4, true))
        else
         Option.bind (loopF spec_l13Num_l8 ((ByteArray.extract a0 (Int.toNat (1 : Int)) (ByteArray.size a0)), ((((UInt8.toNat (Array.getD (ByteArray.data a0) (Int.toNat (0 : Int)) (0 : UInt8))) : Nat) : Int) == (45 : Int)), (0 : Int), (0 : Int), ())) fun r5 =>
          (match r5 with
          | .inl (d6, d7, _) =>
            some (d6, d7)
          | .inr (d8, d9, _) =>
            bif d8 then
             some ((IntKind.wrap .i64 ((0 : Int) - d9)), true)
            else
             some (d9, true))
       else
        none
    else
     none
   else
    bif ((((ByteArray.size a0) : Nat) : Int) == (0 : Int)) then
     some ((0 : Int), false)
    else
     bif (decide ((((ByteArray.size a0) : Nat) : Int) > (17 : Int))) then
      some ((0 : Int), false)
     else
      if (((0 : Int) ≤ (0 : Int)) ∧ ((0 : Int) < (((ByteArray.size a0) : Nat) : Int))) then
       bif ((((UInt8.toNat (Array.getD (ByteArray.data a0) (Int.toNat (0 : Int)) (0 : UInt8))) : Nat) : Int) == (48 : Int)) then
        bif (decide ((((ByteArray.size a0) : Nat) : Int) > (1 : Int))) then
         some ((0 : Int), false)
        else
         bif ((((UInt8.toNat (Array.getD (ByteArray.data a0) (Int.toNat (0 : Int)) (0 : UInt8))) : Nat) : Int) == (45 : Int)) then
          some ((0 : Int), false)
         else
          Option.bind (loopF spec_l13Num_l8 (a0, ((((UInt8.toNat (Array.getD (ByteArray.data a0) (Int.toNat (0 : Int)) (0 : UInt8))) : Nat) : Int) == (45 : Int)), (0 : Int), (0 : Int), ())) fun r10 =>
           (match r10 with
           | .inl (d11, d12, _) =>
             some (d11, d12)
           | .inr (d13, d14, _) =>
             bif d13 then
              some ((IntKind.wrap .i64 ((0 : Int) - d14)), true)
             else
              some (d14, true))
       else
        Option.bind (loopF spec_l13Num_l8 (a0, ((((UInt8.toNat (Array.getD (ByteArray.data a0) (Int.toNat (0 : Int)) (0 : UInt8))) : Nat) : Int) == (45 : Int)), (0 : Int), (0 : Int), ())) fun r15 =>
         (match r15 with
         | .inl (d16, d17, _) =>
           some (d16, d17)
         | .inr (d18, d19, _) =>
           bif d18 then
            some ((IntKind.wrap .i64 ((0 : Int) - d19)), true)
           else
            some (d19, true))
      else
       none
  else
   none
 else
  bif ((((ByteArray.size a0) : Nat) : Int) == (0 : Int)) then
   some ((0 : Int), false)
  else
   bif (decide ((((ByteArray.size a0) : Nat) : Int) > (17 : Int))) then
    some ((0 : Int), false)
   else
    if (((0 : Int) ≤ (0 : Int)) ∧ ((0 : Int) < (((ByteArray.size a0) : Nat) : Int))) then
     bif ((((UInt8.toNat (Array.getD (ByteArray.data a0) (Int.toNat (0 : Int)) (0 : UInt8))) : Nat) : Int) == (48 : Int)) then
      bif (decide ((((ByteArray.size a0) : Nat) : Int) > (1 : Int))) then
       some ((0 : Int), false)
      else
       Option.bind (loopF spec_l13Num_l8 (a0, false, (0 : Int), (0 : Int), ())) fun r20 =>
        (match r20 with
        | .inl (d21, d22, _) =>
          some (d21, d22)
        | .inr (d23, d24, _) =>
          bif d23 then
           some ((IntKind.wrap .i64 ((0 : Int) - d24)), true)
          else
           some (d24, true))
     else
      Option.bind (loopF spec_l13Num_l8 (a0, false, (0 : Int), (0 : Int), ())) fun r25 =>
       (match r25 with
       | .inl (d26, d27, _) =>
         some (d26, d27)
       | .inr (d28, d29, _) =>
         bif d28 then
          some ((IntKind.wrap .i64 ((0 : Int) - d29)), true)
         else
          some (d29, true))
    else
     none
noncomputable def A104 : FnA := ⟨[.v .str], true, [.int .i64, .bool], fun x => spec_l13Num x.1⟩
theorem spec_l13Num_eq : fnF E104 L104_1 [.v .str] true [.int .i64, .bool] f104.ntmps f104.results.toList (codeOf f104) = fun x => spec_l13Num x.1 := by kernel_rfl
theorem A104_ok : FnOk prog 104 A104 := fo spec_l13Num_eq func104 E104_ok (allCons (loop104_8 rfl) allNil)
/-! spec.l3Read -/
noncomputable def E105 : Env := ⟨ty0, fun g => ifEq g 103 (some A103) (ifEq g 104 (some A104) (none)), fun _ => none, fun _ => none, fun _ => none⟩
theorem E105_ok : FnsOk prog E105 := (oF A103_ok func103 (oF A104_ok func104 (noFns _ _)))
noncomputable def L105_0 : Nat → Option LoopD := fun _ => none
def sh105_5 : List Fm := D 4 (.cell (.own (.int .i64) 100400 false) :: D 9 (.cell (.own .str 101400 false) :: .cell (.val (.int .i64)) :: .cell (.val (.int .i64)) :: D 17 []))
def xs105_5 : List (Ex × List Fm) := [(.ret, (d :: d :: .cell (.own (.int .i64) 100200 false) :: .cell (.val .bool) :: D 30 [])), (.exit 0, (D 4 (.cell (.own (.int .i64) 100400 false) :: D 29 [])))]
noncomputable def spec_l3Read_l5 : ((List Int) × (List ByteArray) × Int × Int × Unit) → Option (((List Int) × (List ByteArray) × Int × Int × Unit) ⊕ (((List Int) × Bool × Unit) ⊕ ((List Int) × Unit))) := fun (v4, v14, v15, v16, _) =>
 bif (decide (v16 < v15)) then
  if (((0 : Int) ≤ v16) ∧ (v16 < (((List.length v14) : Nat) : Int))) then
   Option.bind (spec_l13Num (List.getD v14 (0 + (Int.toNat v16)) (⟨Array.empty⟩ : ByteArray))) fun (r0, r1) =>
    bif (!r1) then
     some (Sum.inr (Sum.inl ((List.take 0 (List.drop 0 [])), false, ())))
    else
     if (((0 + (List.length v4)) = (List.length v4)) ∧ ((((List.length v4) + (List.length (List.take 1 (List.drop 0 [r0])))) * 8) ≤ 140737488355328)) then
      some (Sum.inl ((List.take ((List.length v4) + (List.length (List.take 1 (List.drop 0 [r0])))) (List.drop 0 ((List.drop 0 v4) ++ (List.take 1 (List.drop 0 [r0]))))), (List.take (List.length v14) (List.drop 0 v14)), v15, (IntKind.wrap .i64 (v16 + (1 : Int))), ()))
     else
      none
  else
   none
 else
  some (Sum.inr (Sum.inr ((List.take (List.length v4) (List.drop 0 v4)), ())))
theorem spec_l3Read_l5_eq : loopStep 34 E105 L105_0 (loopOf f105 5) sh105_5 xs105_5 = spec_l3Read_l5 := by kernel_rfl
theorem loop105_5 {L} (h : L 5 = some ⟨34, sh105_5, xs105_5, spec_l3Read_l5⟩) : LoopOk prog L (loopOf f105 5) := lo spec_l3Read_l5_eq E105_ok allNil h
noncomputable def L105_1 : Nat → Option LoopD := fun n => ifEq n 5 (some ⟨34, sh105_5, xs105_5, spec_l3Read_l5⟩) (L105_0 n)
noncomputable def spec_l3Read : ByteArray → Option ((List Int) × Bool) := fun a0 =>
 bif ((ByteArray.toList a0) == (ByteArray.toList (⟨#[]⟩ : ByteArray))) then
  some ((List.take 0 (List.drop 0 [])), true)
 else
  Option.bind (spec_l13Cut a0 (32 : Int)) fun r0 =>
   Option.bind (loopF spec_l3Read_l5 ((List.take 0 (List.drop 0 [])), (List.take (List.length r0) (List.drop 0 r0)), (((List.length r0) : Nat) : Int), (0 : Int), ())) fun r1 =>
    (match r1 with
    | .inl (d2, d3, _) =>
      some ((List.take (List.length d2) (List.drop 0 d2)), d3)
    | .inr (d4, _) =>
      some ((List.take (List.length d4) (List.drop 0 d4)), true))
noncomputable def A105 : FnA := ⟨[.v .str], true, [.sl (.int .i64), .bool], fun x => spec_l3Read x.1⟩
theorem spec_l3Read_eq : fnF E105 L105_1 [.v .str] true [.sl (.int .i64), .bool] f105.ntmps f105.results.toList (codeOf f105) = fun x => spec_l3Read x.1 := by kernel_rfl
theorem A105_ok : FnOk prog 105 A105 := fo spec_l3Read_eq func105 E105_ok (allCons (loop105_5 rfl) allNil)
/-! spec.l1In -/
noncomputable def E37 : Env := ⟨ty0, fun _ => none, fun _ => none, fun _ => none, fun _ => none⟩
theorem E37_ok : FnsOk prog E37 := (noFns _ _)
noncomputable def L37_0 : Nat → Option LoopD := fun _ => none
noncomputable def spec_l1In : Int → Int → Int → Option (Bool) := fun a0 a1 a2 =>
 bif (decide (a0 ≥ a1)) then
  some (decide (a0 ≤ a2))
 else
  some false
noncomputable def A37 : FnA := ⟨[.v (.int .i64), .v (.int .i64), .v (.int .i64)], true, [.bool], fun x => spec_l1In x.1 x.2.1 x.2.2.1⟩
theorem spec_l1In_eq : fnF E37 L37_0 [.v (.int .i64), .v (.int .i64), .v (.int .i64)] true [.bool] f37.ntmps f37.results.toList (codeOf f37) = fun x => spec_l1In x.1 x.2.1 x.2.2.1 := by kernel_rfl
theorem A37_ok : FnOk prog 37 A37 := fo spec_l1In_eq func37 E37_ok allNil
/-! spec.l3Marks -/
noncomputable def E54 : Env := ⟨ty0, fun g => ifEq g 37 (some A37) (none), fun _ => none, fun _ => none, fun _ => none⟩
theorem E54_ok : FnsOk prog E54 := (oF A37_ok func37 (noFns _ _))
noncomputable def L54_0 : Nat → Option LoopD := fun _ => none
def sh54_2 : List Fm := .cell (.val (.int .i64)) :: .cell (.val (.sl (.int .i64))) :: D 5 (.cell (.val (.sl (.int .i64))) :: .cell (.val (.int .i64)) :: .cell (.val (.int .i64)) :: D 23 [])
def xs54_2 : List (Ex × List Fm) := [(.ret, (D 4 (.cell (.val .bool) :: D 28 []))), (.exit 0, (D 33 []))]
noncomputable def spec_l3Marks_l2 : (Int × (List Int) × (List Int) × Int × Int × Unit) → Option ((Int × (List Int) × (List Int) × Int × Int × Unit) ⊕ ((Bool × Unit) ⊕ (Unit))) := fun (v0, v1, v7, v8, v9, _) =>
 bif (decide (v9 < v8)) then
  if (((0 : Int) ≤ v9) ∧ (v9 < (((List.length v7) : Nat) : Int))) then
   Option.bind (spec_l1In (List.getD v7 (Int.toNat v9) (0 : Int)) (0 : Int) (IntKind.wrap .i64 (v0 - (1 : Int)))) fun r0 =>
    bif (!r0) then
     some (Sum.inr (Sum.inl (false, ())))
    else
     bif (decide (v9 > (0 : Int))) then
      if (((0 : Int) ≤ (IntKind.wrap .i64 (v9 - (1 : Int)))) ∧ ((IntKind.wrap .i64 (v9 - (1 : Int))) < (((List.length v1) : Nat) : Int))) then
       bif (decide ((List.getD v1 (Int.toNat (IntKind.wrap .i64 (v9 - (1 : Int)))) (0 : Int)) ≥ (List.getD v7 (Int.toNat v9) (0 : Int)))) then
        some (Sum.inr (Sum.inl (false, ())))
       else
        some (Sum.inl (v0, v1, v7, v8, (IntKind.wrap .i64 (v9 + (1 : Int))), ()))
      else
       none
     else
      some (Sum.inl (v0, v1, v7, v8, (IntKind.wrap .i64 (v9 + (1 : Int))), ()))
  else
   none
 else
  some (Sum.inr (Sum.inr ()))
theorem spec_l3Marks_l2_eq : loopStep 33 E54 L54_0 (loopOf f54 2) sh54_2 xs54_2 = spec_l3Marks_l2 := by kernel_rfl
theorem loop54_2 {L} (h : L 2 = some ⟨33, sh54_2, xs54_2, spec_l3Marks_l2⟩) : LoopOk prog L (loopOf f54 2) := lo spec_l3Marks_l2_eq E54_ok allNil h
noncomputable def L54_1 : Nat → Option LoopD := fun n => ifEq n 2 (some ⟨33, sh54_2, xs54_2, spec_l3Marks_l2⟩) (L54_0 n)
noncomputable def spec_l3Marks : Int → (List Int) → Option (Bool) := fun a0 a1 =>
 Option.bind (loopF spec_l3Marks_l2 (a0, a1, a1, (((List.length a1) : Nat) : Int), (0 : Int), ())) fun r0 =>
  (match r0 with
  | .inl (d1, _) =>
    some d1
  | .inr _ =>
    some true)
noncomputable def A54 : FnA := ⟨[.v (.int .i64), .v (.sl (.int .i64))], true, [.bool], fun x => spec_l3Marks x.1 x.2.1⟩
theorem spec_l3Marks_eq : fnF E54 L54_1 [.v (.int .i64), .v (.sl (.int .i64))] true [.bool] f54.ntmps f54.results.toList (codeOf f54) = fun x => spec_l3Marks x.1 x.2.1 := by kernel_rfl
theorem A54_ok : FnOk prog 54 A54 := fo spec_l3Marks_eq func54 E54_ok (allCons (loop54_2 rfl) allNil)
/-! spec.l3Step -/
noncomputable def E55 : Env := ⟨ty0, fun g => ifEq g 37 (some A37) (none), fun _ => none, fun _ => none, fun _ => none⟩
theorem E55_ok : FnsOk prog E55 := (oF A37_ok func37 (noFns _ _))
noncomputable def L55_0 : Nat → Option LoopD := fun _ => none
noncomputable def spec_l3Step : Int → (Int × (ByteArray × (Int × Int))) → Option (Bool) := fun a0 (a1_0, a1_1, a1_2, a1_3) =>
 Option.bind (spec_l1In a1_0 (0 : Int) (IntKind.wrap .i64 (a0 - (1 : Int)))) fun r0 =>
  bif r0 then
   Option.bind (spec_l1In a1_2 (0 : Int) (IntKind.wrap .i64 (a0 - (1 : Int)))) fun r1 =>
    bif r1 then
     Option.bind (spec_l1In a1_3 (0 : Int) (3 : Int)) fun r2 =>
      bif r2 then
       bif ((ByteArray.toList a1_1) == (ByteArray.toList (⟨#[(97 : UInt8)]⟩ : ByteArray))) then
        some true
       else
        some ((ByteArray.toList a1_1) == (ByteArray.toList (⟨#[(98 : UInt8)]⟩ : ByteArray)))
      else
       some false
    else
     some false
  else
   some false
noncomputable def A55 : FnA := ⟨[.v (.int .i64), .v (.pair (.int .i64) (.pair .str (.pair (.int .i64) (.int .i64))))], true, [.bool], fun x => spec_l3Step x.1 x.2.1⟩
theorem spec_l3Step_eq : fnF E55 L55_0 [.v (.int .i64), .v (.pair (.int .i64) (.pair .str (.pair (.int .i64) (.int .i64))))] true [.bool] f55.ntmps f55.results.toList (codeOf f55) = fun x => spec_l3Step x.1 x.2.1 := by kernel_rfl
theorem A55_ok : FnOk prog 55 A55 := fo spec_l3Step_eq func55 E55_ok allNil
/-! spec.l3Before -/
noncomputable def E56 : Env := ⟨ty0, fun _ => none, fun _ => none, fun _ => none, fun _ => none⟩
theorem E56_ok : FnsOk prog E56 := (noFns _ _)
noncomputable def L56_0 : Nat → Option LoopD := fun _ => none
noncomputable def spec_l3Before : (Int × (ByteArray × (Int × Int))) → (Int × (ByteArray × (Int × Int))) → Option (Bool) := fun (a0_0, a0_1, a0_2, a0_3) (a1_0, a1_1, a1_2, a1_3) =>
 bif (a0_0 != a1_0) then
  some (decide (a0_0 < a1_0))
 else
  bif (!((ByteArray.toList a0_1) == (ByteArray.toList a1_1))) then
   some (Op.bytesLess (ByteArray.toList a0_1) (ByteArray.toList a1_1))
  else
   some (decide (a0_2 < a1_2))
noncomputable def A56 : FnA := ⟨[.v (.pair (.int .i64) (.pair .str (.pair (.int .i64) (.int .i64)))), .v (.pair (.int .i64) (.pair .str (.pair (.int .i64) (.int .i64))))], true, [.bool], fun x => spec_l3Before x.1 x.2.1⟩
theorem spec_l3Before_eq : fnF E56 L56_0 [.v (.pair (.int .i64) (.pair .str (.pair (.int .i64) (.int .i64)))), .v (.pair (.int .i64) (.pair .str (.pair (.int .i64) (.int .i64))))] true [.bool] f56.ntmps f56.results.toList (codeOf f56) = fun x => spec_l3Before x.1 x.2.1 := by kernel_rfl
theorem A56_ok : FnOk prog 56 A56 := fo spec_l3Before_eq func56 E56_ok allNil
/-! spec.AutomatonValid -/
noncomputable def E36 : Env := ⟨ty0, fun g => ifEq g 37 (some A37) (ifEq g 54 (some A54) (ifEq g 55 (some A55) (ifEq g 56 (some A56) (none)))), fun _ => none, fun _ => none, fun _ => none⟩
theorem E36_ok : FnsOk prog E36 := (oF A37_ok func37 (oF A54_ok func54 (oF A55_ok func55 (oF A56_ok func56 (noFns _ _)))))
noncomputable def L36_0 : Nat → Option LoopD := fun _ => none
def sh36_4 : List Fm := d :: .box 100100 [.val (.int .i64), .val (.sl (.int .i64)), .val (.sl (.int .i64)), .val (.sl (.pair (.int .i64) (.pair .str (.pair (.int .i64) (.int .i64)))))] :: D 30 (.cell (.val (.sl (.pair (.int .i64) (.pair .str (.pair (.int .i64) (.int .i64)))))) :: .cell (.val (.int .i64)) :: .cell (.val (.int .i64)) :: D 25 [])
def xs36_4 : List (Ex × List Fm) := [(.ret, (d :: d :: .cell (.val .bool) :: D 57 [])), (.exit 0, (D 60 []))]
noncomputable def spec_AutomatonValid_l4 : ((Int × (List Int) × (List Int) × (List (Int × (ByteArray × (Int × Int)))) × Unit) × (List (Int × (ByteArray × (Int × Int)))) × Int × Int × Unit) → Option (((Int × (List Int) × (List Int) × (List (Int × (ByteArray × (Int × Int)))) × Unit) × (List (Int × (ByteArray × (Int × Int)))) × Int × Int × Unit) ⊕ ((Bool × Unit) ⊕ (Unit))) := fun ((v1_0, v1_1, v1_2, v1_3, _), v32, v33, v34, _) =>
 bif (decide (v34 < v33)) then
  if (((0 : Int) ≤ v34) ∧ (v34 < (((List.length v32) : Nat) : Int))) then
   Option.bind (spec_l3Step v1_0 ((List.getD v32 (Int.toNat v34) ((0 : Int), (⟨Array.empty⟩ : ByteArray), (0 : Int), (0 : Int))).1, (List.getD v32 (Int.toNat v34) ((0 : Int), (⟨Array.empty⟩ : ByteArray), (0 : Int), (0 : Int))).2.1, (List.getD v32 (Int.toNat v34) ((0 : Int), (⟨Array.empty⟩ : ByteArray), (0 : Int), (0 : Int))).2.2.1, (List.getD v32 (Int.toNat v34) ((0 : Int), (⟨Array.empty⟩ : ByteArray), (0 : Int), (0 : Int))).2.2.2)) fun r0 =>
    bif (!r0) then
     some (Sum.inr (Sum.inl (false, ())))
    else
     bif (decide (v34 > (0 : Int))) then
      if (((0 : Int) ≤ (IntKind.wrap .i64 (v34 - (1 : Int)))) ∧ ((IntKind.wrap .i64 (v34 - (1 : Int))) < (((List.length v1_3) : Nat) : Int))) then
       Option.bind (spec_l3Before (List.getD v1_3 (Int.toNat (IntKind.wrap .i64 (v34 - (1 : Int)))) ((0 : Int), (⟨Array.empty⟩ : ByteArray), (0 : Int), (0 : Int))) ((List.getD v32 (Int.toNat v34) ((0 : Int), (⟨Array.empty⟩ : ByteArray), (0 : Int), (0 : Int))).1, (List.getD v32 (Int.toNat v34) ((0 : Int), (⟨Array.empty⟩ : ByteArray), (0 : Int), (0 : Int))).2.1, (List.getD v32 (Int.toNat v34) ((0 : Int), (⟨Array.empty⟩ : ByteArray), (0 : Int), (0 : Int))).2.2.1, (List.getD v32 (Int.toNat v34) ((0 : Int), (⟨Array.empty⟩ : ByteArray), (0 : Int), (0 : Int))).2.2.2)) fun r1 =>
        bif (!r1) then
         some (Sum.inr (Sum.inl (false, ())))
        else
         some (Sum.inl ((v1_0, v1_1, v1_2, v1_3, ()), v32, v33, (IntKind.wrap .i64 (v34 + (1 : Int))), ()))
      else
       none
     else
      some (Sum.inl ((v1_0, v1_1, v1_2, v1_3, ()), v32, v33, (IntKind.wrap .i64 (v34 + (1 : Int))), ()))
  else
   none
 else
  some (Sum.inr (Sum.inr ()))
theorem spec_AutomatonValid_l4_eq : loopStep 60 E36 L36_0 (loopOf f36 4) sh36_4 xs36_4 = spec_AutomatonValid_l4 := by kernel_rfl
theorem loop36_4 {L} (h : L 4 = some ⟨60, sh36_4, xs36_4, spec_AutomatonValid_l4⟩) : LoopOk prog L (loopOf f36 4) := lo spec_AutomatonValid_l4_eq E36_ok allNil h
noncomputable def L36_1 : Nat → Option LoopD := fun n => ifEq n 4 (some ⟨60, sh36_4, xs36_4, spec_AutomatonValid_l4⟩) (L36_0 n)
noncomputable def spec_AutomatonValid : (Int × ((List Int) × ((List Int) × (List (Int × (ByteArray × (Int × Int))))))) → Option (Bool) := fun (a0_0, a0_1, a0_2, a0_3) =>
 Option.bind (spec_l1In a0_0 (1 : Int) (4 : Int)) fun r0 =>
  bif (!r0) then
   some false
  else
   Option.bind (spec_l3Marks a0_0 a0_1) fun r1 =>
    bif (!r1) then
     some false
    else
     Option.bind (spec_l3Marks a0_0 a0_2) fun r2 =>
      bif (!r2) then
       some false
      else
       bif (decide ((((List.length a0_3) : Nat) : Int) > (24 : Int))) then
        some false
       else
        Option.bind (loopF spec_AutomatonValid_l4 ((a0_0, a0_1, a0_2, a0_3, ()), a0_3, (((List.length a0_3) : Nat) : Int), (0 : Int), ())) fun r3 =>
         (match r3 with
         | .inl (d4, _) =>
           some d4
         | .inr _ =>
           some true)
noncomputable def A36 : FnA := ⟨[.v (.pair (.int .i64) (.pair (.sl (.int .i64)) (.pair (.sl (.int .i64)) (.sl (.pair (.int .i64) (.pair .str (.pair (.int .i64) (.int .i64))))))))], true, [.bool], fun x => spec_AutomatonValid x.1⟩
theorem spec_AutomatonValid_eq : fnF E36 L36_1 [.v (.pair (.int .i64) (.pair (.sl (.int .i64)) (.pair (.sl (.int .i64)) (.sl (.pair (.int .i64) (.pair .str (.pair (.int .i64) (.int .i64))))))))] true [.bool] f36.ntmps f36.results.toList (codeOf f36) = fun x => spec_AutomatonValid x.1 := by kernel_rfl
theorem A36_ok : FnOk prog 36 A36 := fo spec_AutomatonValid_eq func36 E36_ok (allCons (loop36_4 rfl) allNil)
/-! spec.ParseAutomaton -/
noncomputable def E94 : Env := ⟨ty0, fun g => ifEq g 103 (some A103) (ifEq g 104 (some A104) (ifEq g 105 (some A105) (ifEq g 36 (some A36) (none)))), fun _ => none, fun _ => none, fun _ => none⟩
theorem E94_ok : FnsOk prog E94 := (oF A103_ok func103 (oF A104_ok func104 (oF A105_ok func105 (oF A36_ok func36 (noFns _ _)))))
noncomputable def L94_0 : Nat → Option LoopD := fun _ => none
def sh94_11 : List Fm := d :: d :: .box 100200 [.val (.int .i64), .own (.int .i64) 100202 false, .own (.int .i64) 100203 false, .own (.pair (.int .i64) (.pair .str (.pair (.int .i64) (.int .i64)))) 100204 false] :: D 8 (.box 101100 [.val (.int .i64), .own (.int .i64) 101102 false, .own (.int .i64) 101103 false, .own (.pair (.int .i64) (.pair .str (.pair (.int .i64) (.int .i64)))) 101104 false] :: .cell (.val .bool) :: D 54 (.cell (.own .str 106700 false) :: .cell (.val (.int .i64)) :: .cell (.val (.int .i64)) :: D 61 []))
def xs94_11 : List (Ex × List Fm) := [(.ret, [d, d, .box 100200 [.val (.int .i64), .own (.int .i64) 100202 false, .own (.int .i64) 100203 false, .own (.pair (.int .i64) (.pair .str (.pair (.int .i64) (.int .i64)))) 100204 false], .cell (.val .bool), d, d, d, d, d, d, d, d, d, d, d, d, d, d, d, d, d, d, d, d, d, d, d, d, d, d, d, d, d, d, d, d, d, d, d, d, d, d, d, d, d, d, d, d, d, d, d, d, d, d, d, d, d, d, d, d, d, d, d, d, d, d, d, d, d, d, d, d, d, d, d, d, d, d, d, d, d, d, d, d, d, d, d, d, d, d, d, d, d, d, d, d, d, d, d, d, d, d, d, d, d, d, d, d, d, d, d, d, d, d, d, d, d, d, d, d, d, d, d, d, d, d, d, d, d, d, d]), (.exit 0, [d, d, .box 100200 [.val (.int .i64), .own (.int .i64) 100202 false, .own (.int .i64) 100203 false, .own (.pair (.int .i64) (.pair .str (.pair (.int .i64) (.int .i64)))) 100204 false], d, d, d, d, d, d, d, d, .box 101100 [.val (.int .i64), .own (.int .i64) 101102 false, .own (.int .i64) 101103 false, .own (.pair (.int .i64) (.pair .str (.pair (.int .i64) (.int .i64)))) 101104 false], .cell (.val .bool), d, d, d, d, d, d, d, d, d, d, d, d, d, d, d, d, d, d, d, d, d, d, d, d, d, d, d, d, d, d, d, d, d, d, d, d, d, d, d, d, d, d, d, d, d, d, d, d, d, d, d, d, d, d, d, d, d, d, d, d, d, d, d, d, d, d, d, d, d, d, d, d, d, d, d, d, d, d, d, d, d, d, d, d, d, d, d, d, d, d, d, d, d, d, d, d, d, d, d, d, d, d, d, d, d, d, d, d, d, d, d, d, d, d, d, d, d, d])]
noncomputable def spec_ParseAutomaton_l11 : ((Int × (List Int) × (List Int) × (List (Int × (ByteArray × (Int × Int)))) × Unit) × (Int × (List Int) × (List Int) × (List (Int × (ByteArray × (Int × Int)))) × Unit) × Bool × (List ByteArray) × Int × Int × Unit) → Option (((Int × (List Int) × (List Int) × (List (Int × (ByteArray × (Int × Int)))) × Unit) × (Int × (List Int) × (List Int) × (List (Int × (ByteArray × (Int × Int)))) × Unit) × Bool × (List ByteArray) × Int × Int × Unit) ⊕ (((Int × (List Int) × (List Int) × (List (Int × (ByteArray × (Int × Int)))) × Unit) × Bool × Unit) ⊕ ((Int × (List Int) × (List Int) × (List (Int × (ByteArray × (Int × Int)))) × Unit) × (Int × (List Int) × (List Int) × (List (Int × (ByteArray × (Int × Int)))) × Unit) × Bool × Unit))) := fun ((v2_0, v2_1, v2_2, v2_3, _), (v11_0, v11_1, v11_2, v11_3, _), v12, v67, v68, v69, _) =>
 bif (decide (v69 < v68)) then
  if (((0 : Int) ≤ v69) ∧ (v69 < (((List.length v67) : Nat) : Int))) then
   bif ((((ByteArray.size (List.getD v67 (0 + (Int.toNat v69)) (⟨Array.empty⟩ : ByteArray))) : Nat) : Int) != (5 : Int)) then
    some (Sum.inr (Sum.inl (((0 : Int), [], [], [], ()), false, ())))
   else
    if (((0 : Int) ≤ (3 : Int)) ∧ ((3 : Int) < (((ByteArray.size (List.getD v67 (0 + (Int.toNat v69)) (⟨Array.empty⟩ : ByteArray))) : Nat) : Int))) then
     bif ((((UInt8.toNat (Array.getD (ByteArray.data (List.getD v67 (0 + (Int.toNat v69)) (⟨Array.empty⟩ : ByteArray))) (Int.toNat (3 : Int)) (0 : UInt8))) : Nat) : Int) != (58 : Int)) then
      some (Sum.inr (Sum.inl (((0 : Int), [], [], [], ()), false, ())))
     else
      if (((0 : Int) ≤ (1 : Int)) ∧ ((1 : Int) ≤ (((ByteArray.size (List.getD v67 (0 + (Int.toNat v69)) (⟨Array.empty⟩ : ByteArray))) : Nat) : Int))) then
       Option.bind (spec_l13Num (ByteArray.extract (List.getD v67 (0 + (Int.toNat v69)) (⟨Array.empty⟩ : ByteArray)) 0 (Int.toNat (1 : Int)))) fun (r0, r1) =>
        if (((0 : Int) ≤ (2 : Int)) ∧ (((2 : Int) ≤ (3 : Int)) ∧ ((3 : Int) ≤ (((ByteArray.size (List.getD v67 (0 + (Int.toNat v69)) (⟨Array.empty⟩ : ByteArray))) : Nat) : Int)))) then
         Option.bind (spec_l13Num (ByteArray.extract (List.getD v67 (0 + (Int.toNat v69)) (⟨Array.empty⟩ : ByteArray)) (Int.toNat (2 : Int)) (Int.toNat (3 : Int)))) fun (r2, r3) =>
          if (((0 : Int) ≤ (4 : Int)) ∧ ((4 : Int) ≤ (((ByteArray.size (List.getD v67 (0 + (Int.toNat v69)) (⟨Array.empty⟩ : ByteArray))) : Nat) : Int))) then
           Option.bind (spec_l13Num (ByteArray.extract (List.getD v67 (0 + (Int.toNat v69)) (⟨Array.empty⟩ : ByteArray)) (Int.toNat (4 : Int)) (ByteArray.size (List.getD v67 (0 + (Int.toNat v69)) (⟨Array.empty⟩ : ByteArray))))) fun (r4, r5) =>
            bif v12 then
             bif r1 then
              bif r3 then
               if (((0 : Int) ≤ (1 : Int)) ∧ (((1 : Int) ≤ (2 : Int)) ∧ ((2 : Int) ≤ (((ByteArray.size (List.getD v67 (0 + (Int.toNat v69)) (⟨Array.empty⟩ : ByteArray))) : Nat) : Int)))) then
                if (((0 + (List.length v11_3)) = (List.length v11_3)) ∧ ((((List.length v11_3) + (List.length (List.take 1 (List.drop 0 [(r0, (ByteArray.extract (List.getD v67 (0 + (Int.toNat v69)) (⟨Array.empty⟩ : ByteArray)) (Int.toNat (1 : Int)) (Int.toNat (2 : Int))), r2, r4)])))) * 40) ≤ 140737488355328)) then
                 some (Sum.inl ((v2_0, (List.take (List.length v2_1) (List.drop 0 v2_1)), (List.take (List.length v2_2) (List.drop 0 v2_2)), (List.take (List.length v2_3) (List.drop 0 v2_3)), ()), (v11_0, (List.take (List.length v11_1) (List.drop 0 v11_1)), (List.take (List.length v11_2) (List.drop 0 v11_2)), (List.take ((List.length v11_3) + (List.length (List.take 1 (List.drop 0 [(r0, (ByteArray.extract (List.getD v67 (0 + (Int.toNat v69)) (⟨Array.empty⟩ : ByteArray)) (Int.toNat (1 : Int)) (Int.toNat (2 : Int))), r2, r4)])))) (List.drop 0 ((List.drop 0 v11_3) ++ (List.take 1 (List.drop 0 [(r0, (ByteArray.extract (List.getD v67 (0 + (Int.toNat v69)) (⟨Array.empty⟩ : ByteArray)) (Int.toNat (1 : Int)) (Int.toNat (2 : Int))), r2, r4)]))))), ()), r5, (List.take (List.length v67) (List.drop 0 v67)), v68, (IntKind.wrap .i64 (v69 + (1 : Int))), ()))
                else
                 none
               else
                none
              else
               if (((0 : Int) ≤ (1 : Int)) ∧ (((1 : Int) ≤ (2 : Int)) ∧ ((2 : Int) ≤ (((ByteArray.size (List.getD v67 (0 + (Int.toNat v69)) (⟨Array.empty⟩ : ByteArray))) : Nat) : Int)))) then
                if (((0 + (List.length v11_3)) = (List.length v11_3)) ∧ ((((List.length v11_3) + (List.length (List.take 1 (List.drop 0 [(r0, (ByteArray.extract (List.getD v67 (0 + (Int.toNat v69)) (⟨Array.empty⟩ : ByteArray)) (Int.toNat (1 : Int)) (Int.toNat (2 : Int))), r2, r4)])))) * 40) ≤ 140737488355328)) then
                 some (Sum.inl ((v2_0, (List.take (List.length v2_1) (List.drop 0 v2_1)), (List.take (List.length v2_2) (List.drop 0 v2_2)), (List.take (List.length v2_3) (List.drop 0 v2_3)), ()), (v11_0, (List.take (List.length v11_1) (List.drop 0 v11_1)), (List.take (List.length v11_2) (List.drop 0 v11_2)), (List.take ((List.length v11_3) + (List.length (List.take 1 (List.drop 0 [(r0, (ByteArray.extract (List.getD v67 (0 + (Int.toNat v69)) (⟨Array.empty⟩ : ByteArray)) (Int.toNat (1 : Int)) (Int.toNat (2 : Int))), r2, r4)])))) (List.drop 0 ((List.drop 0 v11_3) ++ (List.take 1 (List.drop 0 [(r0, (ByteArray.extract (List.getD v67 (0 + (Int.toNat v69)) (⟨Array.empty⟩ : ByteArray)) (Int.toNat (1 : Int)) (Int.toNat (2 : Int))), r2, r4)]))))), ()), false, (List.take (List.length v67) (List.drop 0 v67)), v68, (IntKind.wrap .i64 (v69 + (1 : Int))), ()))
                else
                 none
               else
                none
             else
              if (((0 : Int) ≤ (1 : Int)) ∧ (((1 : Int) ≤ (2 : Int)) ∧ ((2 : Int) ≤ (((ByteArray.size (List.getD v67 (0 + (Int.toNat v69)) (⟨Array.empty⟩ : ByteArray))) : Nat) : Int)))) then
               if (((0 + (List.length v11_3)) = (List.length v11_3)) ∧ ((((List.length v11_3) + (List.length (List.take 1 (List.drop 0 [(r0, (ByteArray.extract (List.getD v67 (0 + (Int.toNat v69)) (⟨Array.empty⟩ : ByteArray)) (Int.toNat (1 : Int)) (Int.toNat (2 : Int))), r2, r4)])))) * 40) ≤ 140737488355328)) then
                some (Sum.inl ((v2_0, (List.take (List.length v2_1) (List.drop 0 v2_1)), (List.take (List.length v2_2) (List.drop 0 v2_2)), (List.take (List.length v2_3) (List.drop 0 v2_3)), ()), (v11_0, (List.take (List.length v11_1) (List.drop 0 v11_1)), (List.take (List.length v11_2) (List.drop 0 v11_2)), (List.take ((List.length v11_3) + (List.length (List.take 1 (List.drop 0 [(r0, (ByteArray.extract (List.getD v67 (0 + (Int.toNat v69)) (⟨Array.empty⟩ : ByteArray)) (Int.toNat (1 : Int)) (Int.toNat (2 : Int))), r2, r4)])))) (List.drop 0 ((List.drop 0 v11_3) ++ (List.take 1 (List.drop 0 [(r0, (ByteArray.extract (List.getD v67 (0 + (Int.toNat v69)) (⟨Array.empty⟩ : ByteArray)) (Int.toNat (1 : Int)) (Int.toNat (2 : Int))), r2, r4)]))))), ()), false, (List.take (List.length v67) (List.drop 0 v67)), v68, (IntKind.wrap .i64 (v69 + (1 : Int))), ()))
               else
                none
              else
               none
            else
             if (((0 : Int) ≤ (1 : Int)) ∧ (((1 : Int) ≤ (2 : Int)) ∧ ((2 : Int) ≤ (((ByteArray.size (List.getD v67 (0 + (Int.toNat v69)) (⟨Array.empty⟩ : ByteArray))) : Nat) : Int)))) then
              if (((0 + (List.length v11_3)) = (List.length v11_3)) ∧ ((((List.length v11_3) + (List.length (List.take 1 (List.drop 0 [(r0, (ByteArray.extract (List.getD v67 (0 + (Int.toNat v69)) (⟨Array.empty⟩ : ByteArray)) (Int.toNat (1 : Int)) (Int.toNat (2 : Int))), r2, r4)])))) * 40) ≤ 140737488355328)) then
               some (Sum.inl ((v2_0, (List.take (List.length v2_1) (List.drop 0 v2_1)), (List.take (List.length v2_2) (List.drop 0 v2_2)), (List.take (List.length v2_3) (List.drop 0 v2_3)), ()), (v11_0, (List.take (List.length v11_1) (List.drop 0 v11_1)), (List.take (List.length v11_2) (List.drop 0 v11_2)), (List.take ((List.length v11_3) + (List.length (List.take 1 (List.drop 0 [(r0, (ByteArray.extract (List.getD v67 (0 + (Int.toNat v69)) (⟨Array.empty⟩ : ByteArray)) (Int.toNat (1 : Int)) (Int.toNat (2 : Int))), r2, r4)])))) (List.drop 0 ((List.drop 0 v11_3) ++ (List.take 1 (List.drop 0 [(r0, (ByteArray.extract (List.getD v67 (0 + (Int.toNat v69)) (⟨Array.empty⟩ : ByteArray)) (Int.toNat (1 : Int)) (Int.toNat (2 : Int))), r2, r4)]))))), ()), false, (List.take (List.length v67) (List.drop 0 v67)), v68, (IntKind.wrap .i64 (v69 + (1 : Int))), ()))
              else
               none
             else
              none
          else
           none
        else
         none
      else
       none
    else
     none
  else
   none
 else
  some (Sum.inr (Sum.inr ((v2_0, (List.take (List.length v2_1) (List.drop 0 v2_1)), (List.take (List.length v2_2) (List.drop 0 v2_2)), (List.take (List.length v2_3) (List.drop 0 v2_3)), ()), (v11_0, (List.take (List.length v11_1) (List.drop 0 v11_1)), (List.take (List.length v11_2) (List.drop 0 v11_2)), (List.take (List.length v11_3) (List.drop 0 v11_3)), ()), v12, ())))
theorem spec_ParseAutomaton_l11_eq : loopStep 131 E94 L94_0 (loopOf f94 11) sh94_11 xs94_11 = spec_ParseAutomaton_l11 := by kernel_rfl
theorem loop94_11 {L} (h : L 11 = some ⟨131, sh94_11, xs94_11, spec_ParseAutomaton_l11⟩) : LoopOk prog L (loopOf f94 11) := lo spec_ParseAutomaton_l11_eq E94_ok allNil h
noncomputable def L94_1 : Nat → Option LoopD := fun n => ifEq n 11 (some ⟨131, sh94_11, xs94_11, spec_ParseAutomaton_l11⟩) (L94_0 n)
noncomputable def spec_ParseAutomaton : ByteArray → Option ((Int × ((List Int) × ((List Int) × (List (Int × (ByteArray × (Int × Int))))))) × Bool) := fun a0 =>
 Option.bind (spec_l13Cut a0 (59 : Int)) fun r0 =>
  bif ((((List.length r0) : Nat) : Int) != (4 : Int)) then
   some (((0 : Int), [], [], []), false)
  else
   if (((0 : Int) ≤ (0 : Int)) ∧ ((0 : Int) < (((List.length r0) : Nat) : Int))) then
    Option.bind (spec_l13Num (List.getD r0 (0 + (Int.toNat (0 : Int))) (⟨Array.empty⟩ : ByteArray))) fun (r1, r2) =>
     if (((0 : Int) ≤ (1 : Int)) ∧ ((1 : Int) < (((List.length r0) : Nat) : Int))) then
      Option.bind (spec_l3Read (List.getD r0 (0 + (Int.toNat (1 : Int))) (⟨Array.empty⟩ : ByteArray))) fun (r3, r4) =>
       if (((0 : Int) ≤ (2 : Int)) ∧ ((2 : Int) < (((List.length r0) : Nat) : Int))) then
        Option.bind (spec_l3Read (List.getD r0 (0 + (Int.toNat (2 : Int))) (⟨Array.empty⟩ : ByteArray))) fun (r5, r6) =>
         bif r2 then
          bif r4 then
           if (((0 : Int) ≤ (3 : Int)) ∧ ((3 : Int) < (((List.length r0) : Nat) : Int))) then
            bif (!((ByteArray.toList (List.getD r0 (0 + (Int.toNat (3 : Int))) (⟨Array.empty⟩ : ByteArray))) == (ByteArray.toList (⟨#[]⟩ : ByteArray)))) then
             if (((0 : Int) ≤ (3 : Int)) ∧ ((3 : Int) < (((List.length r0) : Nat) : Int))) then
              Option.bind (spec_l13Cut (List.getD r0 (0 + (Int.toNat (3 : Int))) (⟨Array.empty⟩ : ByteArray)) (32 : Int)) fun r7 =>
               Option.bind (loopF spec_ParseAutomaton_l11 (((0 : Int), [], [], [], ()), (r1, (List.take (List.length r3) (List.drop 0 r3)), (List.take (List.length r5) (List.drop 0 r5)), (List.take 0 (List.drop 0 [])), ()), r6, (List.take (List.length r7) (List.drop 0 r7)), (((List.length r7) : Nat) : Int), (0 : Int), ())) fun r8 =>
                (match r8 with
                | .inl ((d9, d10, d11, d12, _), d13, _) =>
                  some ((d9, (List.take (List.length d10) (List.drop 0 d10)), (List.take (List.length d11) (List.drop 0 d11)), (List.take (List.length d12) (List.drop 0 d12))), d13)
                | .inr ((d14, d15, d16, d17, _), (d18, d19, d20, d21, _), d22, _) =>
                  bif (!d22) then
                   some (((0 : Int), [], [], []), false)
                  else
                   Option.bind (spec_AutomatonValid (d18, (List.take (List.length d19) (List.drop 0 d19)), (List.take (List.length d20) (List.drop 0 d20)), (List.take (List.length d21) (List.drop 0 d21)))) fun r23 =>
                    bif (!r23) then
                     some (((0 : Int), [], [], []), false)
                    else
                     some ((d18, (List.take (List.length d19) (List.drop 0 d19)), (List.take (List.length d20) (List.drop 0 d20)), (List.take (List.length d21) (List.drop 0 d21))), true))
             else
              none
            else
             bif (!r6) then
              some (((0 : Int), [], [], []), false)
             else
              Option.bind (spec_AutomatonValid (r1, (List.take (List.length r3) (List.drop 0 r3)), (List.take (List.length r5) (List.drop 0 r5)), (List.take 0 (List.drop 0 [])))) fun r24 =>
               bif (!r24) then
                some (((0 : Int), [], [], []), false)
               else
                some ((r1, (List.take (List.length r3) (List.drop 0 r3)), (List.take (List.length r5) (List.drop 0 r5)), (List.take 0 (List.drop 0 []))), true)
           else
            none
          else
           if (((0 : Int) ≤ (3 : Int)) ∧ ((3 : Int) < (((List.length r0) : Nat) : Int))) then
            bif (!((ByteArray.toList (List.getD r0 (0 + (Int.toNat (3 : Int))) (⟨Array.empty⟩ : ByteArray))) == (ByteArray.toList (⟨#[]⟩ : ByteArray)))) then
             if (((0 : Int) ≤ (3 : Int)) ∧ ((3 : Int) < (((List.length r0) : Nat) : Int))) then
              Option.bind (spec_l13Cut (List.getD r0 (0 + (Int.toNat (3 : Int))) (⟨Array.empty⟩ : ByteArray)) (32 : Int)) fun r25 =>
               Option.bind (loopF spec_ParseAutomaton_l11 (((0 : Int), [], [], [], ()), (r1, (List.take (List.length r3) (List.drop 0 r3)), (List.take (List.length r5) (List.drop 0 r5)), (List.take 0 (List.drop 0 [])), ()), false, (List.take (List.length r25) (List.drop 0 r25)), (((List.length r25) : Nat) : Int), (0 : Int), ())) fun r26 =>
                (match r26 with
                | .inl ((d27, d28, d29, d30, _), d31, _) =>
                  some ((d27, (List.take (List.length d28) (List.drop 0 d28)), (List.take (List.length d29) (List.drop 0 d29)), (List.take (List.length d30) (List.drop 0 d30))), d31)
                | .inr ((d32, d33, d34, d35, _), (d36, d37, d38, d39, _), d40, _) =>
                  bif (!d40) then
                   some (((0 : Int), [], [], []), false)
                  else
                   Option.bind (spec_AutomatonValid (d36, (List.take (List.length d37) (List.drop 0 d37)), (List.take (List.length d38) (List.drop 0 d38)), (List.take (List.length d39) (List.drop 0 d39)))) fun r41 =>
                    bif (!r41) then
                     some (((0 : Int), [], [], []), false)
                    else
                     some ((d36, (List.take (List.length d37) (List.drop 0 d37)), (List.take (List.length d38) (List.drop 0 d38)), (List.take (List.length d39) (List.drop 0 d39))), true))
             else
              none
            else
             some (((0 : Int), [], [], []), false)
           else
            none
         else
          if (((0 : Int) ≤ (3 : Int)) ∧ ((3 : Int) < (((List.length r0) : Nat) : Int))) then
           bif (!((ByteArray.toList (List.getD r0 (0 + (Int.toNat (3 : Int))) (⟨Array.empty⟩ : ByteArray))) == (ByteArray.toList (⟨#[]⟩ : ByteArray)))) then
            if (((0 : Int) ≤ (3 : Int)) ∧ ((3 : Int) < (((List.length r0) : Nat) : Int))) then
             Option.bind (spec_l13Cut (List.getD r0 (0 + (Int.toNat (3 : Int))) (⟨Array.empty⟩ : ByteArray)) (32 : Int)) fun r42 =>
              Option.bind (loopF spec_ParseAutomaton_l11 (((0 : Int), [], [], [], ()), (r1, (List.take (List.length r3) (List.drop 0 r3)), (List.take (List.length r5) (List.drop 0 r5)), (List.take 0 (List.drop 0 [])), ()), false, (List.take (List.length r42) (List.drop 0 r42)), (((List.length r42) : Nat) : Int), (0 : Int), ())) fun r43 =>
               (match r43 with
               | .inl ((d44, d45, d46, d47, _), d48, _) =>
                 some ((d44, (List.take (List.length d45) (List.drop 0 d45)), (List.take (List.length d46) (List.drop 0 d46)), (List.take (List.length d47) (List.drop 0 d47))), d48)
               | .inr ((d49, d50, d51, d52, _), (d53, d54, d55, d56, _), d57, _) =>
                 bif (!d57) then
                  some (((0 : Int), [], [], []), false)
                 else
                  Option.bind (spec_AutomatonValid (d53, (List.take (List.length d54) (List.drop 0 d54)), (List.take (List.length d55) (List.drop 0 d55)), (List.take (List.length d56) (List.drop 0 d56)))) fun r58 =>
                   bif (!r58) then
                    some (((0 : Int), [], [], []), false)
                   else
                    some ((d53, (List.take (List.length d54) (List.drop 0 d54)), (List.take (List.length d55) (List.drop 0 d55)), (List.take (List.length d56) (List.drop 0 d56))), true))
            else
             none
           else
            some (((0 : Int), [], [], []), false)
          else
           none
       else
        none
     else
      none
   else
    none
noncomputable def A94 : FnA := ⟨[.v .str], true, [.pair (.int .i64) (.pair (.sl (.int .i64)) (.pair (.sl (.int .i64)) (.sl (.pair (.int .i64) (.pair .str (.pair (.int .i64) (.int .i64))))))), .bool], fun x => spec_ParseAutomaton x.1⟩
theorem spec_ParseAutomaton_eq : fnF E94 L94_1 [.v .str] true [.pair (.int .i64) (.pair (.sl (.int .i64)) (.pair (.sl (.int .i64)) (.sl (.pair (.int .i64) (.pair .str (.pair (.int .i64) (.int .i64))))))), .bool] f94.ntmps f94.results.toList (codeOf f94) = fun x => spec_ParseAutomaton x.1 := by kernel_rfl
theorem A94_ok : FnOk prog 94 A94 := fo spec_ParseAutomaton_eq func94 E94_ok (allCons (loop94_11 rfl) allNil)
/-! spec.l3Known -/
noncomputable def E67 : Env := ⟨ty0, fun g => ifEq g 94 (some A94) (none), fun _ => none, fun _ => none, fun _ => none⟩
theorem E67_ok : FnsOk prog E67 := (oF A94_ok func94 (noFns _ _))
noncomputable def L67_0 : Nat → Option LoopD := fun _ => none
noncomputable def spec_l3Known : Int → Option ((Int × ((List Int) × ((List Int) × (List (Int × (ByteArray × (Int × Int)))))))) := fun a0 =>
 if (((9 : Nat) : Int) = (0 : Int)) then
  none
 else
  if (((0 : Int) ≤ (Int.tmod a0 ((9 : Nat) : Int))) ∧ ((Int.tmod a0 ((9 : Nat) : Int)) < ((9 : Nat) : Int))) then
   Option.bind (spec_ParseAutomaton (List.getD [(⟨#[(49 : UInt8), (59 : UInt8), (48 : UInt8), (59 : UInt8), (48 : UInt8), (59 : UInt8), (48 : UInt8), (97 : UInt8), (48 : UInt8), (58 : UInt8), (49 : UInt8), (32 : UInt8), (48 : UInt8), (98 : UInt8), (48 : UInt8), (58 : UInt8), (48 : UInt8)]⟩ : ByteArray), (⟨#[(50 : UInt8), (59 : UInt8), (48 : UInt8), (59 : UInt8), (49 : UInt8), (59 : UInt8), (48 : UInt8), (97 : UInt8), (48 : UInt8), (58 : UInt8), (48 : UInt8), (32 : UInt8), (48 : UInt8), (97 : UInt8), (49 : UInt8), (58 : UInt8), (49 : UInt8), (32 : UInt8), (49 : UInt8), (98 : UInt8), (49 : UInt8), (58 : UInt8), (48 : UInt8)]⟩ : ByteArray), (⟨#[(50 : UInt8), (59 : UInt8), (48 : UInt8), (32 : UInt8), (49 : UInt8), (59 : UInt8), (48 : UInt8), (32 : UInt8), (49 : UInt8), (59 : UInt8), (48 : UInt8), (97 : UInt8), (48 : UInt8), (58 : UInt8), (49 : UInt8), (32 : UInt8), (48 : UInt8), (98 : UInt8), (48 : UInt8), (58 : UInt8), (48 : UInt8), (32 : UInt8), (49 : UInt8), (97 : UInt8), (49 : UInt8), (58 : UInt8), (48 : UInt8), (32 : UInt8), (49 : UInt8), (98 : UInt8), (49 : UInt8), (58 : UInt8), (49 : UInt8)]⟩ : ByteArray), (⟨#[(51 : UInt8), (59 : UInt8), (48 : UInt8), (59 : UInt8), (48 : UInt8), (32 : UInt8), (50 : UInt8), (59 : UInt8), (48 : UInt8), (97 : UInt8), (48 : UInt8), (58 : UInt8), (48 : UInt8), (32 : UInt8), (48 : UInt8), (97 : UInt8), (49 : UInt8), (58 : UInt8), (48 : UInt8), (32 : UInt8), (48 : UInt8), (98 : UInt8), (48 : UInt8), (58 : UInt8), (49 : UInt8), (32 : UInt8), (49 : UInt8), (97 : UInt8), (49 : UInt8), (58 : UInt8), (49 : UInt8), (32 : UInt8), (49 : UInt8), (98 : UInt8), (50 : UInt8), (58 : UInt8), (48 : UInt8), (32 : UInt8), (50 : UInt8), (97 : UInt8), (50 : UInt8), (58 : UInt8), (48 : UInt8), (32 : UInt8), (50 : UInt8), (98 : UInt8), (50 : UInt8), (58 : UInt8), (48 : UInt8)]⟩ : ByteArray), (⟨#[(50 : UInt8), (59 : UInt8), (48 : UInt8), (59 : UInt8), (48 : UInt8), (59 : UInt8), (48 : UInt8), (97 : UInt8), (49 : UInt8), (58 : UInt8), (49 : UInt8), (32 : UInt8), (49 : UInt8), (98 : UInt8), (48 : UInt8), (58 : UInt8), (48 : UInt8)]⟩ : ByteArray), (⟨#[(51 : UInt8), (59 : UInt8), (48 : UInt8), (59 : UInt8), (50 : UInt8), (59 : UInt8), (48 : UInt8), (97 : UInt8), (48 : UInt8), (58 : UInt8), (48 : UInt8), (32 : UInt8), (48 : UInt8), (98 : UInt8), (48 : UInt8), (58 : UInt8), (48 : UInt8), (32 : UInt8), (48 : UInt8), (98 : UInt8), (49 : UInt8), (58 : UInt8), (48 : UInt8), (32 : UInt8), (49 : UInt8), (97 : UInt8), (49 : UInt8), (58 : UInt8), (49 : UInt8), (32 : UInt8), (49 : UInt8), (98 : UInt8), (50 : UInt8), (58 : UInt8), (48 : UInt8), (32 : UInt8), (50 : UInt8), (97 : UInt8), (50 : UInt8), (58 : UInt8), (48 : UInt8), (32 : UInt8), (50 : UInt8), (98 : UInt8), (50 : UInt8), (58 : UInt8), (48 : UInt8)]⟩ : ByteArray), (⟨#[(49 : UInt8), (59 : UInt8), (48 : UInt8), (59 : UInt8), (48 : UInt8), (59 : UInt8), (48 : UInt8), (97 : UInt8), (48 : UInt8), (58 : UInt8), (48 : UInt8)]⟩ : ByteArray), (⟨#[(50 : UInt8), (59 : UInt8), (48 : UInt8), (59 : UInt8), (48 : UInt8), (32 : UInt8), (49 : UInt8), (59 : UInt8), (48 : UInt8), (97 : UInt8), (48 : UInt8), (58 : UInt8), (48 : UInt8), (32 : UInt8), (48 : UInt8), (98 : UInt8), (49 : UInt8), (58 : UInt8), (49 : UInt8), (32 : UInt8), (49 : UInt8), (97 : UInt8), (48 : UInt8), (58 : UInt8), (48 : UInt8), (32 : UInt8), (49 : UInt8), (98 : UInt8), (49 : UInt8), (58 : UInt8), (48 : UInt8)]⟩ : ByteArray), (⟨#[(50 : UInt8), (59 : UInt8), (48 : UInt8), (59 : UInt8), (49 : UInt8), (59 : UInt8), (48 : UInt8), (97 : UInt8), (49 : UInt8), (58 : UInt8), (50 : UInt8), (32 : UInt8), (49 : UInt8), (97 : UInt8), (49 : UInt8), (58 : UInt8), (48 : UInt8), (32 : UInt8), (49 : UInt8), (98 : UInt8), (48 : UInt8), (58 : UInt8), (49 : UInt8)]⟩ : ByteArray)] (0 + (Int.toNat (Int.tmod a0 ((9 : Nat) : Int)))) (⟨Array.empty⟩ : ByteArray))) fun ((r0, r1, r2, r3), r4) =>
    some (r0, (List.take (List.length r1) (List.drop 0 r1)), (List.take (List.length r2) (List.drop 0 r2)), (List.take (List.length r3) (List.drop 0 r3)))
  else
   none
noncomputable def A67 : FnA := ⟨[.v (.int .i64)], true, [.pair (.int .i64) (.pair (.sl (.int .i64)) (.pair (.sl (.int .i64)) (.sl (.pair (.int .i64) (.pair .str (.pair (.int .i64) (.int .i64)))))))], fun x => spec_l3Known x.1⟩
theorem spec_l3Known_eq : fnF E67 L67_0 [.v (.int .i64)] true [.pair (.int .i64) (.pair (.sl (.int .i64)) (.pair (.sl (.int .i64)) (.sl (.pair (.int .i64) (.pair .str (.pair (.int .i64) (.int .i64)))))))] f67.ntmps f67.results.toList (codeOf f67) = fun x => spec_l3Known x.1 := by kernel_rfl
theorem A67_ok : FnOk prog 67 A67 := fo spec_l3Known_eq func67 E67_ok allNil
/-! spec.l3Some -/
noncomputable def E68 : Env := ⟨ty0, fun _ => none, fun g => ifEq g 32 (some A32) (none), fun _ => none, fun _ => none⟩
theorem E68_ok : FnsOk prog E68 := (oneMs A32_ok (by kernel_rfl) func32 (by kernel_rfl) (by kernel_rfl) (noFns _ _))
noncomputable def L68_0 : Nat → Option LoopD := fun _ => none
def sh68_3 : List Fm := .box 200000 [.val (.sl (.int .u8)), .val (.int .i64)] :: D 4 (.cell (.own (.int .i64) 100500 false) :: d :: d :: .cell (.val (.int .i64)) :: .cell (.val (.int .i64)) :: D 11 [])
def xs68_3 : List (Ex × List Fm) := [(.exit 0, [.box 200000 [.val (.sl (.int .u8)), .val (.int .i64)], d, d, d, d, .cell (.own (.int .i64) 100500 false), d, d, d, d, d, d, d, d, d, d, d, d, d, d, d])]
noncomputable def spec_l3Some_l3 : (((List Int) × Int × Unit) × (List Int) × Int × Int × Unit) → Option ((((List Int) × Int × Unit) × (List Int) × Int × Int × Unit) ⊕ ((((List Int) × Int × Unit) × (List Int) × Unit))) := fun ((v0_0, v0_1, _), v5, v8, v9, _) =>
 bif (decide (v9 < v8)) then
  Option.bind (spec_l13Rd_pick (v0_0, v0_1) (2 : Int)) fun (r0, (r1, r2), _) =>
   bif (r0 == (0 : Int)) then
    if (((0 + (List.length v5)) = (List.length v5)) ∧ ((((List.length v5) + (List.length (List.take 1 (List.drop 0 [v9])))) * 8) ≤ 140737488355328)) then
     some (Sum.inl ((r1, r2, ()), (List.take ((List.length v5) + (List.length (List.take 1 (List.drop 0 [v9])))) (List.drop 0 ((List.drop 0 v5) ++ (List.take 1 (List.drop 0 [v9]))))), v8, (IntKind.wrap .i64 (v9 + (1 : Int))), ()))
    else
     none
   else
    some (Sum.inl ((r1, r2, ()), (List.take (List.length v5) (List.drop 0 v5)), v8, (IntKind.wrap .i64 (v9 + (1 : Int))), ()))
 else
  some (Sum.inr ((v0_0, v0_1, ()), (List.take (List.length v5) (List.drop 0 v5)), ()))
theorem spec_l3Some_l3_eq : loopStep 21 E68 L68_0 (loopOf f68 3) sh68_3 xs68_3 = spec_l3Some_l3 := by kernel_rfl
theorem loop68_3 {L} (h : L 3 = some ⟨21, sh68_3, xs68_3, spec_l3Some_l3⟩) : LoopOk prog L (loopOf f68 3) := lo spec_l3Some_l3_eq E68_ok allNil h
noncomputable def L68_1 : Nat → Option LoopD := fun n => ifEq n 3 (some ⟨21, sh68_3, xs68_3, spec_l3Some_l3⟩) (L68_0 n)
noncomputable def spec_l3Some : ((List Int) × Int) → Int → Option (((List Int)) × (((List Int) × Int) × Unit)) := fun (a0_0, a0_1) a1 =>
 Option.bind (loopF spec_l3Some_l3 ((a0_0, a0_1, ()), (List.take 0 (List.drop 0 [])), a1, (0 : Int), ())) fun ((r0, r1, _), r2, _) =>
  some ((List.take (List.length r2) (List.drop 0 r2)), (r0, r1), ())
noncomputable def A68 : FnM := ⟨[.bx (.pair (.sl (.int .u8)) (.int .i64)), .v (.int .i64)], true, [.sl (.int .i64)], none, fun x => spec_l3Some x.1 x.2.1⟩
theorem spec_l3Some_eq : fnMF E68 L68_1 [.bx (.pair (.sl (.int .u8)) (.int .i64)), .v (.int .i64)] true [.sl (.int .i64)] f68.ntmps f68.results.toList (codeOf f68) = fun x => spec_l3Some x.1 x.2.1 := by kernel_rfl
theorem A68_ok : FnMOk prog 68 A68 := by
 have h := fnMOk_of_run (P := prog) (E := E68) (tysOk_of tyl_ok) E68_ok (L := L68_1) (ps := [.bx (.pair (.sl (.int .u8)) (.int .i64)), .v (.int .i64)]) (own := true) (outs := [.sl (.int .i64)]) func68 (c := codeOf f68) (by kernel_rfl) (codeOk_in (L := L68_1) (tysOk_of tyl_ok) E68_ok mixed (c := codeOf f68) (bs := [loopOf f68 3]) (by kernel_rfl) (allCons (loop68_3 rfl) allNil) (by kernel_rfl)) (by kernel_rfl)
 rw [spec_l3Some_eq] at h
 exact h
/-! (*spec.l13Rd).of -/
noncomputable def E66 : Env := ⟨ty0, fun _ => none, fun g => ifEq g 32 (some A32) (none), fun _ => none, fun _ => none⟩
theorem E66_ok : FnsOk prog E66 := (oneMs A32_ok (by kernel_rfl) func32 (by kernel_rfl) (by kernel_rfl) (noFns _ _))
noncomputable def L66_0 : Nat → Option LoopD := fun _ => none
noncomputable def spec_l13Rd_of : ((List Int) × Int) → (List ByteArray) → Option ((ByteArray) × (((List Int) × Int) × Unit)) := fun (a0_0, a0_1) a1 =>
 Option.bind (spec_l13Rd_pick (a0_0, a0_1) (((List.length a1) : Nat) : Int)) fun (r0, (r1, r2), _) =>
  if (((0 : Int) ≤ r0) ∧ (r0 < (((List.length a1) : Nat) : Int))) then
   some ((List.getD a1 (Int.toNat r0) (⟨Array.empty⟩ : ByteArray)), (r1, r2), ())
  else
   none
noncomputable def A66 : FnM := ⟨[.bx (.pair (.sl (.int .u8)) (.int .i64)), .v (.sl .str)], true, [.str], none, fun x => spec_l13Rd_of x.1 x.2.1⟩
theorem spec_l13Rd_of_eq : fnMF E66 L66_0 [.bx (.pair (.sl (.int .u8)) (.int .i64)), .v (.sl .str)] true [.str] f66.ntmps f66.results.toList (codeOf f66) = fun x => spec_l13Rd_of x.1 x.2.1 := by kernel_rfl
theorem A66_ok : FnMOk prog 66 A66 := by
 have h := fnMOk_of_run (P := prog) (E := E66) (tysOk_of tyl_ok) E66_ok (L := L66_0) (ps := [.bx (.pair (.sl (.int .u8)) (.int .i64)), .v (.sl .str)]) (own := true) (outs := [.str]) func66 (c := codeOf f66) (by kernel_rfl) (codeOk_in (L := L66_0) (tysOk_of tyl_ok) E66_ok mixed (c := codeOf f66) (bs := []) (by kernel_rfl) allNil (by kernel_rfl)) (by kernel_rfl)
 rw [spec_l13Rd_of_eq] at h
 exact h
/-! (*spec.l13Rd).num -/
noncomputable def E35 : Env := ⟨ty0, fun _ => none, fun g => ifEq g 32 (some A32) (none), fun _ => none, fun _ => none⟩
theorem E35_ok : FnsOk prog E35 := (oneMs A32_ok (by kernel_rfl) func32 (by kernel_rfl) (by kernel_rfl) (noFns _ _))
noncomputable def L35_0 : Nat → Option LoopD := fun _ => none
noncomputable def spec_l13Rd_num : ((List Int) × Int) → (List Int) → Option ((Int) × (((List Int) × Int) × Unit)) := fun (a0_0, a0_1) a1 =>
 Option.bind (spec_l13Rd_pick (a0_0, a0_1) (((List.length a1) : Nat) : Int)) fun (r0, (r1, r2), _) =>
  if (((0 : Int) ≤ r0) ∧ (r0 < (((List.length a1) : Nat) : Int))) then
   some ((List.getD a1 (Int.toNat r0) (0 : Int)), (r1, r2), ())
  else
   none
noncomputable def A35 : FnM := ⟨[.bx (.pair (.sl (.int .u8)) (.int .i64)), .v (.sl (.int .i64))], true, [.int .i64], none, fun x => spec_l13Rd_num x.1 x.2.1⟩
theorem spec_l13Rd_num_eq : fnMF E35 L35_0 [.bx (.pair (.sl (.int .u8)) (.int .i64)), .v (.sl (.int .i64))] true [.int .i64] f35.ntmps f35.results.toList (codeOf f35) = fun x => spec_l13Rd_num x.1 x.2.1 := by kernel_rfl
theorem A35_ok : FnMOk prog 35 A35 := by
 have h := fnMOk_of_run (P := prog) (E := E35) (tysOk_of tyl_ok) E35_ok (L := L35_0) (ps := [.bx (.pair (.sl (.int .u8)) (.int .i64)), .v (.sl (.int .i64))]) (own := true) (outs := [.int .i64]) func35 (c := codeOf f35) (by kernel_rfl) (codeOk_in (L := L35_0) (tysOk_of tyl_ok) E35_ok mixed (c := codeOf f35) (bs := []) (by kernel_rfl) allNil (by kernel_rfl)) (by kernel_rfl)
 rw [spec_l13Rd_num_eq] at h
 exact h
/-! spec.l3Put -/
noncomputable def E69 : Env := ⟨ty0, fun g => ifEq g 56 (some A56) (none), fun _ => none, fun _ => none, fun _ => none⟩
theorem E69_ok : FnsOk prog E69 := (oF A56_ok func56 (noFns _ _))
noncomputable def L69_0 : Nat → Option LoopD := fun _ => none
def sh69_2 : List Fm := .cell (.val (.sl (.pair (.int .i64) (.pair .str (.pair (.int .i64) (.int .i64)))))) :: d :: d :: .box 100300 [.val (.int .i64), .val .str, .val (.int .i64), .val (.int .i64)] :: d :: .cell (.val (.int .i64)) :: D 56 []
def xs69_2 : List (Ex × List Fm) := [(.exit 0, [.cell (.val (.sl (.pair (.int .i64) (.pair .str (.pair (.int .i64) (.int .i64)))))), d, d, .box 100300 [.val (.int .i64), .val .str, .val (.int .i64), .val (.int .i64)], d, .cell (.val (.int .i64)), d, d, d, d, d, d, d, d, d, d, d, d, d, d, d, d, d, d, d, d, d, d, d, d, d, d, d, d, d, d, d, d, d, d, d, d, d, d, d, d, d, d, d, d, d, d, d, d, d, d, d, d, d, d, d, d])]
noncomputable def spec_l3Put_l2 : ((List (Int × (ByteArray × (Int × Int)))) × (Int × ByteArray × Int × Int × Unit) × Int × Unit) → Option (((List (Int × (ByteArray × (Int × Int)))) × (Int × ByteArray × Int × Int × Unit) × Int × Unit) ⊕ (((List (Int × (ByteArray × (Int × Int)))) × (Int × ByteArray × Int × Int × Unit) × Int × Unit))) := fun (v0, (v3_0, v3_1, v3_2, v3_3, _), v5, _) =>
 bif (decide (v5 < (((List.length v0) : Nat) : Int))) then
  if (((0 : Int) ≤ v5) ∧ (v5 < (((List.length v0) : Nat) : Int))) then
   Option.bind (spec_l3Before (List.getD v0 (Int.toNat v5) ((0 : Int), (⟨Array.empty⟩ : ByteArray), (0 : Int), (0 : Int))) (v3_0, v3_1, v3_2, v3_3)) fun r0 =>
    bif r0 then
     some (Sum.inl (v0, (v3_0, v3_1, v3_2, v3_3, ()), (IntKind.wrap .i64 (v5 + (1 : Int))), ()))
    else
     some (Sum.inr (v0, (v3_0, v3_1, v3_2, v3_3, ()), v5, ()))
  else
   none
 else
  some (Sum.inr (v0, (v3_0, v3_1, v3_2, v3_3, ()), v5, ()))
theorem spec_l3Put_l2_eq : loopStep 62 E69 L69_0 (loopOf f69 2) sh69_2 xs69_2 = spec_l3Put_l2 := by kernel_rfl
theorem loop69_2 {L} (h : L 2 = some ⟨62, sh69_2, xs69_2, spec_l3Put_l2⟩) : LoopOk prog L (loopOf f69 2) := lo spec_l3Put_l2_eq E69_ok allNil h
noncomputable def L69_1 : Nat → Option LoopD := fun n => ifEq n 2 (some ⟨62, sh69_2, xs69_2, spec_l3Put_l2⟩) (L69_0 n)
noncomputable def spec_l3Put : (List (Int × (ByteArray × (Int × Int)))) → (Int × (ByteArray × (Int × Int))) → Option ((List (Int × (ByteArray × (Int × Int))))) := fun a0 (a1_0, a1_1, a1_2, a1_3) =>
 Option.bind (loopF spec_l3Put_l2 (a0, (a1_0, a1_1, a1_2, a1_3, ()), (0 : Int), ())) fun (r0, (r1, r2, r3, r4, _), r5, _) =>
  bif (decide (r5 < (((List.length r0) : Nat) : Int))) then
   if (((0 : Int) ≤ r5) ∧ (r5 < (((List.length r0) : Nat) : Int))) then
    Option.bind (spec_l3Before (r1, r2, r3, r4) (List.getD r0 (Int.toNat r5) ((0 : Int), (⟨Array.empty⟩ : ByteArray), (0 : Int), (0 : Int)))) fun r6 =>
     bif (!r6) then
      if (((0 + 0) = (List.length ([] : List Unit))) ∧ (((0 + (List.length r0)) * 40) ≤ 140737488355328)) then
       if (((0 : Int) ≤ r5) ∧ (r5 < (((0 + (List.length r0)) : Nat) : Int))) then
        if (((0 : Int) ≤ r5) ∧ (r5 < (((0 + (List.length r0)) : Nat) : Int))) then
         Option.bind (Option.some (List.set ((List.drop 0 []) ++ r0) (0 + (Int.toNat r5)) ((List.getD ((List.drop 0 []) ++ r0) (0 + (Int.toNat r5)) ((0 : Int), (⟨Array.empty⟩ : ByteArray), (0 : Int), (0 : Int))).1, (List.getD ((List.drop 0 []) ++ r0) (0 + (Int.toNat r5)) ((0 : Int), (⟨Array.empty⟩ : ByteArray), (0 : Int), (0 : Int))).2.1, (List.getD ((List.drop 0 []) ++ r0) (0 + (Int.toNat r5)) ((0 : Int), (⟨Array.empty⟩ : ByteArray), (0 : Int), (0 : Int))).2.2.1, (if (r4 < (List.getD ((List.drop 0 []) ++ r0) (0 + (Int.toNat r5)) ((0 : Int), (⟨Array.empty⟩ : ByteArray), (0 : Int), (0 : Int))).2.2.2) then r4 else (List.getD ((List.drop 0 []) ++ r0) (0 + (Int.toNat r5)) ((0 : Int), (⟨Array.empty⟩ : ByteArray), (0 : Int), (0 : Int))).2.2.2)))) fun r7 =>
          some (List.take (0 + (List.length r0)) (List.drop 0 r7))
        else
         none
       else
        none
      else
       none
     else
      if (((0 : Int) ≤ r5) ∧ (r5 ≤ (((List.length r0) : Nat) : Int))) then
       if (((0 + 0) = (List.length ([] : List Unit))) ∧ (((0 + (List.length (List.take ((Int.toNat r5) - 0) (List.drop 0 r0)))) * 40) ≤ 140737488355328)) then
        if (((0 + (0 + (List.length (List.take ((Int.toNat r5) - 0) (List.drop 0 r0))))) = (List.length ((List.drop 0 []) ++ (List.take ((Int.toNat r5) - 0) (List.drop 0 r0))))) ∧ ((((0 + (List.length (List.take ((Int.toNat r5) - 0) (List.drop 0 r0)))) + (List.length (List.take 1 (List.drop 0 [(r1, r2, r3, r4)])))) * 40) ≤ 140737488355328)) then
         if (((0 : Int) ≤ r5) ∧ (r5 ≤ (((List.length r0) : Nat) : Int))) then
          if (((0 + ((0 + (List.length (List.take ((Int.toNat r5) - 0) (List.drop 0 r0)))) + (List.length (List.take 1 (List.drop 0 [(r1, r2, r3, r4)]))))) = (List.length ((List.drop 0 ((List.drop 0 []) ++ (List.take ((Int.toNat r5) - 0) (List.drop 0 r0)))) ++ (List.take 1 (List.drop 0 [(r1, r2, r3, r4)]))))) ∧ (((((0 + (List.length (List.take ((Int.toNat r5) - 0) (List.drop 0 r0)))) + (List.length (List.take 1 (List.drop 0 [(r1, r2, r3, r4)])))) + (List.length (List.take ((List.length r0) - (Int.toNat r5)) (List.drop (Int.toNat r5) r0)))) * 40) ≤ 140737488355328)) then
           some (List.take (((0 + (List.length (List.take ((Int.toNat r5) - 0) (List.drop 0 r0)))) + (List.length (List.take 1 (List.drop 0 [(r1, r2, r3, r4)])))) + (List.length (List.take ((List.length r0) - (Int.toNat r5)) (List.drop (Int.toNat r5) r0)))) (List.drop 0 ((List.drop 0 ((List.drop 0 ((List.drop 0 []) ++ (List.take ((Int.toNat r5) - 0) (List.drop 0 r0)))) ++ (List.take 1 (List.drop 0 [(r1, r2, r3, r4)])))) ++ (List.take ((List.length r0) - (Int.toNat r5)) (List.drop (Int.toNat r5) r0)))))
          else
           none
         else
          none
        else
         none
       else
        none
      else
       none
   else
    none
  else
   if (((0 : Int) ≤ r5) ∧ (r5 ≤ (((List.length r0) : Nat) : Int))) then
    if (((0 + 0) = (List.length ([] : List Unit))) ∧ (((0 + (List.length (List.take ((Int.toNat r5) - 0) (List.drop 0 r0)))) * 40) ≤ 140737488355328)) then
     if (((0 + (0 + (List.length (List.take ((Int.toNat r5) - 0) (List.drop 0 r0))))) = (List.length ((List.drop 0 []) ++ (List.take ((Int.toNat r5) - 0) (List.drop 0 r0))))) ∧ ((((0 + (List.length (List.take ((Int.toNat r5) - 0) (List.drop 0 r0)))) + (List.length (List.take 1 (List.drop 0 [(r1, r2, r3, r4)])))) * 40) ≤ 140737488355328)) then
      if (((0 : Int) ≤ r5) ∧ (r5 ≤ (((List.length r0) : Nat) : Int))) then
       if (((0 + ((0 + (List.length (List.take ((Int.toNat r5) - 0) (List.drop 0 r0)))) + (List.length (List.take 1 (List.drop 0 [(r1, r2, r3, r4)]))))) = (List.length ((List.drop 0 ((List.drop 0 []) ++ (List.take ((Int.toNat r5) - 0) (List.drop 0 r0)))) ++ (List.take 1 (List.drop 0 [(r1, r2, r3, r4)]))))) ∧ (((((0 + (List.length (List.take ((Int.toNat r5) - 0) (List.drop 0 r0)))) + (List.length (List.take 1 (List.drop 0 [(r1, r2, r3, r4)])))) + (List.length (List.take ((List.length r0) - (Int.toNat r5)) (List.drop (Int.toNat r5) r0)))) * 40) ≤ 140737488355328)) then
        some (List.take (((0 + (List.length (List.take ((Int.toNat r5) - 0) (List.drop 0 r0)))) + (List.length (List.take 1 (List.drop 0 [(r1, r2, r3, r4)])))) + (List.length (List.take ((List.length r0) - (Int.toNat r5)) (List.drop (Int.toNat r5) r0)))) (List.drop 0 ((List.drop 0 ((List.drop 0 ((List.drop 0 []) ++ (List.take ((Int.toNat r5) - 0) (List.drop 0 r0)))) ++ (List.take 1 (List.drop 0 [(r1, r2, r3, r4)])))) ++ (List.take ((List.length r0) - (Int.toNat r5)) (List.drop (Int.toNat r5) r0)))))
       else
        none
      else
       none
     else
      none
    else
     none
   else
    none
noncomputable def A69 : FnA := ⟨[.v (.sl (.pair (.int .i64) (.pair .str (.pair (.int .i64) (.int .i64))))), .v (.pair (.int .i64) (.pair .str (.pair (.int .i64) (.int .i64))))], true, [.sl (.pair (.int .i64) (.pair .str (.pair (.int .i64) (.int .i64))))], fun x => spec_l3Put x.1 x.2.1⟩
theorem spec_l3Put_eq : fnF E69 L69_1 [.v (.sl (.pair (.int .i64) (.pair .str (.pair (.int .i64) (.int .i64))))), .v (.pair (.int .i64) (.pair .str (.pair (.int .i64) (.int .i64))))] true [.sl (.pair (.int .i64) (.pair .str (.pair (.int .i64) (.int .i64))))] f69.ntmps f69.results.toList (codeOf f69) = fun x => spec_l3Put x.1 x.2.1 := by kernel_rfl
theorem A69_ok : FnOk prog 69 A69 := fo spec_l3Put_eq func69 E69_ok (allCons (loop69_2 rfl) allNil)
/-! spec.l3Draw -/
noncomputable def E49 : Env := ⟨ty0, fun g => ifEq g 67 (some A67) (ifEq g 69 (some A69) (none)), fun g => ifEq g 32 (some A32) (ifEq g 68 (some A68) (ifEq g 66 (some A66) (ifEq g 35 (some A35) (none)))), fun _ => none, fun _ => none⟩
theorem E49_ok : FnsOk prog E49 := (oF A67_ok func67 (oF A69_ok func69 (oneMs A32_ok (by kernel_rfl) func32 (by kernel_rfl) (by kernel_rfl) (oneMs A68_ok (by kernel_rfl) func68 (by kernel_rfl) (by kernel_rfl) (oneMs A66_ok (by kernel_rfl) func66 (by kernel_rfl) (by kernel_rfl) (oneMs A35_ok (by kernel_rfl) func35 (by kernel_rfl) (by kernel_rfl) (noFns _ _)))))))
noncomputable def L49_0 : Nat → Option LoopD := fun _ => none
def sh49_8 : List Fm := .box 200000 [.val (.sl (.int .u8)), .val (.int .i64)] :: d :: d :: d :: .box 100400 [.val (.int .i64), .own (.int .i64) 100402 false, .own (.int .i64) 100403 false, .own (.pair (.int .i64) (.pair .str (.pair (.int .i64) (.int .i64)))) 100404 false] :: d :: .cell (.val (.int .i64)) :: .box 100700 [.val (.int .i64), .own (.int .i64) 100702 false, .own (.int .i64) 100703 false, .own (.pair (.int .i64) (.pair .str (.pair (.int .i64) (.int .i64)))) 100704 false] :: D 30 (.cell (.val (.int .i64)) :: .cell (.val (.int .i64)) :: D 21 [])
def xs49_8 : List (Ex × List Fm) := [(.exit 0, [.box 200000 [.val (.sl (.int .u8)), .val (.int .i64)], d, d, d, .box 100400 [.val (.int .i64), .own (.int .i64) 100402 false, .own (.int .i64) 100403 false, .own (.pair (.int .i64) (.pair .str (.pair (.int .i64) (.int .i64)))) 100404 false], d, d, .box 100700 [.val (.int .i64), .own (.int .i64) 100702 false, .own (.int .i64) 100703 false, .own (.pair (.int .i64) (.pair .str (.pair (.int .i64) (.int .i64)))) 100704 false], d, d, d, d, d, d, d, d, d, d, d, d, d, d, d, d, d, d, d, d, d, d, d, d, d, d, d, d, d, d, d, d, d, d, d, d, d, d, d, d, d, d, d, d, d, d, d, d, d, d, d, d, d])]
noncomputable def spec_l3Draw_l8 : (((List Int) × Int × Unit) × (Int × (List Int) × (List Int) × (List (Int × (ByteArray × (Int × Int)))) × Unit) × Int × (Int × (List Int) × (List Int) × (List (Int × (ByteArray × (Int × Int)))) × Unit) × Int × Int × Unit) → Option ((((List Int) × Int × Unit) × (Int × (List Int) × (List Int) × (List (Int × (ByteArray × (Int × Int)))) × Unit) × Int × (Int × (List Int) × (List Int) × (List (Int × (ByteArray × (Int × Int)))) × Unit) × Int × Int × Unit) ⊕ ((((List Int) × Int × Unit) × (Int × (List Int) × (List Int) × (List (Int × (ByteArray × (Int × Int)))) × Unit) × (Int × (List Int) × (List Int) × (List (Int × (ByteArray × (Int × Int)))) × Unit) × Unit))) := fun ((v0_0, v0_1, _), (v4_0, v4_1, v4_2, v4_3, _), v6, (v7_0, v7_1, v7_2, v7_3, _), v38, v39, _) =>
 bif (decide (v39 < v38)) then
  Option.bind (spec_l13Rd_pick (v0_0, v0_1) v6) fun (r0, (r1, r2), _) =>
   Option.bind (spec_l13Rd_of (r1, r2) (List.take 2 (List.drop 0 [(⟨#[(97 : UInt8)]⟩ : ByteArray), (⟨#[(98 : UInt8)]⟩ : ByteArray)]))) fun (r3, (r4, r5), _) =>
    Option.bind (spec_l13Rd_pick (r4, r5) v6) fun (r6, (r7, r8), _) =>
     Option.bind (spec_l13Rd_num (r7, r8) (List.take 6 (List.drop 0 [(0 : Int), (1 : Int), (0 : Int), (1 : Int), (2 : Int), (0 : Int)]))) fun (r9, (r10, r11), _) =>
      Option.bind (spec_l3Put (List.take (List.length v7_3) (List.drop 0 v7_3)) (r0, r3, r6, r9)) fun r12 =>
       some (Sum.inl ((r10, r11, ()), (v4_0, (List.take (List.length v4_1) (List.drop 0 v4_1)), (List.take (List.length v4_2) (List.drop 0 v4_2)), (List.take (List.length v4_3) (List.drop 0 v4_3)), ()), v6, (v7_0, (List.take (List.length v7_1) (List.drop 0 v7_1)), (List.take (List.length v7_2) (List.drop 0 v7_2)), (List.take (List.length r12) (List.drop 0 r12)), ()), v38, (IntKind.wrap .i64 (v39 + (1 : Int))), ()))
 else
  some (Sum.inr ((v0_0, v0_1, ()), (v4_0, (List.take (List.length v4_1) (List.drop 0 v4_1)), (List.take (List.length v4_2) (List.drop 0 v4_2)), (List.take (List.length v4_3) (List.drop 0 v4_3)), ()), (v7_0, (List.take (List.length v7_1) (List.drop 0 v7_1)), (List.take (List.length v7_2) (List.drop 0 v7_2)), (List.take (List.length v7_3) (List.drop 0 v7_3)), ()), ()))
theorem spec_l3Draw_l8_eq : loopStep 61 E49 L49_0 (loopOf f49 8) sh49_8 xs49_8 = spec_l3Draw_l8 := by kernel_rfl
theorem loop49_8 {L} (h : L 8 = some ⟨61, sh49_8, xs49_8, spec_l3Draw_l8⟩) : LoopOk prog L (loopOf f49 8) := lo spec_l3Draw_l8_eq E49_ok allNil h
noncomputable def L49_1 : Nat → Option LoopD := fun n => ifEq n 8 (some ⟨61, sh49_8, xs49_8, spec_l3Draw_l8⟩) (L49_0 n)
noncomputable def spec_l3Draw : ((List Int) × Int) → Int → Option (((Int × ((List Int) × ((List Int) × (List (Int × (ByteArray × (Int × Int)))))))) × (((List Int) × Int) × Unit)) := fun (a0_0, a0_1) a1 =>
 Option.bind (spec_l13Rd_pick (a0_0, a0_1) (3 : Int)) fun (r0, (r1, r2), _) =>
  bif (r0 == (0 : Int)) then
   Option.bind (spec_l13Rd_pick (r1, r2) (9 : Int)) fun (r3, (r4, r5), _) =>
    Option.bind (spec_l3Known r3) fun (r6, r7, r8, r9) =>
     bif (decide (r6 ≤ a1)) then
      some ((r6, (List.take (List.length r7) (List.drop 0 r7)), (List.take (List.length r8) (List.drop 0 r8)), (List.take (List.length r9) (List.drop 0 r9))), (r4, r5), ())
     else
      Option.bind (spec_l13Rd_pick (r4, r5) a1) fun (r10, (r11, r12), _) =>
       Option.bind (spec_l3Some (r11, r12) (IntKind.wrap .i64 ((1 : Int) + r10))) fun (r13, (r14, r15), _) =>
        Option.bind (spec_l3Some (r14, r15) (IntKind.wrap .i64 ((1 : Int) + r10))) fun (r16, (r17, r18), _) =>
         Option.bind (spec_l13Rd_pick (r17, r18) (IntKind.wrap .i64 ((IntKind.wrap .i64 ((2 : Int) * (IntKind.wrap .i64 ((1 : Int) + r10)))) + (1 : Int)))) fun (r19, (r20, r21), _) =>
          Option.bind (loopF spec_l3Draw_l8 ((r20, r21, ()), ((0 : Int), [], [], [], ()), (IntKind.wrap .i64 ((1 : Int) + r10)), ((IntKind.wrap .i64 ((1 : Int) + r10)), (List.take (List.length r13) (List.drop 0 r13)), (List.take (List.length r16) (List.drop 0 r16)), (List.take 0 (List.drop 0 [])), ()), (IntKind.wrap .i64 ((1 : Int) + r19)), (0 : Int), ())) fun ((r22, r23, _), (r24, r25, r26, r27, _), (r28, r29, r30, r31, _), _) =>
           some ((r28, (List.take (List.length r29) (List.drop 0 r29)), (List.take (List.length r30) (List.drop 0 r30)), (List.take (List.length r31) (List.drop 0 r31))), (r22, r23), ())
  else
   Option.bind (spec_l13Rd_pick (r1, r2) a1) fun (r32, (r33, r34), _) =>
    Option.bind (spec_l3Some (r33, r34) (IntKind.wrap .i64 ((1 : Int) + r32))) fun (r35, (r36, r37), _) =>
     Option.bind (spec_l3Some (r36, r37) (IntKind.wrap .i64 ((1 : Int) + r32))) fun (r38, (r39, r40), _) =>
      Option.bind (spec_l13Rd_pick (r39, r40) (IntKind.wrap .i64 ((IntKind.wrap .i64 ((2 : Int) * (IntKind.wrap .i64 ((1 : Int) + r32)))) + (1 : Int)))) fun (r41, (r42, r43), _) =>
       Option.bind (loopF spec_l3Draw_l8 ((r42, r43, ()), ((0 : Int), [], [], [], ()), (IntKind.wrap .i64 ((1 : Int) + r32)), ((IntKind.wrap .i64 ((1 : Int) + r32)), (List.take (List.length r35) (List.drop 0 r35)), (List.take (List.length r38) (List.drop 0 r38)), (List.take 0 (List.drop 0 [])), ()), (IntKind.wrap .i64 ((1 : Int) + r41)), (0 : Int), ())) fun ((r44, r45, _), (r46, r47, r48, r49, _), (r50, r51, r52, r53, _), _) =>
        some ((r50, (List.take (List.length r51) (List.drop 0 r51)), (List.take (List.length r52) (List.drop 0 r52)), (List.take (List.length r53) (List.drop 0 r53))), (r44, r45), ())
noncomputable def A49 : FnM := ⟨[.bx (.pair (.sl (.int .u8)) (.int .i64)), .v (.int .i64)], true, [.pair (.int .i64) (.pair (.sl (.int .i64)) (.pair (.sl (.int .i64)) (.sl (.pair (.int .i64) (.pair .str (.pair (.int .i64) (.int .i64)))))))], none, fun x => spec_l3Draw x.1 x.2.1⟩
theorem spec_l3Draw_eq : fnMF E49 L49_1 [.bx (.pair (.sl (.int .u8)) (.int .i64)), .v (.int .i64)] true [.pair (.int .i64) (.pair (.sl (.int .i64)) (.pair (.sl (.int .i64)) (.sl (.pair (.int .i64) (.pair .str (.pair (.int .i64) (.int .i64)))))))] f49.ntmps f49.results.toList (codeOf f49) = fun x => spec_l3Draw x.1 x.2.1 := by kernel_rfl
theorem A49_ok : FnMOk prog 49 A49 := by
 have h := fnMOk_of_run (P := prog) (E := E49) (tysOk_of tyl_ok) E49_ok (L := L49_1) (ps := [.bx (.pair (.sl (.int .u8)) (.int .i64)), .v (.int .i64)]) (own := true) (outs := [.pair (.int .i64) (.pair (.sl (.int .i64)) (.pair (.sl (.int .i64)) (.sl (.pair (.int .i64) (.pair .str (.pair (.int .i64) (.int .i64)))))))]) func49 (c := codeOf f49) (by kernel_rfl) (codeOk_in (L := L49_1) (tysOk_of tyl_ok) E49_ok mixed (c := codeOf f49) (bs := [loopOf f49 8]) (by kernel_rfl) (allCons (loop49_8 rfl) allNil) (by kernel_rfl)) (by kernel_rfl)
 rw [spec_l3Draw_eq] at h
 exact h
/-! spec.l3Bad -/
noncomputable def E48 : Env := ⟨ty0, fun _ => none, fun g => ifEq g 32 (some A32) (ifEq g 35 (some A35) (ifEq g 66 (some A66) (none))), fun _ => none, fun _ => none⟩
theorem E48_ok : FnsOk prog E48 := (oneMs A32_ok (by kernel_rfl) func32 (by kernel_rfl) (by kernel_rfl) (oneMs A35_ok (by kernel_rfl) func35 (by kernel_rfl) (by kernel_rfl) (oneMs A66_ok (by kernel_rfl) func66 (by kernel_rfl) (by kernel_rfl) (noFns _ _))))
noncomputable def L48_0 : Nat → Option LoopD := fun _ => none
noncomputable def spec_l3Bad : ((List Int) × Int) → (Int × ((List Int) × ((List Int) × (List (Int × (ByteArray × (Int × Int))))))) → Option (((Int × ((List Int) × ((List Int) × (List (Int × (ByteArray × (Int × Int)))))))) × (((List Int) × Int) × Unit)) := fun (a0_0, a0_1) (a1_0, a1_1, a1_2, a1_3) =>
 Option.bind (spec_l13Rd_pick (a0_0, a0_1) (36 : Int)) fun (r0, (r1, r2), _) =>
  bif (r0 == (0 : Int)) then
   Option.bind (spec_l13Rd_num (r1, r2) (List.take 5 (List.drop 0 [(0 : Int), (5 : Int), (-1 : Int), (1 : Int), (9223372036854775807 : Int)]))) fun (r3, (r4, r5), _) =>
    some ((r3, a1_1, a1_2, a1_3), (r4, r5), ())
  else
   bif (r0 == (1 : Int)) then
    if (((0 + 0) = (List.length ([] : List Unit))) ∧ (((0 + (List.length a1_3)) * 40) ≤ 140737488355328)) then
     Option.bind (spec_l13Rd_pick (r1, r2) (2 : Int)) fun (r6, (r7, r8), _) =>
      Option.bind (spec_l13Rd_of (r7, r8) (List.take 3 (List.drop 0 [(⟨#[(97 : UInt8)]⟩ : ByteArray), (⟨#[(99 : UInt8)]⟩ : ByteArray), (⟨#[]⟩ : ByteArray)]))) fun (r9, (r10, r11), _) =>
       Option.bind (spec_l13Rd_num (r10, r11) (List.take 3 (List.drop 0 [(0 : Int), (4 : Int), (-1 : Int)]))) fun (r12, (r13, r14), _) =>
        Option.bind (spec_l13Rd_num (r13, r14) (List.take 3 (List.drop 0 [(0 : Int), (4 : Int), (-1 : Int)]))) fun (r15, (r16, r17), _) =>
         if (((0 + (0 + (List.length a1_3))) = (List.length ((List.drop 0 []) ++ a1_3))) ∧ ((((0 + (List.length a1_3)) + (List.length (List.take 1 (List.drop 0 [(r6, r9, r12, r15)])))) * 40) ≤ 140737488355328)) then
          some ((a1_0, a1_1, a1_2, (List.take ((0 + (List.length a1_3)) + (List.length (List.take 1 (List.drop 0 [(r6, r9, r12, r15)])))) (List.drop 0 ((List.drop 0 ((List.drop 0 []) ++ a1_3)) ++ (List.take 1 (List.drop 0 [(r6, r9, r12, r15)])))))), (r16, r17), ())
         else
          none
    else
     none
   else
    bif (r0 == (2 : Int)) then
     if (((0 + 0) = (List.length ([] : List Unit))) ∧ (((0 + (List.length a1_1)) * 8) ≤ 140737488355328)) then
      Option.bind (spec_l13Rd_num (r1, r2) (List.take 3 (List.drop 0 [(0 : Int), (4 : Int), (-1 : Int)]))) fun (r18, (r19, r20), _) =>
       if (((0 + (0 + (List.length a1_1))) = (List.length ((List.drop 0 []) ++ a1_1))) ∧ ((((0 + (List.length a1_1)) + (List.length (List.take 1 (List.drop 0 [r18])))) * 8) ≤ 140737488355328)) then
        some ((a1_0, (List.take ((0 + (List.length a1_1)) + (List.length (List.take 1 (List.drop 0 [r18])))) (List.drop 0 ((List.drop 0 ((List.drop 0 []) ++ a1_1)) ++ (List.take 1 (List.drop 0 [r18]))))), a1_2, a1_3), (r19, r20), ())
       else
        none
     else
      none
    else
     some ((a1_0, a1_1, a1_2, a1_3), (r1, r2), ())
noncomputable def A48 : FnM := ⟨[.bx (.pair (.sl (.int .u8)) (.int .i64)), .v (.pair (.int .i64) (.pair (.sl (.int .i64)) (.pair (.sl (.int .i64)) (.sl (.pair (.int .i64) (.pair .str (.pair (.int .i64) (.int .i64))))))))], false, [.pair (.int .i64) (.pair (.sl (.int .i64)) (.pair (.sl (.int .i64)) (.sl (.pair (.int .i64) (.pair .str (.pair (.int .i64) (.int .i64)))))))], none, fun x => spec_l3Bad x.1 x.2.1⟩
theorem spec_l3Bad_eq : fnMF E48 L48_0 [.bx (.pair (.sl (.int .u8)) (.int .i64)), .v (.pair (.int .i64) (.pair (.sl (.int .i64)) (.pair (.sl (.int .i64)) (.sl (.pair (.int .i64) (.pair .str (.pair (.int .i64) (.int .i64))))))))] false [.pair (.int .i64) (.pair (.sl (.int .i64)) (.pair (.sl (.int .i64)) (.sl (.pair (.int .i64) (.pair .str (.pair (.int .i64) (.int .i64)))))))] f48.ntmps f48.results.toList (codeOf f48) = fun x => spec_l3Bad x.1 x.2.1 := by kernel_rfl
theorem A48_ok : FnMOk prog 48 A48 := by
 have h := fnMOk_of_run (P := prog) (E := E48) (tysOk_of tyl_ok) E48_ok (L := L48_0) (ps := [.bx (.pair (.sl (.int .u8)) (.int .i64)), .v (.pair (.int .i64) (.pair (.sl (.int .i64)) (.pair (.sl (.int .i64)) (.sl (.pair (.int .i64) (.pair .str (.pair (.int .i64) (.int .i64))))))))]) (own := false) (outs := [.pair (.int .i64) (.pair (.sl (.int .i64)) (.pair (.sl (.int .i64)) (.sl (.pair (.int .i64) (.pair .str (.pair (.int .i64) (.int .i64)))))))]) func48 (c := codeOf f48) (by kernel_rfl) (codeOk_in (L := L48_0) (tysOk_of tyl_ok) E48_ok mixed (c := codeOf f48) (bs := []) (by kernel_rfl) allNil (by kernel_rfl)) (by kernel_rfl)
 rw [spec_l3Bad_eq] at h
 exact h
/-! spec.l3Any -/
noncomputable def E31 : Env := ⟨ty0, fun _ => none, fun g => ifEq g 49 (some A49) (ifEq g 48 (some A48) (none)), fun _ => none, fun _ => none⟩
theorem E31_ok : FnsOk prog E31 := (oneMs A49_ok (by kernel_rfl) func49 (by kernel_rfl) (by kernel_rfl) (oneMs A48_ok (by kernel_rfl) func48 (by kernel_rfl) (by kernel_rfl) (noFns _ _)))
noncomputable def L31_0 : Nat → Option LoopD := fun _ => none
noncomputable def spec_l3Any : ((List Int) × Int) → Option (((Int × ((List Int) × ((List Int) × (List (Int × (ByteArray × (Int × Int)))))))) × (((List Int) × Int) × Unit)) := fun (a0_0, a0_1) =>
 Option.bind (spec_l3Draw (a0_0, a0_1) (3 : Int)) fun ((r0, r1, r2, r3), (r4, r5), _) =>
  Option.bind (spec_l3Bad (r4, r5) (r0, (List.take (List.length r1) (List.drop 0 r1)), (List.take (List.length r2) (List.drop 0 r2)), (List.take (List.length r3) (List.drop 0 r3)))) fun ((r6, r7, r8, r9), (r10, r11), _) =>
   some ((r6, r7, r8, r9), (r10, r11), ())
noncomputable def A31 : FnM := ⟨[.bx (.pair (.sl (.int .u8)) (.int .i64))], false, [.pair (.int .i64) (.pair (.sl (.int .i64)) (.pair (.sl (.int .i64)) (.sl (.pair (.int .i64) (.pair .str (.pair (.int .i64) (.int .i64)))))))], none, fun x => spec_l3Any x.1⟩
theorem spec_l3Any_eq : fnMF E31 L31_0 [.bx (.pair (.sl (.int .u8)) (.int .i64))] false [.pair (.int .i64) (.pair (.sl (.int .i64)) (.pair (.sl (.int .i64)) (.sl (.pair (.int .i64) (.pair .str (.pair (.int .i64) (.int .i64)))))))] f31.ntmps f31.results.toList (codeOf f31) = fun x => spec_l3Any x.1 := by kernel_rfl
theorem A31_ok : FnMOk prog 31 A31 := by
 have h := fnMOk_of_run (P := prog) (E := E31) (tysOk_of tyl_ok) E31_ok (L := L31_0) (ps := [.bx (.pair (.sl (.int .u8)) (.int .i64))]) (own := false) (outs := [.pair (.int .i64) (.pair (.sl (.int .i64)) (.pair (.sl (.int .i64)) (.sl (.pair (.int .i64) (.pair .str (.pair (.int .i64) (.int .i64)))))))]) func31 (c := codeOf f31) (by kernel_rfl) (codeOk_in (L := L31_0) (tysOk_of tyl_ok) E31_ok mixed (c := codeOf f31) (bs := []) (by kernel_rfl) allNil (by kernel_rfl)) (by kernel_rfl)
 rw [spec_l3Any_eq] at h
 exact h
/-! spec.l3Reach -/
noncomputable def E70 : Env := ⟨ty0, fun _ => none, fun _ => none, fun _ => none, fun _ => none⟩
theorem E70_ok : FnsOk prog E70 := (noFns _ _)
noncomputable def L70_0 : Nat → Option LoopD := fun _ => none
def sh70_3 : List Fm := d :: d :: .cell (.val .bool) :: .box 100300 [.val (.int .i64), .val (.sl (.int .i64)), .val (.sl (.int .i64)), .val (.sl (.pair (.int .i64) (.pair .str (.pair (.int .i64) (.int .i64)))))] :: d :: d :: .box 100600 [.val .bool, .val .bool, .val .bool, .val .bool] :: .box 100700 [.val .bool, .val .bool, .val .bool, .val .bool] :: D 4 (.cell (.val (.sl (.int .i64))) :: .cell (.val (.int .i64)) :: .cell (.val (.int .i64)) :: D 41 [])
def xs70_3 : List (Ex × List Fm) := [(.exit 0, [d, d, .cell (.val .bool), .box 100300 [.val (.int .i64), .val (.sl (.int .i64)), .val (.sl (.int .i64)), .val (.sl (.pair (.int .i64) (.pair .str (.pair (.int .i64) (.int .i64)))))], d, d, .box 100600 [.val .bool, .val .bool, .val .bool, .val .bool], .box 100700 [.val .bool, .val .bool, .val .bool, .val .bool], d, d, d, d, d, d, d, d, d, d, d, d, d, d, d, d, d, d, d, d, d, d, d, d, d, d, d, d, d, d, d, d, d, d, d, d, d, d, d, d, d, d, d, d, d, d, d, d])]
noncomputable def spec_l3Reach_l3 : (Bool × (Int × (List Int) × (List Int) × (List (Int × (ByteArray × (Int × Int)))) × Unit) × (Bool × Bool × Bool × Bool × Unit) × (Bool × Bool × Bool × Bool × Unit) × (List Int) × Int × Int × Unit) → Option ((Bool × (Int × (List Int) × (List Int) × (List (Int × (ByteArray × (Int × Int)))) × Unit) × (Bool × Bool × Bool × Bool × Unit) × (Bool × Bool × Bool × Bool × Unit) × (List Int) × Int × Int × Unit) ⊕ ((Bool × (Int × (List Int) × (List Int) × (List (Int × (ByteArray × (Int × Int)))) × Unit) × (Bool × Bool × Bool × Bool × Unit) × (Bool × Bool × Bool × Bool × Unit) × Unit))) := fun (v2, (v3_0, v3_1, v3_2, v3_3, _), (v6_0, v6_1, v6_2, v6_3, _), (v7_0, v7_1, v7_2, v7_3, _), v12, v13, v14, _) =>
 bif (decide (v14 < v13)) then
  if (((0 : Int) ≤ v14) ∧ (v14 < (((List.length v12) : Nat) : Int))) then
   if (((0 : Int) ≤ (List.getD v12 (Int.toNat v14) (0 : Int))) ∧ ((List.getD v12 (Int.toNat v14) (0 : Int)) < ((4 : Nat) : Int))) then
    some (Sum.inl (v2, (v3_0, v3_1, v3_2, v3_3, ()), (v6_0, v6_1, v6_2, v6_3, ()), ((bif (Nat.beq (Int.toNat (List.getD v12 (Int.toNat v14) (0 : Int))) 0) then true else v7_0), (bif (Nat.beq (Int.toNat (List.getD v12 (Int.toNat v14) (0 : Int))) (0 + 1)) then true else v7_1), (bif (Nat.beq (Int.toNat (List.getD v12 (Int.toNat v14) (0 : Int))) ((0 + 1) + 1)) then true else v7_2), (bif (Nat.beq (Int.toNat (List.getD v12 (Int.toNat v14) (0 : Int))) (((0 + 1) + 1) + 1)) then true else v7_3), ()), v12, v13, (IntKind.wrap .i64 (v14 + (1 : Int))), ()))
   else
    none
  else
   none
 else
  some (Sum.inr (v2, (v3_0, v3_1, v3_2, v3_3, ()), (v6_0, v6_1, v6_2, v6_3, ()), (v7_0, v7_1, v7_2, v7_3, ()), ()))
theorem spec_l3Reach_l3_eq : loopStep 56 E70 L70_0 (loopOf f70 3) sh70_3 xs70_3 = spec_l3Reach_l3 := by kernel_rfl
theorem loop70_3 {L} (h : L 3 = some ⟨56, sh70_3, xs70_3, spec_l3Reach_l3⟩) : LoopOk prog L (loopOf f70 3) := lo spec_l3Reach_l3_eq E70_ok allNil h
noncomputable def L70_1 : Nat → Option LoopD := fun n => ifEq n 3 (some ⟨56, sh70_3, xs70_3, spec_l3Reach_l3⟩) (L70_0 n)
def sh70_10 : List Fm := d :: d :: .cell (.val .bool) :: .box 100300 [.val (.int .i64), .val (.sl (.int .i64)), .val (.sl (.int .i64)), .val (.sl (.pair (.int .i64) (.pair .str (.pair (.int .i64) (.int .i64)))))] :: d :: d :: .box 100600 [.val .bool, .val .bool, .val .bool, .val .bool] :: .box 100700 [.val .bool, .val .bool, .val .bool, .val .bool] :: D 14 (.cell (.val (.int .i64)) :: .cell (.val (.int .i64)) :: d :: d :: .cell (.val (.sl (.pair (.int .i64) (.pair .str (.pair (.int .i64) (.int .i64)))))) :: .cell (.val (.int .i64)) :: .cell (.val (.int .i64)) :: D 27 [])
def xs70_10 : List (Ex × List Fm) := [(.exit 4, [d, d, .cell (.val .bool), .box 100300 [.val (.int .i64), .val (.sl (.int .i64)), .val (.sl (.int .i64)), .val (.sl (.pair (.int .i64) (.pair .str (.pair (.int .i64) (.int .i64)))))], d, d, .box 100600 [.val .bool, .val .bool, .val .bool, .val .bool], .box 100700 [.val .bool, .val .bool, .val .bool, .val .bool], d, d, d, d, d, d, d, d, d, d, d, d, d, d, .cell (.val (.int .i64)), .cell (.val (.int .i64)), d, d, d, d, d, d, d, d, d, d, d, d, d, d, d, d, d, d, d, d, d, d, d, d, d, d, d, d, d, d, d, d])]
noncomputable def spec_l3Reach_l10 : (Bool × (Int × (List Int) × (List Int) × (List (Int × (ByteArray × (Int × Int)))) × Unit) × (Bool × Bool × Bool × Bool × Unit) × (Bool × Bool × Bool × Bool × Unit) × Int × Int × (List (Int × (ByteArray × (Int × Int)))) × Int × Int × Unit) → Option ((Bool × (Int × (List Int) × (List Int) × (List (Int × (ByteArray × (Int × Int)))) × Unit) × (Bool × Bool × Bool × Bool × Unit) × (Bool × Bool × Bool × Bool × Unit) × Int × Int × (List (Int × (ByteArray × (Int × Int)))) × Int × Int × Unit) ⊕ ((Bool × (Int × (List Int) × (List Int) × (List (Int × (ByteArray × (Int × Int)))) × Unit) × (Bool × Bool × Bool × Bool × Unit) × (Bool × Bool × Bool × Bool × Unit) × Int × Int × Unit))) := fun (v2, (v3_0, v3_1, v3_2, v3_3, _), (v6_0, v6_1, v6_2, v6_3, _), (v7_0, v7_1, v7_2, v7_3, _), v22, v23, v26, v27, v28, _) =>
 bif (decide (v28 < v27)) then
  if (((0 : Int) ≤ v28) ∧ (v28 < (((List.length v26) : Nat) : Int))) then
   bif v2 then
    if (((0 : Int) ≤ (List.getD v26 (Int.toNat v28) ((0 : Int), (⟨Array.empty⟩ : ByteArray), (0 : Int), (0 : Int))).2.2.1) ∧ ((List.getD v26 (Int.toNat v28) ((0 : Int), (⟨Array.empty⟩ : ByteArray), (0 : Int), (0 : Int))).2.2.1 < ((4 : Nat) : Int))) then
     bif (List.getD [v7_0, v7_1, v7_2, v7_3] (Int.toNat (List.getD v26 (Int.toNat v28) ((0 : Int), (⟨Array.empty⟩ : ByteArray), (0 : Int), (0 : Int))).2.2.1) false) then
      if (((0 : Int) ≤ (List.getD v26 (Int.toNat v28) ((0 : Int), (⟨Array.empty⟩ : ByteArray), (0 : Int), (0 : Int))).1) ∧ ((List.getD v26 (Int.toNat v28) ((0 : Int), (⟨Array.empty⟩ : ByteArray), (0 : Int), (0 : Int))).1 < ((4 : Nat) : Int))) then
       bif (!v2) then
        if (((0 : Int) ≤ (List.getD v26 (Int.toNat v28) ((0 : Int), (⟨Array.empty⟩ : ByteArray), (0 : Int), (0 : Int))).1) ∧ ((List.getD v26 (Int.toNat v28) ((0 : Int), (⟨Array.empty⟩ : ByteArray), (0 : Int), (0 : Int))).1 < ((4 : Nat) : Int))) then
         bif (List.getD [(bif (Nat.beq (Int.toNat (List.getD v26 (Int.toNat v28) ((0 : Int), (⟨Array.empty⟩ : ByteArray), (0 : Int), (0 : Int))).1) 0) then true else v7_0), (bif (Nat.beq (Int.toNat (List.getD v26 (Int.toNat v28) ((0 : Int), (⟨Array.empty⟩ : ByteArray), (0 : Int), (0 : Int))).1) (0 + 1)) then true else v7_1), (bif (Nat.beq (Int.toNat (List.getD v26 (Int.toNat v28) ((0 : Int), (⟨Array.empty⟩ : ByteArray), (0 : Int), (0 : Int))).1) ((0 + 1) + 1)) then true else v7_2), (bif (Nat.beq (Int.toNat (List.getD v26 (Int.toNat v28) ((0 : Int), (⟨Array.empty⟩ : ByteArray), (0 : Int), (0 : Int))).1) (((0 + 1) + 1) + 1)) then true else v7_3)] (Int.toNat (List.getD v26 (Int.toNat v28) ((0 : Int), (⟨Array.empty⟩ : ByteArray), (0 : Int), (0 : Int))).1) false) then
          if (((0 : Int) ≤ (List.getD v26 (Int.toNat v28) ((0 : Int), (⟨Array.empty⟩ : ByteArray), (0 : Int), (0 : Int))).2.2.1) ∧ ((List.getD v26 (Int.toNat v28) ((0 : Int), (⟨Array.empty⟩ : ByteArray), (0 : Int), (0 : Int))).2.2.1 < ((4 : Nat) : Int))) then
           some (Sum.inl (v2, (v3_0, v3_1, v3_2, v3_3, ()), (v6_0, v6_1, v6_2, v6_3, ()), ((bif (Nat.beq (Int.toNat (List.getD v26 (Int.toNat v28) ((0 : Int), (⟨Array.empty⟩ : ByteArray), (0 : Int), (0 : Int))).2.2.1) 0) then true else (bif (Nat.beq (Int.toNat (List.getD v26 (Int.toNat v28) ((0 : Int), (⟨Array.empty⟩ : ByteArray), (0 : Int), (0 : Int))).1) 0) then true else v7_0)), (bif (Nat.beq (Int.toNat (List.getD v26 (Int.toNat v28) ((0 : Int), (⟨Array.empty⟩ : ByteArray), (0 : Int), (0 : Int))).2.2.1) (0 + 1)) then true else (bif (Nat.beq (Int.toNat (List.getD v26 (Int.toNat v28) ((0 : Int), (⟨Array.empty⟩ : ByteArray), (0 : Int), (0 : Int))).1) (0 + 1)) then true else v7_1)), (bif (Nat.beq (Int.toNat (List.getD v26 (Int.toNat v28) ((0 : Int), (⟨Array.empty⟩ : ByteArray), (0 : Int), (0 : Int))).2.2.1) ((0 + 1) + 1)) then true else (bif (Nat.beq (Int.toNat (List.getD v26 (Int.toNat v28) ((0 : Int), (⟨Array.empty⟩ : ByteArray), (0 : Int), (0 : Int))).1) ((0 + 1) + 1)) then true else v7_2)), (bif (Nat.beq (Int.toNat (List.getD v26 (Int.toNat v28) ((0 : Int), (⟨Array.empty⟩ : ByteArray), (0 : Int), (0 : Int))).2.2.1) (((0 + 1) + 1) + 1)) then true else (bif (Nat.beq (Int.toNat (List.getD v26 (Int.toNat v28) ((0 : Int), (⟨Array.empty⟩ : ByteArray), (0 : Int), (0 : Int))).1) (((0 + 1) + 1) + 1)) then true else v7_3)), ()), v22, v23, v26, v27, (IntKind.wrap .i64 (v28 + (1 : Int))), ()))
          else
           none
         else
          some (Sum.inl (v2, (v3_0, v3_1, v3_2, v3_3, ()), (v6_0, v6_1, v6_2, v6_3, ()), ((bif (Nat.beq (Int.toNat (List.getD v26 (Int.toNat v28) ((0 : Int), (⟨Array.empty⟩ : ByteArray), (0 : Int), (0 : Int))).1) 0) then true else v7_0), (bif (Nat.beq (Int.toNat (List.getD v26 (Int.toNat v28) ((0 : Int), (⟨Array.empty⟩ : ByteArray), (0 : Int), (0 : Int))).1) (0 + 1)) then true else v7_1), (bif (Nat.beq (Int.toNat (List.getD v26 (Int.toNat v28) ((0 : Int), (⟨Array.empty⟩ : ByteArray), (0 : Int), (0 : Int))).1) ((0 + 1) + 1)) then true else v7_2), (bif (Nat.beq (Int.toNat (List.getD v26 (Int.toNat v28) ((0 : Int), (⟨Array.empty⟩ : ByteArray), (0 : Int), (0 : Int))).1) (((0 + 1) + 1) + 1)) then true else v7_3), ()), v22, v23, v26, v27, (IntKind.wrap .i64 (v28 + (1 : Int))), ()))
        else
         none
       else
        some (Sum.inl (v2, (v3_0, v3_1, v3_2, v3_3, ()), (v6_0, v6_1, v6_2, v6_3, ()), ((bif (Nat.beq (Int.toNat (List.getD v26 (Int.toNat v28) ((0 : Int), (⟨Array.empty⟩ : ByteArray), (0 : Int), (0 : Int))).1) 0) then true else v7_0), (bif (Nat.beq (Int.toNat (List.getD v26 (Int.toNat v28) ((0 : Int), (⟨Array.empty⟩ : ByteArray), (0 : Int), (0 : Int))).1) (0 + 1)) then true else v7_1), (bif (Nat.beq (Int.toNat (List.getD v26 (Int.toNat v28) ((0 : Int), (⟨Array.empty⟩ : ByteArray), (0 : Int), (0 : Int))).1) ((0 + 1) + 1)) then true else v7_2), (bif (Nat.beq (Int.toNat (List.getD v26 (Int.toNat v28) ((0 : Int), (⟨Array.empty⟩ : ByteArray), (0 : Int), (0 : Int))).1) (((0 + 1) + 1) + 1)) then true else v7_3), ()), v22, v23, v26, v27, (IntKind.wrap .i64 (v28 + (1 : Int))), ()))
      else
       none
     else
      bif (!v2) then
       if (((0 : Int) ≤ (List.getD v26 (Int.toNat v28) ((0 : Int), (⟨Array.empty⟩ : ByteArray), (0 : Int), (0 : Int))).1) ∧ ((List.getD v26 (Int.toNat v28) ((0 : Int), (⟨Array.empty⟩ : ByteArray), (0 : Int), (0 : Int))).1 < ((4 : Nat) : Int))) then
        bif (List.getD [v7_0, v7_1, v7_2, v7_3] (Int.toNat (List.getD v26 (Int.toNat v28) ((0 : Int), (⟨Array.empty⟩ : ByteArray), (0 : Int), (0 : Int))).1) false) then
         if (((0 : Int) ≤ (List.getD v26 (Int.toNat v28) ((0 : Int), (⟨Array.empty⟩ : ByteArray), (0 : Int), (0 : Int))).2.2.1) ∧ ((List.getD v26 (Int.toNat v28) ((0 : Int), (⟨Array.empty⟩ : ByteArray), (0 : Int), (0 : Int))).2.2.1 < ((4 : Nat) : Int))) then
          some (Sum.inl (v2, (v3_0, v3_1, v3_2, v3_3, ()), (v6_0, v6_1, v6_2, v6_3, ()), ((bif (Nat.beq (Int.toNat (List.getD v26 (Int.toNat v28) ((0 : Int), (⟨Array.empty⟩ : ByteArray), (0 : Int), (0 : Int))).2.2.1) 0) then true else v7_0), (bif (Nat.beq (Int.toNat (List.getD v26 (Int.toNat v28) ((0 : Int), (⟨Array.empty⟩ : ByteArray), (0 : Int), (0 : Int))).2.2.1) (0 + 1)) then true else v7_1), (bif (Nat.beq (Int.toNat (List.getD v26 (Int.toNat v28) ((0 : Int), (⟨Array.empty⟩ : ByteArray), (0 : Int), (0 : Int))).2.2.1) ((0 + 1) + 1)) then true else v7_2), (bif (Nat.beq (Int.toNat (List.getD v26 (Int.toNat v28) ((0 : Int), (⟨Array.empty⟩ : ByteArray), (0 : Int), (0 : Int))).2.2.1) (((0 + 1) + 1) + 1)) then true else v7_3), ()), v22, v23, v26, v27, (IntKind.wrap .i64 (v28 + (1 : Int))), ()))
         else
          none
        else
         some (Sum.inl (v2, (v3_0, v3_1, v3_2, v3_3, ()), (v6_0, v6_1, v6_2, v6_3, ()), (v7_0, v7_1, v7_2, v7_3, ()), v22, v23, v26, v27, (IntKind.wrap .i64 (v28 + (1 : Int))), ()))
       else
        none
      else
       some (Sum.inl (v2, (v3_0, v3_1, v3_2, v3_3, ()), (v6_0, v6_1, v6_2, v6_3, ()), (v7_0, v7_1, v7_2, v7_3, ()), v22, v23, v26, v27, (IntKind.wrap .i64 (v28 + (1 : Int))), ()))
    else
     none
   else
    bif (!v2) then
     if (((0 : Int) ≤ (List.getD v26 (Int.toNat v28) ((0 : Int), (⟨Array.empty⟩ : ByteArray), (0 : Int), (0 : Int))).1) ∧ ((List.getD v26 (Int.toNat v28) ((0 : Int), (⟨Array.empty⟩ : ByteArray), (0 : Int), (0 : Int))).1 < ((4 : Nat) : Int))) then
      bif (List.getD [v7_0, v7_1, v7_2, v7_3] (Int.toNat (List.getD v26 (Int.toNat v28) ((0 : Int), (⟨Array.empty⟩ : ByteArray), (0 : Int), (0 : Int))).1) false) then
       if (((0 : Int) ≤ (List.getD v26 (Int.toNat v28) ((0 : Int), (⟨Array.empty⟩ : ByteArray), (0 : Int), (0 : Int))).2.2.1) ∧ ((List.getD v26 (Int.toNat v28) ((0 : Int), (⟨Array.empty⟩ : ByteArray), (0 : Int), (0 : Int))).2.2.1 < ((4 : Nat) : Int))) then
        some (Sum.inl (v2, (v3_0, v3_1, v3_2, v3_3, ()), (v6_0, v6_1, v6_2, v6_3, ()), ((bif (Nat.beq (Int.toNat (List.getD v26 (Int.toNat v28) ((0 : Int), (⟨Array.empty⟩ : ByteArray), (0 : Int), (0 : Int))).2.2.1) 0) then true else v7_0), (bif (Nat.beq (Int.toNat (List.getD v26 (Int.toNat v28) ((0 : Int), (⟨Array.empty⟩ : ByteArray), (0 : Int), (0 : Int))).2.2.1) (0 + 1)) then true else v7_1), (bif (Nat.beq (Int.toNat (List.getD v26 (Int.toNat v28) ((0 : Int), (⟨Array.empty⟩ : ByteArray), (0 : Int), (0 : Int))).2.2.1) ((0 + 1) + 1)) then true else v7_2), (bif (Nat.beq (Int.toNat (List.getD v26 (Int.toNat v28) ((0 : Int), (⟨Array.empty⟩ : ByteArray), (0 : Int), (0 : Int))).2.2.1) (((0 + 1) + 1) + 1)) then true else v7_3), ()), v22, v23, v26, v27, (IntKind.wrap .i64 (v28 + (1 : Int))), ()))
       else
        none
      else
       some (Sum.inl (v2, (v3_0, v3_1, v3_2, v3_3, ()), (v6_0, v6_1, v6_2, v6_3, ()), (v7_0, v7_1, v7_2, v7_3, ()), v22, v23, v26, v27, (IntKind.wrap .i64 (v28 + (1 : Int))), ()))
     else
      none
    else
     some (Sum.inl (v2, (v3_0, v3_1, v3_2, v3_3, ()), (v6_0, v6_1, v6_2, v6_3, ()), (v7_0, v7_1, v7_2, v7_3, ()), v22, v23, v26, v27, (IntKind.wrap .i64 (v28 + (1 : Int))), ()))
  else
   none
 else
  some (Sum.inr (v2, (v3_0, v3_1, v3_2, v3_3, ()), (v6_0, v6_1, v6_2, v6_3, ()), (v7_0, v7_1, v7_2, v7_3, ()), v22, v23, ()))
theorem spec_l3Reach_l10_eq : loopStep 56 E70 L70_1 (loopOf f70 10) sh70_10 xs70_10 = spec_l3Reach_l10 := by kernel_rfl
theorem loop70_10 {L} (h : L 10 = some ⟨56, sh70_10, xs70_10, spec_l3Reach_l10⟩) : LoopOk prog L (loopOf f70 10) := lo spec_l3Reach_l10_eq E70_ok allNil h
noncomputable def L70_2 : Nat → Option LoopD := fun n => ifEq n 10 (some ⟨56, sh70_10, xs70_10, spec_l3Reach_l10⟩) (L70_1 n)
def sh70_8 : List Fm := d :: d :: .cell (.val .bool) :: .box 100300 [.val (.int .i64), .val (.sl (.int .i64)), .val (.sl (.int .i64)), .val (.sl (.pair (.int .i64) (.pair .str (.pair (.int .i64) (.int .i64)))))] :: d :: d :: .box 100600 [.val .bool, .val .bool, .val .bool, .val .bool] :: .box 100700 [.val .bool, .val .bool, .val .bool, .val .bool] :: D 14 (.cell (.val (.int .i64)) :: .cell (.val (.int .i64)) :: D 32 [])
def xs70_8 : List (Ex × List Fm) := [(.exit 2, [d, d, d, d, d, d, .box 100600 [.val .bool, .val .bool, .val .bool, .val .bool], .box 100700 [.val .bool, .val .bool, .val .bool, .val .bool], d, d, d, d, d, d, d, d, d, d, d, d, d, d, d, d, d, d, d, d, d, d, d, d, d, d, d, d, d, d, d, d, d, d, d, d, d, d, d, d, d, d, d, d, d, d, d, d])]
noncomputable def spec_l3Reach_l8 : (Bool × (Int × (List Int) × (List Int) × (List (Int × (ByteArray × (Int × Int)))) × Unit) × (Bool × Bool × Bool × Bool × Unit) × (Bool × Bool × Bool × Bool × Unit) × Int × Int × Unit) → Option ((Bool × (Int × (List Int) × (List Int) × (List (Int × (ByteArray × (Int × Int)))) × Unit) × (Bool × Bool × Bool × Bool × Unit) × (Bool × Bool × Bool × Bool × Unit) × Int × Int × Unit) ⊕ (((Bool × Bool × Bool × Bool × Unit) × (Bool × Bool × Bool × Bool × Unit) × Unit))) := fun (v2, (v3_0, v3_1, v3_2, v3_3, _), (v6_0, v6_1, v6_2, v6_3, _), (v7_0, v7_1, v7_2, v7_3, _), v22, v23, _) =>
 bif (decide (v23 < v22)) then
  Option.bind (loopF spec_l3Reach_l10 (v2, (v3_0, v3_1, v3_2, v3_3, ()), (v6_0, v6_1, v6_2, v6_3, ()), (v7_0, v7_1, v7_2, v7_3, ()), v22, v23, v3_3, (((List.length v3_3) : Nat) : Int), (0 : Int), ())) fun (r0, (r1, r2, r3, r4, _), (r5, r6, r7, r8, _), (r9, r10, r11, r12, _), r13, r14, _) =>
   some (Sum.inl (r0, (r1, r2, r3, r4, ()), (r5, r6, r7, r8, ()), (r9, r10, r11, r12, ()), r13, (IntKind.wrap .i64 (r14 + (1 : Int))), ()))
 else
  some (Sum.inr ((v6_0, v6_1, v6_2, v6_3, ()), (v7_0, v7_1, v7_2, v7_3, ()), ()))
theorem spec_l3Reach_l8_eq : loopStep 56 E70 L70_2 (loopOf f70 8) sh70_8 xs70_8 = spec_l3Reach_l8 := by kernel_rfl
theorem loop70_8 {L} (h : L 8 = some ⟨56, sh70_8, xs70_8, spec_l3Reach_l8⟩) : LoopOk prog L (loopOf f70 8) := lo spec_l3Reach_l8_eq E70_ok (allCons (loop70_10 rfl) allNil) h
noncomputable def L70_3 : Nat → Option LoopD := fun n => ifEq n 8 (some ⟨56, sh70_8, xs70_8, spec_l3Reach_l8⟩) (L70_2 n)
noncomputable def spec_l3Reach : (Int × ((List Int) × ((List Int) × (List (Int × (ByteArray × (Int × Int))))))) → (List Int) → Bool → Option ((Bool × (Bool × (Bool × Bool)))) := fun (a0_0, a0_1, a0_2, a0_3) a1 a2 =>
 Option.bind (loopF spec_l3Reach_l3 (a2, (a0_0, a0_1, a0_2, a0_3, ()), (false, false, false, false, ()), (false, false, false, false, ()), a1, (((List.length a1) : Nat) : Int), (0 : Int), ())) fun (r0, (r1, r2, r3, r4, _), (r5, r6, r7, r8, _), (r9, r10, r11, r12, _), _) =>
  Option.bind (loopF spec_l3Reach_l8 (r0, (r1, r2, r3, r4, ()), (r5, r6, r7, r8, ()), (r9, r10, r11, r12, ()), r1, (0 : Int), ())) fun ((r13, r14, r15, r16, _), (r17, r18, r19, r20, _), _) =>
   some (r17, r18, r19, r20)
noncomputable def A70 : FnA := ⟨[.v (.pair (.int .i64) (.pair (.sl (.int .i64)) (.pair (.sl (.int .i64)) (.sl (.pair (.int .i64) (.pair .str (.pair (.int .i64) (.int .i64)))))))), .v (.sl (.int .i64)), .v .bool], true, [.pair .bool (.pair .bool (.pair .bool .bool))], fun x => spec_l3Reach x.1 x.2.1 x.2.2.1⟩
theorem spec_l3Reach_eq : fnF E70 L70_3 [.v (.pair (.int .i64) (.pair (.sl (.int .i64)) (.pair (.sl (.int .i64)) (.sl (.pair (.int .i64) (.pair .str (.pair (.int .i64) (.int .i64)))))))), .v (.sl (.int .i64)), .v .bool] true [.pair .bool (.pair .bool (.pair .bool .bool))] f70.ntmps f70.results.toList (codeOf f70) = fun x => spec_l3Reach x.1 x.2.1 x.2.2.1 := by kernel_rfl
theorem A70_ok : FnOk prog 70 A70 := fo spec_l3Reach_eq func70 E70_ok (allCons (loop70_3 rfl) (allCons (loop70_8 rfl) allNil))
/-! spec.UsefulOf -/
noncomputable def E50 : Env := ⟨ty0, fun g => ifEq g 36 (some A36) (ifEq g 70 (some A70) (none)), fun _ => none, fun _ => none, fun _ => none⟩
theorem E50_ok : FnsOk prog E50 := (oF A36_ok func36 (oF A70_ok func70 (noFns _ _)))
noncomputable def L50_0 : Nat → Option LoopD := fun _ => none
def sh50_6 : List Fm := d :: d :: d :: .cell (.own (.int .i64) 100300 false) :: .box 100400 [.val .bool, .val .bool, .val .bool, .val .bool] :: .box 100500 [.val .bool, .val .bool, .val .bool, .val .bool] :: D 15 (.cell (.val (.int .i64)) :: .cell (.val (.int .i64)) :: D 16 [])
def xs50_6 : List (Ex × List Fm) := [(.exit 0, (d :: d :: d :: .cell (.own (.int .i64) 100300 false) :: D 35 []))]
noncomputable def spec_UsefulOf_l6 : ((List Int) × (Bool × Bool × Bool × Bool × Unit) × (Bool × Bool × Bool × Bool × Unit) × Int × Int × Unit) → Option (((List Int) × (Bool × Bool × Bool × Bool × Unit) × (Bool × Bool × Bool × Bool × Unit) × Int × Int × Unit) ⊕ (((List Int) × Unit))) := fun (v3, (v4_0, v4_1, v4_2, v4_3, _), (v5_0, v5_1, v5_2, v5_3, _), v21, v22, _) =>
 bif (decide (v22 < v21)) then
  if (((0 : Int) ≤ v22) ∧ (v22 < ((4 : Nat) : Int))) then
   bif (List.getD [v4_0, v4_1, v4_2, v4_3] (Int.toNat v22) false) then
    if (((0 : Int) ≤ v22) ∧ (v22 < ((4 : Nat) : Int))) then
     bif (List.getD [v5_0, v5_1, v5_2, v5_3] (Int.toNat v22) false) then
      if (((0 + (List.length v3)) = (List.length v3)) ∧ ((((List.length v3) + (List.length (List.take 1 (List.drop 0 [v22])))) * 8) ≤ 140737488355328)) then
       some (Sum.inl ((List.take ((List.length v3) + (List.length (List.take 1 (List.drop 0 [v22])))) (List.drop 0 ((List.drop 0 v3) ++ (List.take 1 (List.drop 0 [v22]))))), (v4_0, v4_1, v4_2, v4_3, ()), (v5_0, v5_1, v5_2, v5_3, ()), v21, (IntKind.wrap .i64 (v22 + (1 : Int))), ()))
      else
       none
     else
      some (Sum.inl ((List.take (List.length v3) (List.drop 0 v3)), (v4_0, v4_1, v4_2, v4_3, ()), (v5_0, v5_1, v5_2, v5_3, ()), v21, (IntKind.wrap .i64 (v22 + (1 : Int))), ()))
    else
     none
   else
    some (Sum.inl ((List.take (List.length v3) (List.drop 0 v3)), (v4_0, v4_1, v4_2, v4_3, ()), (v5_0, v5_1, v5_2, v5_3, ()), v21, (IntKind.wrap .i64 (v22 + (1 : Int))), ()))
  else
   none
 else
  some (Sum.inr ((List.take (List.length v3) (List.drop 0 v3)), ()))
theorem spec_UsefulOf_l6_eq : loopStep 39 E50 L50_0 (loopOf f50 6) sh50_6 xs50_6 = spec_UsefulOf_l6 := by kernel_rfl
theorem loop50_6 {L} (h : L 6 = some ⟨39, sh50_6, xs50_6, spec_UsefulOf_l6⟩) : LoopOk prog L (loopOf f50 6) := lo spec_UsefulOf_l6_eq E50_ok allNil h
noncomputable def L50_1 : Nat → Option LoopD := fun n => ifEq n 6 (some ⟨39, sh50_6, xs50_6, spec_UsefulOf_l6⟩) (L50_0 n)
noncomputable def spec_UsefulOf : (Int × ((List Int) × ((List Int) × (List (Int × (ByteArray × (Int × Int))))))) → Option ((List Int)) := fun (a0_0, a0_1, a0_2, a0_3) =>
 Option.bind (spec_AutomatonValid (a0_0, a0_1, a0_2, a0_3)) fun r0 =>
  bif (!r0) then
   some (List.take 0 (List.drop 0 []))
  else
   Option.bind (spec_l3Reach (a0_0, a0_1, a0_2, a0_3) a0_1 false) fun (r1, r2, r3, r4) =>
    Option.bind (spec_l3Reach (a0_0, a0_1, a0_2, a0_3) a0_2 true) fun (r5, r6, r7, r8) =>
     Option.bind (loopF spec_UsefulOf_l6 ((List.take 0 (List.drop 0 [])), (r1, r2, r3, r4, ()), (r5, r6, r7, r8, ()), a0_0, (0 : Int), ())) fun (r9, _) =>
      some (List.take (List.length r9) (List.drop 0 r9))
noncomputable def A50 : FnA := ⟨[.v (.pair (.int .i64) (.pair (.sl (.int .i64)) (.pair (.sl (.int .i64)) (.sl (.pair (.int .i64) (.pair .str (.pair (.int .i64) (.int .i64))))))))], true, [.sl (.int .i64)], fun x => spec_UsefulOf x.1⟩
theorem spec_UsefulOf_eq : fnF E50 L50_1 [.v (.pair (.int .i64) (.pair (.sl (.int .i64)) (.pair (.sl (.int .i64)) (.sl (.pair (.int .i64) (.pair .str (.pair (.int .i64) (.int .i64))))))))] true [.sl (.int .i64)] f50.ntmps f50.results.toList (codeOf f50) = fun x => spec_UsefulOf x.1 := by kernel_rfl
theorem A50_ok : FnOk prog 50 A50 := fo spec_UsefulOf_eq func50 E50_ok (allCons (loop50_6 rfl) allNil)
/-! spec.l4In -/
noncomputable def E51 : Env := ⟨ty0, fun _ => none, fun _ => none, fun _ => none, fun _ => none⟩
theorem E51_ok : FnsOk prog E51 := (noFns _ _)
noncomputable def L51_0 : Nat → Option LoopD := fun _ => none
def sh51_2 : List Fm := d :: .cell (.val (.int .i64)) :: D 5 (.cell (.val (.sl (.int .i64))) :: .cell (.val (.int .i64)) :: .cell (.val (.int .i64)) :: D 7 [])
def xs51_2 : List (Ex × List Fm) := [(.ret, (D 4 (.cell (.val .bool) :: D 12 []))), (.exit 0, (D 17 []))]
noncomputable def spec_l4In_l2 : (Int × (List Int) × Int × Int × Unit) → Option ((Int × (List Int) × Int × Int × Unit) ⊕ ((Bool × Unit) ⊕ (Unit))) := fun (v1, v7, v8, v9, _) =>
 bif (decide (v9 < v8)) then
  if (((0 : Int) ≤ v9) ∧ (v9 < (((List.length v7) : Nat) : Int))) then
   bif ((List.getD v7 (Int.toNat v9) (0 : Int)) == v1) then
    some (Sum.inr (Sum.inl (true, ())))
   else
    some (Sum.inl (v1, v7, v8, (IntKind.wrap .i64 (v9 + (1 : Int))), ()))
  else
   none
 else
  some (Sum.inr (Sum.inr ()))
theorem spec_l4In_l2_eq : loopStep 17 E51 L51_0 (loopOf f51 2) sh51_2 xs51_2 = spec_l4In_l2 := by kernel_rfl
theorem loop51_2 {L} (h : L 2 = some ⟨17, sh51_2, xs51_2, spec_l4In_l2⟩) : LoopOk prog L (loopOf f51 2) := lo spec_l4In_l2_eq E51_ok allNil h
noncomputable def L51_1 : Nat → Option LoopD := fun n => ifEq n 2 (some ⟨17, sh51_2, xs51_2, spec_l4In_l2⟩) (L51_0 n)
noncomputable def spec_l4In : (List Int) → Int → Option (Bool) := fun a0 a1 =>
 Option.bind (loopF spec_l4In_l2 (a1, a0, (((List.length a0) : Nat) : Int), (0 : Int), ())) fun r0 =>
  (match r0 with
  | .inl (d1, _) =>
    some d1
  | .inr _ =>
    some false)
noncomputable def A51 : FnA := ⟨[.v (.sl (.int .i64)), .v (.int .i64)], true, [.bool], fun x => spec_l4In x.1 x.2.1⟩
theorem spec_l4In_eq : fnF E51 L51_1 [.v (.sl (.int .i64)), .v (.int .i64)] true [.bool] f51.ntmps f51.results.toList (codeOf f51) = fun x => spec_l4In x.1 x.2.1 := by kernel_rfl
theorem A51_ok : FnOk prog 51 A51 := fo spec_l4In_eq func51 E51_ok (allCons (loop51_2 rfl) allNil)
/-! spec.TrimAutomaton -/
noncomputable def E33 : Env := ⟨ty0, fun g => ifEq g 50 (some A50) (ifEq g 51 (some A51) (none)), fun _ => none, fun _ => none, fun _ => none⟩
theorem E33_ok : FnsOk prog E33 := (oF A50_ok func50 (oF A51_ok func51 (noFns _ _)))
noncomputable def L33_0 : Nat → Option LoopD := fun _ => none
def sh33_6 : List Fm := d :: .box 100100 [.val (.int .i64), .val (.sl (.int .i64)), .val (.sl (.int .i64)), .val (.sl (.pair (.int .i64) (.pair .str (.pair (.int .i64) (.int .i64)))))] :: .box 100200 [.val (.int .i64), .own (.int .i64) 100202 false, .own (.int .i64) 100203 false, .own (.pair (.int .i64) (.pair .str (.pair (.int .i64) (.int .i64)))) 100204 false] :: d :: .cell (.val (.sl (.int .i64))) :: .box 100500 [.val (.int .i64), .val (.int .i64), .val (.int .i64), .val (.int .i64)] :: D 13 (.cell (.val (.sl (.int .i64))) :: .cell (.val (.int .i64)) :: .cell (.val (.int .i64)) :: D 82 [])
def xs33_6 : List (Ex × List Fm) := [(.exit 0, [d, .box 100100 [.val (.int .i64), .val (.sl (.int .i64)), .val (.sl (.int .i64)), .val (.sl (.pair (.int .i64) (.pair .str (.pair (.int .i64) (.int .i64)))))], .box 100200 [.val (.int .i64), .own (.int .i64) 100202 false, .own (.int .i64) 100203 false, .own (.pair (.int .i64) (.pair .str (.pair (.int .i64) (.int .i64)))) 100204 false], d, .cell (.val (.sl (.int .i64))), .box 100500 [.val (.int .i64), .val (.int .i64), .val (.int .i64), .val (.int .i64)], d, d, d, d, d, d, d, d, d, d, d, d, d, d, d, d, d, d, d, d, d, d, d, d, d, d, d, d, d, d, d, d, d, d, d, d, d, d, d, d, d, d, d, d, d, d, d, d, d, d, d, d, d, d, d, d, d, d, d, d, d, d, d, d, d, d, d, d, d, d, d, d, d, d, d, d, d, d, d, d, d, d, d, d, d, d, d, d, d, d, d, d, d, d, d, d, d, d])]
noncomputable def spec_TrimAutomaton_l6 : ((Int × (List Int) × (List Int) × (List (Int × (ByteArray × (Int × Int)))) × Unit) × (Int × (List Int) × (List Int) × (List (Int × (ByteArray × (Int × Int)))) × Unit) × (List Int) × (Int × Int × Int × Int × Unit) × (List Int) × Int × Int × Unit) → Option (((Int × (List Int) × (List Int) × (List (Int × (ByteArray × (Int × Int)))) × Unit) × (Int × (List Int) × (List Int) × (List (Int × (ByteArray × (Int × Int)))) × Unit) × (List Int) × (Int × Int × Int × Int × Unit) × (List Int) × Int × Int × Unit) ⊕ (((Int × (List Int) × (List Int) × (List (Int × (ByteArray × (Int × Int)))) × Unit) × (Int × (List Int) × (List Int) × (List (Int × (ByteArray × (Int × Int)))) × Unit) × (List Int) × (Int × Int × Int × Int × Unit) × Unit))) := fun ((v1_0, v1_1, v1_2, v1_3, _), (v2_0, v2_1, v2_2, v2_3, _), v4, (v5_0, v5_1, v5_2, v5_3, _), v19, v20, v21, _) =>
 bif (decide (v21 < v20)) then
  if (((0 : Int) ≤ v21) ∧ (v21 < (((List.length v19) : Nat) : Int))) then
   if (((0 : Int) ≤ (List.getD v19 (Int.toNat v21) (0 : Int))) ∧ ((List.getD v19 (Int.toNat v21) (0 : Int)) < ((4 : Nat) : Int))) then
    some (Sum.inl ((v1_0, v1_1, v1_2, v1_3, ()), (v2_0, (List.take (List.length v2_1) (List.drop 0 v2_1)), (List.take (List.length v2_2) (List.drop 0 v2_2)), (List.take (List.length v2_3) (List.drop 0 v2_3)), ()), v4, ((bif (Nat.beq (Int.toNat (List.getD v19 (Int.toNat v21) (0 : Int))) 0) then v21 else v5_0), (bif (Nat.beq (Int.toNat (List.getD v19 (Int.toNat v21) (0 : Int))) (0 + 1)) then v21 else v5_1), (bif (Nat.beq (Int.toNat (List.getD v19 (Int.toNat v21) (0 : Int))) ((0 + 1) + 1)) then v21 else v5_2), (bif (Nat.beq (Int.toNat (List.getD v19 (Int.toNat v21) (0 : Int))) (((0 + 1) + 1) + 1)) then v21 else v5_3), ()), v19, v20, (IntKind.wrap .i64 (v21 + (1 : Int))), ()))
   else
    none
  else
   none
 else
  some (Sum.inr ((v1_0, v1_1, v1_2, v1_3, ()), (v2_0, (List.take (List.length v2_1) (List.drop 0 v2_1)), (List.take (List.length v2_2) (List.drop 0 v2_2)), (List.take (List.length v2_3) (List.drop 0 v2_3)), ()), v4, (v5_0, v5_1, v5_2, v5_3, ()), ()))
theorem spec_TrimAutomaton_l6_eq : loopStep 104 E33 L33_0 (loopOf f33 6) sh33_6 xs33_6 = spec_TrimAutomaton_l6 := by kernel_rfl
theorem loop33_6 {L} (h : L 6 = some ⟨104, sh33_6, xs33_6, spec_TrimAutomaton_l6⟩) : LoopOk prog L (loopOf f33 6) := lo spec_TrimAutomaton_l6_eq E33_ok allNil h
noncomputable def L33_1 : Nat → Option LoopD := fun n => ifEq n 6 (some ⟨104, sh33_6, xs33_6, spec_TrimAutomaton_l6⟩) (L33_0 n)
def sh33_12 : List Fm := d :: .box 100100 [.val (.int .i64), .val (.sl (.int .i64)), .val (.sl (.int .i64)), .val (.sl (.pair (.int .i64) (.pair .str (.pair (.int .i64) (.int .i64)))))] :: .box 100200 [.val (.int .i64), .own (.int .i64) 100202 false, .own (.int .i64) 100203 false, .own (.pair (.int .i64) (.pair .str (.pair (.int .i64) (.int .i64)))) 100204 false] :: d :: .cell (.val (.sl (.int .i64))) :: .box 100500 [.val (.int .i64), .val (.int .i64), .val (.int .i64), .val (.int .i64)] :: d :: d :: .box 100800 [.val (.int .i64), .own (.int .i64) 100802 false, .own (.int .i64) 100803 false, .own (.pair (.int .i64) (.pair .str (.pair (.int .i64) (.int .i64)))) 100804 false] :: D 27 (.cell (.val (.sl (.int .i64))) :: .cell (.val (.int .i64)) :: .cell (.val (.int .i64)) :: D 65 [])
def xs33_12 : List (Ex × List Fm) := [(.exit 2, [d, .box 100100 [.val (.int .i64), .val (.sl (.int .i64)), .val (.sl (.int .i64)), .val (.sl (.pair (.int .i64) (.pair .str (.pair (.int .i64) (.int .i64)))))], .box 100200 [.val (.int .i64), .own (.int .i64) 100202 false, .own (.int .i64) 100203 false, .own (.pair (.int .i64) (.pair .str (.pair (.int .i64) (.int .i64)))) 100204 false], d, .cell (.val (.sl (.int .i64))), .box 100500 [.val (.int .i64), .val (.int .i64), .val (.int .i64), .val (.int .i64)], d, d, .box 100800 [.val (.int .i64), .own (.int .i64) 100802 false, .own (.int .i64) 100803 false, .own (.pair (.int .i64) (.pair .str (.pair (.int .i64) (.int .i64)))) 100804 false], d, d, d, d, d, d, d, d, d, d, d, d, d, d, d, d, d, d, d, d, d, d, d, d, d, d, d, d, d, d, d, d, d, d, d, d, d, d, d, d, d, d, d, d, d, d, d, d, d, d, d, d, d, d, d, d, d, d, d, d, d, d, d, d, d, d, d, d, d, d, d, d, d, d, d, d, d, d, d, d, d, d, d, d, d, d, d, d, d, d, d, d, d, d, d])]
noncomputable def spec_TrimAutomaton_l12 : ((Int × (List Int) × (List Int) × (List (Int × (ByteArray × (Int × Int)))) × Unit) × (Int × (List Int) × (List Int) × (List (Int × (ByteArray × (Int × Int)))) × Unit) × (List Int) × (Int × Int × Int × Int × Unit) × (Int × (List Int) × (List Int) × (List (Int × (ByteArray × (Int × Int)))) × Unit) × (List Int) × Int × Int × Unit) → Option (((Int × (List Int) × (List Int) × (List (Int × (ByteArray × (Int × Int)))) × Unit) × (Int × (List Int) × (List Int) × (List (Int × (ByteArray × (Int × Int)))) × Unit) × (List Int) × (Int × Int × Int × Int × Unit) × (Int × (List Int) × (List Int) × (List (Int × (ByteArray × (Int × Int)))) × Unit) × (List Int) × Int × Int × Unit) ⊕ (((Int × (List Int) × (List Int) × (List (Int × (ByteArray × (Int × Int)))) × Unit) × (Int × (List Int) × (List Int) × (List (Int × (ByteArray × (Int × Int)))) × Unit) × (List Int) × (Int × Int × Int × Int × Unit) × (Int × (List Int) × (List Int) × (List (Int × (ByteArray × (Int × Int)))) × Unit) × Unit))) := fun ((v1_0, v1_1, v1_2, v1_3, _), (v2_0, v2_1, v2_2, v2_3, _), v4, (v5_0, v5_1, v5_2, v5_3, _), (v8_0, v8_1, v8_2, v8_3, _), v36, v37, v38, _) =>
 bif (decide (v38 < v37)) then
  if (((0 : Int) ≤ v38) ∧ (v38 < (((List.length v36) : Nat) : Int))) then
   Option.bind (spec_l4In v1_1 (List.getD v36 (Int.toNat v38) (0 : Int))) fun r0 =>
    bif r0 then
     if (((0 : Int) ≤ (List.getD v36 (Int.toNat v38) (0 : Int))) ∧ ((List.getD v36 (Int.toNat v38) (0 : Int)) < ((4 : Nat) : Int))) then
      if (((0 + (List.length v8_1)) = (List.length v8_1)) ∧ ((((List.length v8_1) + (List.length (List.take 1 (List.drop 0 [(List.getD [v5_0, v5_1, v5_2, v5_3] (Int.toNat (List.getD v36 (Int.toNat v38) (0 : Int))) (0 : Int))])))) * 8) ≤ 140737488355328)) then
       Option.bind (spec_l4In v1_2 (List.getD v36 (Int.toNat v38) (0 : Int))) fun r1 =>
        bif r1 then
         if (((0 : Int) ≤ (List.getD v36 (Int.toNat v38) (0 : Int))) ∧ ((List.getD v36 (Int.toNat v38) (0 : Int)) < ((4 : Nat) : Int))) then
          if (((0 + (List.length v8_2)) = (List.length v8_2)) ∧ ((((List.length v8_2) + (List.length (List.take 1 (List.drop 0 [(List.getD [v5_0, v5_1, v5_2, v5_3] (Int.toNat (List.getD v36 (Int.toNat v38) (0 : Int))) (0 : Int))])))) * 8) ≤ 140737488355328)) then
           some (Sum.inl ((v1_0, v1_1, v1_2, v1_3, ()), (v2_0, (List.take (List.length v2_1) (List.drop 0 v2_1)), (List.take (List.length v2_2) (List.drop 0 v2_2)), (List.take (List.length v2_3) (List.drop 0 v2_3)), ()), v4, (v5_0, v5_1, v5_2, v5_3, ()), (v8_0, (List.take ((List.length v8_1) + (List.length (List.take 1 (List.drop 0 [(List.getD [v5_0, v5_1, v5_2, v5_3] (Int.toNat (List.getD v36 (Int.toNat v38) (0 : Int))) (0 : Int))])))) (List.drop 0 ((List.drop 0 v8_1) ++ (List.take 1 (List.drop 0 [(List.getD [v5_0, v5_1, v5_2, v5_3] (Int.toNat (List.getD v36 (Int.toNat v38) (0 : Int))) (0 : Int))]))))), (List.take ((List.length v8_2) + (List.length (List.take 1 (List.drop 0 [(List.getD [v5_0, v5_1, v5_2, v5_3] (Int.toNat (List.getD v36 (Int.toNat v38) (0 : Int))) (0 : Int))])))) (List.drop 0 ((List.drop 0 v8_2) ++ (List.take 1 (List.drop 0 [(List.getD [v5_0, v5_1, v5_2, v5_3] (Int.toNat (List.getD v36 (Int.toNat v38) (0 : Int))) (0 : Int))]))))), (List.take (List.length v8_3) (List.drop 0 v8_3)), ()), v36, v37, (IntKind.wrap .i64 (v38 + (1 : Int))), ()))
          else
           none
         else
          none
        else
         some (Sum.inl ((v1_0, v1_1, v1_2, v1_3, ()), (v2_0, (List.take (List.length v2_1) (List.drop 0 v2_1)), (List.take (List.length v2_2) (List.drop 0 v2_2)), (List.take (List.length v2_3) (List.drop 0 v2_3)), ()), v4, (v5_0, v5_1, v5_2, v5_3, ()), (v8_0, (List.take ((List.length v8_1) + (List.length (List.take 1 (List.drop 0 [(List.getD [v5_0, v5_1, v5_2, v5_3] (Int.toNat (List.getD v36 (Int.toNat v38) (0 : Int))) (0 : Int))])))) (List.drop 0 ((List.drop 0 v8_1) ++ (List.take 1 (List.drop 0 [(List.getD [v5_0, v5_1, v5_2, v5_3] (Int.toNat (List.getD v36 (Int.toNat v38) (0 : Int))) (0 : Int))]))))), (List.take (List.length v8_2) (List.drop 0 v8_2)), (List.take (List.length v8_3) (List.drop 0 v8_3)), ()), v36, v37, (IntKind.wrap .i64 (v38 + (1 : Int))), ()))
      else
       none
     else
      none
    else
     Option.bind (spec_l4In v1_2 (List.getD v36 (Int.toNat v38) (0 : Int))) fun r2 =>
      bif r2 then
       if (((0 : Int) ≤ (List.getD v36 (Int.toNat v38) (0 : Int))) ∧ ((List.getD v36 (Int.toNat v38) (0 : Int)) < ((4 : Nat) : Int))) then
        if (((0 + (List.length v8_2)) = (List.length v8_2)) ∧ ((((List.length v8_2) + (List.length (List.take 1 (List.drop 0 [(List.getD [v5_0, v5_1, v5_2, v5_3] (Int.toNat (List.getD v36 (Int.toNat v38) (0 : Int))) (0 : Int))])))) * 8) ≤ 140737488355328)) then
         some (Sum.inl ((v1_0, v1_1, v1_2, v1_3, ()), (v2_0, (List.take (List.length v2_1) (List.drop 0 v2_1)), (List.take (List.length v2_2) (List.drop 0 v2_2)), (List.take (List.length v2_3) (List.drop 0 v2_3)), ()), v4, (v5_0, v5_1, v5_2, v5_3, ()), (v8_0, (List.take (List.length v8_1) (List.drop 0 v8_1)), (List.take ((List.length v8_2) + (List.length (List.take 1 (List.drop 0 [(List.getD [v5_0, v5_1, v5_2, v5_3] (Int.toNat (List.getD v36 (Int.toNat v38) (0 : Int))) (0 : Int))])))) (List.drop 0 ((List.drop 0 v8_2) ++ (List.take 1 (List.drop 0 [(List.getD [v5_0, v5_1, v5_2, v5_3] (Int.toNat (List.getD v36 (Int.toNat v38) (0 : Int))) (0 : Int))]))))), (List.take (List.length v8_3) (List.drop 0 v8_3)), ()), v36, v37, (IntKind.wrap .i64 (v38 + (1 : Int))), ()))
        else
         none
       else
        none
      else
       some (Sum.inl ((v1_0, v1_1, v1_2, v1_3, ()), (v2_0, (List.take (List.length v2_1) (List.drop 0 v2_1)), (List.take (List.length v2_2) (List.drop 0 v2_2)), (List.take (List.length v2_3) (List.drop 0 v2_3)), ()), v4, (v5_0, v5_1, v5_2, v5_3, ()), (v8_0, (List.take (List.length v8_1) (List.drop 0 v8_1)), (List.take (List.length v8_2) (List.drop 0 v8_2)), (List.take (List.length v8_3) (List.drop 0 v8_3)), ()), v36, v37, (IntKind.wrap .i64 (v38 + (1 : Int))), ()))
  else
   none
 else
  some (Sum.inr ((v1_0, v1_1, v1_2, v1_3, ()), (v2_0, (List.take (List.length v2_1) (List.drop 0 v2_1)), (List.take (List.length v2_2) (List.drop 0 v2_2)), (List.take (List.length v2_3) (List.drop 0 v2_3)), ()), v4, (v5_0, v5_1, v5_2, v5_3, ()), (v8_0, (List.take (List.length v8_1) (List.drop 0 v8_1)), (List.take (List.length v8_2) (List.drop 0 v8_2)), (List.take (List.length v8_3) (List.drop 0 v8_3)), ()), ()))
theorem spec_TrimAutomaton_l12_eq : loopStep 104 E33 L33_1 (loopOf f33 12) sh33_12 xs33_12 = spec_TrimAutomaton_l12 := by kernel_rfl
theorem loop33_12 {L} (h : L 12 = some ⟨104, sh33_12, xs33_12, spec_TrimAutomaton_l12⟩) : LoopOk prog L (loopOf f33 12) := lo spec_TrimAutomaton_l12_eq E33_ok allNil h
noncomputable def L33_2 : Nat → Option LoopD := fun n => ifEq n 12 (some ⟨104, sh33_12, xs33_12, spec_TrimAutomaton_l12⟩) (L33_1 n)
def sh33_20 : List Fm := d :: d :: .box 100200 [.val (.int .i64), .own (.int .i64) 100202 false, .own (.int .i64) 100203 false, .own (.pair (.int .i64) (.pair .str (.pair (.int .i64) (.int .i64)))) 100204 false] :: d :: .cell (.val (.sl (.int .i64))) :: .box 100500 [.val (.int .i64), .val (.int .i64), .val (.int .i64), .val (.int .i64)] :: d :: d :: .box 100800 [.val (.int .i64), .own (.int .i64) 100802 false, .own (.int .i64) 100803 false, .own (.pair (.int .i64) (.pair .str (.pair (.int .i64) (.int .i64)))) 100804 false] :: D 59 (.cell (.val (.sl (.pair (.int .i64) (.pair .str (.pair (.int .i64) (.int .i64)))))) :: .cell (.val (.int .i64)) :: .cell (.val (.int .i64)) :: D 33 [])
def xs33_20 : List (Ex × List Fm) := [(.exit 4, [d, d, .box 100200 [.val (.int .i64), .own (.int .i64) 100202 false, .own (.int .i64) 100203 false, .own (.pair (.int .i64) (.pair .str (.pair (.int .i64) (.int .i64)))) 100204 false], d, d, d, d, d, .box 100800 [.val (.int .i64), .own (.int .i64) 100802 false, .own (.int .i64) 100803 false, .own (.pair (.int .i64) (.pair .str (.pair (.int .i64) (.int .i64)))) 100804 false], d, d, d, d, d, d, d, d, d, d, d, d, d, d, d, d, d, d, d, d, d, d, d, d, d, d, d, d, d, d, d, d, d, d, d, d, d, d, d, d, d, d, d, d, d, d, d, d, d, d, d, d, d, d, d, d, d, d, d, d, d, d, d, d, d, d, d, d, d, d, d, d, d, d, d, d, d, d, d, d, d, d, d, d, d, d, d, d, d, d, d, d, d, d, d])]
noncomputable def spec_TrimAutomaton_l20 : ((Int × (List Int) × (List Int) × (List (Int × (ByteArray × (Int × Int)))) × Unit) × (List Int) × (Int × Int × Int × Int × Unit) × (Int × (List Int) × (List Int) × (List (Int × (ByteArray × (Int × Int)))) × Unit) × (List (Int × (ByteArray × (Int × Int)))) × Int × Int × Unit) → Option (((Int × (List Int) × (List Int) × (List (Int × (ByteArray × (Int × Int)))) × Unit) × (List Int) × (Int × Int × Int × Int × Unit) × (Int × (List Int) × (List Int) × (List (Int × (ByteArray × (Int × Int)))) × Unit) × (List (Int × (ByteArray × (Int × Int)))) × Int × Int × Unit) ⊕ (((Int × (List Int) × (List Int) × (List (Int × (ByteArray × (Int × Int)))) × Unit) × (Int × (List Int) × (List Int) × (List (Int × (ByteArray × (Int × Int)))) × Unit) × Unit))) := fun ((v2_0, v2_1, v2_2, v2_3, _), v4, (v5_0, v5_1, v5_2, v5_3, _), (v8_0, v8_1, v8_2, v8_3, _), v68, v69, v70, _) =>
 bif (decide (v70 < v69)) then
  if (((0 : Int) ≤ v70) ∧ (v70 < (((List.length v68) : Nat) : Int))) then
   Option.bind (spec_l4In v4 (List.getD v68 (Int.toNat v70) ((0 : Int), (⟨Array.empty⟩ : ByteArray), (0 : Int), (0 : Int))).1) fun r0 =>
    bif r0 then
     Option.bind (spec_l4In v4 (List.getD v68 (Int.toNat v70) ((0 : Int), (⟨Array.empty⟩ : ByteArray), (0 : Int), (0 : Int))).2.2.1) fun r1 =>
      bif r1 then
       if (((0 : Int) ≤ (List.getD v68 (Int.toNat v70) ((0 : Int), (⟨Array.empty⟩ : ByteArray), (0 : Int), (0 : Int))).1) ∧ ((List.getD v68 (Int.toNat v70) ((0 : Int), (⟨Array.empty⟩ : ByteArray), (0 : Int), (0 : Int))).1 < ((4 : Nat) : Int))) then
        if (((0 : Int) ≤ (List.getD v68 (Int.toNat v70) ((0 : Int), (⟨Array.empty⟩ : ByteArray), (0 : Int), (0 : Int))).2.2.1) ∧ ((List.getD v68 (Int.toNat v70) ((0 : Int), (⟨Array.empty⟩ : ByteArray), (0 : Int), (0 : Int))).2.2.1 < ((4 : Nat) : Int))) then
         if (((0 + (List.length v8_3)) = (List.length v8_3)) ∧ ((((List.length v8_3) + (List.length (List.take 1 (List.drop 0 [((List.getD [v5_0, v5_1, v5_2, v5_3] (Int.toNat (List.getD v68 (Int.toNat v70) ((0 : Int), (⟨Array.empty⟩ : ByteArray), (0 : Int), (0 : Int))).1) (0 : Int)), (List.getD v68 (Int.toNat v70) ((0 : Int), (⟨Array.empty⟩ : ByteArray), (0 : Int), (0 : Int))).2.1, (List.getD [v5_0, v5_1, v5_2, v5_3] (Int.toNat (List.getD v68 (Int.toNat v70) ((0 : Int), (⟨Array.empty⟩ : ByteArray), (0 : Int), (0 : Int))).2.2.1) (0 : Int)), (List.getD v68 (Int.toNat v70) ((0 : Int), (⟨Array.empty⟩ : ByteArray), (0 : Int), (0 : Int))).2.2.2)])))) * 40) ≤ 140737488355328)) then
          some (Sum.inl ((v2_0, (List.take (List.length v2_1) (List.drop 0 v2_1)), (List.take (List.length v2_2) (List.drop 0 v2_2)), (List.take (List.length v2_3) (List.drop 0 v2_3)), ()), v4, (v5_0, v5_1, v5_2, v5_3, ()), (v8_0, (List.take (List.length v8_1) (List.drop 0 v8_1)), (List.take (List.length v8_2) (List.drop 0 v8_2)), (List.take ((List.length v8_3) + (List.length (List.take 1 (List.drop 0 [((List.getD [v5_0, v5_1, v5_2, v5_3] (Int.toNat (List.getD v68 (Int.toNat v70) ((0 : Int), (⟨Array.empty⟩ : ByteArray), (0 : Int), (0 : Int))).1) (0 : Int)), (List.getD v68 (Int.toNat v70) ((0 : Int), (⟨Array.empty⟩ : ByteArray), (0 : Int), (0 : Int))).2.1, (List.getD [v5_0, v5_1, v5_2, v5_3] (Int.toNat (List.getD v68 (Int.toNat v70) ((0 : Int), (⟨Array.empty⟩ : ByteArray), (0 : Int), (0 : Int))).2.2.1) (0 : Int)), (List.getD v68 (Int.toNat v70) ((0 : Int), (⟨Array.empty⟩ : ByteArray), (0 : Int), (0 : Int))).2.2.2)])))) (List.drop 0 ((List.drop 0 v8_3) ++ (List.take 1 (List.drop 0 [((List.getD [v5_0, v5_1, v5_2, v5_3] (Int.toNat (List.getD v68 (Int.toNat v70) ((0 : Int), (⟨Array.empty⟩ : ByteArray), (0 : Int), (0 : Int))).1) (0 : Int)), (List.getD v68 (Int.toNat v70) ((0 : Int), (⟨Array.empty⟩ : ByteArray), (0 : Int), (0 : Int))).2.1, (List.getD [v5_0, v5_1, v5_2, v5_3] (Int.toNat (List.getD v68 (Int.toNat v70) ((0 : Int), (⟨Array.empty⟩ : ByteArray), (0 : Int), (0 : Int))).2.2.1) (0 : Int)), (List.getD v68 (Int.toNat v70) ((0 : Int), (⟨Array.empty⟩ : ByteArray), (0 : Int), (0 : Int))).2.2.2)]))))), ()), v68, v69, (IntKind.wrap .i64 (v70 + (1 : Int))), ()))
         else
          none
        else
         none
       else
        none
      else
       some (Sum.inl ((v2_0, (List.take (List.length v2_1) (List.drop 0 v2_1)), (List.take (List.length v2_2) (List.drop 0 v2_2)), (List.take (List.length v2_3) (List.drop 0 v2_3)), ()), v4, (v5_0, v5_1, v5_2, v5_3, ()), (v8_0, (List.take (List.length v8_1) (List.drop 0 v8_1)), (List.take (List.length v8_2) (List.drop 0 v8_2)), (List.take (List.length v8_3) (List.drop 0 v8_3)), ()), v68, v69, (IntKind.wrap .i64 (v70 + (1 : Int))), ()))
    else
     some (Sum.inl ((v2_0, (List.take (List.length v2_1) (List.drop 0 v2_1)), (List.take (List.length v2_2) (List.drop 0 v2_2)), (List.take (List.length v2_3) (List.drop 0 v2_3)), ()), v4, (v5_0, v5_1, v5_2, v5_3, ()), (v8_0, (List.take (List.length v8_1) (List.drop 0 v8_1)), (List.take (List.length v8_2) (List.drop 0 v8_2)), (List.take (List.length v8_3) (List.drop 0 v8_3)), ()), v68, v69, (IntKind.wrap .i64 (v70 + (1 : Int))), ()))
  else
   none
 else
  some (Sum.inr ((v2_0, (List.take (List.length v2_1) (List.drop 0 v2_1)), (List.take (List.length v2_2) (List.drop 0 v2_2)), (List.take (List.length v2_3) (List.drop 0 v2_3)), ()), (v8_0, (List.take (List.length v8_1) (List.drop 0 v8_1)), (List.take (List.length v8_2) (List.drop 0 v8_2)), (List.take (List.length v8_3) (List.drop 0 v8_3)), ()), ()))
theorem spec_TrimAutomaton_l20_eq : loopStep 104 E33 L33_2 (loopOf f33 20) sh33_20 xs33_20 = spec_TrimAutomaton_l20 := by kernel_rfl
theorem loop33_20 {L} (h : L 20 = some ⟨104, sh33_20, xs33_20, spec_TrimAutomaton_l20⟩) : LoopOk prog L (loopOf f33 20) := lo spec_TrimAutomaton_l20_eq E33_ok allNil h
noncomputable def L33_3 : Nat → Option LoopD := fun n => ifEq n 20 (some ⟨104, sh33_20, xs33_20, spec_TrimAutomaton_l20⟩) (L33_2 n)
noncomputable def spec_TrimAutomaton : (Int × ((List Int) × ((List Int) × (List (Int × (ByteArray × (Int × Int))))))) → Option ((Int × ((List Int) × ((List Int) × (List (Int × (ByteArray × (Int × Int))))))) × Bool) := fun (a0_0, a0_1, a0_2, a0_3) =>
 Option.bind (spec_UsefulOf (a0_0, a0_1, a0_2, a0_3)) fun r0 =>
  bif ((((List.length r0) : Nat) : Int) == (0 : Int)) then
   some (((0 : Int), [], [], []), false)
  else
   Option.bind (loopF spec_TrimAutomaton_l6 ((a0_0, a0_1, a0_2, a0_3, ()), ((0 : Int), [], [], [], ()), (List.take (List.length r0) (List.drop 0 r0)), ((0 : Int), (0 : Int), (0 : Int), (0 : Int), ()), (List.take (List.length r0) (List.drop 0 r0)), (((List.length r0) : Nat) : Int), (0 : Int), ())) fun ((r1, r2, r3, r4, _), (r5, r6, r7, r8, _), r9, (r10, r11, r12, r13, _), _) =>
    Option.bind (loopF spec_TrimAutomaton_l12 ((r1, r2, r3, r4, ()), (r5, (List.take (List.length r6) (List.drop 0 r6)), (List.take (List.length r7) (List.drop 0 r7)), (List.take (List.length r8) (List.drop 0 r8)), ()), r9, (r10, r11, r12, r13, ()), ((((List.length r9) : Nat) : Int), (List.take 0 (List.drop 0 [])), (List.take 0 (List.drop 0 [])), (List.take 0 (List.drop 0 [])), ()), r9, (((List.length r9) : Nat) : Int), (0 : Int), ())) fun ((r14, r15, r16, r17, _), (r18, r19, r20, r21, _), r22, (r23, r24, r25, r26, _), (r27, r28, r29, r30, _), _) =>
     Option.bind (loopF spec_TrimAutomaton_l20 ((r18, (List.take (List.length r19) (List.drop 0 r19)), (List.take (List.length r20) (List.drop 0 r20)), (List.take (List.length r21) (List.drop 0 r21)), ()), r22, (r23, r24, r25, r26, ()), (r27, (List.take (List.length r28) (List.drop 0 r28)), (List.take (List.length r29) (List.drop 0 r29)), (List.take (List.length r30) (List.drop 0 r30)), ()), r17, (((List.length r17) : Nat) : Int), (0 : Int), ())) fun ((r31, r32, r33, r34, _), (r35, r36, r37, r38, _), _) =>
      some ((r35, (List.take (List.length r36) (List.drop 0 r36)), (List.take (List.length r37) (List.drop 0 r37)), (List.take (List.length r38) (List.drop 0 r38))), true)
noncomputable def A33 : FnA := ⟨[.v (.pair (.int .i64) (.pair (.sl (.int .i64)) (.pair (.sl (.int .i64)) (.sl (.pair (.int .i64) (.pair .str (.pair (.int .i64) (.int .i64))))))))], true, [.pair (.int .i64) (.pair (.sl (.int .i64)) (.pair (.sl (.int .i64)) (.sl (.pair (.int .i64) (.pair .str (.pair (.int .i64) (.int .i64))))))), .bool], fun x => spec_TrimAutomaton x.1⟩
theorem spec_TrimAutomaton_eq : fnF E33 L33_3 [.v (.pair (.int .i64) (.pair (.sl (.int .i64)) (.pair (.sl (.int .i64)) (.sl (.pair (.int .i64) (.pair .str (.pair (.int .i64) (.int .i64))))))))] true [.pair (.int .i64) (.pair (.sl (.int .i64)) (.pair (.sl (.int .i64)) (.sl (.pair (.int .i64) (.pair .str (.pair (.int .i64) (.int .i64))))))), .bool] f33.ntmps f33.results.toList (codeOf f33) = fun x => spec_TrimAutomaton x.1 := by kernel_rfl
theorem A33_ok : FnOk prog 33 A33 := fo spec_TrimAutomaton_eq func33 E33_ok (allCons (loop33_6 rfl) (allCons (loop33_12 rfl) (allCons (loop33_20 rfl) allNil)))
/-! spec.l13OwnAutomaton -/
noncomputable def E52 : Env := ⟨ty0, fun _ => none, fun _ => none, fun _ => none, fun _ => none⟩
theorem E52_ok : FnsOk prog E52 := (noFns _ _)
noncomputable def L52_0 : Nat → Option LoopD := fun _ => none
noncomputable def spec_l13OwnAutomaton : (Int × ((List Int) × ((List Int) × (List (Int × (ByteArray × (Int × Int))))))) → Option ((Int × ((List Int) × ((List Int) × (List (Int × (ByteArray × (Int × Int)))))))) := fun (a0_0, a0_1, a0_2, a0_3) =>
 if (((0 + 0) = (List.length ([] : List Unit))) ∧ (((0 + (List.length a0_1)) * 8) ≤ 140737488355328)) then
  if (((0 + 0) = (List.length ([] : List Unit))) ∧ (((0 + (List.length a0_2)) * 8) ≤ 140737488355328)) then
   if (((0 + 0) = (List.length ([] : List Unit))) ∧ (((0 + (List.length a0_3)) * 40) ≤ 140737488355328)) then
    some (a0_0, (List.take (0 + (List.length a0_1)) (List.drop 0 ((List.drop 0 []) ++ a0_1))), (List.take (0 + (List.length a0_2)) (List.drop 0 ((List.drop 0 []) ++ a0_2))), (List.take (0 + (List.length a0_3)) (List.drop 0 ((List.drop 0 []) ++ a0_3))))
   else
    none
  else
   none
 else
  none
noncomputable def A52 : FnA := ⟨[.v (.pair (.int .i64) (.pair (.sl (.int .i64)) (.pair (.sl (.int .i64)) (.sl (.pair (.int .i64) (.pair .str (.pair (.int .i64) (.int .i64))))))))], true, [.pair (.int .i64) (.pair (.sl (.int .i64)) (.pair (.sl (.int .i64)) (.sl (.pair (.int .i64) (.pair .str (.pair (.int .i64) (.int .i64)))))))], fun x => spec_l13OwnAutomaton x.1⟩
theorem spec_l13OwnAutomaton_eq : fnF E52 L52_0 [.v (.pair (.int .i64) (.pair (.sl (.int .i64)) (.pair (.sl (.int .i64)) (.sl (.pair (.int .i64) (.pair .str (.pair (.int .i64) (.int .i64))))))))] true [.pair (.int .i64) (.pair (.sl (.int .i64)) (.pair (.sl (.int .i64)) (.sl (.pair (.int .i64) (.pair .str (.pair (.int .i64) (.int .i64)))))))] f52.ntmps f52.results.toList (codeOf f52) = fun x => spec_l13OwnAutomaton x.1 := by kernel_rfl
theorem A52_ok : FnOk prog 52 A52 := fo spec_l13OwnAutomaton_eq func52 E52_ok allNil
/-! spec.l5Whole -/
noncomputable def E53 : Env := ⟨ty0, fun g => ifEq g 36 (some A36) (none), fun _ => none, fun _ => none, fun _ => none⟩
theorem E53_ok : FnsOk prog E53 := (oF A36_ok func36 (noFns _ _))
noncomputable def L53_0 : Nat → Option LoopD := fun _ => none
noncomputable def spec_l5Whole : (Int × ((List Int) × ((List Int) × (List (Int × (ByteArray × (Int × Int))))))) → Option ((Int × ((List Int) × ((List Int) × (List (Int × (ByteArray × (Int × Int))))))) × Bool) := fun (a0_0, a0_1, a0_2, a0_3) =>
 Option.bind (spec_AutomatonValid (a0_0, a0_1, a0_2, a0_3)) fun r0 =>
  bif (!r0) then
   some (((0 : Int), [], [], []), false)
  else
   some ((a0_0, a0_1, a0_2, a0_3), true)
noncomputable def A53 : FnA := ⟨[.v (.pair (.int .i64) (.pair (.sl (.int .i64)) (.pair (.sl (.int .i64)) (.sl (.pair (.int .i64) (.pair .str (.pair (.int .i64) (.int .i64))))))))], false, [.pair (.int .i64) (.pair (.sl (.int .i64)) (.pair (.sl (.int .i64)) (.sl (.pair (.int .i64) (.pair .str (.pair (.int .i64) (.int .i64))))))), .bool], fun x => spec_l5Whole x.1⟩
theorem spec_l5Whole_eq : fnF E53 L53_0 [.v (.pair (.int .i64) (.pair (.sl (.int .i64)) (.pair (.sl (.int .i64)) (.sl (.pair (.int .i64) (.pair .str (.pair (.int .i64) (.int .i64))))))))] false [.pair (.int .i64) (.pair (.sl (.int .i64)) (.pair (.sl (.int .i64)) (.sl (.pair (.int .i64) (.pair .str (.pair (.int .i64) (.int .i64))))))), .bool] f53.ntmps f53.results.toList (codeOf f53) = fun x => spec_l5Whole x.1 := by kernel_rfl
theorem A53_ok : FnOk prog 53 A53 := fo spec_l5Whole_eq func53 E53_ok allNil
/-! spec.ScaleAutomaton -/
noncomputable def E34 : Env := ⟨ty0, fun g => ifEq g 52 (some A52) (ifEq g 36 (some A36) (ifEq g 37 (some A37) (ifEq g 53 (some A53) (none)))), fun _ => none, fun _ => none, fun _ => none⟩
theorem E34_ok : FnsOk prog E34 := (oF A52_ok func52 (oF A36_ok func36 (oF A37_ok func37 (oF A53_ok func53 (noFns _ _)))))
noncomputable def L34_0 : Nat → Option LoopD := fun _ => none
def sh34_6 : List Fm := d :: .cell (.val (.int .i64)) :: d :: d :: .box 100400 [.val (.int .i64), .own (.int .i64) 100402 false, .own (.int .i64) 100403 false, .own (.pair (.int .i64) (.pair .str (.pair (.int .i64) (.int .i64)))) 100404 false] :: d :: .box 100600 [.val (.int .i64), .own (.int .i64) 100602 false, .own (.int .i64) 100603 false, .own (.pair (.int .i64) (.pair .str (.pair (.int .i64) (.int .i64)))) 100604 false] :: D 22 (.cell (.own (.pair (.int .i64) (.pair .str (.pair (.int .i64) (.int .i64)))) 102900 false) :: .cell (.val (.int .i64)) :: .cell (.val (.int .i64)) :: D 19 [])
def xs34_6 : List (Ex × List Fm) := [(.exit 0, [d, d, d, d, .box 100400 [.val (.int .i64), .own (.int .i64) 100402 false, .own (.int .i64) 100403 false, .own (.pair (.int .i64) (.pair .str (.pair (.int .i64) (.int .i64)))) 100404 false], d, .box 100600 [.val (.int .i64), .own (.int .i64) 100602 false, .own (.int .i64) 100603 false, .own (.pair (.int .i64) (.pair .str (.pair (.int .i64) (.int .i64)))) 100604 false], d, d, d, d, d, d, d, d, d, d, d, d, d, d, d, d, d, d, d, d, d, d, d, d, d, d, d, d, d, d, d, d, d, d, d, d, d, d, d, d, d, d, d, d])]
noncomputable def spec_ScaleAutomaton_l6 : (Int × (Int × (List Int) × (List Int) × (List (Int × (ByteArray × (Int × Int)))) × Unit) × (Int × (List Int) × (List Int) × (List (Int × (ByteArray × (Int × Int)))) × Unit) × (List (Int × (ByteArray × (Int × Int)))) × Int × Int × Unit) → Option ((Int × (Int × (List Int) × (List Int) × (List (Int × (ByteArray × (Int × Int)))) × Unit) × (Int × (List Int) × (List Int) × (List (Int × (ByteArray × (Int × Int)))) × Unit) × (List (Int × (ByteArray × (Int × Int)))) × Int × Int × Unit) ⊕ (((Int × (List Int) × (List Int) × (List (Int × (ByteArray × (Int × Int)))) × Unit) × (Int × (List Int) × (List Int) × (List (Int × (ByteArray × (Int × Int)))) × Unit) × Unit))) := fun (v1, (v4_0, v4_1, v4_2, v4_3, _), (v6_0, v6_1, v6_2, v6_3, _), v29, v30, v31, _) =>
 bif (decide (v31 < v30)) then
  if (((0 : Int) ≤ v31) ∧ (v31 < (((List.length v29) : Nat) : Int))) then
   if (((0 + (List.length v6_3)) = (List.length v6_3)) ∧ ((((List.length v6_3) + (List.length (List.take 1 (List.drop 0 [((List.getD v29 (0 + (Int.toNat v31)) ((0 : Int), (⟨Array.empty⟩ : ByteArray), (0 : Int), (0 : Int))).1, (List.getD v29 (0 + (Int.toNat v31)) ((0 : Int), (⟨Array.empty⟩ : ByteArray), (0 : Int), (0 : Int))).2.1, (List.getD v29 (0 + (Int.toNat v31)) ((0 : Int), (⟨Array.empty⟩ : ByteArray), (0 : Int), (0 : Int))).2.2.1, (IntKind.wrap .i64 ((List.getD v29 (0 + (Int.toNat v31)) ((0 : Int), (⟨Array.empty⟩ : ByteArray), (0 : Int), (0 : Int))).2.2.2 * v1)))])))) * 40) ≤ 140737488355328)) then
    some (Sum.inl (v1, (v4_0, (List.take (List.length v4_1) (List.drop 0 v4_1)), (List.take (List.length v4_2) (List.drop 0 v4_2)), (List.take (List.length v4_3) (List.drop 0 v4_3)), ()), (v6_0, (List.take (List.length v6_1) (List.drop 0 v6_1)), (List.take (List.length v6_2) (List.drop 0 v6_2)), (List.take ((List.length v6_3) + (List.length (List.take 1 (List.drop 0 [((List.getD v29 (0 + (Int.toNat v31)) ((0 : Int), (⟨Array.empty⟩ : ByteArray), (0 : Int), (0 : Int))).1, (List.getD v29 (0 + (Int.toNat v31)) ((0 : Int), (⟨Array.empty⟩ : ByteArray), (0 : Int), (0 : Int))).2.1, (List.getD v29 (0 + (Int.toNat v31)) ((0 : Int), (⟨Array.empty⟩ : ByteArray), (0 : Int), (0 : Int))).2.2.1, (IntKind.wrap .i64 ((List.getD v29 (0 + (Int.toNat v31)) ((0 : Int), (⟨Array.empty⟩ : ByteArray), (0 : Int), (0 : Int))).2.2.2 * v1)))])))) (List.drop 0 ((List.drop 0 v6_3) ++ (List.take 1 (List.drop 0 [((List.getD v29 (0 + (Int.toNat v31)) ((0 : Int), (⟨Array.empty⟩ : ByteArray), (0 : Int), (0 : Int))).1, (List.getD v29 (0 + (Int.toNat v31)) ((0 : Int), (⟨Array.empty⟩ : ByteArray), (0 : Int), (0 : Int))).2.1, (List.getD v29 (0 + (Int.toNat v31)) ((0 : Int), (⟨Array.empty⟩ : ByteArray), (0 : Int), (0 : Int))).2.2.1, (IntKind.wrap .i64 ((List.getD v29 (0 + (Int.toNat v31)) ((0 : Int), (⟨Array.empty⟩ : ByteArray), (0 : Int), (0 : Int))).2.2.2 * v1)))]))))), ()), (List.take (List.length v29) (List.drop 0 v29)), v30, (IntKind.wrap .i64 (v31 + (1 : Int))), ()))
   else
    none
  else
   none
 else
  some (Sum.inr ((v4_0, (List.take (List.length v4_1) (List.drop 0 v4_1)), (List.take (List.length v4_2) (List.drop 0 v4_2)), (List.take (List.length v4_3) (List.drop 0 v4_3)), ()), (v6_0, (List.take (List.length v6_1) (List.drop 0 v6_1)), (List.take (List.length v6_2) (List.drop 0 v6_2)), (List.take (List.length v6_3) (List.drop 0 v6_3)), ()), ()))
theorem spec_ScaleAutomaton_l6_eq : loopStep 51 E34 L34_0 (loopOf f34 6) sh34_6 xs34_6 = spec_ScaleAutomaton_l6 := by kernel_rfl
theorem loop34_6 {L} (h : L 6 = some ⟨51, sh34_6, xs34_6, spec_ScaleAutomaton_l6⟩) : LoopOk prog L (loopOf f34 6) := lo spec_ScaleAutomaton_l6_eq E34_ok allNil h
noncomputable def L34_1 : Nat → Option LoopD := fun n => ifEq n 6 (some ⟨51, sh34_6, xs34_6, spec_ScaleAutomaton_l6⟩) (L34_0 n)
noncomputable def spec_ScaleAutomaton : (Int × ((List Int) × ((List Int) × (List (Int × (ByteArray × (Int × Int))))))) → Int → Option ((Int × ((List Int) × ((List Int) × (List (Int × (ByteArray × (Int × Int))))))) × Bool) := fun (a0_0, a0_1, a0_2, a0_3) a1 =>
 Option.bind (spec_l13OwnAutomaton (a0_0, a0_1, a0_2, a0_3)) fun (r0, r1, r2, r3) =>
  Option.bind (spec_AutomatonValid (r0, (List.take (List.length r1) (List.drop 0 r1)), (List.take (List.length r2) (List.drop 0 r2)), (List.take (List.length r3) (List.drop 0 r3)))) fun r4 =>
   bif (!r4) then
    some (((0 : Int), [], [], []), false)
   else
    Option.bind (spec_l1In a1 (0 : Int) (3 : Int)) fun r5 =>
     bif (!r5) then
      some (((0 : Int), [], [], []), false)
     else
      Option.bind (loopF spec_ScaleAutomaton_l6 (a1, ((0 : Int), [], [], [], ()), (r0, (List.take (List.length r1) (List.drop 0 r1)), (List.take (List.length r2) (List.drop 0 r2)), (List.take 0 (List.drop 0 [])), ()), (List.take (List.length r3) (List.drop 0 r3)), (((List.length r3) : Nat) : Int), (0 : Int), ())) fun ((r6, r7, r8, r9, _), (r10, r11, r12, r13, _), _) =>
       Option.bind (spec_l5Whole (r10, (List.take (List.length r11) (List.drop 0 r11)), (List.take (List.length r12) (List.drop 0 r12)), (List.take (List.length r13) (List.drop 0 r13)))) fun ((r14, r15, r16, r17), r18) =>
        some ((r14, r15, r16, r17), r18)
noncomputable def A34 : FnA := ⟨[.v (.pair (.int .i64) (.pair (.sl (.int .i64)) (.pair (.sl (.int .i64)) (.sl (.pair (.int .i64) (.pair .str (.pair (.int .i64) (.int .i64)))))))), .v (.int .i64)], false, [.pair (.int .i64) (.pair (.sl (.int .i64)) (.pair (.sl (.int .i64)) (.sl (.pair (.int .i64) (.pair .str (.pair (.int .i64) (.int .i64))))))), .bool], fun x => spec_ScaleAutomaton x.1 x.2.1⟩
theorem spec_ScaleAutomaton_eq : fnF E34 L34_1 [.v (.pair (.int .i64) (.pair (.sl (.int .i64)) (.pair (.sl (.int .i64)) (.sl (.pair (.int .i64) (.pair .str (.pair (.int .i64) (.int .i64)))))))), .v (.int .i64)] false [.pair (.int .i64) (.pair (.sl (.int .i64)) (.pair (.sl (.int .i64)) (.sl (.pair (.int .i64) (.pair .str (.pair (.int .i64) (.int .i64))))))), .bool] f34.ntmps f34.results.toList (codeOf f34) = fun x => spec_ScaleAutomaton x.1 x.2.1 := by kernel_rfl
theorem A34_ok : FnOk prog 34 A34 := fo spec_ScaleAutomaton_eq func34 E34_ok (allCons (loop34_6 rfl) allNil)
/-! spec.l11Two -/
noncomputable def E18 : Env := ⟨ty0, fun g => ifEq g 33 (some A33) (ifEq g 34 (some A34) (none)), fun g => ifEq g 31 (some A31) (ifEq g 32 (some A32) (ifEq g 35 (some A35) (none))), fun _ => none, fun _ => none⟩
theorem E18_ok : FnsOk prog E18 := (oF A33_ok func33 (oF A34_ok func34 (oneMs A31_ok (by kernel_rfl) func31 (by kernel_rfl) (by kernel_rfl) (oneMs A32_ok (by kernel_rfl) func32 (by kernel_rfl) (by kernel_rfl) (oneMs A35_ok (by kernel_rfl) func35 (by kernel_rfl) (by kernel_rfl) (noFns _ _))))))
noncomputable def L18_0 : Nat → Option LoopD := fun _ => none
noncomputable def spec_l11Two : ((List Int) × Int) → Option (((Int × ((List Int) × ((List Int) × (List (Int × (ByteArray × (Int × Int))))))) × (Int × ((List Int) × ((List Int) × (List (Int × (ByteArray × (Int × Int))))))) × Int) × (((List Int) × Int) × Unit)) := fun (a0_0, a0_1) =>
 Option.bind (spec_l3Any (a0_0, a0_1)) fun ((r0, r1, r2, r3), (r4, r5), _) =>
  Option.bind (spec_l13Rd_pick (r4, r5) (4 : Int)) fun (r6, (r7, r8), _) =>
   bif (r6 == (0 : Int)) then
    Option.bind (spec_TrimAutomaton (r0, r1, r2, r3)) fun ((r9, r10, r11, r12), r13) =>
     Option.bind (spec_l13Rd_num (r7, r8) (List.take 8 (List.drop 0 [(3 : Int), (2 : Int), (4 : Int), (1 : Int), (0 : Int), (5 : Int), (-1 : Int), (8 : Int)]))) fun (r14, (r15, r16), _) =>
      some (((r0, r1, r2, r3), (r9, (List.take (List.length r10) (List.drop 0 r10)), (List.take (List.length r11) (List.drop 0 r11)), (List.take (List.length r12) (List.drop 0 r12))), r14), (r15, r16), ())
   else
    bif (r6 == (1 : Int)) then
     Option.bind (spec_l13Rd_pick (r7, r8) (2 : Int)) fun (r17, (r18, r19), _) =>
      Option.bind (spec_ScaleAutomaton (r0, r1, r2, r3) (IntKind.wrap .i64 ((1 : Int) + r17))) fun ((r20, r21, r22, r23), r24) =>
       Option.bind (spec_l13Rd_num (r18, r19) (List.take 8 (List.drop 0 [(3 : Int), (2 : Int), (4 : Int), (1 : Int), (0 : Int), (5 : Int), (-1 : Int), (8 : Int)]))) fun (r25, (r26, r27), _) =>
        some (((r0, r1, r2, r3), (r20, r21, r22, r23), r25), (r26, r27), ())
    else
     bif (r6 == (2 : Int)) then
      Option.bind (spec_l3Any (r7, r8)) fun ((r28, r29, r30, r31), (r32, r33), _) =>
       Option.bind (spec_l13Rd_num (r32, r33) (List.take 8 (List.drop 0 [(3 : Int), (2 : Int), (4 : Int), (1 : Int), (0 : Int), (5 : Int), (-1 : Int), (8 : Int)]))) fun (r34, (r35, r36), _) =>
        some (((r0, r1, r2, r3), (r28, r29, r30, r31), r34), (r35, r36), ())
     else
      Option.bind (spec_l13Rd_num (r7, r8) (List.take 8 (List.drop 0 [(3 : Int), (2 : Int), (4 : Int), (1 : Int), (0 : Int), (5 : Int), (-1 : Int), (8 : Int)]))) fun (r37, (r38, r39), _) =>
       some (((r0, r1, r2, r3), (r0, r1, r2, r3), r37), (r38, r39), ())
noncomputable def A18 : FnM := ⟨[.bx (.pair (.sl (.int .u8)) (.int .i64))], false, [.pair (.int .i64) (.pair (.sl (.int .i64)) (.pair (.sl (.int .i64)) (.sl (.pair (.int .i64) (.pair .str (.pair (.int .i64) (.int .i64))))))), .pair (.int .i64) (.pair (.sl (.int .i64)) (.pair (.sl (.int .i64)) (.sl (.pair (.int .i64) (.pair .str (.pair (.int .i64) (.int .i64))))))), .int .i64], none, fun x => spec_l11Two x.1⟩
theorem spec_l11Two_eq : fnMF E18 L18_0 [.bx (.pair (.sl (.int .u8)) (.int .i64))] false [.pair (.int .i64) (.pair (.sl (.int .i64)) (.pair (.sl (.int .i64)) (.sl (.pair (.int .i64) (.pair .str (.pair (.int .i64) (.int .i64))))))), .pair (.int .i64) (.pair (.sl (.int .i64)) (.pair (.sl (.int .i64)) (.sl (.pair (.int .i64) (.pair .str (.pair (.int .i64) (.int .i64))))))), .int .i64] f18.ntmps f18.results.toList (codeOf f18) = fun x => spec_l11Two x.1 := by kernel_rfl
theorem A18_ok : FnMOk prog 18 A18 := by
 have h := fnMOk_of_run (P := prog) (E := E18) (tysOk_of tyl_ok) E18_ok (L := L18_0) (ps := [.bx (.pair (.sl (.int .u8)) (.int .i64))]) (own := false) (outs := [.pair (.int .i64) (.pair (.sl (.int .i64)) (.pair (.sl (.int .i64)) (.sl (.pair (.int .i64) (.pair .str (.pair (.int .i64) (.int .i64))))))), .pair (.int .i64) (.pair (.sl (.int .i64)) (.pair (.sl (.int .i64)) (.sl (.pair (.int .i64) (.pair .str (.pair (.int .i64) (.int .i64))))))), .int .i64]) func18 (c := codeOf f18) (by kernel_rfl) (codeOk_in (L := L18_0) (tysOk_of tyl_ok) E18_ok mixed (c := codeOf f18) (bs := []) (by kernel_rfl) allNil (by kernel_rfl)) (by kernel_rfl)
 rw [spec_l11Two_eq] at h
 exact h
/-! spec.DrawFirstOver -/
noncomputable def E5 : Env := ⟨ty0, fun _ => none, fun g => ifEq g 18 (some A18) (none), fun g => ifEq g 19 (some A19) (none), fun _ => none⟩
theorem E5_ok : FnsOk prog E5 := (oneBs A19_ok func19 (by kernel_rfl) (by kernel_rfl) (oneMs A18_ok (by kernel_rfl) func18 (by kernel_rfl) (by kernel_rfl) (noFns _ _)))
noncomputable def L5_0 : Nat → Option LoopD := fun _ => none
noncomputable def spec_DrawFirstOver : (List Int) → Option ((Int × ((List Int) × ((List Int) × (List (Int × (ByteArray × (Int × Int))))))) × (Int × ((List Int) × ((List Int) × (List (Int × (ByteArray × (Int × Int))))))) × Int) := fun a0 =>
 Option.bind (spec_l13Open a0) fun (r0, r1) =>
  Option.bind (spec_l11Two (r0, r1)) fun (((r2, r3, r4, r5), (r6, r7, r8, r9), r10), (r11, r12), _) =>
   some ((r2, r3, r4, r5), (r6, r7, r8, r9), r10)
noncomputable def A5 : FnA := ⟨[.v (.sl (.int .u8))], false, [.pair (.int .i64) (.pair (.sl (.int .i64)) (.pair (.sl (.int .i64)) (.sl (.pair (.int .i64) (.pair .str (.pair (.int .i64) (.int .i64))))))), .pair (.int .i64) (.pair (.sl (.int .i64)) (.pair (.sl (.int .i64)) (.sl (.pair (.int .i64) (.pair .str (.pair (.int .i64) (.int .i64))))))), .int .i64], fun x => spec_DrawFirstOver x.1⟩
theorem spec_DrawFirstOver_eq : fnF E5 L5_0 [.v (.sl (.int .u8))] false [.pair (.int .i64) (.pair (.sl (.int .i64)) (.pair (.sl (.int .i64)) (.sl (.pair (.int .i64) (.pair .str (.pair (.int .i64) (.int .i64))))))), .pair (.int .i64) (.pair (.sl (.int .i64)) (.pair (.sl (.int .i64)) (.sl (.pair (.int .i64) (.pair .str (.pair (.int .i64) (.int .i64))))))), .int .i64] f5.ntmps f5.results.toList (codeOf f5) = fun x => spec_DrawFirstOver x.1 := by kernel_rfl
theorem A5_ok : FnOk prog 5 A5 := fo spec_DrawFirstOver_eq func5 E5_ok allNil
/-! impl.ShortWords -/
noncomputable def E10 : Env := ⟨ty0, fun _ => none, fun _ => none, fun _ => none, fun _ => none⟩
theorem E10_ok : FnsOk prog E10 := (noFns _ _)
noncomputable def L10_0 : Nat → Option LoopD := fun _ => none
def sh10_8 : List Fm := .cell (.val (.int .i64)) :: d :: d :: d :: .cell (.own .str 100400 true) :: d :: .cell (.val (.int .i64)) :: D 23 (.cell (.val (.sl .str)) :: .cell (.val (.int .i64)) :: .cell (.val (.int .i64)) :: D 13 [])
def xs10_8 : List (Ex × List Fm) := [(.exit 2, (.cell (.val (.int .i64)) :: d :: d :: d :: .cell (.own .str 100400 true) :: d :: .cell (.val (.int .i64)) :: D 39 []))]
noncomputable def impl_ShortWords_l8 : (Int × (List ByteArray) × Int × (List ByteArray) × Int × Int × Unit) → Option ((Int × (List ByteArray) × Int × (List ByteArray) × Int × Int × Unit) ⊕ ((Int × (List ByteArray) × Int × Unit))) := fun (v0, v4, v6, v30, v31, v32, _) =>
 bif (decide (v32 < v31)) then
  if (((0 : Int) ≤ v32) ∧ (v32 < (((List.length v30) : Nat) : Int))) then
   if (((ByteArray.size (List.getD v30 (Int.toNat v32) (⟨Array.empty⟩ : ByteArray))) + (ByteArray.size (⟨#[(97 : UInt8)]⟩ : ByteArray))) ≤ 9223372036854775807) then
    if (((ByteArray.size (List.getD v30 (Int.toNat v32) (⟨Array.empty⟩ : ByteArray))) + (ByteArray.size (⟨#[(98 : UInt8)]⟩ : ByteArray))) ≤ 9223372036854775807) then
     if (((0 + (List.length v4)) = (List.length v4)) ∧ ((((List.length v4) + (List.length (List.take 2 (List.drop 0 [((List.getD v30 (Int.toNat v32) (⟨Array.empty⟩ : ByteArray)) ++ (⟨#[(97 : UInt8)]⟩ : ByteArray)), ((List.getD v30 (Int.toNat v32) (⟨Array.empty⟩ : ByteArray)) ++ (⟨#[(98 : UInt8)]⟩ : ByteArray))])))) * 16) ≤ 140737488355328)) then
      if ((0 + ((List.length v4) + (List.length (List.take 2 (List.drop 0 [((List.getD v30 (Int.toNat v32) (⟨Array.empty⟩ : ByteArray)) ++ (⟨#[(97 : UInt8)]⟩ : ByteArray)), ((List.getD v30 (Int.toNat v32) (⟨Array.empty⟩ : ByteArray)) ++ (⟨#[(98 : UInt8)]⟩ : ByteArray))]))))) = (List.length ((List.drop 0 v4) ++ (List.take 2 (List.drop 0 [((List.getD v30 (Int.toNat v32) (⟨Array.empty⟩ : ByteArray)) ++ (⟨#[(97 : UInt8)]⟩ : ByteArray)), ((List.getD v30 (Int.toNat v32) (⟨Array.empty⟩ : ByteArray)) ++ (⟨#[(98 : UInt8)]⟩ : ByteArray))]))))) then
       some (Sum.inl (v0, (List.drop 0 ((List.drop 0 v4) ++ (List.take 2 (List.drop 0 [((List.getD v30 (Int.toNat v32) (⟨Array.empty⟩ : ByteArray)) ++ (⟨#[(97 : UInt8)]⟩ : ByteArray)), ((List.getD v30 (Int.toNat v32) (⟨Array.empty⟩ : ByteArray)) ++ (⟨#[(98 : UInt8)]⟩ : ByteArray))])))), v6, v30, v31, (IntKind.wrap .i64 (v32 + (1 : Int))), ()))
      else
       none
     else
      none
    else
     none
   else
    none
  else
   none
 else
  if ((0 + (List.length v4)) = (List.length v4)) then
   some (Sum.inr (v0, (List.drop 0 v4), v6, ()))
  else
   none
theorem impl_ShortWords_l8_eq : loopStep 46 E10 L10_0 (loopOf f10 8) sh10_8 xs10_8 = impl_ShortWords_l8 := by kernel_rfl
theorem loop10_8 {L} (h : L 8 = some ⟨46, sh10_8, xs10_8, impl_ShortWords_l8⟩) : LoopOk prog L (loopOf f10 8) := lo impl_ShortWords_l8_eq E10_ok allNil h
noncomputable def L10_1 : Nat → Option LoopD := fun n => ifEq n 8 (some ⟨46, sh10_8, xs10_8, impl_ShortWords_l8⟩) (L10_0 n)
def sh10_5 : List Fm := .cell (.val (.int .i64)) :: d :: d :: d :: .cell (.own .str 100400 true) :: .cell (.val (.int .i64)) :: D 40 []
def xs10_5 : List (Ex × List Fm) := [(.exit 0, (D 4 (.cell (.val (.sl .str)) :: D 41 [])))]
noncomputable def impl_ShortWords_l5 : (Int × (List ByteArray) × Int × Unit) → Option ((Int × (List ByteArray) × Int × Unit) ⊕ (((List ByteArray) × Unit))) := fun (v0, v4, v5, _) =>
 if (((0 : Int) ≤ (IntKind.wrap .i64 ((((List.length v4) : Nat) : Int) - (1 : Int)))) ∧ ((IntKind.wrap .i64 ((((List.length v4) : Nat) : Int) - (1 : Int))) < (((List.length v4) : Nat) : Int))) then
  bif (decide ((((ByteArray.size (List.getD v4 (0 + (Int.toNat (IntKind.wrap .i64 ((((List.length v4) : Nat) : Int) - (1 : Int))))) (⟨Array.empty⟩ : ByteArray))) : Nat) : Int) < v0)) then
   if (((0 : Int) ≤ v5) ∧ ((v5 ≤ (((List.length v4) : Nat) : Int)) ∧ ((((List.length v4) : Nat) : Int) ≤ (((List.length v4) : Nat) : Int)))) then
    if ((0 + (List.length v4)) = (List.length v4)) then
     Option.bind (loopF impl_ShortWords_l8 (v0, (List.drop 0 v4), (((List.length v4) : Nat) : Int), (List.take ((Int.toNat (((List.length v4) : Nat) : Int)) - (Int.toNat v5)) (List.drop (0 + (Int.toNat v5)) v4)), ((((Int.toNat (((List.length v4) : Nat) : Int)) - (Int.toNat v5)) : Nat) : Int), (0 : Int), ())) fun (r0, r1, r2, _) =>
      if ((0 + (List.length r1)) = (List.length r1)) then
       some (Sum.inl (r0, (List.drop 0 r1), r2, ()))
      else
       none
    else
     none
   else
    none
  else
   some (Sum.inr ((List.take (List.length v4) (List.drop 0 v4)), ()))
 else
  none
theorem impl_ShortWords_l5_eq : loopStep 46 E10 L10_1 (loopOf f10 5) sh10_5 xs10_5 = impl_ShortWords_l5 := by kernel_rfl
theorem loop10_5 {L} (h : L 5 = some ⟨46, sh10_5, xs10_5, impl_ShortWords_l5⟩) : LoopOk prog L (loopOf f10 5) := lo impl_ShortWords_l5_eq E10_ok (allCons (loop10_8 rfl) allNil) h
noncomputable def L10_2 : Nat → Option LoopD := fun n => ifEq n 5 (some ⟨46, sh10_5, xs10_5, impl_ShortWords_l5⟩) (L10_1 n)
noncomputable def impl_ShortWords : Int → Option ((List ByteArray) × Bool) := fun a0 =>
 bif (decide (a0 < (0 : Int))) then
  some ([], false)
 else
  bif (decide (a0 > (7 : Int))) then
   some ([], false)
  else
   if ((0 + 1) = (List.length [(⟨#[]⟩ : ByteArray)])) then
    Option.bind (loopF impl_ShortWords_l5 (a0, (List.drop 0 [(⟨#[]⟩ : ByteArray)]), (0 : Int), ())) fun (r0, _) =>
     some (r0, true)
   else
    none
noncomputable def A10 : FnA := ⟨[.v (.int .i64)], false, [.sl .str, .bool], fun x => impl_ShortWords x.1⟩
theorem impl_ShortWords_eq : fnF E10 L10_2 [.v (.int .i64)] false [.sl .str, .bool] f10.ntmps f10.results.toList (codeOf f10) = fun x => impl_ShortWords x.1 := by kernel_rfl
theorem A10_ok : FnOk prog 10 A10 := fo impl_ShortWords_eq func10 E10_ok (allCons (loop10_5 rfl) allNil)
/-! impl.statesOk -/
noncomputable def E24 : Env := ⟨ty0, fun _ => none, fun _ => none, fun _ => none, fun _ => none⟩
theorem E24_ok : FnsOk prog E24 := (noFns _ _)
noncomputable def L24_0 : Nat → Option LoopD := fun _ => none
def sh24_2 : List Fm := .cell (.val (.sl (.int .i64))) :: .cell (.val (.int .i64)) :: D 5 (.cell (.val (.sl (.int .i64))) :: .cell (.val (.int .i64)) :: .cell (.val (.int .i64)) :: D 25 [])
def xs24_2 : List (Ex × List Fm) := [(.ret, (D 4 (.cell (.val .bool) :: D 30 []))), (.exit 0, (D 35 []))]
noncomputable def impl_statesOk_l2 : ((List Int) × Int × (List Int) × Int × Int × Unit) → Option (((List Int) × Int × (List Int) × Int × Int × Unit) ⊕ ((Bool × Unit) ⊕ (Unit))) := fun (v0, v1, v7, v8, v9, _) =>
 bif (decide (v9 < v8)) then
  if (((0 : Int) ≤ v9) ∧ (v9 < (((List.length v7) : Nat) : Int))) then
   bif (decide ((List.getD v7 (Int.toNat v9) (0 : Int)) < (0 : Int))) then
    some (Sum.inr (Sum.inl (false, ())))
   else
    bif (decide ((List.getD v7 (Int.toNat v9) (0 : Int)) ≥ v1)) then
     some (Sum.inr (Sum.inl (false, ())))
    else
     bif (decide (v9 > (0 : Int))) then
      if (((0 : Int) ≤ (IntKind.wrap .i64 (v9 - (1 : Int)))) ∧ ((IntKind.wrap .i64 (v9 - (1 : Int))) < (((List.length v0) : Nat) : Int))) then
       bif (decide ((List.getD v0 (Int.toNat (IntKind.wrap .i64 (v9 - (1 : Int)))) (0 : Int)) ≥ (List.getD v7 (Int.toNat v9) (0 : Int)))) then
        some (Sum.inr (Sum.inl (false, ())))
       else
        some (Sum.inl (v0, v1, v7, v8, (IntKind.wrap .i64 (v9 + (1 : Int))), ()))
      else
       none
     else
      some (Sum.inl (v0, v1, v7, v8, (IntKind.wrap .i64 (v9 + (1 : Int))), ()))
  else
   none
 else
  some (Sum.inr (Sum.inr ()))
theorem impl_statesOk_l2_eq : loopStep 35 E24 L24_0 (loopOf f24 2) sh24_2 xs24_2 = impl_statesOk_l2 := by kernel_rfl
theorem loop24_2 {L} (h : L 2 = some ⟨35, sh24_2, xs24_2, impl_statesOk_l2⟩) : LoopOk prog L (loopOf f24 2) := lo impl_statesOk_l2_eq E24_ok allNil h
noncomputable def L24_1 : Nat → Option LoopD := fun n => ifEq n 2 (some ⟨35, sh24_2, xs24_2, impl_statesOk_l2⟩) (L24_0 n)
noncomputable def impl_statesOk : (List Int) → Int → Option (Bool) := fun a0 a1 =>
 Option.bind (loopF impl_statesOk_l2 (a0, a1, a0, (((List.length a0) : Nat) : Int), (0 : Int), ())) fun r0 =>
  (match r0 with
  | .inl (d1, _) =>
    some d1
  | .inr _ =>
    some true)
noncomputable def A24 : FnA := ⟨[.v (.sl (.int .i64)), .v (.int .i64)], true, [.bool], fun x => impl_statesOk x.1 x.2.1⟩
theorem impl_statesOk_eq : fnF E24 L24_1 [.v (.sl (.int .i64)), .v (.int .i64)] true [.bool] f24.ntmps f24.results.toList (codeOf f24) = fun x => impl_statesOk x.1 x.2.1 := by kernel_rfl
theorem A24_ok : FnOk prog 24 A24 := fo impl_statesOk_eq func24 E24_ok (allCons (loop24_2 rfl) allNil)
/-! cmp.isNaN[int] -/
noncomputable def E60 : Env := ⟨ty0, fun _ => none, fun _ => none, fun _ => none, fun _ => none⟩
theorem E60_ok : FnsOk prog E60 := (noFns _ _)
noncomputable def L60_0 : Nat → Option LoopD := fun _ => none
noncomputable def cmp_isNaN : Int → Option (Bool) := fun a0 =>
 some (a0 != a0)
noncomputable def A60 : FnA := ⟨[.v (.int .i64)], true, [.bool], fun x => cmp_isNaN x.1⟩
theorem cmp_isNaN_eq : fnF E60 L60_0 [.v (.int .i64)] true [.bool] f60.ntmps f60.results.toList (codeOf f60) = fun x => cmp_isNaN x.1 := by kernel_rfl
theorem A60_ok : FnOk prog 60 A60 := fo cmp_isNaN_eq func60 E60_ok allNil
/-! cmp.Compare[int] -/
noncomputable def E41 : Env := ⟨ty0, fun g => ifEq g 60 (some A60) (none), fun _ => none, fun _ => none, fun _ => none⟩
theorem E41_ok : FnsOk prog E41 := (oF A60_ok func60 (noFns _ _))
noncomputable def L41_0 : Nat → Option LoopD := fun _ => none
noncomputable def cmp_Compare : Int → Int → Option (Int) := fun a0 a1 =>
 Option.bind (cmp_isNaN a0) fun r0 =>
  Option.bind (cmp_isNaN a1) fun r1 =>
   bif r0 then
    bif r1 then
     some (0 : Int)
    else
     some (-1 : Int)
   else
    bif r1 then
     some (1 : Int)
    else
     bif (decide (a0 < a1)) then
      some (-1 : Int)
     else
      bif (decide (a0 > a1)) then
       some (1 : Int)
      else
       some (0 : Int)
noncomputable def A41 : FnA := ⟨[.v (.int .i64), .v (.int .i64)], true, [.int .i64], fun x => cmp_Compare x.1 x.2.1⟩
theorem cmp_Compare_eq : fnF E41 L41_0 [.v (.int .i64), .v (.int .i64)] true [.int .i64] f41.ntmps f41.results.toList (codeOf f41) = fun x => cmp_Compare x.1 x.2.1 := by kernel_rfl
theorem A41_ok : FnOk prog 41 A41 := fo cmp_Compare_eq func41 E41_ok allNil
/-! cmp.Or[int] -/
noncomputable def E40 : Env := ⟨ty0, fun _ => none, fun _ => none, fun _ => none, fun _ => none⟩
theorem E40_ok : FnsOk prog E40 := (noFns _ _)
noncomputable def L40_0 : Nat → Option LoopD := fun _ => none
def sh40_3 : List Fm := d :: d :: d :: .cell (.val (.int .i64)) :: d :: d :: .cell (.val (.sl (.int .i64))) :: .cell (.val (.int .i64)) :: .cell (.val (.int .i64)) :: D 9 []
def xs40_3 : List (Ex × List Fm) := [(.ret, (d :: d :: .cell (.val (.int .i64)) :: D 15 [])), (.exit 0, (d :: d :: d :: .cell (.val (.int .i64)) :: D 14 []))]
noncomputable def cmp_Or_l3 : (Int × (List Int) × Int × Int × Unit) → Option ((Int × (List Int) × Int × Int × Unit) ⊕ ((Int × Unit) ⊕ (Int × Unit))) := fun (v3, v6, v7, v8, _) =>
 bif (decide (v8 < v7)) then
  if (((0 : Int) ≤ v8) ∧ (v8 < (((List.length v6) : Nat) : Int))) then
   bif ((List.getD v6 (Int.toNat v8) (0 : Int)) != v3) then
    some (Sum.inr (Sum.inl ((List.getD v6 (Int.toNat v8) (0 : Int)), ())))
   else
    some (Sum.inl (v3, v6, v7, (IntKind.wrap .i64 (v8 + (1 : Int))), ()))
  else
   none
 else
  some (Sum.inr (Sum.inr (v3, ())))
theorem cmp_Or_l3_eq : loopStep 18 E40 L40_0 (loopOf f40 3) sh40_3 xs40_3 = cmp_Or_l3 := by kernel_rfl
theorem loop40_3 {L} (h : L 3 = some ⟨18, sh40_3, xs40_3, cmp_Or_l3⟩) : LoopOk prog L (loopOf f40 3) := lo cmp_Or_l3_eq E40_ok allNil h
noncomputable def L40_1 : Nat → Option LoopD := fun n => ifEq n 3 (some ⟨18, sh40_3, xs40_3, cmp_Or_l3⟩) (L40_0 n)
noncomputable def cmp_Or : (List Int) → Option (Int) := fun a0 =>
 Option.bind (loopF cmp_Or_l3 ((0 : Int), a0, (((List.length a0) : Nat) : Int), (0 : Int), ())) fun r0 =>
  (match r0 with
  | .inl (d1, _) =>
    some d1
  | .inr (d2, _) =>
    some d2)
noncomputable def A40 : FnA := ⟨[.v (.sl (.int .i64))], true, [.int .i64], fun x => cmp_Or x.1⟩
theorem cmp_Or_eq : fnF E40 L40_1 [.v (.sl (.int .i64))] true [.int .i64] f40.ntmps f40.results.toList (codeOf f40) = fun x => cmp_Or x.1 := by kernel_rfl
theorem A40_ok : FnOk prog 40 A40 := fo cmp_Or_eq func40 E40_ok (allCons (loop40_3 rfl) allNil)
/-! impl.stepOrder -/
noncomputable def E25 : Env := ⟨ty0, fun g => ifEq g 41 (some A41) (ifEq g 42 (some A42) (ifEq g 40 (some A40) (none))), fun _ => none, fun _ => none, fun _ => none⟩
theorem E25_ok : FnsOk prog E25 := (oF A41_ok func41 (oF A42_ok func42 (oF A40_ok func40 (noFns _ _))))
noncomputable def L25_0 : Nat → Option LoopD := fun _ => none
noncomputable def impl_stepOrder : (Int × (ByteArray × (Int × Int))) → (Int × (ByteArray × (Int × Int))) → Option (Int) := fun (a0_0, a0_1, a0_2, a0_3) (a1_0, a1_1, a1_2, a1_3) =>
 Option.bind (cmp_Compare a0_0 a1_0) fun r0 =>
  Option.bind (strings_Compare a0_1 a1_1) fun r1 =>
   Option.bind (cmp_Compare a0_2 a1_2) fun r2 =>
    Option.bind (cmp_Or (List.take 3 (List.drop 0 [r0, r1, r2]))) fun r3 =>
     some r3
noncomputable def A25 : FnA := ⟨[.v (.pair (.int .i64) (.pair .str (.pair (.int .i64) (.int .i64)))), .v (.pair (.int .i64) (.pair .str (.pair (.int .i64) (.int .i64))))], true, [.int .i64], fun x => impl_stepOrder x.1 x.2.1⟩
theorem impl_stepOrder_eq : fnF E25 L25_0 [.v (.pair (.int .i64) (.pair .str (.pair (.int .i64) (.int .i64)))), .v (.pair (.int .i64) (.pair .str (.pair (.int .i64) (.int .i64))))] true [.int .i64] f25.ntmps f25.results.toList (codeOf f25) = fun x => impl_stepOrder x.1 x.2.1 := by kernel_rfl
theorem A25_ok : FnOk prog 25 A25 := fo impl_stepOrder_eq func25 E25_ok allNil
/-! impl.AutomatonValid -/
noncomputable def E11 : Env := ⟨ty0, fun g => ifEq g 24 (some A24) (ifEq g 25 (some A25) (none)), fun _ => none, fun _ => none, fun _ => none⟩
theorem E11_ok : FnsOk prog E11 := (oF A24_ok func24 (oF A25_ok func25 (noFns _ _)))
noncomputable def L11_0 : Nat → Option LoopD := fun _ => none
def sh11_4 : List Fm := d :: .box 100100 [.val (.int .i64), .val (.sl (.int .i64)), .val (.sl (.int .i64)), .val (.sl (.pair (.int .i64) (.pair .str (.pair (.int .i64) (.int .i64)))))] :: D 34 (.cell (.val (.sl (.pair (.int .i64) (.pair .str (.pair (.int .i64) (.int .i64)))))) :: .cell (.val (.int .i64)) :: .cell (.val (.int .i64)) :: D 62 [])
def xs11_4 : List (Ex × List Fm) := [(.ret, (d :: d :: .cell (.val .bool) :: D 98 [])), (.exit 0, (D 101 []))]
noncomputable def impl_AutomatonValid_l4 : ((Int × (List Int) × (List Int) × (List (Int × (ByteArray × (Int × Int)))) × Unit) × (List (Int × (ByteArray × (Int × Int)))) × Int × Int × Unit) → Option (((Int × (List Int) × (List Int) × (List (Int × (ByteArray × (Int × Int)))) × Unit) × (List (Int × (ByteArray × (Int × Int)))) × Int × Int × Unit) ⊕ ((Bool × Unit) ⊕ (Unit))) := fun ((v1_0, v1_1, v1_2, v1_3, _), v36, v37, v38, _) =>
 bif (decide (v38 < v37)) then
  if (((0 : Int) ≤ v38) ∧ (v38 < (((List.length v36) : Nat) : Int))) then
   bif (decide ((List.getD v36 (Int.toNat v38) ((0 : Int), (⟨Array.empty⟩ : ByteArray), (0 : Int), (0 : Int))).1 < (0 : Int))) then
    some (Sum.inr (Sum.inl (false, ())))
   else
    bif (decide ((List.getD v36 (Int.toNat v38) ((0 : Int), (⟨Array.empty⟩ : ByteArray), (0 : Int), (0 : Int))).1 ≥ v1_0)) then
     some (Sum.inr (Sum.inl (false, ())))
    else
     bif (decide ((List.getD v36 (Int.toNat v38) ((0 : Int), (⟨Array.empty⟩ : ByteArray), (0 : Int), (0 : Int))).2.2.1 < (0 : Int))) then
      some (Sum.inr (Sum.inl (false, ())))
     else
      bif (decide ((List.getD v36 (Int.toNat v38) ((0 : Int), (⟨Array.empty⟩ : ByteArray), (0 : Int), (0 : Int))).2.2.1 ≥ v1_0)) then
       some (Sum.inr (Sum.inl (false, ())))
      else
       bif (!((ByteArray.toList (List.getD v36 (Int.toNat v38) ((0 : Int), (⟨Array.empty⟩ : ByteArray), (0 : Int), (0 : Int))).2.1) == (ByteArray.toList (⟨#[(97 : UInt8)]⟩ : ByteArray)))) then
        bif (!((ByteArray.toList (List.getD v36 (Int.toNat v38) ((0 : Int), (⟨Array.empty⟩ : ByteArray), (0 : Int), (0 : Int))).2.1) == (ByteArray.toList (⟨#[(98 : UInt8)]⟩ : ByteArray)))) then
         some (Sum.inr (Sum.inl (false, ())))
        else
         bif (decide ((List.getD v36 (Int.toNat v38) ((0 : Int), (⟨Array.empty⟩ : ByteArray), (0 : Int), (0 : Int))).2.2.2 < (0 : Int))) then
          some (Sum.inr (Sum.inl (false, ())))
         else
          bif (decide ((List.getD v36 (Int.toNat v38) ((0 : Int), (⟨Array.empty⟩ : ByteArray), (0 : Int), (0 : Int))).2.2.2 > (3 : Int))) then
           some (Sum.inr (Sum.inl (false, ())))
          else
           bif (decide (v38 > (0 : Int))) then
            if (((0 : Int) ≤ (IntKind.wrap .i64 (v38 - (1 : Int)))) ∧ ((IntKind.wrap .i64 (v38 - (1 : Int))) < (((List.length v1_3) : Nat) : Int))) then
             Option.bind (impl_stepOrder (List.getD v1_3 (Int.toNat (IntKind.wrap .i64 (v38 - (1 : Int)))) ((0 : Int), (⟨Array.empty⟩ : ByteArray), (0 : Int), (0 : Int))) ((List.getD v36 (Int.toNat v38) ((0 : Int), (⟨Array.empty⟩ : ByteArray), (0 : Int), (0 : Int))).1, (List.getD v36 (Int.toNat v38) ((0 : Int), (⟨Array.empty⟩ : ByteArray), (0 : Int), (0 : Int))).2.1, (List.getD v36 (Int.toNat v38) ((0 : Int), (⟨Array.empty⟩ : ByteArray), (0 : Int), (0 : Int))).2.2.1, (List.getD v36 (Int.toNat v38) ((0 : Int), (⟨Array.empty⟩ : ByteArray), (0 : Int), (0 : Int))).2.2.2)) fun r0 =>
              bif (decide (r0 ≥ (0 : Int))) then
               some (Sum.inr (Sum.inl (false, ())))
              else
               some (Sum.inl ((v1_0, v1_1, v1_2, v1_3, ()), v36, v37, (IntKind.wrap .i64 (v38 + (1 : Int))), ()))
            else
             none
           else
            some (Sum.inl ((v1_0, v1_1, v1_2, v1_3, ()), v36, v37, (IntKind.wrap .i64 (v38 + (1 : Int))), ()))
       else
        bif (decide ((List.getD v36 (Int.toNat v38) ((0 : Int), (⟨Array.empty⟩ : ByteArray), (0 : Int), (0 : Int))).2.2.2 < (0 : Int))) then
         some (Sum.inr (Sum.inl (false, ())))
        else
         bif (decide ((List.getD v36 (Int.toNat v38) ((0 : Int), (⟨Array.empty⟩ : ByteArray), (0 : Int), (0 : Int))).2.2.2 > (3 : Int))) then
          some (Sum.inr (Sum.inl (false, ())))
         else
          bif (decide (v38 > (0 : Int))) then
           if (((0 : Int) ≤ (IntKind.wrap .i64 (v38 - (1 : Int)))) ∧ ((IntKind.wrap .i64 (v38 - (1 : Int))) < (((List.length v1_3) : Nat) : Int))) then
            Option.bind (impl_stepOrder (List.getD v1_3 (Int.toNat (IntKind.wrap .i64 (v38 - (1 : Int)))) ((0 : Int), (⟨Array.empty⟩ : ByteArray), (0 : Int), (0 : Int))) ((List.getD v36 (Int.toNat v38) ((0 : Int), (⟨Array.empty⟩ : ByteArray), (0 : Int), (0 : Int))).1, (List.getD v36 (Int.toNat v38) ((0 : Int), (⟨Array.empty⟩ : ByteArray), (0 : Int), (0 : Int))).2.1, (List.getD v36 (Int.toNat v38) ((0 : Int), (⟨Array.empty⟩ : ByteArray), (0 : Int), (0 : Int))).2.2.1, (List.getD v36 (Int.toNat v38) ((0 : Int), (⟨Array.empty⟩ : ByteArray), (0 : Int), (0 : Int))).2.2.2)) fun r1 =>
             bif (decide (r1 ≥ (0 : Int))) then
              some (Sum.inr (Sum.inl (false, ())))
             else
              some (Sum.inl ((v1_0, v1_1, v1_2, v1_3, ()), v36, v37, (IntKind.wrap .i64 (v38 + (1 : Int))), ()))
           else
            none
          else
           some (Sum.inl ((v1_0, v1_1, v1_2, v1_3, ()), v36, v37, (IntKind.wrap .i64 (v38 + (1 : Int))), ()))
  else
   none
 else
  some (Sum.inr (Sum.inr ()))
theorem impl_AutomatonValid_l4_eq : loopStep 101 E11 L11_0 (loopOf f11 4) sh11_4 xs11_4 = impl_AutomatonValid_l4 := by kernel_rfl
theorem loop11_4 {L} (h : L 4 = some ⟨101, sh11_4, xs11_4, impl_AutomatonValid_l4⟩) : LoopOk prog L (loopOf f11 4) := lo impl_AutomatonValid_l4_eq E11_ok allNil h
noncomputable def L11_1 : Nat → Option LoopD := fun n => ifEq n 4 (some ⟨101, sh11_4, xs11_4, impl_AutomatonValid_l4⟩) (L11_0 n)
noncomputable def impl_AutomatonValid : (Int × ((List Int) × ((List Int) × (List (Int × (ByteArray × (Int × Int))))))) → Option (Bool) := fun (a0_0, a0_1, a0_2, a0_3) =>
 bif (decide (a0_0 < (1 : Int))) then
  some false
 else
  bif (decide (a0_0 > (4 : Int))) then
   some false
  else
   bif (decide ((((List.length a0_3) : Nat) : Int) > (24 : Int))) then
    some false
   else
    Option.bind (impl_statesOk a0_1 a0_0) fun r0 =>
     bif (!r0) then
      some false
     else
      Option.bind (impl_statesOk a0_2 a0_0) fun r1 =>
       bif (!r1) then
        some false
       else
        Option.bind (loopF impl_AutomatonValid_l4 ((a0_0, a0_1, a0_2, a0_3, ()), a0_3, (((List.length a0_3) : Nat) : Int), (0 : Int), ())) fun r2 =>
         (match r2 with
         | .inl (d3, _) =>
           some d3
         | .inr _ =>
           some true)
noncomputable def A11 : FnA := ⟨[.v (.pair (.int .i64) (.pair (.sl (.int .i64)) (.pair (.sl (.int .i64)) (.sl (.pair (.int .i64) (.pair .str (.pair (.int .i64) (.int .i64))))))))], true, [.bool], fun x => impl_AutomatonValid x.1⟩
theorem impl_AutomatonValid_eq : fnF E11 L11_1 [.v (.pair (.int .i64) (.pair (.sl (.int .i64)) (.pair (.sl (.int .i64)) (.sl (.pair (.int .i64) (.pair .str (.pair (.int .i64) (.int .i64))))))))] true [.bool] f11.ntmps f11.results.toList (codeOf f11) = fun x => impl_AutomatonValid x.1 := by kernel_rfl
theorem A11_ok : FnOk prog 11 A11 := fo impl_AutomatonValid_eq func11 E11_ok (allCons (loop11_4 rfl) allNil)
/-! impl.short -/
noncomputable def E20 : Env := ⟨ty0, fun g => ifEq g 10 (some A10) (ifEq g 11 (some A11) (none)), fun _ => none, fun _ => none, fun _ => none⟩
theorem E20_ok : FnsOk prog E20 := (oF A10_ok func10 (oF A11_ok func11 (noFns _ _)))
noncomputable def L20_0 : Nat → Option LoopD := fun _ => none
def sh20_3 : List Fm := D 6 (.cell (.val (.sl .str)) :: .cell (.val .bool) :: D 7 (.cell (.val (.sl (.pair (.int .i64) (.pair (.sl (.int .i64)) (.pair (.sl (.int .i64)) (.sl (.pair (.int .i64) (.pair .str (.pair (.int .i64) (.int .i64)))))))))) :: .cell (.val (.int .i64)) :: .cell (.val (.int .i64)) :: D 11 []))
def xs20_3 : List (Ex × List Fm) := [(.exit 0, (D 6 (.cell (.val (.sl .str)) :: .cell (.val .bool) :: D 21 [])))]
noncomputable def impl_short_l3 : ((List ByteArray) × Bool × (List (Int × ((List Int) × ((List Int) × (List (Int × (ByteArray × (Int × Int)))))))) × Int × Int × Unit) → Option (((List ByteArray) × Bool × (List (Int × ((List Int) × ((List Int) × (List (Int × (ByteArray × (Int × Int)))))))) × Int × Int × Unit) ⊕ (((List ByteArray) × Bool × Unit))) := fun (v6, v7, v15, v16, v17, _) =>
 bif (decide (v17 < v16)) then
  if (((0 : Int) ≤ v17) ∧ (v17 < (((List.length v15) : Nat) : Int))) then
   bif v7 then
    Option.bind (impl_AutomatonValid ((List.getD v15 (Int.toNat v17) ((0 : Int), [], [], [])).1, (List.getD v15 (Int.toNat v17) ((0 : Int), [], [], [])).2.1, (List.getD v15 (Int.toNat v17) ((0 : Int), [], [], [])).2.2.1, (List.getD v15 (Int.toNat v17) ((0 : Int), [], [], [])).2.2.2)) fun r0 =>
     some (Sum.inl (v6, r0, v15, v16, (IntKind.wrap .i64 (v17 + (1 : Int))), ()))
   else
    some (Sum.inl (v6, false, v15, v16, (IntKind.wrap .i64 (v17 + (1 : Int))), ()))
  else
   none
 else
  some (Sum.inr (v6, v7, ()))
theorem impl_short_l3_eq : loopStep 29 E20 L20_0 (loopOf f20 3) sh20_3 xs20_3 = impl_short_l3 := by kernel_rfl
theorem loop20_3 {L} (h : L 3 = some ⟨29, sh20_3, xs20_3, impl_short_l3⟩) : LoopOk prog L (loopOf f20 3) := lo impl_short_l3_eq E20_ok allNil h
noncomputable def L20_1 : Nat → Option LoopD := fun n => ifEq n 3 (some ⟨29, sh20_3, xs20_3, impl_short_l3⟩) (L20_0 n)
noncomputable def impl_short : Int → (List (Int × ((List Int) × ((List Int) × (List (Int × (ByteArray × (Int × Int)))))))) → Option ((List ByteArray) × Bool) := fun a0 a1 =>
 Option.bind (impl_ShortWords a0) fun (r0, r1) =>
  Option.bind (loopF impl_short_l3 (r0, r1, a1, (((List.length a1) : Nat) : Int), (0 : Int), ())) fun (r2, r3, _) =>
   some (r2, r3)
noncomputable def A20 : FnA := ⟨[.v (.int .i64), .v (.sl (.pair (.int .i64) (.pair (.sl (.int .i64)) (.pair (.sl (.int .i64)) (.sl (.pair (.int .i64) (.pair .str (.pair (.int .i64) (.int .i64)))))))))], false, [.sl .str, .bool], fun x => impl_short x.1 x.2.1⟩
theorem impl_short_eq : fnF E20 L20_1 [.v (.int .i64), .v (.sl (.pair (.int .i64) (.pair (.sl (.int .i64)) (.pair (.sl (.int .i64)) (.sl (.pair (.int .i64) (.pair .str (.pair (.int .i64) (.int .i64)))))))))] false [.sl .str, .bool] f20.ntmps f20.results.toList (codeOf f20) = fun x => impl_short x.1 x.2.1 := by kernel_rfl
theorem A20_ok : FnOk prog 20 A20 := fo impl_short_eq func20 E20_ok (allCons (loop20_3 rfl) allNil)
/-! impl.WordValid -/
noncomputable def E26 : Env := ⟨ty0, fun _ => none, fun _ => none, fun _ => none, fun _ => none⟩
theorem E26_ok : FnsOk prog E26 := (noFns _ _)
noncomputable def L26_0 : Nat → Option LoopD := fun _ => none
def sh26_2 : List Fm := .cell (.val .str) :: D 4 (.cell (.val (.int .i64)) :: .cell (.val (.int .i64)) :: D 16 [])
def xs26_2 : List (Ex × List Fm) := [(.ret, (d :: d :: .cell (.val .bool) :: D 20 [])), (.exit 0, (.cell (.val .str) :: D 22 []))]
noncomputable def impl_WordValid_l2 : (ByteArray × Int × Int × Unit) → Option ((ByteArray × Int × Int × Unit) ⊕ ((Bool × Unit) ⊕ (ByteArray × Unit))) := fun (v0, v5, v6, _) =>
 bif (decide (v6 < v5)) then
  if (((0 : Int) ≤ v6) ∧ (v6 < (((ByteArray.size v0) : Nat) : Int))) then
   bif ((((UInt8.toNat (Array.getD (ByteArray.data v0) (Int.toNat v6) (0 : UInt8))) : Nat) : Int) != (97 : Int)) then
    if (((0 : Int) ≤ v6) ∧ (v6 < (((ByteArray.size v0) : Nat) : Int))) then
     bif ((((UInt8.toNat (Array.getD (ByteArray.data v0) (Int.toNat v6) (0 : UInt8))) : Nat) : Int) != (98 : Int)) then
      some (Sum.inr (Sum.inl (false, ())))
     else
      some (Sum.inl (v0, v5, (IntKind.wrap .i64 (v6 + (1 : Int))), ()))
    else
     none
   else
    some (Sum.inl (v0, v5, (IntKind.wrap .i64 (v6 + (1 : Int))), ()))
  else
   none
 else
  some (Sum.inr (Sum.inr (v0, ())))
theorem impl_WordValid_l2_eq : loopStep 23 E26 L26_0 (loopOf f26 2) sh26_2 xs26_2 = impl_WordValid_l2 := by kernel_rfl
theorem loop26_2 {L} (h : L 2 = some ⟨23, sh26_2, xs26_2, impl_WordValid_l2⟩) : LoopOk prog L (loopOf f26 2) := lo impl_WordValid_l2_eq E26_ok allNil h
noncomputable def L26_1 : Nat → Option LoopD := fun n => ifEq n 2 (some ⟨23, sh26_2, xs26_2, impl_WordValid_l2⟩) (L26_0 n)
noncomputable def impl_WordValid : ByteArray → Option (Bool) := fun a0 =>
 Option.bind (loopF impl_WordValid_l2 (a0, (((ByteArray.size a0) : Nat) : Int), (0 : Int), ())) fun r0 =>
  (match r0 with
  | .inl (d1, _) =>
    some d1
  | .inr (d2, _) =>
    some (decide ((((ByteArray.size d2) : Nat) : Int) ≤ (1000 : Int))))
noncomputable def A26 : FnA := ⟨[.v .str], true, [.bool], fun x => impl_WordValid x.1⟩
theorem impl_WordValid_eq : fnF E26 L26_1 [.v .str] true [.bool] f26.ntmps f26.results.toList (codeOf f26) = fun x => impl_WordValid x.1 := by kernel_rfl
theorem A26_ok : FnOk prog 26 A26 := fo impl_WordValid_eq func26 E26_ok (allCons (loop26_2 rfl) allNil)
/-! math/bits.Mul64 -/
noncomputable def E74 : Env := ⟨ty0, fun _ => none, fun _ => none, fun _ => none, fun _ => none⟩
theorem E74_ok : FnsOk prog E74 := (noFns _ _)
noncomputable def L74_0 : Nat → Option LoopD := fun _ => none
noncomputable def bits_Mul64 : Int → Int → Option (Int × Int) := fun a0 a1 =>
 if ((32 : Int) < (0 : Int)) then
  none
 else
  if ((32 : Int) < (0 : Int)) then
   none
  else
   if ((32 : Int) < (0 : Int)) then
    none
   else
    if ((32 : Int) < (0 : Int)) then
     none
    else
     if ((32 : Int) < (0 : Int)) then
      none
     else
      some ((IntKind.wrap .u64 ((IntKind.wrap .u64 ((IntKind.wrap .u64 ((Int.fdiv a0 ((2 : Int) ^ (Min.min (Int.toNat (32 : Int)) (IntKind.bits .u64)))) * (Int.fdiv a1 ((2 : Int) ^ (Min.min (Int.toNat (32 : Int)) (IntKind.bits .u64)))))) + (Int.fdiv (IntKind.wrap .u64 ((IntKind.wrap .u64 ((Int.fdiv a0 ((2 : Int) ^ (Min.min (Int.toNat (32 : Int)) (IntKind.bits .u64)))) * ((((BitVec.toNat ((BitVec.ofInt (IntKind.bits .u64) a1) &&& (BitVec.ofInt (IntKind.bits .u64) (4294967295 : Int)))) % (Int.natAbs ((2 : Int) ^ (IntKind.bits .u64)))) : Nat) : Int))) + (Int.fdiv (IntKind.wrap .u64 (((((BitVec.toNat ((BitVec.ofInt (IntKind.bits .u64) a0) &&& (BitVec.ofInt (IntKind.bits .u64) (4294967295 : Int)))) % (Int.natAbs ((2 : Int) ^ (IntKind.bits .u64)))) : Nat) : Int) * ((((BitVec.toNat ((BitVec.ofInt (IntKind.bits .u64) a1) &&& (BitVec.ofInt (IntKind.bits .u64) (4294967295 : Int)))) % (Int.natAbs ((2 : Int) ^ (IntKind.bits .u64)))) : Nat) : Int))) ((2 : Int) ^ (Min.min (Int.toNat (32 : Int)) (IntKind.bits .u64)))))) ((2 : Int) ^ (Min.min (Int.toNat (32 : Int)) (IntKind.bits .u64)))))) + (Int.fdiv (IntKind.wrap .u64 (((((BitVec.toNat ((BitVec.ofInt (IntKind.bits .u64) (IntKind.wrap .u64 ((IntKind.wrap .u64 ((Int.fdiv a0 ((2 : Int) ^ (Min.min (Int.toNat (32 : Int)) (IntKind.bits .u64)))) * ((((BitVec.toNat ((BitVec.ofInt (IntKind.bits .u64) a1) &&& (BitVec.ofInt (IntKind.bits .u64) (4294967295 : Int)))) % (Int.natAbs ((2 : Int) ^ (IntKind.bits .u64)))) : Nat) : Int))) + (Int.fdiv (IntKind.wrap .u64 (((((BitVec.toNat ((BitVec.ofInt (IntKind.bits .u64) a0) &&& (BitVec.ofInt (IntKind.bits .u64) (4294967295 : Int)))) % (Int.natAbs ((2 : Int) ^ (IntKind.bits .u64)))) : Nat) : Int) * ((((BitVec.toNat ((BitVec.ofInt (IntKind.bits .u64) a1) &&& (BitVec.ofInt (IntKind.bits .u64) (4294967295 : Int)))) % (Int.natAbs ((2 : Int) ^ (IntKind.bits .u64)))) : Nat) : Int))) ((2 : Int) ^ (Min.min (Int.toNat (32 : Int)) (IntKind.bits .u64))))))) &&& (BitVec.ofInt (IntKind.bits .u64) (4294967295 : Int)))) % (Int.natAbs ((2 : Int) ^ (IntKind.bits .u64)))) : Nat) : Int) + (IntKind.wrap .u64 (((((BitVec.toNat ((BitVec.ofInt (IntKind.bits .u64) a0) &&& (BitVec.ofInt (IntKind.bits .u64) (4294967295 : Int)))) % (Int.natAbs ((2 : Int) ^ (IntKind.bits .u64)))) : Nat) : Int) * (Int.fdiv a1 ((2 : Int) ^ (Min.min (Int.toNat (32 : Int)) (IntKind.bits .u64)))))))) ((2 : Int) ^ (Min.min (Int.toNat (32 : Int)) (IntKind.bits .u64)))))), (IntKind.wrap .u64 (a0 * a1)))
noncomputable def A74 : FnA := ⟨[.v (.int .u64), .v (.int .u64)], true, [.int .u64, .int .u64], fun x => bits_Mul64 x.1 x.2.1⟩
theorem bits_Mul64_eq : fnF E74 L74_0 [.v (.int .u64), .v (.int .u64)] true [.int .u64, .int .u64] f74.ntmps f74.results.toList (codeOf f74) = fun x => bits_Mul64 x.1 x.2.1 := by kernel_rfl
theorem A74_ok : FnOk prog 74 A74 := fo bits_Mul64_eq func74 E74_ok allNil
/-! math/bits.Mul -/
noncomputable def E62 : Env := ⟨ty0, fun g => ifEq g 74 (some A74) (none), fun _ => none, fun _ => none, fun _ => none⟩
theorem E62_ok : FnsOk prog E62 := (oF A74_ok func74 (noFns _ _))
noncomputable def L62_0 : Nat → Option LoopD := fun _ => none
noncomputable def bits_Mul : Int → Int → Option (Int × Int) := fun a0 a1 =>
 Option.bind (bits_Mul64 a0 a1) fun (r0, r1) =>
  some (r0, r1)
noncomputable def A62 : FnA := ⟨[.v (.int .u64), .v (.int .u64)], true, [.int .u64, .int .u64], fun x => bits_Mul x.1 x.2.1⟩
theorem bits_Mul_eq : fnF E62 L62_0 [.v (.int .u64), .v (.int .u64)] true [.int .u64, .int .u64] f62.ntmps f62.results.toList (codeOf f62) = fun x => bits_Mul x.1 x.2.1 := by kernel_rfl
theorem A62_ok : FnOk prog 62 A62 := fo bits_Mul_eq func62 E62_ok allNil
end Go.Proofs.Ytcmcjhdccnbmoaa
