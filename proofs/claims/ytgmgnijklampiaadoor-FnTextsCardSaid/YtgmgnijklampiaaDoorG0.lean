/- What Go functions that the laws reach compute, and that they do: written by a program of this session. -/
import Derived.Test.YtgmgnijklampiaaDoorCmp
import Derived.Test.YtgmgnijklampiaaDoorRep
import Derived.KernelRfl
set_option linter.unusedVariables false
namespace Go.Proofs.YtgmgnijklampiaaDoor
open Go Go.Proofs.YtgmgnijklampiaaDoor.Am Go.Proofs.Tryd
set_option maxRecDepth 100000
def tyl : List (Nat × TyD) := [(3, {kd := .int .i64}),
 (4, {kd := .bool}),
 (5, {kd := .int .u8}),
 (9, {kd := .str}),
 (22, {kd := .sl (.int .i64), elt := .int .i64, bytes := 8}),
 (27, {kd := .sl (.int .u8), elt := .int .u8, bytes := 1}),
 (29, {kd := .pair (.int .i64) (.sl (.int .i64)), flds := [(0, .int .i64), (1, .sl (.int .i64))]}),
 (31, {kd := .pair (.pair (.int .i64) (.sl (.int .i64))) .str, flds := [(0, .pair (.int .i64) (.sl (.int .i64))), (2, .str)]}),
 (46, {kd := .sl .str, elt := .str, bytes := 16}),
 (49, {kd := .pair (.sl (.int .u8)) (.int .i64), flds := [(0, .sl (.int .u8)), (1, .int .i64)]})]
def ty0 : Nat → Option TyD := assoc tyl
theorem tyl_ok : tysOkB prog tyl = true := by kernel_rfl
theorem mixed : prog.follows .mixedOrders = true := by kernel_rfl
def D : Nat → List Fm → List Fm
 | 0, l => l
 | n + 1, l => .cell .drop :: D n l
theorem oF {g : Nat} {f : FnA} {fn : Func} {ty : Nat → Option TyD} {rest : Nat → Option FnA} {ms : Nat → Option FnM} {bs : Nat → Option FnB} {il : Nat → Option (Nat × CallD)} (h : FnOk prog g f) (hf : prog.funcs[g]? = some fn) (hr : FnsOk prog ⟨ty, rest, ms, bs, il⟩)
  (h1 : (fn.name == "runtime.NumGoroutine") = false := by kernel_rfl) (h2 : fn.body.isSome = true := by kernel_rfl) : FnsOk prog ⟨ty, fun n => ifEq n g (some f) (rest n), ms, bs, il⟩ := oneFn h hf h1 h2 hr
theorem tyk {E : Env} (h : E.ty = ty0) : TysOk prog E := by
 obtain ⟨ty, fn, ms, bs, il⟩ := E
 obtain rfl : ty = ty0 := h
 exact tysOk_of tyl_ok
theorem fo {E : Env} {L : Nat → Option LoopD} {g : Nat} {fn : Func} {ps : List Prm} {own : Bool} {outs : List Kd} {F : PrmsT ps → Option (OutsT outs)} {bs : List Code} (he : fnF E L ps own outs fn.ntmps fn.results.toList (codeOf fn) = F) (hf : prog.funcs[g]? = some fn) (hF : FnsOk prog E)
  (hs : ∀ b ∈ bs, LoopOk prog L b) (hb : fn.body = some (codeOf fn) := by kernel_rfl) (hl : loopsOf (codeOf fn) = bs := by kernel_rfl) (hd : drawsB E (drawsOf (codeOf fn)) = true := by kernel_rfl) (hE : E.ty = ty0 := by rfl) : FnOk prog g ⟨ps, own, outs, F⟩ := by
 have h := fnOk_of_run (P := prog) (tyk hE) hF (L := L) (ps := ps) (own := own) (outs := outs) hf hb (codeOk_in (tyk hE) hF mixed hl hs hd)
 rw [he] at h
 exact h
theorem lo {E : Env} {L L' : Nat → Option LoopD} {n i : Nat} {b : Code} {bs : List Code} {sh : List Fm} {xs : List (Ex × List Fm)} {f : FmsT sh → Option (FmsT sh ⊕ XsT xs)} (he : loopStep n E L' b sh xs = f) (hF : FnsOk prog E)
  (hs : ∀ b ∈ bs, LoopOk prog L' b) (h : L i = some ⟨n, sh, xs, f⟩) (hl : loopsOf b = bs := by kernel_rfl) (hd : drawsB E (drawsOf b) = true := by kernel_rfl) (h1 : nodupN (toksF sh) = true := by kernel_rfl) (h2 : okXs xs = true := by kernel_rfl) (hi : firstId b = i := by kernel_rfl) (hE : E.ty = ty0 := by rfl) : LoopOk prog L b :=
 loopOk (tyk hE) hF (codeOk_in (tyk hE) hF mixed hl hs hd) h1 h2 he (by rw [hi]; exact h)
abbrev d : Fm := .cell .drop
/-! spec.l13Open -/
noncomputable def E19 : Env := ⟨ty0, fun _ => none, fun _ => none, fun _ => none, fun _ => none⟩
theorem E19_ok : FnsOk prog E19 := (noFns _ _)
noncomputable def L19_0 : Nat → Option LoopD := fun _ => none
noncomputable def spec_l13Open : (List Int) → Option (((List Int) × Int)) := fun a0 =>
 bif (decide ((((List.length a0) : Nat) : Int) > (2000 : Int))) then
  if (((0 : Int) ≤ (2000 : Int)) ∧ ((2000 : Int) ≤ (((List.length a0) : Nat) : Int))) then
   some ((List.take ((Int.toNat (2000 : Int)) - 0) (List.drop 0 a0)), (0 : Int))
  else
   none
 else
  some (a0, (0 : Int))
noncomputable def A19 : FnB := ⟨[.v (.sl (.int .u8))], .pair (.sl (.int .u8)) (.int .i64), fun x => spec_l13Open x.1⟩
theorem spec_l13Open_eq : fnBF E19 L19_0 [.v (.sl (.int .u8))] (.pair (.sl (.int .u8)) (.int .i64)) f19.ntmps f19.results.toList (codeOf f19) = fun x => spec_l13Open x.1 := by kernel_rfl
theorem A19_ok : FnBOk prog 19 A19 := by
 have h := fnBOk_of_run (P := prog) (E := E19) (tysOk_of tyl_ok) E19_ok (L := L19_0) (ps := [.v (.sl (.int .u8))]) (k := .pair (.sl (.int .u8)) (.int .i64)) func19 (c := codeOf f19) (by kernel_rfl) (codeOk_in (L := L19_0) (tysOk_of tyl_ok) E19_ok mixed (c := codeOf f19) (bs := []) (by kernel_rfl) allNil (by kernel_rfl))
 rw [spec_l13Open_eq] at h
 exact h
/-! (*spec.l13Rd).pick -/
noncomputable def E22 : Env := ⟨ty0, fun _ => none, fun _ => none, fun _ => none, fun _ => none⟩
theorem E22_ok : FnsOk prog E22 := (noFns _ _)
noncomputable def L22_0 : Nat → Option LoopD := fun _ => none
noncomputable def spec_l13Rd_pick : ((List Int) × Int) → Int → Option ((Int) × (((List Int) × Int) × Unit)) := fun (a0_0, a0_1) a1 =>
 bif (decide (a1 < (1 : Int))) then
  some ((0 : Int), (a0_0, (IntKind.wrap .i64 (a0_1 + (1 : Int)))), ())
 else
  bif ((((List.length a0_0) : Nat) : Int) == (0 : Int)) then
   some ((0 : Int), (a0_0, (IntKind.wrap .i64 (a0_1 + (1 : Int)))), ())
  else
   bif (decide ((IntKind.wrap .i64 ((IntKind.wrap .i64 (a0_1 + (1 : Int))) - (1 : Int))) < (((List.length a0_0) : Nat) : Int))) then
    if (((0 : Int) ≤ (IntKind.wrap .i64 ((IntKind.wrap .i64 (a0_1 + (1 : Int))) - (1 : Int)))) ∧ ((IntKind.wrap .i64 ((IntKind.wrap .i64 (a0_1 + (1 : Int))) - (1 : Int))) < (((List.length a0_0) : Nat) : Int))) then
     if (a1 = (0 : Int)) then
      none
     else
      some ((Int.tmod (IntKind.wrap .i64 (List.getD a0_0 (Int.toNat (IntKind.wrap .i64 ((IntKind.wrap .i64 (a0_1 + (1 : Int))) - (1 : Int)))) (0 : Int))) a1), (a0_0, (IntKind.wrap .i64 (a0_1 + (1 : Int)))), ())
    else
     none
   else
    if ((((List.length a0_0) : Nat) : Int) = (0 : Int)) then
     none
    else
     if (((0 : Int) ≤ (Int.tmod (IntKind.wrap .i64 ((IntKind.wrap .i64 (a0_1 + (1 : Int))) - (1 : Int))) (((List.length a0_0) : Nat) : Int))) ∧ ((Int.tmod (IntKind.wrap .i64 ((IntKind.wrap .i64 (a0_1 + (1 : Int))) - (1 : Int))) (((List.length a0_0) : Nat) : Int)) < (((List.length a0_0) : Nat) : Int))) then
      if ((((List.length a0_0) : Nat) : Int) = (0 : Int)) then
       none
      else
       if (((0 : Int) ≤ (Int.tmod (IntKind.wrap .i64 ((IntKind.wrap .i64 ((IntKind.wrap .i64 ((IntKind.wrap .i64 (a0_1 + (1 : Int))) - (1 : Int))) * (7 : Int))) + (3 : Int))) (((List.length a0_0) : Nat) : Int))) ∧ ((Int.tmod (IntKind.wrap .i64 ((IntKind.wrap .i64 ((IntKind.wrap .i64 ((IntKind.wrap .i64 (a0_1 + (1 : Int))) - (1 : Int))) * (7 : Int))) + (3 : Int))) (((List.length a0_0) : Nat) : Int)) < (((List.length a0_0) : Nat) : Int))) then
        if ((((List.length a0_0) : Nat) : Int) = (0 : Int)) then
         none
        else
         if ((64 : Int) = (0 : Int)) then
          none
         else
          if (a1 = (0 : Int)) then
           none
          else
           some ((Int.tmod (Decidable.rec (fun y0 => ((((BitVec.toNat ((BitVec.ofInt (IntKind.bits .i64) (IntKind.wrap .i64 ((IntKind.wrap .i64 ((IntKind.wrap .i64 ((IntKind.wrap .i64 ((IntKind.wrap .i64 (List.getD a0_0 (Int.toNat (Int.tmod (IntKind.wrap .i64 ((IntKind.wrap .i64 (a0_1 + (1 : Int))) - (1 : Int))) (((List.length a0_0) : Nat) : Int))) (0 : Int))) * (131 : Int))) + (IntKind.wrap .i64 ((IntKind.wrap .i64 (List.getD a0_0 (Int.toNat (Int.tmod (IntKind.wrap .i64 ((IntKind.wrap .i64 ((IntKind.wrap .i64 ((IntKind.wrap .i64 (a0_1 + (1 : Int))) - (1 : Int))) * (7 : Int))) + (3 : Int))) (((List.length a0_0) : Nat) : Int))) (0 : Int))) * (1117 : Int))))) + (IntKind.wrap .i64 ((IntKind.wrap .i64 ((IntKind.wrap .i64 (a0_1 + (1 : Int))) - (1 : Int))) * (29 : Int))))) + (IntKind.wrap .i64 ((IntKind.wrap .i64 (Int.tdiv (IntKind.wrap .i64 ((IntKind.wrap .i64 (a0_1 + (1 : Int))) - (1 : Int))) (((List.length a0_0) : Nat) : Int))) * (53 : Int)))))) ^^^ (BitVec.ofInt (IntKind.bits .i64) (IntKind.wrap .i64 (Int.tdiv (IntKind.wrap .i64 ((IntKind.wrap .i64 ((IntKind.wrap .i64 ((IntKind.wrap .i64 ((IntKind.wrap .i64 (List.getD a0_0 (Int.toNat (Int.tmod (IntKind.wrap .i64 ((IntKind.wrap .i64 (a0_1 + (1 : Int))) - (1 : Int))) (((List.length a0_0) : Nat) : Int))) (0 : Int))) * (131 : Int))) + (IntKind.wrap .i64 ((IntKind.wrap .i64 (List.getD a0_0 (Int.toNat (Int.tmod (IntKind.wrap .i64 ((IntKind.wrap .i64 ((IntKind.wrap .i64 ((IntKind.wrap .i64 (a0_1 + (1 : Int))) - (1 : Int))) * (7 : Int))) + (3 : Int))) (((List.length a0_0) : Nat) : Int))) (0 : Int))) * (1117 : Int))))) + (IntKind.wrap .i64 ((IntKind.wrap .i64 ((IntKind.wrap .i64 (a0_1 + (1 : Int))) - (1 : Int))) * (29 : Int))))) + (IntKind.wrap .i64 ((IntKind.wrap .i64 (Int.tdiv (IntKind.wrap .i64 ((IntKind.wrap .i64 (a0_1 + (1 : Int))) - (1 : Int))) (((List.length a0_0) : Nat) : Int))) * (53 : Int))))) (64 : Int)))))) : Nat) : Int) % ((2 : Int) ^ (IntKind.bits .i64)))) (fun y1 => (((((BitVec.toNat ((BitVec.ofInt (IntKind.bits .i64) (IntKind.wrap .i64 ((IntKind.wrap .i64 ((IntKind.wrap .i64 ((IntKind.wrap .i64 ((IntKind.wrap .i64 (List.getD a0_0 (Int.toNat (Int.tmod (IntKind.wrap .i64 ((IntKind.wrap .i64 (a0_1 + (1 : Int))) - (1 : Int))) (((List.length a0_0) : Nat) : Int))) (0 : Int))) * (131 : Int))) + (IntKind.wrap .i64 ((IntKind.wrap .i64 (List.getD a0_0 (Int.toNat (Int.tmod (IntKind.wrap .i64 ((IntKind.wrap .i64 ((IntKind.wrap .i64 ((IntKind.wrap .i64 (a0_1 + (1 : Int))) - (1 : Int))) * (7 : Int))) + (3 : Int))) (((List.length a0_0) : Nat) : Int))) (0 : Int))) * (1117 : Int))))) + (IntKind.wrap .i64 ((IntKind.wrap .i64 ((IntKind.wrap .i64 (a0_1 + (1 : Int))) - (1 : Int))) * (29 : Int))))) + (IntKind.wrap .i64 ((IntKind.wrap .i64 (Int.tdiv (IntKind.wrap .i64 ((IntKind.wrap .i64 (a0_1 + (1 : Int))) - (1 : Int))) (((List.length a0_0) : Nat) : Int))) * (53 : Int)))))) ^^^ (BitVec.ofInt (IntKind.bits .i64) (IntKind.wrap .i64 (Int.tdiv (IntKind.wrap .i64 ((IntKind.wrap .i64 ((IntKind.wrap .i64 ((IntKind.wrap .i64 ((IntKind.wrap .i64 (List.getD a0_0 (Int.toNat (Int.tmod (IntKind.wrap .i64 ((IntKind.wrap .i64 (a0_1 + (1 : Int))) - (1 : Int))) (((List.length a0_0) : Nat) : Int))) (0 : Int))) * (131 : Int))) + (IntKind.wrap .i64 ((IntKind.wrap .i64 (List.getD a0_0 (Int.toNat (Int.tmod (IntKind.wrap .i64 ((IntKind.wrap .i64 ((IntKind.wrap .i64 ((IntKind.wrap .i64 (a0_1 + (1 : Int))) - (1 : Int))) * (7 : Int))) + (3 : Int))) (((List.length a0_0) : Nat) : Int))) (0 : Int))) * (1117 : Int))))) + (IntKind.wrap .i64 ((IntKind.wrap .i64 ((IntKind.wrap .i64 (a0_1 + (1 : Int))) - (1 : Int))) * (29 : Int))))) + (IntKind.wrap .i64 ((IntKind.wrap .i64 (Int.tdiv (IntKind.wrap .i64 ((IntKind.wrap .i64 (a0_1 + (1 : Int))) - (1 : Int))) (((List.length a0_0) : Nat) : Int))) * (53 : Int))))) (64 : Int)))))) : Nat) : Int) % ((2 : Int) ^ (IntKind.bits .i64))) - ((2 : Int) ^ (IntKind.bits .i64)))) (instDecidableEqBool ((IntKind.signed .i64) && (decide (((((BitVec.toNat ((BitVec.ofInt (IntKind.bits .i64) (IntKind.wrap .i64 ((IntKind.wrap .i64 ((IntKind.wrap .i64 ((IntKind.wrap .i64 ((IntKind.wrap .i64 (List.getD a0_0 (Int.toNat (Int.tmod (IntKind.wrap .i64 ((IntKind.wrap .i64 (a0_1 + (1 : Int))) - (1 : Int))) (((List.length a0_0) : Nat) : Int))) (0 : Int))) * (131 : Int))) + (IntKind.wrap .i64 ((IntKind.wrap .i64 (List.getD a0_0 (Int.toNat (Int.tmod (IntKind.wrap .i64 ((IntKind.wrap .i64 ((IntKind.wrap .i64 ((IntKind.wrap .i64 (a0_1 + (1 : Int))) - (1 : Int))) * (7 : Int))) + (3 : Int))) (((List.length a0_0) : Nat) : Int))) (0 : Int))) * (1117 : Int))))) + (IntKind.wrap .i64 ((IntKind.wrap .i64 ((IntKind.wrap .i64 (a0_1 + (1 : Int))) - (1 : Int))) * (29 : Int))))) + (IntKind.wrap .i64 ((IntKind.wrap .i64 (Int.tdiv (IntKind.wrap .i64 ((IntKind.wrap .i64 (a0_1 + (1 : Int))) - (1 : Int))) (((List.length a0_0) : Nat) : Int))) * (53 : Int)))))) ^^^ (BitVec.ofInt (IntKind.bits .i64) (IntKind.wrap .i64 (Int.tdiv (IntKind.wrap .i64 ((IntKind.wrap .i64 ((IntKind.wrap .i64 ((IntKind.wrap .i64 ((IntKind.wrap .i64 (List.getD a0_0 (Int.toNat (Int.tmod (IntKind.wrap .i64 ((IntKind.wrap .i64 (a0_1 + (1 : Int))) - (1 : Int))) (((List.length a0_0) : Nat) : Int))) (0 : Int))) * (131 : Int))) + (IntKind.wrap .i64 ((IntKind.wrap .i64 (List.getD a0_0 (Int.toNat (Int.tmod (IntKind.wrap .i64 ((IntKind.wrap .i64 ((IntKind.wrap .i64 ((IntKind.wrap .i64 (a0_1 + (1 : Int))) - (1 : Int))) * (7 : Int))) + (3 : Int))) (((List.length a0_0) : Nat) : Int))) (0 : Int))) * (1117 : Int))))) + (IntKind.wrap .i64 ((IntKind.wrap .i64 ((IntKind.wrap .i64 (a0_1 + (1 : Int))) - (1 : Int))) * (29 : Int))))) + (IntKind.wrap .i64 ((IntKind.wrap .i64 (Int.tdiv (IntKind.wrap .i64 ((IntKind.wrap .i64 (a0_1 + (1 : Int))) - (1 : Int))) (((List.length a0_0) : Nat) : Int))) * (53 : Int))))) (64 : Int)))))) : Nat) : Int) % ((2 : Int) ^ (IntKind.bits .i64))) ≥ ((2 : Int) ^ ((IntKind.bits .i64) - 1))))) true)) a1), (a0_0, (IntKind.wrap .i64 (a0_1 + (1 : Int)))), ())
       else
        none
     else
      none
noncomputable def A22 : FnM := ⟨[.bx (.pair (.sl (.int .u8)) (.int .i64)), .v (.int .i64)], true, [.int .i64], none, fun x => spec_l13Rd_pick x.1 x.2.1⟩
theorem spec_l13Rd_pick_eq : fnMF E22 L22_0 [.bx (.pair (.sl (.int .u8)) (.int .i64)), .v (.int .i64)] true [.int .i64] f22.ntmps f22.results.toList (codeOf f22) = fun x => spec_l13Rd_pick x.1 x.2.1 := by kernel_rfl
theorem A22_ok : FnMOk prog 22 A22 := by
 have h := fnMOk_of_run (P := prog) (E := E22) (tysOk_of tyl_ok) E22_ok (L := L22_0) (ps := [.bx (.pair (.sl (.int .u8)) (.int .i64)), .v (.int .i64)]) (own := true) (outs := [.int .i64]) func22 (c := codeOf f22) (by kernel_rfl) (codeOk_in (L := L22_0) (tysOk_of tyl_ok) E22_ok mixed (c := codeOf f22) (bs := []) (by kernel_rfl) allNil (by kernel_rfl)) (by kernel_rfl)
 rw [spec_l13Rd_pick_eq] at h
 exact h
/-! (*spec.l13Rd).num -/
noncomputable def E23 : Env := ⟨ty0, fun _ => none, fun g => ifEq g 22 (some A22) (none), fun _ => none, fun _ => none⟩
theorem E23_ok : FnsOk prog E23 := (oneMs A22_ok (by kernel_rfl) func22 (by kernel_rfl) (by kernel_rfl) (noFns _ _))
noncomputable def L23_0 : Nat → Option LoopD := fun _ => none
noncomputable def spec_l13Rd_num : ((List Int) × Int) → (List Int) → Option ((Int) × (((List Int) × Int) × Unit)) := fun (a0_0, a0_1) a1 =>
 Option.bind (spec_l13Rd_pick (a0_0, a0_1) (((List.length a1) : Nat) : Int)) fun (r0, (r1, r2), _) =>
  if (((0 : Int) ≤ r0) ∧ (r0 < (((List.length a1) : Nat) : Int))) then
   some ((List.getD a1 (Int.toNat r0) (0 : Int)), (r1, r2), ())
  else
   none
noncomputable def A23 : FnM := ⟨[.bx (.pair (.sl (.int .u8)) (.int .i64)), .v (.sl (.int .i64))], true, [.int .i64], none, fun x => spec_l13Rd_num x.1 x.2.1⟩
theorem spec_l13Rd_num_eq : fnMF E23 L23_0 [.bx (.pair (.sl (.int .u8)) (.int .i64)), .v (.sl (.int .i64))] true [.int .i64] f23.ntmps f23.results.toList (codeOf f23) = fun x => spec_l13Rd_num x.1 x.2.1 := by kernel_rfl
theorem A23_ok : FnMOk prog 23 A23 := by
 have h := fnMOk_of_run (P := prog) (E := E23) (tysOk_of tyl_ok) E23_ok (L := L23_0) (ps := [.bx (.pair (.sl (.int .u8)) (.int .i64)), .v (.sl (.int .i64))]) (own := true) (outs := [.int .i64]) func23 (c := codeOf f23) (by kernel_rfl) (codeOk_in (L := L23_0) (tysOk_of tyl_ok) E23_ok mixed (c := codeOf f23) (bs := []) (by kernel_rfl) allNil (by kernel_rfl)) (by kernel_rfl)
 rw [spec_l13Rd_num_eq] at h
 exact h
/-! spec.l6Draw -/
noncomputable def E31 : Env := ⟨ty0, fun _ => none, fun g => ifEq g 23 (some A23) (none), fun _ => none, fun _ => none⟩
theorem E31_ok : FnsOk prog E31 := (oneMs A23_ok (by kernel_rfl) func23 (by kernel_rfl) (by kernel_rfl) (noFns _ _))
noncomputable def L31_0 : Nat → Option LoopD := fun _ => none
def sh31_3 : List Fm := .box 200000 [.val (.sl (.int .u8)), .val (.int .i64)] :: d :: d :: d :: .box 100400 [.val (.int .i64), .own (.int .i64) 100402 false] :: .box 100500 [.val (.int .i64), .own (.int .i64) 100502 false] :: D 4 (.cell (.val (.int .i64)) :: .cell (.val (.int .i64)) :: D 11 [])
def xs31_3 : List (Ex × List Fm) := [(.exit 0, [.box 200000 [.val (.sl (.int .u8)), .val (.int .i64)], d, d, d, .box 100400 [.val (.int .i64), .own (.int .i64) 100402 false], .box 100500 [.val (.int .i64), .own (.int .i64) 100502 false], d, d, d, d, d, d, d, d, d, d, d, d, d, d, d, d, d])]
noncomputable def spec_l6Draw_l3 : (((List Int) × Int × Unit) × (Int × (List Int) × Unit) × (Int × (List Int) × Unit) × Int × Int × Unit) → Option ((((List Int) × Int × Unit) × (Int × (List Int) × Unit) × (Int × (List Int) × Unit) × Int × Int × Unit) ⊕ ((((List Int) × Int × Unit) × (Int × (List Int) × Unit) × (Int × (List Int) × Unit) × Unit))) := fun ((v0_0, v0_1, _), (v4_0, v4_1, _), (v5_0, v5_1, _), v10, v11, _) =>
 bif (decide (v11 < v10)) then
  Option.bind (spec_l13Rd_num (v0_0, v0_1) (List.take 7 (List.drop 0 [(3 : Int), (0 : Int), (1 : Int), (3 : Int), (2 : Int), (1 : Int), (0 : Int)]))) fun (r0, (r1, r2), _) =>
   if (((0 + (List.length v5_1)) = (List.length v5_1)) ∧ ((((List.length v5_1) + (List.length (List.take 1 (List.drop 0 [r0])))) * 8) ≤ 140737488355328)) then
    some (Sum.inl ((r1, r2, ()), (v4_0, (List.take (List.length v4_1) (List.drop 0 v4_1)), ()), (v5_0, (List.take ((List.length v5_1) + (List.length (List.take 1 (List.drop 0 [r0])))) (List.drop 0 ((List.drop 0 v5_1) ++ (List.take 1 (List.drop 0 [r0]))))), ()), v10, (IntKind.wrap .i64 (v11 + (1 : Int))), ()))
   else
    none
 else
  some (Sum.inr ((v0_0, v0_1, ()), (v4_0, (List.take (List.length v4_1) (List.drop 0 v4_1)), ()), (v5_0, (List.take (List.length v5_1) (List.drop 0 v5_1)), ()), ()))
theorem spec_l6Draw_l3_eq : loopStep 23 E31 L31_0 (loopOf f31 3) sh31_3 xs31_3 = spec_l6Draw_l3 := by kernel_rfl
theorem loop31_3 {L} (h : L 3 = some ⟨23, sh31_3, xs31_3, spec_l6Draw_l3⟩) : LoopOk prog L (loopOf f31 3) := lo spec_l6Draw_l3_eq E31_ok allNil h
noncomputable def L31_1 : Nat → Option LoopD := fun n => ifEq n 3 (some ⟨23, sh31_3, xs31_3, spec_l6Draw_l3⟩) (L31_0 n)
noncomputable def spec_l6Draw : ((List Int) × Int) → Int → Option (((Int × (List Int))) × (((List Int) × Int) × Unit)) := fun (a0_0, a0_1) a1 =>
 Option.bind (loopF spec_l6Draw_l3 ((a0_0, a0_1, ()), ((0 : Int), [], ()), (a1, [], ()), (IntKind.wrap .i64 (a1 * a1)), (0 : Int), ())) fun ((r0, r1, _), (r2, r3, _), (r4, r5, _), _) =>
  some ((r4, (List.take (List.length r5) (List.drop 0 r5))), (r0, r1), ())
noncomputable def A31 : FnM := ⟨[.bx (.pair (.sl (.int .u8)) (.int .i64)), .v (.int .i64)], true, [.pair (.int .i64) (.sl (.int .i64))], none, fun x => spec_l6Draw x.1 x.2.1⟩
theorem spec_l6Draw_eq : fnMF E31 L31_1 [.bx (.pair (.sl (.int .u8)) (.int .i64)), .v (.int .i64)] true [.pair (.int .i64) (.sl (.int .i64))] f31.ntmps f31.results.toList (codeOf f31) = fun x => spec_l6Draw x.1 x.2.1 := by kernel_rfl
theorem A31_ok : FnMOk prog 31 A31 := by
 have h := fnMOk_of_run (P := prog) (E := E31) (tysOk_of tyl_ok) E31_ok (L := L31_1) (ps := [.bx (.pair (.sl (.int .u8)) (.int .i64)), .v (.int .i64)]) (own := true) (outs := [.pair (.int .i64) (.sl (.int .i64))]) func31 (c := codeOf f31) (by kernel_rfl) (codeOk_in (L := L31_1) (tysOk_of tyl_ok) E31_ok mixed (c := codeOf f31) (bs := [loopOf f31 3]) (by kernel_rfl) (allCons (loop31_3 rfl) allNil) (by kernel_rfl)) (by kernel_rfl)
 rw [spec_l6Draw_eq] at h
 exact h
/-! spec.l6Bad -/
noncomputable def E30 : Env := ⟨ty0, fun _ => none, fun g => ifEq g 22 (some A22) (ifEq g 23 (some A23) (none)), fun _ => none, fun _ => none⟩
theorem E30_ok : FnsOk prog E30 := (oneMs A22_ok (by kernel_rfl) func22 (by kernel_rfl) (by kernel_rfl) (oneMs A23_ok (by kernel_rfl) func23 (by kernel_rfl) (by kernel_rfl) (noFns _ _)))
noncomputable def L30_0 : Nat → Option LoopD := fun _ => none
noncomputable def spec_l6Bad : ((List Int) × Int) → (Int × (List Int)) → Option (((Int × (List Int))) × (((List Int) × Int) × Unit)) := fun (a0_0, a0_1) (a1_0, a1_1) =>
 Option.bind (spec_l13Rd_pick (a0_0, a0_1) (24 : Int)) fun (r0, (r1, r2), _) =>
  bif (r0 == (0 : Int)) then
   Option.bind (spec_l13Rd_num (r1, r2) (List.take 3 (List.drop 0 [(4 : Int), (-1 : Int), (1000000 : Int)]))) fun (r3, (r4, r5), _) =>
    if (((0 : Int) ≤ (1 : Int)) ∧ ((1 : Int) ≤ (((List.length a1_1) : Nat) : Int))) then
     if (((0 + 1) = (List.length [r3])) ∧ (((1 + (List.length (List.take ((List.length a1_1) - (Int.toNat (1 : Int))) (List.drop (Int.toNat (1 : Int)) a1_1)))) * 8) ≤ 140737488355328)) then
      some ((a1_0, (List.take (1 + (List.length (List.take ((List.length a1_1) - (Int.toNat (1 : Int))) (List.drop (Int.toNat (1 : Int)) a1_1)))) (List.drop 0 ((List.drop 0 [r3]) ++ (List.take ((List.length a1_1) - (Int.toNat (1 : Int))) (List.drop (Int.toNat (1 : Int)) a1_1)))))), (r4, r5), ())
     else
      none
    else
     none
  else
   bif (r0 == (1 : Int)) then
    Option.bind (spec_l13Rd_num (r1, r2) (List.take 3 (List.drop 0 [(0 : Int), (5 : Int), (1 : Int)]))) fun (r6, (r7, r8), _) =>
     some ((r6, a1_1), (r7, r8), ())
   else
    some ((a1_0, a1_1), (r1, r2), ())
noncomputable def A30 : FnM := ⟨[.bx (.pair (.sl (.int .u8)) (.int .i64)), .v (.pair (.int .i64) (.sl (.int .i64)))], false, [.pair (.int .i64) (.sl (.int .i64))], none, fun x => spec_l6Bad x.1 x.2.1⟩
theorem spec_l6Bad_eq : fnMF E30 L30_0 [.bx (.pair (.sl (.int .u8)) (.int .i64)), .v (.pair (.int .i64) (.sl (.int .i64)))] false [.pair (.int .i64) (.sl (.int .i64))] f30.ntmps f30.results.toList (codeOf f30) = fun x => spec_l6Bad x.1 x.2.1 := by kernel_rfl
theorem A30_ok : FnMOk prog 30 A30 := by
 have h := fnMOk_of_run (P := prog) (E := E30) (tysOk_of tyl_ok) E30_ok (L := L30_0) (ps := [.bx (.pair (.sl (.int .u8)) (.int .i64)), .v (.pair (.int .i64) (.sl (.int .i64)))]) (own := false) (outs := [.pair (.int .i64) (.sl (.int .i64))]) func30 (c := codeOf f30) (by kernel_rfl) (codeOk_in (L := L30_0) (tysOk_of tyl_ok) E30_ok mixed (c := codeOf f30) (bs := []) (by kernel_rfl) allNil (by kernel_rfl)) (by kernel_rfl)
 rw [spec_l6Bad_eq] at h
 exact h
/-! spec.l6Some -/
noncomputable def E20 : Env := ⟨ty0, fun _ => none, fun g => ifEq g 22 (some A22) (ifEq g 31 (some A31) (ifEq g 30 (some A30) (none))), fun _ => none, fun _ => none⟩
theorem E20_ok : FnsOk prog E20 := (oneMs A22_ok (by kernel_rfl) func22 (by kernel_rfl) (by kernel_rfl) (oneMs A31_ok (by kernel_rfl) func31 (by kernel_rfl) (by kernel_rfl) (oneMs A30_ok (by kernel_rfl) func30 (by kernel_rfl) (by kernel_rfl) (noFns _ _))))
noncomputable def L20_0 : Nat → Option LoopD := fun _ => none
noncomputable def spec_l6Some : ((List Int) × Int) → Option (((Int × (List Int))) × (((List Int) × Int) × Unit)) := fun (a0_0, a0_1) =>
 Option.bind (spec_l13Rd_pick (a0_0, a0_1) (4 : Int)) fun (r0, (r1, r2), _) =>
  Option.bind (spec_l6Draw (r1, r2) (IntKind.wrap .i64 ((1 : Int) + r0))) fun ((r3, r4), (r5, r6), _) =>
   Option.bind (spec_l6Bad (r5, r6) (r3, (List.take (List.length r4) (List.drop 0 r4)))) fun ((r7, r8), (r9, r10), _) =>
    some ((r7, r8), (r9, r10), ())
noncomputable def A20 : FnM := ⟨[.bx (.pair (.sl (.int .u8)) (.int .i64))], false, [.pair (.int .i64) (.sl (.int .i64))], none, fun x => spec_l6Some x.1⟩
theorem spec_l6Some_eq : fnMF E20 L20_0 [.bx (.pair (.sl (.int .u8)) (.int .i64))] false [.pair (.int .i64) (.sl (.int .i64))] f20.ntmps f20.results.toList (codeOf f20) = fun x => spec_l6Some x.1 := by kernel_rfl
theorem A20_ok : FnMOk prog 20 A20 := by
 have h := fnMOk_of_run (P := prog) (E := E20) (tysOk_of tyl_ok) E20_ok (L := L20_0) (ps := [.bx (.pair (.sl (.int .u8)) (.int .i64))]) (own := false) (outs := [.pair (.int .i64) (.sl (.int .i64))]) func20 (c := codeOf f20) (by kernel_rfl) (codeOk_in (L := L20_0) (tysOk_of tyl_ok) E20_ok mixed (c := codeOf f20) (bs := []) (by kernel_rfl) allNil (by kernel_rfl)) (by kernel_rfl)
 rw [spec_l6Some_eq] at h
 exact h
/-! (*spec.l13Rd).of -/
noncomputable def E33 : Env := ⟨ty0, fun _ => none, fun g => ifEq g 22 (some A22) (none), fun _ => none, fun _ => none⟩
theorem E33_ok : FnsOk prog E33 := (oneMs A22_ok (by kernel_rfl) func22 (by kernel_rfl) (by kernel_rfl) (noFns _ _))
noncomputable def L33_0 : Nat → Option LoopD := fun _ => none
noncomputable def spec_l13Rd_of : ((List Int) × Int) → (List ByteArray) → Option ((ByteArray) × (((List Int) × Int) × Unit)) := fun (a0_0, a0_1) a1 =>
 Option.bind (spec_l13Rd_pick (a0_0, a0_1) (((List.length a1) : Nat) : Int)) fun (r0, (r1, r2), _) =>
  if (((0 : Int) ≤ r0) ∧ (r0 < (((List.length a1) : Nat) : Int))) then
   some ((List.getD a1 (Int.toNat r0) (⟨Array.empty⟩ : ByteArray)), (r1, r2), ())
  else
   none
noncomputable def A33 : FnM := ⟨[.bx (.pair (.sl (.int .u8)) (.int .i64)), .v (.sl .str)], true, [.str], none, fun x => spec_l13Rd_of x.1 x.2.1⟩
theorem spec_l13Rd_of_eq : fnMF E33 L33_0 [.bx (.pair (.sl (.int .u8)) (.int .i64)), .v (.sl .str)] true [.str] f33.ntmps f33.results.toList (codeOf f33) = fun x => spec_l13Rd_of x.1 x.2.1 := by kernel_rfl
theorem A33_ok : FnMOk prog 33 A33 := by
 have h := fnMOk_of_run (P := prog) (E := E33) (tysOk_of tyl_ok) E33_ok (L := L33_0) (ps := [.bx (.pair (.sl (.int .u8)) (.int .i64)), .v (.sl .str)]) (own := true) (outs := [.str]) func33 (c := codeOf f33) (by kernel_rfl) (codeOk_in (L := L33_0) (tysOk_of tyl_ok) E33_ok mixed (c := codeOf f33) (bs := []) (by kernel_rfl) allNil (by kernel_rfl)) (by kernel_rfl)
 rw [spec_l13Rd_of_eq] at h
 exact h
/-! spec.l7Draw -/
noncomputable def R32 (spec_l7Draw_rec : ((List Int) × Int) → Int → Option ((ByteArray) × (((List Int) × Int) × Unit))) : FnM := ⟨[.bx (.pair (.sl (.int .u8)) (.int .i64)), .v (.int .i64)], true, [.str], none, fun x => spec_l7Draw_rec x.1 x.2.1⟩
noncomputable def E32 (spec_l7Draw_rec : ((List Int) × Int) → Int → Option ((ByteArray) × (((List Int) × Int) × Unit))) : Env := ⟨ty0, fun _ => none, fun g => ifEq g 22 (some A22) (ifEq g 32 (some (R32 spec_l7Draw_rec)) (ifEq g 33 (some A33) (none))), fun _ => none, fun _ => none⟩
theorem E32_ok (spec_l7Draw_rec : ((List Int) × Int) → Int → Option ((ByteArray) × (((List Int) × Int) × Unit))) (hrec : FnMOk prog 32 (R32 spec_l7Draw_rec)) : FnsOk prog (E32 spec_l7Draw_rec) := (oneMs A22_ok (by kernel_rfl) func22 (by kernel_rfl) (by kernel_rfl) (oneMs hrec (by kernel_rfl) func32 (by kernel_rfl) (by kernel_rfl) (oneMs A33_ok (by kernel_rfl) func33 (by kernel_rfl) (by kernel_rfl) (noFns _ _))))
noncomputable def L32_0 (spec_l7Draw_rec : ((List Int) × Int) → Int → Option ((ByteArray) × (((List Int) × Int) × Unit))) : Nat → Option LoopD := fun _ => none
def sh32_3 : List Fm := .box 200000 [.val (.sl (.int .u8)), .val (.int .i64)] :: .cell (.val (.int .i64)) :: d :: d :: d :: .cell (.val .str) :: d :: d :: .cell (.val (.int .i64)) :: .cell (.val (.int .i64)) :: D 23 []
def xs32_3 : List (Ex × List Fm) := [(.exit 0, [.box 200000 [.val (.sl (.int .u8)), .val (.int .i64)], d, d, d, d, .cell (.val .str), d, d, d, d, d, d, d, d, d, d, d, d, d, d, d, d, d, d, d, d, d, d, d, d, d, d, d])]
noncomputable def spec_l7Draw_l3 (spec_l7Draw_rec : ((List Int) × Int) → Int → Option ((ByteArray) × (((List Int) × Int) × Unit))) : (((List Int) × Int × Unit) × Int × ByteArray × Int × Int × Unit) → Option ((((List Int) × Int × Unit) × Int × ByteArray × Int × Int × Unit) ⊕ ((((List Int) × Int × Unit) × ByteArray × Unit))) := fun ((v0_0, v0_1, _), v1, v5, v8, v9, _) =>
 bif (decide (v9 < v8)) then
  bif (decide (v1 > (0 : Int))) then
   Option.bind (spec_l13Rd_pick (v0_0, v0_1) (3 : Int)) fun (r0, (r1, r2), _) =>
    bif (r0 == (0 : Int)) then
     if (((ByteArray.size v5) + (ByteArray.size (⟨#[(40 : UInt8)]⟩ : ByteArray))) ≤ 9223372036854775807) then
      Option.bind (spec_l7Draw_rec (r1, r2) (IntKind.wrap .i64 (v1 - (1 : Int)))) fun (r3, (r4, r5), _) =>
       if (((ByteArray.size (v5 ++ (⟨#[(40 : UInt8)]⟩ : ByteArray))) + (ByteArray.size r3)) ≤ 9223372036854775807) then
        if (((ByteArray.size ((v5 ++ (⟨#[(40 : UInt8)]⟩ : ByteArray)) ++ r3)) + (ByteArray.size (⟨#[(41 : UInt8), (35 : UInt8)]⟩ : ByteArray))) ≤ 9223372036854775807) then
         some (Sum.inl ((r4, r5, ()), v1, (((v5 ++ (⟨#[(40 : UInt8)]⟩ : ByteArray)) ++ r3) ++ (⟨#[(41 : UInt8), (35 : UInt8)]⟩ : ByteArray)), v8, (IntKind.wrap .i64 (v9 + (1 : Int))), ()))
        else
         none
       else
        none
     else
      none
    else
     Option.bind (spec_l13Rd_of (r1, r2) (List.take 2 (List.drop 0 [(⟨#[(97 : UInt8)]⟩ : ByteArray), (⟨#[(98 : UInt8)]⟩ : ByteArray)]))) fun (r6, (r7, r8), _) =>
      if (((ByteArray.size v5) + (ByteArray.size r6)) ≤ 9223372036854775807) then
       some (Sum.inl ((r7, r8, ()), v1, (v5 ++ r6), v8, (IntKind.wrap .i64 (v9 + (1 : Int))), ()))
      else
       none
  else
   Option.bind (spec_l13Rd_of (v0_0, v0_1) (List.take 2 (List.drop 0 [(⟨#[(97 : UInt8)]⟩ : ByteArray), (⟨#[(98 : UInt8)]⟩ : ByteArray)]))) fun (r9, (r10, r11), _) =>
    if (((ByteArray.size v5) + (ByteArray.size r9)) ≤ 9223372036854775807) then
     some (Sum.inl ((r10, r11, ()), v1, (v5 ++ r9), v8, (IntKind.wrap .i64 (v9 + (1 : Int))), ()))
    else
     none
 else
  some (Sum.inr ((v0_0, v0_1, ()), v5, ()))
theorem spec_l7Draw_l3_eq (spec_l7Draw_rec : ((List Int) × Int) → Int → Option ((ByteArray) × (((List Int) × Int) × Unit))) : loopStep 33 (E32 spec_l7Draw_rec) (L32_0 spec_l7Draw_rec) (loopOf f32 3) sh32_3 xs32_3 = (spec_l7Draw_l3 spec_l7Draw_rec) := by kernel_rfl
theorem loop32_3 (spec_l7Draw_rec : ((List Int) × Int) → Int → Option ((ByteArray) × (((List Int) × Int) × Unit))) (hrec : FnMOk prog 32 (R32 spec_l7Draw_rec)) {L : Nat → Option LoopD} (h : L 3 = some ⟨33, sh32_3, xs32_3, (spec_l7Draw_l3 spec_l7Draw_rec)⟩) : LoopOk prog L (loopOf f32 3) :=
 loopOk (tysOk_of tyl_ok) (E32_ok spec_l7Draw_rec hrec) (codeOk_in (L := (L32_0 spec_l7Draw_rec)) (tysOk_of tyl_ok) (E32_ok spec_l7Draw_rec hrec) mixed (c := loopOf f32 3) (bs := []) (by kernel_rfl) allNil (by kernel_rfl)) (by kernel_rfl) (by kernel_rfl) (spec_l7Draw_l3_eq spec_l7Draw_rec) (by rw [show firstId (loopOf f32 3) = 3 from by kernel_rfl]; exact h)
noncomputable def L32_1 (spec_l7Draw_rec : ((List Int) × Int) → Int → Option ((ByteArray) × (((List Int) × Int) × Unit))) : Nat → Option LoopD := fun n => ifEq n 3 (some ⟨33, sh32_3, xs32_3, (spec_l7Draw_l3 spec_l7Draw_rec)⟩) ((L32_0 spec_l7Draw_rec) n)
noncomputable def spec_l7Draw_step (spec_l7Draw_rec : ((List Int) × Int) → Int → Option ((ByteArray) × (((List Int) × Int) × Unit))) : ((List Int) × Int) → Int → Option ((ByteArray) × (((List Int) × Int) × Unit)) := fun (a0_0, a0_1) a1 =>
 Option.bind (spec_l13Rd_pick (a0_0, a0_1) (3 : Int)) fun (r0, (r1, r2), _) =>
  Option.bind (loopF (spec_l7Draw_l3 spec_l7Draw_rec) ((r1, r2, ()), a1, (⟨#[]⟩ : ByteArray), (IntKind.wrap .i64 ((1 : Int) + r0)), (0 : Int), ())) fun ((r3, r4, _), r5, _) =>
   some (r5, (r3, r4), ())
theorem spec_l7Draw_step_eq (spec_l7Draw_rec : ((List Int) × Int) → Int → Option ((ByteArray) × (((List Int) × Int) × Unit))) : fnMF (E32 spec_l7Draw_rec) (L32_1 spec_l7Draw_rec) [.bx (.pair (.sl (.int .u8)) (.int .i64)), .v (.int .i64)] true [.str] f32.ntmps f32.results.toList (codeOf f32) = fun x => (spec_l7Draw_step spec_l7Draw_rec) x.1 x.2.1 := by kernel_rfl
theorem spec_l7Draw_step_ok (spec_l7Draw_rec : ((List Int) × Int) → Int → Option ((ByteArray) × (((List Int) × Int) × Unit))) (hrec : FnMOk prog 32 (R32 spec_l7Draw_rec)) : FnMOk prog 32 ⟨[.bx (.pair (.sl (.int .u8)) (.int .i64)), .v (.int .i64)], true, [.str], none, fun x => (spec_l7Draw_step spec_l7Draw_rec) x.1 x.2.1⟩ := by
 have h := fnMOk_of_run (P := prog) (E := (E32 spec_l7Draw_rec)) (tysOk_of tyl_ok) (E32_ok spec_l7Draw_rec hrec) (L := (L32_1 spec_l7Draw_rec)) (ps := [.bx (.pair (.sl (.int .u8)) (.int .i64)), .v (.int .i64)]) (own := true) (outs := [.str]) func32 (c := codeOf f32) (by kernel_rfl) (codeOk_in (L := (L32_1 spec_l7Draw_rec)) (tysOk_of tyl_ok) (E32_ok spec_l7Draw_rec hrec) mixed (c := codeOf f32) (bs := [loopOf f32 3]) (by kernel_rfl) (allCons (loop32_3 spec_l7Draw_rec hrec rfl) allNil) (by kernel_rfl)) (by kernel_rfl)
 rw [(spec_l7Draw_step_eq spec_l7Draw_rec)] at h
 exact h
/-- so many calls within each other -/
noncomputable def spec_l7Draw_fuel : Nat → ((List Int) × Int) → Int → Option ((ByteArray) × (((List Int) × Int) × Unit))
 | 0 => fun _ _ => none
 | n + 1 => spec_l7Draw_step (spec_l7Draw_fuel n)
theorem spec_l7Draw_fuel_ok : ∀ n, FnMOk prog 32 (R32 (spec_l7Draw_fuel n))
 | 0 => fun xs r h => by cases h
 | n + 1 => spec_l7Draw_step_ok (spec_l7Draw_fuel n) (spec_l7Draw_fuel_ok n)
noncomputable def spec_l7Draw : ((List Int) × Int) → Int → Option ((ByteArray) × (((List Int) × Int) × Unit)) := spec_l7Draw_fuel 200
noncomputable def A32 : FnM := R32 spec_l7Draw
theorem A32_ok : FnMOk prog 32 A32 := spec_l7Draw_fuel_ok 200
/-! spec.l7Text -/
noncomputable def E21 : Env := ⟨ty0, fun _ => none, fun g => ifEq g 22 (some A22) (ifEq g 32 (some A32) (ifEq g 33 (some A33) (none))), fun _ => none, fun _ => none⟩
theorem E21_ok : FnsOk prog E21 := (oneMs A22_ok (by kernel_rfl) func22 (by kernel_rfl) (by kernel_rfl) (oneMs A32_ok (by kernel_rfl) func32 (by kernel_rfl) (by kernel_rfl) (oneMs A33_ok (by kernel_rfl) func33 (by kernel_rfl) (by kernel_rfl) (noFns _ _))))
noncomputable def L21_0 : Nat → Option LoopD := fun _ => none
noncomputable def spec_l7Text : ((List Int) × Int) → Option ((ByteArray) × (((List Int) × Int) × Unit)) := fun (a0_0, a0_1) =>
 Option.bind (spec_l13Rd_pick (a0_0, a0_1) (3 : Int)) fun (r0, (r1, r2), _) =>
  Option.bind (spec_l7Draw (r1, r2) r0) fun (r3, (r4, r5), _) =>
   Option.bind (spec_l13Rd_pick (r4, r5) (12 : Int)) fun (r6, (r7, r8), _) =>
    bif (decide (r6 > (0 : Int))) then
     some (r3, (r7, r8), ())
    else
     Option.bind (spec_l13Rd_pick (r7, r8) (((ByteArray.size r3) : Nat) : Int)) fun (r9, (r10, r11), _) =>
      if (((0 : Int) ≤ r9) ∧ (r9 ≤ (((ByteArray.size r3) : Nat) : Int))) then
       Option.bind (spec_l13Rd_of (r10, r11) (List.take 6 (List.drop 0 [(⟨#[]⟩ : ByteArray), (⟨#[(40 : UInt8)]⟩ : ByteArray), (⟨#[(41 : UInt8)]⟩ : ByteArray), (⟨#[(35 : UInt8)]⟩ : ByteArray), (⟨#[(41 : UInt8), (35 : UInt8)]⟩ : ByteArray), (⟨#[(99 : UInt8)]⟩ : ByteArray)]))) fun (r12, (r13, r14), _) =>
        if (((ByteArray.size (ByteArray.extract r3 0 (Int.toNat r9))) + (ByteArray.size r12)) ≤ 9223372036854775807) then
         Option.bind (spec_l13Rd_pick (r13, r14) (2 : Int)) fun (r15, (r16, r17), _) =>
          if (((0 : Int) ≤ (IntKind.wrap .i64 (r9 + r15))) ∧ ((IntKind.wrap .i64 (r9 + r15)) ≤ (((ByteArray.size r3) : Nat) : Int))) then
           if (((ByteArray.size ((ByteArray.extract r3 0 (Int.toNat r9)) ++ r12)) + (ByteArray.size (ByteArray.extract r3 (Int.toNat (IntKind.wrap .i64 (r9 + r15))) (ByteArray.size r3)))) ≤ 9223372036854775807) then
            some ((((ByteArray.extract r3 0 (Int.toNat r9)) ++ r12) ++ (ByteArray.extract r3 (Int.toNat (IntKind.wrap .i64 (r9 + r15))) (ByteArray.size r3))), (r16, r17), ())
           else
            none
          else
           none
        else
         none
      else
       none
noncomputable def A21 : FnM := ⟨[.bx (.pair (.sl (.int .u8)) (.int .i64))], true, [.str], none, fun x => spec_l7Text x.1⟩
theorem spec_l7Text_eq : fnMF E21 L21_0 [.bx (.pair (.sl (.int .u8)) (.int .i64))] true [.str] f21.ntmps f21.results.toList (codeOf f21) = fun x => spec_l7Text x.1 := by kernel_rfl
theorem A21_ok : FnMOk prog 21 A21 := by
 have h := fnMOk_of_run (P := prog) (E := E21) (tysOk_of tyl_ok) E21_ok (L := L21_0) (ps := [.bx (.pair (.sl (.int .u8)) (.int .i64))]) (own := true) (outs := [.str]) func21 (c := codeOf f21) (by kernel_rfl) (codeOk_in (L := L21_0) (tysOk_of tyl_ok) E21_ok mixed (c := codeOf f21) (bs := []) (by kernel_rfl) allNil (by kernel_rfl)) (by kernel_rfl)
 rw [spec_l7Text_eq] at h
 exact h
/-! spec.DrawFormatElement -/
noncomputable def E9 : Env := ⟨ty0, fun _ => none, fun g => ifEq g 20 (some A20) (ifEq g 21 (some A21) (none)), fun g => ifEq g 19 (some A19) (none), fun _ => none⟩
theorem E9_ok : FnsOk prog E9 := (oneBs A19_ok func19 (by kernel_rfl) (by kernel_rfl) (oneMs A20_ok (by kernel_rfl) func20 (by kernel_rfl) (by kernel_rfl) (oneMs A21_ok (by kernel_rfl) func21 (by kernel_rfl) (by kernel_rfl) (noFns _ _))))
noncomputable def L9_0 : Nat → Option LoopD := fun _ => none
noncomputable def spec_DrawFormatElement : (List Int) → Option (((Int × (List Int)) × ByteArray)) := fun a0 =>
 Option.bind (spec_l13Open a0) fun (r0, r1) =>
  Option.bind (spec_l6Some (r0, r1)) fun ((r2, r3), (r4, r5), _) =>
   Option.bind (spec_l7Text (r4, r5)) fun (r6, (r7, r8), _) =>
    some ((r2, r3), r6)
noncomputable def A9 : FnA := ⟨[.v (.sl (.int .u8))], false, [.pair (.pair (.int .i64) (.sl (.int .i64))) .str], fun x => spec_DrawFormatElement x.1⟩
theorem spec_DrawFormatElement_eq : fnF E9 L9_0 [.v (.sl (.int .u8))] false [.pair (.pair (.int .i64) (.sl (.int .i64))) .str] f9.ntmps f9.results.toList (codeOf f9) = fun x => spec_DrawFormatElement x.1 := by kernel_rfl
theorem A9_ok : FnOk prog 9 A9 := fo spec_DrawFormatElement_eq func9 E9_ok allNil
/-! spec.DrawFormatNumbers -/
noncomputable def E10 : Env := ⟨ty0, fun _ => none, fun g => ifEq g 22 (some A22) (ifEq g 23 (some A23) (none)), fun g => ifEq g 19 (some A19) (none), fun _ => none⟩
theorem E10_ok : FnsOk prog E10 := (oneBs A19_ok func19 (by kernel_rfl) (by kernel_rfl) (oneMs A22_ok (by kernel_rfl) func22 (by kernel_rfl) (by kernel_rfl) (oneMs A23_ok (by kernel_rfl) func23 (by kernel_rfl) (by kernel_rfl) (noFns _ _))))
noncomputable def L10_0 : Nat → Option LoopD := fun _ => none
def sh10_4 : List Fm := d :: d :: d :: .box 100300 [.val (.sl (.int .u8)), .val (.int .i64)] :: .cell (.own (.int .i64) 100400 false) :: D 4 (.cell (.val (.int .i64)) :: .cell (.val (.int .i64)) :: D 9 [])
def xs10_4 : List (Ex × List Fm) := [(.exit 0, (D 4 (.cell (.own (.int .i64) 100400 false) :: D 15 [])))]
noncomputable def spec_DrawFormatNumbers_l4 : (((List Int) × Int × Unit) × (List Int) × Int × Int × Unit) → Option ((((List Int) × Int × Unit) × (List Int) × Int × Int × Unit) ⊕ (((List Int) × Unit))) := fun ((v3_0, v3_1, _), v4, v9, v10, _) =>
 bif (decide (v10 < v9)) then
  Option.bind (spec_l13Rd_num (v3_0, v3_1) (List.take 7 (List.drop 0 [(0 : Int), (1 : Int), (-1 : Int), (12 : Int), (3 : Int), (-9223372036854775808 : Int), (1000000 : Int)]))) fun (r0, (r1, r2), _) =>
   if (((0 + (List.length v4)) = (List.length v4)) ∧ ((((List.length v4) + (List.length (List.take 1 (List.drop 0 [r0])))) * 8) ≤ 140737488355328)) then
    some (Sum.inl ((r1, r2, ()), (List.take ((List.length v4) + (List.length (List.take 1 (List.drop 0 [r0])))) (List.drop 0 ((List.drop 0 v4) ++ (List.take 1 (List.drop 0 [r0]))))), v9, (IntKind.wrap .i64 (v10 + (1 : Int))), ()))
   else
    none
 else
  some (Sum.inr ((List.take (List.length v4) (List.drop 0 v4)), ()))
theorem spec_DrawFormatNumbers_l4_eq : loopStep 20 E10 L10_0 (loopOf f10 4) sh10_4 xs10_4 = spec_DrawFormatNumbers_l4 := by kernel_rfl
theorem loop10_4 {L} (h : L 4 = some ⟨20, sh10_4, xs10_4, spec_DrawFormatNumbers_l4⟩) : LoopOk prog L (loopOf f10 4) := lo spec_DrawFormatNumbers_l4_eq E10_ok allNil h
noncomputable def L10_1 : Nat → Option LoopD := fun n => ifEq n 4 (some ⟨20, sh10_4, xs10_4, spec_DrawFormatNumbers_l4⟩) (L10_0 n)
noncomputable def spec_DrawFormatNumbers : (List Int) → Option ((List Int)) := fun a0 =>
 Option.bind (spec_l13Open a0) fun (r0, r1) =>
  Option.bind (spec_l13Rd_pick (r0, r1) (5 : Int)) fun (r2, (r3, r4), _) =>
   Option.bind (loopF spec_DrawFormatNumbers_l4 ((r3, r4, ()), (List.take 0 (List.drop 0 [])), r2, (0 : Int), ())) fun (r5, _) =>
    some (List.take (List.length r5) (List.drop 0 r5))
noncomputable def A10 : FnA := ⟨[.v (.sl (.int .u8))], true, [.sl (.int .i64)], fun x => spec_DrawFormatNumbers x.1⟩
theorem spec_DrawFormatNumbers_eq : fnF E10 L10_1 [.v (.sl (.int .u8))] true [.sl (.int .i64)] f10.ntmps f10.results.toList (codeOf f10) = fun x => spec_DrawFormatNumbers x.1 := by kernel_rfl
theorem A10_ok : FnOk prog 10 A10 := fo spec_DrawFormatNumbers_eq func10 E10_ok (allCons (loop10_4 rfl) allNil)
/-! spec.l4Draw -/
noncomputable def E34 : Env := ⟨ty0, fun _ => none, fun g => ifEq g 22 (some A22) (ifEq g 33 (some A33) (none)), fun _ => none, fun _ => none⟩
theorem E34_ok : FnsOk prog E34 := (oneMs A22_ok (by kernel_rfl) func22 (by kernel_rfl) (by kernel_rfl) (oneMs A33_ok (by kernel_rfl) func33 (by kernel_rfl) (by kernel_rfl) (noFns _ _)))
noncomputable def L34_0 : Nat → Option LoopD := fun _ => none
def sh34_3 : List Fm := .box 200000 [.val (.sl (.int .u8)), .val (.int .i64)] :: D 4 (.cell (.val .str) :: d :: d :: d :: .cell (.val (.int .i64)) :: .cell (.val (.int .i64)) :: D 8 [])
def xs34_3 : List (Ex × List Fm) := [(.exit 0, [.box 200000 [.val (.sl (.int .u8)), .val (.int .i64)], d, d, d, d, .cell (.val .str), d, d, d, d, d, d, d, d, d, d, d, d, d])]
noncomputable def spec_l4Draw_l3 : (((List Int) × Int × Unit) × ByteArray × Int × Int × Unit) → Option ((((List Int) × Int × Unit) × ByteArray × Int × Int × Unit) ⊕ ((((List Int) × Int × Unit) × ByteArray × Unit))) := fun ((v0_0, v0_1, _), v5, v9, v10, _) =>
 bif (decide (v10 < v9)) then
  Option.bind (spec_l13Rd_of (v0_0, v0_1) (List.take 2 (List.drop 0 [(⟨#[(97 : UInt8)]⟩ : ByteArray), (⟨#[(98 : UInt8)]⟩ : ByteArray)]))) fun (r0, (r1, r2), _) =>
   if (((ByteArray.size v5) + (ByteArray.size r0)) ≤ 9223372036854775807) then
    some (Sum.inl ((r1, r2, ()), (v5 ++ r0), v9, (IntKind.wrap .i64 (v10 + (1 : Int))), ()))
   else
    none
 else
  some (Sum.inr ((v0_0, v0_1, ()), v5, ()))
theorem spec_l4Draw_l3_eq : loopStep 19 E34 L34_0 (loopOf f34 3) sh34_3 xs34_3 = spec_l4Draw_l3 := by kernel_rfl
theorem loop34_3 {L} (h : L 3 = some ⟨19, sh34_3, xs34_3, spec_l4Draw_l3⟩) : LoopOk prog L (loopOf f34 3) := lo spec_l4Draw_l3_eq E34_ok allNil h
noncomputable def L34_1 : Nat → Option LoopD := fun n => ifEq n 3 (some ⟨19, sh34_3, xs34_3, spec_l4Draw_l3⟩) (L34_0 n)
noncomputable def spec_l4Draw : ((List Int) × Int) → Int → Option ((ByteArray) × (((List Int) × Int) × Unit)) := fun (a0_0, a0_1) a1 =>
 Option.bind (spec_l13Rd_pick (a0_0, a0_1) (IntKind.wrap .i64 (a1 + (1 : Int)))) fun (r0, (r1, r2), _) =>
  Option.bind (loopF spec_l4Draw_l3 ((r1, r2, ()), (⟨#[]⟩ : ByteArray), r0, (0 : Int), ())) fun ((r3, r4, _), r5, _) =>
   some (r5, (r3, r4), ())
noncomputable def A34 : FnM := ⟨[.bx (.pair (.sl (.int .u8)) (.int .i64)), .v (.int .i64)], true, [.str], none, fun x => spec_l4Draw x.1 x.2.1⟩
theorem spec_l4Draw_eq : fnMF E34 L34_1 [.bx (.pair (.sl (.int .u8)) (.int .i64)), .v (.int .i64)] true [.str] f34.ntmps f34.results.toList (codeOf f34) = fun x => spec_l4Draw x.1 x.2.1 := by kernel_rfl
theorem A34_ok : FnMOk prog 34 A34 := by
 have h := fnMOk_of_run (P := prog) (E := E34) (tysOk_of tyl_ok) E34_ok (L := L34_1) (ps := [.bx (.pair (.sl (.int .u8)) (.int .i64)), .v (.int .i64)]) (own := true) (outs := [.str]) func34 (c := codeOf f34) (by kernel_rfl) (codeOk_in (L := L34_1) (tysOk_of tyl_ok) E34_ok mixed (c := codeOf f34) (bs := [loopOf f34 3]) (by kernel_rfl) (allCons (loop34_3 rfl) allNil) (by kernel_rfl)) (by kernel_rfl)
 rw [spec_l4Draw_eq] at h
 exact h
/-! spec.l4Word -/
noncomputable def E24 : Env := ⟨ty0, fun _ => none, fun g => ifEq g 22 (some A22) (ifEq g 34 (some A34) (ifEq g 33 (some A33) (none))), fun _ => none, fun _ => none⟩
theorem E24_ok : FnsOk prog E24 := (oneMs A22_ok (by kernel_rfl) func22 (by kernel_rfl) (by kernel_rfl) (oneMs A34_ok (by kernel_rfl) func34 (by kernel_rfl) (by kernel_rfl) (oneMs A33_ok (by kernel_rfl) func33 (by kernel_rfl) (by kernel_rfl) (noFns _ _))))
noncomputable def L24_0 : Nat → Option LoopD := fun _ => none
noncomputable def spec_l4Word : ((List Int) × Int) → Option ((ByteArray) × (((List Int) × Int) × Unit)) := fun (a0_0, a0_1) =>
 Option.bind (spec_l13Rd_pick (a0_0, a0_1) (24 : Int)) fun (r0, (r1, r2), _) =>
  bif (r0 == (0 : Int)) then
   Option.bind (spec_l4Draw (r1, r2) (4 : Int)) fun (r3, (r4, r5), _) =>
    Option.bind (spec_l13Rd_of (r4, r5) (List.take 3 (List.drop 0 [(⟨#[(99 : UInt8)]⟩ : ByteArray), (⟨#[(32 : UInt8)]⟩ : ByteArray), (⟨#[(65 : UInt8)]⟩ : ByteArray)]))) fun (r6, (r7, r8), _) =>
     if (((ByteArray.size r3) + (ByteArray.size r6)) ≤ 9223372036854775807) then
      some ((r3 ++ r6), (r7, r8), ())
     else
      none
  else
   Option.bind (spec_l4Draw (r1, r2) (9 : Int)) fun (r9, (r10, r11), _) =>
    some (r9, (r10, r11), ())
noncomputable def A24 : FnM := ⟨[.bx (.pair (.sl (.int .u8)) (.int .i64))], true, [.str], none, fun x => spec_l4Word x.1⟩
theorem spec_l4Word_eq : fnMF E24 L24_0 [.bx (.pair (.sl (.int .u8)) (.int .i64))] true [.str] f24.ntmps f24.results.toList (codeOf f24) = fun x => spec_l4Word x.1 := by kernel_rfl
theorem A24_ok : FnMOk prog 24 A24 := by
 have h := fnMOk_of_run (P := prog) (E := E24) (tysOk_of tyl_ok) E24_ok (L := L24_0) (ps := [.bx (.pair (.sl (.int .u8)) (.int .i64))]) (own := true) (outs := [.str]) func24 (c := codeOf f24) (by kernel_rfl) (codeOk_in (L := L24_0) (tysOk_of tyl_ok) E24_ok mixed (c := codeOf f24) (bs := []) (by kernel_rfl) allNil (by kernel_rfl)) (by kernel_rfl)
 rw [spec_l4Word_eq] at h
 exact h
/-! spec.DrawShowWord -/
noncomputable def E11 : Env := ⟨ty0, fun _ => none, fun g => ifEq g 24 (some A24) (none), fun g => ifEq g 19 (some A19) (none), fun _ => none⟩
theorem E11_ok : FnsOk prog E11 := (oneBs A19_ok func19 (by kernel_rfl) (by kernel_rfl) (oneMs A24_ok (by kernel_rfl) func24 (by kernel_rfl) (by kernel_rfl) (noFns _ _)))
noncomputable def L11_0 : Nat → Option LoopD := fun _ => none
noncomputable def spec_DrawShowWord : (List Int) → Option (ByteArray) := fun a0 =>
 Option.bind (spec_l13Open a0) fun (r0, r1) =>
  Option.bind (spec_l4Word (r0, r1)) fun (r2, (r3, r4), _) =>
   some r2
noncomputable def A11 : FnA := ⟨[.v (.sl (.int .u8))], true, [.str], fun x => spec_DrawShowWord x.1⟩
theorem spec_DrawShowWord_eq : fnF E11 L11_0 [.v (.sl (.int .u8))] true [.str] f11.ntmps f11.results.toList (codeOf f11) = fun x => spec_DrawShowWord x.1 := by kernel_rfl
theorem A11_ok : FnOk prog 11 A11 := fo spec_DrawShowWord_eq func11 E11_ok allNil
/-! slices.IndexFunc[[]int,int] -/
noncomputable def E53 : Env := ⟨ty0, fun _ => none, fun _ => none, fun _ => none, fun _ => none⟩
theorem E53_ok : FnsOk prog E53 := (noFns _ _)
noncomputable def L53_0 : Nat → Option LoopD := fun _ => none
def sh53_2 : List Fm := .cell (.val (.sl (.int .i64))) :: .clo [.int .i64] .bool :: D 5 (.cell (.val (.int .i64)) :: .cell (.val (.int .i64)) :: D 10 [])
def xs53_2 : List (Ex × List Fm) := [(.ret, (D 4 (.cell (.val (.int .i64)) :: D 14 []))), (.exit 0, (D 19 []))]
noncomputable def slices_IndexFunc_l2 : ((List Int) × ((Int × Unit) → Option (Bool)) × Int × Int × Unit) → Option (((List Int) × ((Int × Unit) → Option (Bool)) × Int × Int × Unit) ⊕ ((Int × Unit) ⊕ (Unit))) := fun (v0, v1, v7, v8, _) =>
 bif (decide (v8 < v7)) then
  if (((0 : Int) ≤ v8) ∧ (v8 < (((List.length v0) : Nat) : Int))) then
   Option.bind (v1 ((List.getD v0 (Int.toNat v8) (0 : Int)), ())) fun r0 =>
    bif r0 then
     some (Sum.inr (Sum.inl (v8, ())))
    else
     some (Sum.inl (v0, v1, v7, (IntKind.wrap .i64 (v8 + (1 : Int))), ()))
  else
   none
 else
  some (Sum.inr (Sum.inr ()))
theorem slices_IndexFunc_l2_eq : loopStep 19 E53 L53_0 (loopOf f53 2) sh53_2 xs53_2 = slices_IndexFunc_l2 := by kernel_rfl
theorem loop53_2 {L} (h : L 2 = some ⟨19, sh53_2, xs53_2, slices_IndexFunc_l2⟩) : LoopOk prog L (loopOf f53 2) := lo slices_IndexFunc_l2_eq E53_ok allNil h
noncomputable def L53_1 : Nat → Option LoopD := fun n => ifEq n 2 (some ⟨19, sh53_2, xs53_2, slices_IndexFunc_l2⟩) (L53_0 n)
noncomputable def slices_IndexFunc : (List Int) → ((Int × Unit) → Option (Bool)) → Option (Int) := fun a0 a1 =>
 Option.bind (loopF slices_IndexFunc_l2 (a0, a1, (((List.length a0) : Nat) : Int), (0 : Int), ())) fun r0 =>
  (match r0 with
  | .inl (d1, _) =>
    some d1
  | .inr _ =>
    some (-1 : Int))
noncomputable def A53 : FnA := ⟨[.v (.sl (.int .i64)), .clo [.int .i64] .bool], true, [.int .i64], fun x => slices_IndexFunc x.1 x.2.1⟩
theorem slices_IndexFunc_eq : fnF E53 L53_1 [.v (.sl (.int .i64)), .clo [.int .i64] .bool] true [.int .i64] f53.ntmps f53.results.toList (codeOf f53) = fun x => slices_IndexFunc x.1 x.2.1 := by kernel_rfl
theorem A53_ok : FnOk prog 53 A53 := fo slices_IndexFunc_eq func53 E53_ok (allCons (loop53_2 rfl) allNil)
/-! slices.ContainsFunc[[]int,int] -/
noncomputable def E44 : Env := ⟨ty0, fun g => ifEq g 53 (some A53) (none), fun _ => none, fun _ => none, fun _ => none⟩
theorem E44_ok : FnsOk prog E44 := (oF A53_ok func53 (noFns _ _))
noncomputable def L44_0 : Nat → Option LoopD := fun _ => none
noncomputable def slices_ContainsFunc : (List Int) → ((Int × Unit) → Option (Bool)) → Option (Bool) := fun a0 a1 =>
 Option.bind (slices_IndexFunc a0 a1) fun r0 =>
  some (decide (r0 ≥ (0 : Int)))
noncomputable def A44 : FnA := ⟨[.v (.sl (.int .i64)), .clo [.int .i64] .bool], true, [.bool], fun x => slices_ContainsFunc x.1 x.2.1⟩
theorem slices_ContainsFunc_eq : fnF E44 L44_0 [.v (.sl (.int .i64)), .clo [.int .i64] .bool] true [.bool] f44.ntmps f44.results.toList (codeOf f44) = fun x => slices_ContainsFunc x.1 x.2.1 := by kernel_rfl
theorem A44_ok : FnOk prog 44 A44 := fo slices_ContainsFunc_eq func44 E44_ok allNil
/-! impl.CostValid -/
noncomputable def E52 : Env := ⟨ty0, fun _ => none, fun _ => none, fun _ => none, fun _ => none⟩
theorem E52_ok : FnsOk prog E52 := (noFns _ _)
noncomputable def L52_0 : Nat → Option LoopD := fun _ => none
noncomputable def impl_CostValid : Int → Option (Bool) := fun a0 =>
 bif (decide (a0 ≥ (0 : Int))) then
  some (decide (a0 ≤ (1000000 : Int)))
 else
  some false
noncomputable def A52 : FnA := ⟨[.v (.int .i64)], true, [.bool], fun x => impl_CostValid x.1⟩
theorem impl_CostValid_eq : fnF E52 L52_0 [.v (.int .i64)] true [.bool] f52.ntmps f52.results.toList (codeOf f52) = fun x => impl_CostValid x.1 := by kernel_rfl
theorem A52_ok : FnOk prog 52 A52 := fo impl_CostValid_eq func52 E52_ok allNil
/-! impl.MatrixValid$1 -/
noncomputable def E51 : Env := ⟨ty0, fun g => ifEq g 52 (some A52) (none), fun _ => none, fun _ => none, fun _ => none⟩
theorem E51_ok : FnsOk prog E51 := (oF A52_ok func52 (noFns _ _))
noncomputable def L51_0 : Nat → Option LoopD := fun _ => none
noncomputable def impl_MatrixValid_1 : Int → Option (Bool) := fun a0 =>
 Option.bind (impl_CostValid a0) fun r0 =>
  some (!r0)
noncomputable def A51 : FnA := ⟨[.v (.int .i64)], true, [.bool], fun x => impl_MatrixValid_1 x.1⟩
theorem impl_MatrixValid_1_eq : fnF E51 L51_0 [.v (.int .i64)] true [.bool] f51.ntmps f51.results.toList (codeOf f51) = fun x => impl_MatrixValid_1 x.1 := by kernel_rfl
theorem A51_ok : FnOk prog 51 A51 := fo impl_MatrixValid_1_eq func51 E51_ok allNil
/-! impl.MatrixValid -/
noncomputable def E43 : Env := ⟨ty0, fun g => ifEq g 44 (some A44) (ifEq g 51 (some A51) (none)), fun _ => none, fun _ => none, fun _ => none⟩
theorem E43_ok : FnsOk prog E43 := (oF A44_ok func44 (oF A51_ok func51 (noFns _ _)))
noncomputable def L43_0 : Nat → Option LoopD := fun _ => none
noncomputable def impl_MatrixValid : (Int × (List Int)) → Option (Bool) := fun (a0_0, a0_1) =>
 bif (decide (a0_0 < (1 : Int))) then
  some false
 else
  bif (decide (a0_0 > (4 : Int))) then
   some false
  else
   bif ((((List.length a0_1) : Nat) : Int) != (IntKind.wrap .i64 (a0_0 * a0_0))) then
    some false
   else
    Option.bind (slices_ContainsFunc a0_1 (fun y0 => (impl_MatrixValid_1 y0.1))) fun r1 =>
     some (!r1)
noncomputable def A43 : FnA := ⟨[.v (.pair (.int .i64) (.sl (.int .i64)))], true, [.bool], fun x => impl_MatrixValid x.1⟩
theorem impl_MatrixValid_eq : fnF E43 L43_0 [.v (.pair (.int .i64) (.sl (.int .i64)))] true [.bool] f43.ntmps f43.results.toList (codeOf f43) = fun x => impl_MatrixValid x.1 := by kernel_rfl
theorem A43_ok : FnOk prog 43 A43 := fo impl_MatrixValid_eq func43 E43_ok allNil
/-! impl.GradesValid$1 -/
noncomputable def E45 : Env := ⟨ty0, fun _ => none, fun _ => none, fun _ => none, fun _ => none⟩
theorem E45_ok : FnsOk prog E45 := (noFns _ _)
noncomputable def L45_0 : Nat → Option LoopD := fun _ => none
noncomputable def impl_GradesValid_1 : Int → Option (Bool) := fun a0 =>
 some (decide (a0 > (3 : Int)))
noncomputable def A45 : FnA := ⟨[.v (.int .i64)], true, [.bool], fun x => impl_GradesValid_1 x.1⟩
theorem impl_GradesValid_1_eq : fnF E45 L45_0 [.v (.int .i64)] true [.bool] f45.ntmps f45.results.toList (codeOf f45) = fun x => impl_GradesValid_1 x.1 := by kernel_rfl
theorem A45_ok : FnOk prog 45 A45 := fo impl_GradesValid_1_eq func45 E45_ok allNil
/-! impl.GradesValid -/
noncomputable def E35 : Env := ⟨ty0, fun g => ifEq g 43 (some A43) (ifEq g 44 (some A44) (ifEq g 45 (some A45) (none))), fun _ => none, fun _ => none, fun _ => none⟩
theorem E35_ok : FnsOk prog E35 := (oF A43_ok func43 (oF A44_ok func44 (oF A45_ok func45 (noFns _ _))))
noncomputable def L35_0 : Nat → Option LoopD := fun _ => none
noncomputable def impl_GradesValid : (Int × (List Int)) → Option (Bool) := fun (a0_0, a0_1) =>
 Option.bind (impl_MatrixValid (a0_0, a0_1)) fun r0 =>
  bif r0 then
   Option.bind (slices_ContainsFunc a0_1 (fun y1 => (impl_GradesValid_1 y1.1))) fun r2 =>
    some (!r2)
  else
   some false
noncomputable def A35 : FnA := ⟨[.v (.pair (.int .i64) (.sl (.int .i64)))], true, [.bool], fun x => impl_GradesValid x.1⟩
theorem impl_GradesValid_eq : fnF E35 L35_0 [.v (.pair (.int .i64) (.sl (.int .i64)))] true [.bool] f35.ntmps f35.results.toList (codeOf f35) = fun x => impl_GradesValid x.1 := by kernel_rfl
theorem A35_ok : FnOk prog 35 A35 := fo impl_GradesValid_eq func35 E35_ok allNil
/-! impl.rows -/
noncomputable def E36 : Env := ⟨ty0, fun g => ifEq g 29 (some A29) (none), fun _ => none, fun _ => none, fun _ => none⟩
theorem E36_ok : FnsOk prog E36 := (oF A29_ok func29 (noFns _ _))
noncomputable def L36_0 : Nat → Option LoopD := fun _ => none
def sh36_3 : List Fm := d :: .clo [.sl (.int .i64)] .str :: .box 100200 [.val (.int .i64), .val (.sl (.int .i64))] :: d :: d :: .cell (.own .str 100500 false) :: d :: d :: d :: .cell (.val (.int .i64)) :: .cell (.val (.int .i64)) :: D 22 []
def xs36_3 : List (Ex × List Fm) := [(.exit 0, (D 5 (.cell (.own .str 100500 false) :: D 27 [])))]
noncomputable def impl_rows_l3 : ((((List Int) × Unit) → Option (ByteArray)) × (Int × (List Int) × Unit) × (List ByteArray) × Int × Int × Unit) → Option (((((List Int) × Unit) → Option (ByteArray)) × (Int × (List Int) × Unit) × (List ByteArray) × Int × Int × Unit) ⊕ (((List ByteArray) × Unit))) := fun (v1, (v2_0, v2_1, _), v5, v9, v10, _) =>
 bif (decide (v10 < v9)) then
  if (((0 : Int) ≤ (IntKind.wrap .i64 (v10 * v2_0))) ∧ (((IntKind.wrap .i64 (v10 * v2_0)) ≤ (IntKind.wrap .i64 ((IntKind.wrap .i64 (v10 + (1 : Int))) * v2_0))) ∧ ((IntKind.wrap .i64 ((IntKind.wrap .i64 (v10 + (1 : Int))) * v2_0)) ≤ (((List.length v2_1) : Nat) : Int)))) then
   Option.bind (v1 ((List.take ((Int.toNat (IntKind.wrap .i64 ((IntKind.wrap .i64 (v10 + (1 : Int))) * v2_0))) - (Int.toNat (IntKind.wrap .i64 (v10 * v2_0)))) (List.drop (Int.toNat (IntKind.wrap .i64 (v10 * v2_0))) v2_1)), ())) fun r0 =>
    if (((0 + (List.length v5)) = (List.length v5)) ∧ ((((List.length v5) + (List.length (List.take 1 (List.drop 0 [r0])))) * 16) ≤ 140737488355328)) then
     some (Sum.inl (v1, (v2_0, v2_1, ()), (List.take ((List.length v5) + (List.length (List.take 1 (List.drop 0 [r0])))) (List.drop 0 ((List.drop 0 v5) ++ (List.take 1 (List.drop 0 [r0]))))), v9, (IntKind.wrap .i64 (v10 + (1 : Int))), ()))
    else
     none
  else
   none
 else
  some (Sum.inr ((List.take (List.length v5) (List.drop 0 v5)), ()))
theorem impl_rows_l3_eq : loopStep 33 E36 L36_0 (loopOf f36 3) sh36_3 xs36_3 = impl_rows_l3 := by kernel_rfl
theorem loop36_3 {L} (h : L 3 = some ⟨33, sh36_3, xs36_3, impl_rows_l3⟩) : LoopOk prog L (loopOf f36 3) := lo impl_rows_l3_eq E36_ok allNil h
noncomputable def L36_1 : Nat → Option LoopD := fun n => ifEq n 3 (some ⟨33, sh36_3, xs36_3, impl_rows_l3⟩) (L36_0 n)
noncomputable def impl_rows : (Int × (List Int)) → (((List Int) × Unit) → Option (ByteArray)) → Option (ByteArray) := fun (a0_0, a0_1) a1 =>
 Option.bind (loopF impl_rows_l3 (a1, (a0_0, a0_1, ()), (List.take 0 (List.drop 0 [])), a0_0, (0 : Int), ())) fun (r0, _) =>
  Option.bind (strings_Join (List.take (List.length r0) (List.drop 0 r0)) (⟨#[(47 : UInt8)]⟩ : ByteArray)) fun r1 =>
   some r1
noncomputable def A36 : FnA := ⟨[.v (.pair (.int .i64) (.sl (.int .i64))), .clo [.sl (.int .i64)] .str], true, [.str], fun x => impl_rows x.1 x.2.1⟩
theorem impl_rows_eq : fnF E36 L36_1 [.v (.pair (.int .i64) (.sl (.int .i64))), .clo [.sl (.int .i64)] .str] true [.str] f36.ntmps f36.results.toList (codeOf f36) = fun x => impl_rows x.1 x.2.1 := by kernel_rfl
theorem A36_ok : FnOk prog 36 A36 := fo impl_rows_eq func36 E36_ok (allCons (loop36_3 rfl) allNil)
/-! impl.FormatGrades$1 -/
noncomputable def E37 : Env := ⟨ty0, fun _ => none, fun _ => none, fun _ => none, fun _ => none⟩
theorem E37_ok : FnsOk prog E37 := (noFns _ _)
noncomputable def L37_0 : Nat → Option LoopD := fun _ => none
def sh37_3 : List Fm := d :: d :: d :: .cell (.val .str) :: d :: d :: .cell (.val (.sl (.int .i64))) :: .cell (.val (.int .i64)) :: .cell (.val (.int .i64)) :: D 11 []
def xs37_3 : List (Ex × List Fm) := [(.exit 0, (d :: d :: d :: .cell (.val .str) :: D 16 []))]
noncomputable def impl_FormatGrades_1_l3 : (ByteArray × (List Int) × Int × Int × Unit) → Option ((ByteArray × (List Int) × Int × Int × Unit) ⊕ ((ByteArray × Unit))) := fun (v3, v6, v7, v8, _) =>
 bif (decide (v8 < v7)) then
  if (((0 : Int) ≤ v8) ∧ (v8 < (((List.length v6) : Nat) : Int))) then
   if (((0 : Int) ≤ (List.getD v6 (Int.toNat v8) (0 : Int))) ∧ (((List.getD v6 (Int.toNat v8) (0 : Int)) ≤ (IntKind.wrap .i64 ((List.getD v6 (Int.toNat v8) (0 : Int)) + (1 : Int)))) ∧ ((IntKind.wrap .i64 ((List.getD v6 (Int.toNat v8) (0 : Int)) + (1 : Int))) ≤ (((ByteArray.size (⟨#[(48 : UInt8), (49 : UInt8), (119 : UInt8), (45 : UInt8)]⟩ : ByteArray)) : Nat) : Int)))) then
    if (((ByteArray.size v3) + (ByteArray.size (ByteArray.extract (⟨#[(48 : UInt8), (49 : UInt8), (119 : UInt8), (45 : UInt8)]⟩ : ByteArray) (Int.toNat (List.getD v6 (Int.toNat v8) (0 : Int))) (Int.toNat (IntKind.wrap .i64 ((List.getD v6 (Int.toNat v8) (0 : Int)) + (1 : Int))))))) ≤ 9223372036854775807) then
     some (Sum.inl ((v3 ++ (ByteArray.extract (⟨#[(48 : UInt8), (49 : UInt8), (119 : UInt8), (45 : UInt8)]⟩ : ByteArray) (Int.toNat (List.getD v6 (Int.toNat v8) (0 : Int))) (Int.toNat (IntKind.wrap .i64 ((List.getD v6 (Int.toNat v8) (0 : Int)) + (1 : Int)))))), v6, v7, (IntKind.wrap .i64 (v8 + (1 : Int))), ()))
    else
     none
   else
    none
  else
   none
 else
  some (Sum.inr (v3, ()))
theorem impl_FormatGrades_1_l3_eq : loopStep 20 E37 L37_0 (loopOf f37 3) sh37_3 xs37_3 = impl_FormatGrades_1_l3 := by kernel_rfl
theorem loop37_3 {L} (h : L 3 = some ⟨20, sh37_3, xs37_3, impl_FormatGrades_1_l3⟩) : LoopOk prog L (loopOf f37 3) := lo impl_FormatGrades_1_l3_eq E37_ok allNil h
noncomputable def L37_1 : Nat → Option LoopD := fun n => ifEq n 3 (some ⟨20, sh37_3, xs37_3, impl_FormatGrades_1_l3⟩) (L37_0 n)
noncomputable def impl_FormatGrades_1 : (List Int) → Option (ByteArray) := fun a0 =>
 Option.bind (loopF impl_FormatGrades_1_l3 ((⟨#[]⟩ : ByteArray), a0, (((List.length a0) : Nat) : Int), (0 : Int), ())) fun (r0, _) =>
  some r0
noncomputable def A37 : FnA := ⟨[.v (.sl (.int .i64))], true, [.str], fun x => impl_FormatGrades_1 x.1⟩
theorem impl_FormatGrades_1_eq : fnF E37 L37_1 [.v (.sl (.int .i64))] true [.str] f37.ntmps f37.results.toList (codeOf f37) = fun x => impl_FormatGrades_1 x.1 := by kernel_rfl
theorem A37_ok : FnOk prog 37 A37 := fo impl_FormatGrades_1_eq func37 E37_ok (allCons (loop37_3 rfl) allNil)
/-! impl.FormatGrades -/
noncomputable def E25 : Env := ⟨ty0, fun g => ifEq g 35 (some A35) (ifEq g 36 (some A36) (ifEq g 37 (some A37) (none))), fun _ => none, fun _ => none, fun _ => none⟩
theorem E25_ok : FnsOk prog E25 := (oF A35_ok func35 (oF A36_ok func36 (oF A37_ok func37 (noFns _ _))))
noncomputable def L25_0 : Nat → Option LoopD := fun _ => none
noncomputable def impl_FormatGrades : (Int × (List Int)) → Option (ByteArray) := fun (a0_0, a0_1) =>
 Option.bind (impl_GradesValid (a0_0, a0_1)) fun r0 =>
  bif (!r0) then
   some (⟨#[]⟩ : ByteArray)
  else
   Option.bind (impl_rows (a0_0, a0_1) (fun y1 => (impl_FormatGrades_1 y1.1))) fun r2 =>
    some r2
noncomputable def A25 : FnA := ⟨[.v (.pair (.int .i64) (.sl (.int .i64)))], true, [.str], fun x => impl_FormatGrades x.1⟩
theorem impl_FormatGrades_eq : fnF E25 L25_0 [.v (.pair (.int .i64) (.sl (.int .i64)))] true [.str] f25.ntmps f25.results.toList (codeOf f25) = fun x => impl_FormatGrades x.1 := by kernel_rfl
theorem A25_ok : FnOk prog 25 A25 := fo impl_FormatGrades_eq func25 E25_ok allNil
/-! impl.FormatElement -/
noncomputable def E12 : Env := ⟨ty0, fun g => ifEq g 25 (some A25) (none), fun _ => none, fun _ => none, fun _ => none⟩
theorem E12_ok : FnsOk prog E12 := (oF A25_ok func25 (noFns _ _))
noncomputable def L12_0 : Nat → Option LoopD := fun _ => none
noncomputable def impl_FormatElement : ((Int × (List Int)) × ByteArray) → Option (ByteArray) := fun ((a0_0, a0_1), a0_2) =>
 if (((ByteArray.size a0_2) + (ByteArray.size (⟨#[(32 : UInt8)]⟩ : ByteArray))) ≤ 9223372036854775807) then
  Option.bind (impl_FormatGrades (a0_0, a0_1)) fun r0 =>
   if (((ByteArray.size (a0_2 ++ (⟨#[(32 : UInt8)]⟩ : ByteArray))) + (ByteArray.size r0)) ≤ 9223372036854775807) then
    some ((a0_2 ++ (⟨#[(32 : UInt8)]⟩ : ByteArray)) ++ r0)
   else
    none
 else
  none
noncomputable def A12 : FnA := ⟨[.v (.pair (.pair (.int .i64) (.sl (.int .i64))) .str)], true, [.str], fun x => impl_FormatElement x.1⟩
theorem impl_FormatElement_eq : fnF E12 L12_0 [.v (.pair (.pair (.int .i64) (.sl (.int .i64))) .str)] true [.str] f12.ntmps f12.results.toList (codeOf f12) = fun x => impl_FormatElement x.1 := by kernel_rfl
theorem A12_ok : FnOk prog 12 A12 := fo impl_FormatElement_eq func12 E12_ok allNil
/-! spec.l1In -/
noncomputable def E46 : Env := ⟨ty0, fun _ => none, fun _ => none, fun _ => none, fun _ => none⟩
theorem E46_ok : FnsOk prog E46 := (noFns _ _)
noncomputable def L46_0 : Nat → Option LoopD := fun _ => none
noncomputable def spec_l1In : Int → Int → Int → Option (Bool) := fun a0 a1 a2 =>
 bif (decide (a0 ≥ a1)) then
  some (decide (a0 ≤ a2))
 else
  some false
noncomputable def A46 : FnA := ⟨[.v (.int .i64), .v (.int .i64), .v (.int .i64)], true, [.bool], fun x => spec_l1In x.1 x.2.1 x.2.2.1⟩
theorem spec_l1In_eq : fnF E46 L46_0 [.v (.int .i64), .v (.int .i64), .v (.int .i64)] true [.bool] f46.ntmps f46.results.toList (codeOf f46) = fun x => spec_l1In x.1 x.2.1 x.2.2.1 := by kernel_rfl
theorem A46_ok : FnOk prog 46 A46 := fo spec_l1In_eq func46 E46_ok allNil
/-! spec.CostValid -/
noncomputable def E61 : Env := ⟨ty0, fun g => ifEq g 46 (some A46) (none), fun _ => none, fun _ => none, fun _ => none⟩
theorem E61_ok : FnsOk prog E61 := (oF A46_ok func46 (noFns _ _))
noncomputable def L61_0 : Nat → Option LoopD := fun _ => none
noncomputable def spec_CostValid : Int → Option (Bool) := fun a0 =>
 Option.bind (spec_l1In a0 (0 : Int) (1000000 : Int)) fun r0 =>
  some r0
noncomputable def A61 : FnA := ⟨[.v (.int .i64)], true, [.bool], fun x => spec_CostValid x.1⟩
theorem spec_CostValid_eq : fnF E61 L61_0 [.v (.int .i64)] true [.bool] f61.ntmps f61.results.toList (codeOf f61) = fun x => spec_CostValid x.1 := by kernel_rfl
theorem A61_ok : FnOk prog 61 A61 := fo spec_CostValid_eq func61 E61_ok allNil
/-! spec.l1All -/
noncomputable def E54 : Env := ⟨ty0, fun g => ifEq g 61 (some A61) (none), fun _ => none, fun _ => none, fun _ => none⟩
theorem E54_ok : FnsOk prog E54 := (oF A61_ok func61 (noFns _ _))
noncomputable def L54_0 : Nat → Option LoopD := fun _ => none
def sh54_2 : List Fm := D 5 (.cell (.val (.sl (.int .i64))) :: .cell (.val (.int .i64)) :: .cell (.val (.int .i64)) :: D 7 [])
def xs54_2 : List (Ex × List Fm) := [(.ret, (d :: d :: .cell (.val .bool) :: D 12 [])), (.exit 0, (D 15 []))]
noncomputable def spec_l1All_l2 : ((List Int) × Int × Int × Unit) → Option (((List Int) × Int × Int × Unit) ⊕ ((Bool × Unit) ⊕ (Unit))) := fun (v5, v6, v7, _) =>
 bif (decide (v7 < v6)) then
  if (((0 : Int) ≤ v7) ∧ (v7 < (((List.length v5) : Nat) : Int))) then
   Option.bind (spec_CostValid (List.getD v5 (Int.toNat v7) (0 : Int))) fun r0 =>
    bif (!r0) then
     some (Sum.inr (Sum.inl (false, ())))
    else
     some (Sum.inl (v5, v6, (IntKind.wrap .i64 (v7 + (1 : Int))), ()))
  else
   none
 else
  some (Sum.inr (Sum.inr ()))
theorem spec_l1All_l2_eq : loopStep 15 E54 L54_0 (loopOf f54 2) sh54_2 xs54_2 = spec_l1All_l2 := by kernel_rfl
theorem loop54_2 {L} (h : L 2 = some ⟨15, sh54_2, xs54_2, spec_l1All_l2⟩) : LoopOk prog L (loopOf f54 2) := lo spec_l1All_l2_eq E54_ok allNil h
noncomputable def L54_1 : Nat → Option LoopD := fun n => ifEq n 2 (some ⟨15, sh54_2, xs54_2, spec_l1All_l2⟩) (L54_0 n)
noncomputable def spec_l1All : (List Int) → Option (Bool) := fun a0 =>
 Option.bind (loopF spec_l1All_l2 (a0, (((List.length a0) : Nat) : Int), (0 : Int), ())) fun r0 =>
  (match r0 with
  | .inl (d1, _) =>
    some d1
  | .inr _ =>
    some true)
noncomputable def A54 : FnA := ⟨[.v (.sl (.int .i64))], true, [.bool], fun x => spec_l1All x.1⟩
theorem spec_l1All_eq : fnF E54 L54_1 [.v (.sl (.int .i64))] true [.bool] f54.ntmps f54.results.toList (codeOf f54) = fun x => spec_l1All x.1 := by kernel_rfl
theorem A54_ok : FnOk prog 54 A54 := fo spec_l1All_eq func54 E54_ok (allCons (loop54_2 rfl) allNil)
/-! spec.MatrixValid -/
noncomputable def E47 : Env := ⟨ty0, fun g => ifEq g 46 (some A46) (ifEq g 54 (some A54) (none)), fun _ => none, fun _ => none, fun _ => none⟩
theorem E47_ok : FnsOk prog E47 := (oF A46_ok func46 (oF A54_ok func54 (noFns _ _)))
noncomputable def L47_0 : Nat → Option LoopD := fun _ => none
noncomputable def spec_MatrixValid : (Int × (List Int)) → Option (Bool) := fun (a0_0, a0_1) =>
 Option.bind (spec_l1In a0_0 (1 : Int) (4 : Int)) fun r0 =>
  bif r0 then
   bif ((((List.length a0_1) : Nat) : Int) == (IntKind.wrap .i64 (a0_0 * a0_0))) then
    Option.bind (spec_l1All a0_1) fun r1 =>
     some r1
   else
    some false
  else
   some false
noncomputable def A47 : FnA := ⟨[.v (.pair (.int .i64) (.sl (.int .i64)))], true, [.bool], fun x => spec_MatrixValid x.1⟩
theorem spec_MatrixValid_eq : fnF E47 L47_0 [.v (.pair (.int .i64) (.sl (.int .i64)))] true [.bool] f47.ntmps f47.results.toList (codeOf f47) = fun x => spec_MatrixValid x.1 := by kernel_rfl
theorem A47_ok : FnOk prog 47 A47 := fo spec_MatrixValid_eq func47 E47_ok allNil
/-! spec.GradesValid -/
noncomputable def E38 : Env := ⟨ty0, fun g => ifEq g 46 (some A46) (ifEq g 47 (some A47) (none)), fun _ => none, fun _ => none, fun _ => none⟩
theorem E38_ok : FnsOk prog E38 := (oF A46_ok func46 (oF A47_ok func47 (noFns _ _)))
noncomputable def L38_0 : Nat → Option LoopD := fun _ => none
def sh38_2 : List Fm := d :: .box 100100 [.val (.int .i64), .val (.sl (.int .i64))] :: D 4 (.cell (.val (.sl (.int .i64))) :: .cell (.val (.int .i64)) :: .cell (.val (.int .i64)) :: D 9 [])
def xs38_2 : List (Ex × List Fm) := [(.ret, (d :: d :: .cell (.val .bool) :: D 15 [])), (.exit 0, [d, .box 100100 [.val (.int .i64), .val (.sl (.int .i64))], d, d, d, d, d, d, d, d, d, d, d, d, d, d, d, d])]
noncomputable def spec_GradesValid_l2 : ((Int × (List Int) × Unit) × (List Int) × Int × Int × Unit) → Option (((Int × (List Int) × Unit) × (List Int) × Int × Int × Unit) ⊕ ((Bool × Unit) ⊕ ((Int × (List Int) × Unit) × Unit))) := fun ((v1_0, v1_1, _), v6, v7, v8, _) =>
 bif (decide (v8 < v7)) then
  if (((0 : Int) ≤ v8) ∧ (v8 < (((List.length v6) : Nat) : Int))) then
   Option.bind (spec_l1In (List.getD v6 (Int.toNat v8) (0 : Int)) (0 : Int) (3 : Int)) fun r0 =>
    bif (!r0) then
     some (Sum.inr (Sum.inl (false, ())))
    else
     some (Sum.inl ((v1_0, v1_1, ()), v6, v7, (IntKind.wrap .i64 (v8 + (1 : Int))), ()))
  else
   none
 else
  some (Sum.inr (Sum.inr ((v1_0, v1_1, ()), ())))
theorem spec_GradesValid_l2_eq : loopStep 18 E38 L38_0 (loopOf f38 2) sh38_2 xs38_2 = spec_GradesValid_l2 := by kernel_rfl
theorem loop38_2 {L} (h : L 2 = some ⟨18, sh38_2, xs38_2, spec_GradesValid_l2⟩) : LoopOk prog L (loopOf f38 2) := lo spec_GradesValid_l2_eq E38_ok allNil h
noncomputable def L38_1 : Nat → Option LoopD := fun n => ifEq n 2 (some ⟨18, sh38_2, xs38_2, spec_GradesValid_l2⟩) (L38_0 n)
noncomputable def spec_GradesValid : (Int × (List Int)) → Option (Bool) := fun (a0_0, a0_1) =>
 Option.bind (loopF spec_GradesValid_l2 ((a0_0, a0_1, ()), a0_1, (((List.length a0_1) : Nat) : Int), (0 : Int), ())) fun r0 =>
  (match r0 with
  | .inl (d1, _) =>
    some d1
  | .inr ((d2, d3, _), _) =>
    Option.bind (spec_MatrixValid (d2, d3)) fun r4 =>
     some r4)
noncomputable def A38 : FnA := ⟨[.v (.pair (.int .i64) (.sl (.int .i64)))], true, [.bool], fun x => spec_GradesValid x.1⟩
theorem spec_GradesValid_eq : fnF E38 L38_1 [.v (.pair (.int .i64) (.sl (.int .i64)))] true [.bool] f38.ntmps f38.results.toList (codeOf f38) = fun x => spec_GradesValid x.1 := by kernel_rfl
theorem A38_ok : FnOk prog 38 A38 := fo spec_GradesValid_eq func38 E38_ok (allCons (loop38_2 rfl) allNil)
/-! spec.FormatGrades -/
noncomputable def E26 : Env := ⟨ty0, fun g => ifEq g 38 (some A38) (none), fun _ => none, fun _ => none, fun _ => none⟩
theorem E26_ok : FnsOk prog E26 := (oF A38_ok func38 (noFns _ _))
noncomputable def L26_0 : Nat → Option LoopD := fun _ => none
def sh26_5 : List Fm := d :: .box 100100 [.val (.int .i64), .val (.sl (.int .i64))] :: d :: .cell (.val .str) :: D 6 (.cell (.val (.sl (.int .i64))) :: .cell (.val (.int .i64)) :: .cell (.val (.int .i64)) :: D 23 [])
def xs26_5 : List (Ex × List Fm) := [(.exit 0, (d :: d :: d :: .cell (.val .str) :: D 32 []))]
noncomputable def spec_FormatGrades_l5 : ((Int × (List Int) × Unit) × ByteArray × (List Int) × Int × Int × Unit) → Option (((Int × (List Int) × Unit) × ByteArray × (List Int) × Int × Int × Unit) ⊕ ((ByteArray × Unit))) := fun ((v1_0, v1_1, _), v3, v10, v11, v12, _) =>
 bif (decide (v12 < v11)) then
  if (((0 : Int) ≤ v12) ∧ (v12 < (((List.length v10) : Nat) : Int))) then
   bif (decide (v12 > (0 : Int))) then
    if (v1_0 = (0 : Int)) then
     none
    else
     bif ((Int.tmod v12 v1_0) == (0 : Int)) then
      if (((ByteArray.size v3) + (ByteArray.size (⟨#[(47 : UInt8)]⟩ : ByteArray))) ≤ 9223372036854775807) then
       if (((0 : Int) ≤ (List.getD v10 (Int.toNat v12) (0 : Int))) ∧ (((List.getD v10 (Int.toNat v12) (0 : Int)) ≤ (IntKind.wrap .i64 ((List.getD v10 (Int.toNat v12) (0 : Int)) + (1 : Int)))) ∧ ((IntKind.wrap .i64 ((List.getD v10 (Int.toNat v12) (0 : Int)) + (1 : Int))) ≤ (((ByteArray.size (⟨#[(48 : UInt8), (49 : UInt8), (119 : UInt8), (45 : UInt8)]⟩ : ByteArray)) : Nat) : Int)))) then
        if (((ByteArray.size (v3 ++ (⟨#[(47 : UInt8)]⟩ : ByteArray))) + (ByteArray.size (ByteArray.extract (⟨#[(48 : UInt8), (49 : UInt8), (119 : UInt8), (45 : UInt8)]⟩ : ByteArray) (Int.toNat (List.getD v10 (Int.toNat v12) (0 : Int))) (Int.toNat (IntKind.wrap .i64 ((List.getD v10 (Int.toNat v12) (0 : Int)) + (1 : Int))))))) ≤ 9223372036854775807) then
         some (Sum.inl ((v1_0, v1_1, ()), ((v3 ++ (⟨#[(47 : UInt8)]⟩ : ByteArray)) ++ (ByteArray.extract (⟨#[(48 : UInt8), (49 : UInt8), (119 : UInt8), (45 : UInt8)]⟩ : ByteArray) (Int.toNat (List.getD v10 (Int.toNat v12) (0 : Int))) (Int.toNat (IntKind.wrap .i64 ((List.getD v10 (Int.toNat v12) (0 : Int)) + (1 : Int)))))), v10, v11, (IntKind.wrap .i64 (v12 + (1 : Int))), ()))
        else
         none
       else
        none
      else
       none
     else
      if (((0 : Int) ≤ (List.getD v10 (Int.toNat v12) (0 : Int))) ∧ (((List.getD v10 (Int.toNat v12) (0 : Int)) ≤ (IntKind.wrap .i64 ((List.getD v10 (Int.toNat v12) (0 : Int)) + (1 : Int)))) ∧ ((IntKind.wrap .i64 ((List.getD v10 (Int.toNat v12) (0 : Int)) + (1 : Int))) ≤ (((ByteArray.size (⟨#[(48 : UInt8), (49 : UInt8), (119 : UInt8), (45 : UInt8)]⟩ : ByteArray)) : Nat) : Int)))) then
       if (((ByteArray.size v3) + (ByteArray.size (ByteArray.extract (⟨#[(48 : UInt8), (49 : UInt8), (119 : UInt8), (45 : UInt8)]⟩ : ByteArray) (Int.toNat (List.getD v10 (Int.toNat v12) (0 : Int))) (Int.toNat (IntKind.wrap .i64 ((List.getD v10 (Int.toNat v12) (0 : Int)) + (1 : Int))))))) ≤ 9223372036854775807) then
        some (Sum.inl ((v1_0, v1_1, ()), (v3 ++ (ByteArray.extract (⟨#[(48 : UInt8), (49 : UInt8), (119 : UInt8), (45 : UInt8)]⟩ : ByteArray) (Int.toNat (List.getD v10 (Int.toNat v12) (0 : Int))) (Int.toNat (IntKind.wrap .i64 ((List.getD v10 (Int.toNat v12) (0 : Int)) + (1 : Int)))))), v10, v11, (IntKind.wrap .i64 (v12 + (1 : Int))), ()))
       else
        none
      else
       none
   else
    if (((0 : Int) ≤ (List.getD v10 (Int.toNat v12) (0 : Int))) ∧ (((List.getD v10 (Int.toNat v12) (0 : Int)) ≤ (IntKind.wrap .i64 ((List.getD v10 (Int.toNat v12) (0 : Int)) + (1 : Int)))) ∧ ((IntKind.wrap .i64 ((List.getD v10 (Int.toNat v12) (0 : Int)) + (1 : Int))) ≤ (((ByteArray.size (⟨#[(48 : UInt8), (49 : UInt8), (119 : UInt8), (45 : UInt8)]⟩ : ByteArray)) : Nat) : Int)))) then
     if (((ByteArray.size v3) + (ByteArray.size (ByteArray.extract (⟨#[(48 : UInt8), (49 : UInt8), (119 : UInt8), (45 : UInt8)]⟩ : ByteArray) (Int.toNat (List.getD v10 (Int.toNat v12) (0 : Int))) (Int.toNat (IntKind.wrap .i64 ((List.getD v10 (Int.toNat v12) (0 : Int)) + (1 : Int))))))) ≤ 9223372036854775807) then
      some (Sum.inl ((v1_0, v1_1, ()), (v3 ++ (ByteArray.extract (⟨#[(48 : UInt8), (49 : UInt8), (119 : UInt8), (45 : UInt8)]⟩ : ByteArray) (Int.toNat (List.getD v10 (Int.toNat v12) (0 : Int))) (Int.toNat (IntKind.wrap .i64 ((List.getD v10 (Int.toNat v12) (0 : Int)) + (1 : Int)))))), v10, v11, (IntKind.wrap .i64 (v12 + (1 : Int))), ()))
     else
      none
    else
     none
  else
   none
 else
  some (Sum.inr (v3, ()))
theorem spec_FormatGrades_l5_eq : loopStep 36 E26 L26_0 (loopOf f26 5) sh26_5 xs26_5 = spec_FormatGrades_l5 := by kernel_rfl
theorem loop26_5 {L} (h : L 5 = some ⟨36, sh26_5, xs26_5, spec_FormatGrades_l5⟩) : LoopOk prog L (loopOf f26 5) := lo spec_FormatGrades_l5_eq E26_ok allNil h
noncomputable def L26_1 : Nat → Option LoopD := fun n => ifEq n 5 (some ⟨36, sh26_5, xs26_5, spec_FormatGrades_l5⟩) (L26_0 n)
noncomputable def spec_FormatGrades : (Int × (List Int)) → Option (ByteArray) := fun (a0_0, a0_1) =>
 Option.bind (spec_GradesValid (a0_0, a0_1)) fun r0 =>
  bif (!r0) then
   some (⟨#[]⟩ : ByteArray)
  else
   Option.bind (loopF spec_FormatGrades_l5 ((a0_0, a0_1, ()), (⟨#[]⟩ : ByteArray), a0_1, (((List.length a0_1) : Nat) : Int), (0 : Int), ())) fun (r1, _) =>
    some r1
noncomputable def A26 : FnA := ⟨[.v (.pair (.int .i64) (.sl (.int .i64)))], true, [.str], fun x => spec_FormatGrades x.1⟩
theorem spec_FormatGrades_eq : fnF E26 L26_1 [.v (.pair (.int .i64) (.sl (.int .i64)))] true [.str] f26.ntmps f26.results.toList (codeOf f26) = fun x => spec_FormatGrades x.1 := by kernel_rfl
theorem A26_ok : FnOk prog 26 A26 := fo spec_FormatGrades_eq func26 E26_ok (allCons (loop26_5 rfl) allNil)
/-! spec.FormatElement -/
noncomputable def E13 : Env := ⟨ty0, fun g => ifEq g 26 (some A26) (none), fun _ => none, fun _ => none, fun _ => none⟩
theorem E13_ok : FnsOk prog E13 := (oF A26_ok func26 (noFns _ _))
noncomputable def L13_0 : Nat → Option LoopD := fun _ => none
noncomputable def spec_FormatElement : ((Int × (List Int)) × ByteArray) → Option (ByteArray) := fun ((a0_0, a0_1), a0_2) =>
 if (((ByteArray.size a0_2) + (ByteArray.size (⟨#[(32 : UInt8)]⟩ : ByteArray))) ≤ 9223372036854775807) then
  Option.bind (spec_FormatGrades (a0_0, a0_1)) fun r0 =>
   if (((ByteArray.size (a0_2 ++ (⟨#[(32 : UInt8)]⟩ : ByteArray))) + (ByteArray.size r0)) ≤ 9223372036854775807) then
    some ((a0_2 ++ (⟨#[(32 : UInt8)]⟩ : ByteArray)) ++ r0)
   else
    none
 else
  none
noncomputable def A13 : FnA := ⟨[.v (.pair (.pair (.int .i64) (.sl (.int .i64))) .str)], true, [.str], fun x => spec_FormatElement x.1⟩
theorem spec_FormatElement_eq : fnF E13 L13_0 [.v (.pair (.pair (.int .i64) (.sl (.int .i64))) .str)] true [.str] f13.ntmps f13.results.toList (codeOf f13) = fun x => spec_FormatElement x.1 := by kernel_rfl
theorem A13_ok : FnOk prog 13 A13 := fo spec_FormatElement_eq func13 E13_ok allNil
/-! impl.numbers -/
noncomputable def E18 : Env := ⟨ty0, fun g => ifEq g 28 (some A28) (ifEq g 29 (some A29) (none)), fun _ => none, fun _ => none, fun _ => none⟩
theorem E18_ok : FnsOk prog E18 := (oF A28_ok func28 (oF A29_ok func29 (noFns _ _)))
noncomputable def L18_0 : Nat → Option LoopD := fun _ => none
def sh18_3 : List Fm := d :: d :: d :: .cell (.own .str 100300 false) :: d :: d :: d :: .cell (.val (.sl (.int .i64))) :: .cell (.val (.int .i64)) :: .cell (.val (.int .i64)) :: D 11 []
def xs18_3 : List (Ex × List Fm) := [(.exit 0, (d :: d :: d :: .cell (.own .str 100300 false) :: D 17 []))]
noncomputable def impl_numbers_l3 : ((List ByteArray) × (List Int) × Int × Int × Unit) → Option (((List ByteArray) × (List Int) × Int × Int × Unit) ⊕ (((List ByteArray) × Unit))) := fun (v3, v7, v8, v9, _) =>
 bif (decide (v9 < v8)) then
  if (((0 : Int) ≤ v9) ∧ (v9 < (((List.length v7) : Nat) : Int))) then
   Option.bind (strconv_Itoa (List.getD v7 (Int.toNat v9) (0 : Int))) fun r0 =>
    if (((0 + (List.length v3)) = (List.length v3)) ∧ ((((List.length v3) + (List.length (List.take 1 (List.drop 0 [r0])))) * 16) ≤ 140737488355328)) then
     some (Sum.inl ((List.take ((List.length v3) + (List.length (List.take 1 (List.drop 0 [r0])))) (List.drop 0 ((List.drop 0 v3) ++ (List.take 1 (List.drop 0 [r0]))))), v7, v8, (IntKind.wrap .i64 (v9 + (1 : Int))), ()))
    else
     none
  else
   none
 else
  some (Sum.inr ((List.take (List.length v3) (List.drop 0 v3)), ()))
theorem impl_numbers_l3_eq : loopStep 21 E18 L18_0 (loopOf f18 3) sh18_3 xs18_3 = impl_numbers_l3 := by kernel_rfl
theorem loop18_3 {L} (h : L 3 = some ⟨21, sh18_3, xs18_3, impl_numbers_l3⟩) : LoopOk prog L (loopOf f18 3) := lo impl_numbers_l3_eq E18_ok allNil h
noncomputable def L18_1 : Nat → Option LoopD := fun n => ifEq n 3 (some ⟨21, sh18_3, xs18_3, impl_numbers_l3⟩) (L18_0 n)
noncomputable def impl_numbers : (List Int) → Option (ByteArray) := fun a0 =>
 Option.bind (loopF impl_numbers_l3 ((List.take 0 (List.drop 0 [])), a0, (((List.length a0) : Nat) : Int), (0 : Int), ())) fun (r0, _) =>
  Option.bind (strings_Join (List.take (List.length r0) (List.drop 0 r0)) (⟨#[(32 : UInt8)]⟩ : ByteArray)) fun r1 =>
   some r1
noncomputable def A18 : FnA := ⟨[.v (.sl (.int .i64))], true, [.str], fun x => impl_numbers x.1⟩
theorem impl_numbers_eq : fnF E18 L18_1 [.v (.sl (.int .i64))] true [.str] f18.ntmps f18.results.toList (codeOf f18) = fun x => impl_numbers x.1 := by kernel_rfl
theorem A18_ok : FnOk prog 18 A18 := fo impl_numbers_eq func18 E18_ok (allCons (loop18_3 rfl) allNil)
/-! impl.FormatNumbers -/
noncomputable def E7 : Env := ⟨ty0, fun g => ifEq g 18 (some A18) (none), fun _ => none, fun _ => none, fun _ => none⟩
theorem E7_ok : FnsOk prog E7 := (oF A18_ok func18 (noFns _ _))
noncomputable def L7_0 : Nat → Option LoopD := fun _ => none
noncomputable def impl_FormatNumbers : (List Int) → Option (ByteArray) := fun a0 =>
 bif ((((List.length a0) : Nat) : Int) == (0 : Int)) then
  some (⟨#[(45 : UInt8)]⟩ : ByteArray)
 else
  Option.bind (impl_numbers a0) fun r0 =>
   some r0
noncomputable def A7 : FnA := ⟨[.v (.sl (.int .i64))], true, [.str], fun x => impl_FormatNumbers x.1⟩
theorem impl_FormatNumbers_eq : fnF E7 L7_0 [.v (.sl (.int .i64))] true [.str] f7.ntmps f7.results.toList (codeOf f7) = fun x => impl_FormatNumbers x.1 := by kernel_rfl
theorem A7_ok : FnOk prog 7 A7 := fo impl_FormatNumbers_eq func7 E7_ok allNil
/-! spec.l13Dec -/
noncomputable def R27 (spec_l13Dec_rec : Int → Option (ByteArray)) : FnA := ⟨[.v (.int .i64)], true, [.str], fun x => spec_l13Dec_rec x.1⟩
noncomputable def E27 (spec_l13Dec_rec : Int → Option (ByteArray)) : Env := ⟨ty0, fun g => ifEq g 27 (some (R27 spec_l13Dec_rec)) (none), fun _ => none, fun _ => none, fun _ => none⟩
theorem E27_ok (spec_l13Dec_rec : Int → Option (ByteArray)) (hrec : FnOk prog 27 (R27 spec_l13Dec_rec)) : FnsOk prog (E27 spec_l13Dec_rec) := (oF hrec func27 (noFns _ _))
noncomputable def L27_0 (spec_l13Dec_rec : Int → Option (ByteArray)) : Nat → Option LoopD := fun _ => none
def sh27_6 : List Fm := .cell (.val (.int .i64)) :: d :: d :: .cell (.val .str) :: D 27 []
def xs27_6 : List (Ex × List Fm) := [(.exit 0, (.cell (.val (.int .i64)) :: d :: d :: .cell (.val .str) :: D 27 []))]
noncomputable def spec_l13Dec_l6 (spec_l13Dec_rec : Int → Option (ByteArray)) : (Int × ByteArray × Unit) → Option ((Int × ByteArray × Unit) ⊕ ((Int × ByteArray × Unit))) := fun (v0, v3, _) =>
 bif (decide (v0 > (9 : Int))) then
  if ((10 : Int) = (0 : Int)) then
   none
  else
   if (((ByteArray.size (strOfNums (List.take 1 (List.drop 0 [(IntKind.wrap .u8 (IntKind.wrap .i64 ((48 : Int) + (Int.tmod v0 (10 : Int)))))])))) + (ByteArray.size v3)) ≤ 9223372036854775807) then
    if ((10 : Int) = (0 : Int)) then
     none
    else
     some (Sum.inl ((IntKind.wrap .i64 (Int.tdiv v0 (10 : Int))), ((strOfNums (List.take 1 (List.drop 0 [(IntKind.wrap .u8 (IntKind.wrap .i64 ((48 : Int) + (Int.tmod v0 (10 : Int)))))]))) ++ v3), ()))
   else
    none
 else
  some (Sum.inr (v0, v3, ()))
theorem spec_l13Dec_l6_eq (spec_l13Dec_rec : Int → Option (ByteArray)) : loopStep 31 (E27 spec_l13Dec_rec) (L27_0 spec_l13Dec_rec) (loopOf f27 6) sh27_6 xs27_6 = (spec_l13Dec_l6 spec_l13Dec_rec) := by kernel_rfl
theorem loop27_6 (spec_l13Dec_rec : Int → Option (ByteArray)) (hrec : FnOk prog 27 (R27 spec_l13Dec_rec)) {L : Nat → Option LoopD} (h : L 6 = some ⟨31, sh27_6, xs27_6, (spec_l13Dec_l6 spec_l13Dec_rec)⟩) : LoopOk prog L (loopOf f27 6) :=
 loopOk (tysOk_of tyl_ok) (E27_ok spec_l13Dec_rec hrec) (codeOk_in (L := (L27_0 spec_l13Dec_rec)) (tysOk_of tyl_ok) (E27_ok spec_l13Dec_rec hrec) mixed (c := loopOf f27 6) (bs := []) (by kernel_rfl) allNil (by kernel_rfl)) (by kernel_rfl) (by kernel_rfl) (spec_l13Dec_l6_eq spec_l13Dec_rec) (by rw [show firstId (loopOf f27 6) = 6 from by kernel_rfl]; exact h)
noncomputable def L27_1 (spec_l13Dec_rec : Int → Option (ByteArray)) : Nat → Option LoopD := fun n => ifEq n 6 (some ⟨31, sh27_6, xs27_6, (spec_l13Dec_l6 spec_l13Dec_rec)⟩) ((L27_0 spec_l13Dec_rec) n)
noncomputable def spec_l13Dec_step (spec_l13Dec_rec : Int → Option (ByteArray)) : Int → Option (ByteArray) := fun a0 =>
 bif (decide (a0 < (-9223372036854775807 : Int))) then
  some (⟨#[(45 : UInt8), (57 : UInt8), (50 : UInt8), (50 : UInt8), (51 : UInt8), (51 : UInt8), (55 : UInt8), (50 : UInt8), (48 : UInt8), (51 : UInt8), (54 : UInt8), (56 : UInt8), (53 : UInt8), (52 : UInt8), (55 : UInt8), (55 : UInt8), (53 : UInt8), (56 : UInt8), (48 : UInt8), (56 : UInt8)]⟩ : ByteArray)
 else
  bif (decide (a0 < (0 : Int))) then
   Option.bind (spec_l13Dec_rec (IntKind.wrap .i64 ((0 : Int) - a0))) fun r0 =>
    if (((ByteArray.size (⟨#[(45 : UInt8)]⟩ : ByteArray)) + (ByteArray.size r0)) ≤ 9223372036854775807) then
     some ((⟨#[(45 : UInt8)]⟩ : ByteArray) ++ r0)
    else
     none
  else
   Option.bind (loopF (spec_l13Dec_l6 spec_l13Dec_rec) (a0, (⟨#[]⟩ : ByteArray), ())) fun (r1, r2, _) =>
    if (((ByteArray.size (strOfNums (List.take 1 (List.drop 0 [(IntKind.wrap .u8 (IntKind.wrap .i64 ((48 : Int) + r1)))])))) + (ByteArray.size r2)) ≤ 9223372036854775807) then
     some ((strOfNums (List.take 1 (List.drop 0 [(IntKind.wrap .u8 (IntKind.wrap .i64 ((48 : Int) + r1)))]))) ++ r2)
    else
     none
theorem spec_l13Dec_step_eq (spec_l13Dec_rec : Int → Option (ByteArray)) : fnF (E27 spec_l13Dec_rec) (L27_1 spec_l13Dec_rec) [.v (.int .i64)] true [.str] f27.ntmps f27.results.toList (codeOf f27) = fun x => (spec_l13Dec_step spec_l13Dec_rec) x.1 := by kernel_rfl
theorem spec_l13Dec_step_ok (spec_l13Dec_rec : Int → Option (ByteArray)) (hrec : FnOk prog 27 (R27 spec_l13Dec_rec)) : FnOk prog 27 ⟨[.v (.int .i64)], true, [.str], fun x => (spec_l13Dec_step spec_l13Dec_rec) x.1⟩ := by
 have h := fnOk_of_run (P := prog) (E := (E27 spec_l13Dec_rec)) (tysOk_of tyl_ok) (E27_ok spec_l13Dec_rec hrec) (L := (L27_1 spec_l13Dec_rec)) (ps := [.v (.int .i64)]) (own := true) (outs := [.str]) func27 (c := codeOf f27) (by kernel_rfl) (codeOk_in (L := (L27_1 spec_l13Dec_rec)) (tysOk_of tyl_ok) (E27_ok spec_l13Dec_rec hrec) mixed (c := codeOf f27) (bs := [loopOf f27 6]) (by kernel_rfl) (allCons (loop27_6 spec_l13Dec_rec hrec rfl) allNil) (by kernel_rfl))
 rw [(spec_l13Dec_step_eq spec_l13Dec_rec)] at h
 exact h
/-- so many calls within each other -/
noncomputable def spec_l13Dec_fuel : Nat → Int → Option (ByteArray)
 | 0 => fun _ => none
 | n + 1 => spec_l13Dec_step (spec_l13Dec_fuel n)
theorem spec_l13Dec_fuel_ok : ∀ n, FnOk prog 27 (R27 (spec_l13Dec_fuel n))
 | 0 => fun xs r h => by cases h
 | n + 1 => spec_l13Dec_step_ok (spec_l13Dec_fuel n) (spec_l13Dec_fuel_ok n)
noncomputable def spec_l13Dec : Int → Option (ByteArray) := spec_l13Dec_fuel 200
noncomputable def A27 : FnA := R27 spec_l13Dec
theorem A27_ok : FnOk prog 27 A27 := spec_l13Dec_fuel_ok 200
/-! spec.l3Numbers -/
noncomputable def E17 : Env := ⟨ty0, fun g => ifEq g 27 (some A27) (none), fun _ => none, fun _ => none, fun _ => none⟩
theorem E17_ok : FnsOk prog E17 := (oF A27_ok func27 (noFns _ _))
noncomputable def L17_0 : Nat → Option LoopD := fun _ => none
def sh17_3 : List Fm := d :: d :: d :: .cell (.val .str) :: d :: d :: .cell (.val (.sl (.int .i64))) :: .cell (.val (.int .i64)) :: .cell (.val (.int .i64)) :: D 14 []
def xs17_3 : List (Ex × List Fm) := [(.exit 0, (d :: d :: d :: .cell (.val .str) :: D 19 []))]
noncomputable def spec_l3Numbers_l3 : (ByteArray × (List Int) × Int × Int × Unit) → Option ((ByteArray × (List Int) × Int × Int × Unit) ⊕ ((ByteArray × Unit))) := fun (v3, v6, v7, v8, _) =>
 bif (decide (v8 < v7)) then
  if (((0 : Int) ≤ v8) ∧ (v8 < (((List.length v6) : Nat) : Int))) then
   bif (decide (v8 > (0 : Int))) then
    if (((ByteArray.size v3) + (ByteArray.size (⟨#[(32 : UInt8)]⟩ : ByteArray))) ≤ 9223372036854775807) then
     Option.bind (spec_l13Dec (List.getD v6 (Int.toNat v8) (0 : Int))) fun r0 =>
      if (((ByteArray.size (v3 ++ (⟨#[(32 : UInt8)]⟩ : ByteArray))) + (ByteArray.size r0)) ≤ 9223372036854775807) then
       some (Sum.inl (((v3 ++ (⟨#[(32 : UInt8)]⟩ : ByteArray)) ++ r0), v6, v7, (IntKind.wrap .i64 (v8 + (1 : Int))), ()))
      else
       none
    else
     none
   else
    Option.bind (spec_l13Dec (List.getD v6 (Int.toNat v8) (0 : Int))) fun r1 =>
     if (((ByteArray.size v3) + (ByteArray.size r1)) ≤ 9223372036854775807) then
      some (Sum.inl ((v3 ++ r1), v6, v7, (IntKind.wrap .i64 (v8 + (1 : Int))), ()))
     else
      none
  else
   none
 else
  some (Sum.inr (v3, ()))
theorem spec_l3Numbers_l3_eq : loopStep 23 E17 L17_0 (loopOf f17 3) sh17_3 xs17_3 = spec_l3Numbers_l3 := by kernel_rfl
theorem loop17_3 {L} (h : L 3 = some ⟨23, sh17_3, xs17_3, spec_l3Numbers_l3⟩) : LoopOk prog L (loopOf f17 3) := lo spec_l3Numbers_l3_eq E17_ok allNil h
noncomputable def L17_1 : Nat → Option LoopD := fun n => ifEq n 3 (some ⟨23, sh17_3, xs17_3, spec_l3Numbers_l3⟩) (L17_0 n)
noncomputable def spec_l3Numbers : (List Int) → Option (ByteArray) := fun a0 =>
 Option.bind (loopF spec_l3Numbers_l3 ((⟨#[]⟩ : ByteArray), a0, (((List.length a0) : Nat) : Int), (0 : Int), ())) fun (r0, _) =>
  some r0
noncomputable def A17 : FnA := ⟨[.v (.sl (.int .i64))], true, [.str], fun x => spec_l3Numbers x.1⟩
theorem spec_l3Numbers_eq : fnF E17 L17_1 [.v (.sl (.int .i64))] true [.str] f17.ntmps f17.results.toList (codeOf f17) = fun x => spec_l3Numbers x.1 := by kernel_rfl
theorem A17_ok : FnOk prog 17 A17 := fo spec_l3Numbers_eq func17 E17_ok (allCons (loop17_3 rfl) allNil)
/-! spec.FormatNumbers -/
noncomputable def E5 : Env := ⟨ty0, fun g => ifEq g 17 (some A17) (none), fun _ => none, fun _ => none, fun _ => none⟩
theorem E5_ok : FnsOk prog E5 := (oF A17_ok func17 (noFns _ _))
noncomputable def L5_0 : Nat → Option LoopD := fun _ => none
noncomputable def spec_FormatNumbers : (List Int) → Option (ByteArray) := fun a0 =>
 bif ((((List.length a0) : Nat) : Int) == (0 : Int)) then
  some (⟨#[(45 : UInt8)]⟩ : ByteArray)
 else
  Option.bind (spec_l3Numbers a0) fun r0 =>
   some r0
noncomputable def A5 : FnA := ⟨[.v (.sl (.int .i64))], true, [.str], fun x => spec_FormatNumbers x.1⟩
theorem spec_FormatNumbers_eq : fnF E5 L5_0 [.v (.sl (.int .i64))] true [.str] f5.ntmps f5.results.toList (codeOf f5) = fun x => spec_FormatNumbers x.1 := by kernel_rfl
theorem A5_ok : FnOk prog 5 A5 := fo spec_FormatNumbers_eq func5 E5_ok allNil
/-! impl.ShowWord -/
noncomputable def E14 : Env := ⟨ty0, fun _ => none, fun _ => none, fun _ => none, fun _ => none⟩
theorem E14_ok : FnsOk prog E14 := (noFns _ _)
noncomputable def L14_0 : Nat → Option LoopD := fun _ => none
noncomputable def impl_ShowWord : ByteArray → Option (ByteArray) := fun a0 =>
 bif ((ByteArray.toList a0) == (ByteArray.toList (⟨#[]⟩ : ByteArray))) then
  some (⟨#[(45 : UInt8)]⟩ : ByteArray)
 else
  some a0
noncomputable def A14 : FnA := ⟨[.v .str], true, [.str], fun x => impl_ShowWord x.1⟩
theorem impl_ShowWord_eq : fnF E14 L14_0 [.v .str] true [.str] f14.ntmps f14.results.toList (codeOf f14) = fun x => impl_ShowWord x.1 := by kernel_rfl
theorem A14_ok : FnOk prog 14 A14 := fo impl_ShowWord_eq func14 E14_ok allNil
/-! spec.ShowWord -/
noncomputable def E15 : Env := ⟨ty0, fun _ => none, fun _ => none, fun _ => none, fun _ => none⟩
theorem E15_ok : FnsOk prog E15 := (noFns _ _)
noncomputable def L15_0 : Nat → Option LoopD := fun _ => none
noncomputable def spec_ShowWord : ByteArray → Option (ByteArray) := fun a0 =>
 bif ((ByteArray.toList a0) == (ByteArray.toList (⟨#[]⟩ : ByteArray))) then
  some (⟨#[(45 : UInt8)]⟩ : ByteArray)
 else
  some a0
noncomputable def A15 : FnA := ⟨[.v .str], true, [.str], fun x => spec_ShowWord x.1⟩
theorem spec_ShowWord_eq : fnF E15 L15_0 [.v .str] true [.str] f15.ntmps f15.results.toList (codeOf f15) = fun x => spec_ShowWord x.1 := by kernel_rfl
theorem A15_ok : FnOk prog 15 A15 := fo spec_ShowWord_eq func15 E15_ok allNil
/-! laws.daSame -/
noncomputable def E16 : Env := ⟨ty0, fun _ => none, fun _ => none, fun _ => none, fun _ => none⟩
theorem E16_ok : FnsOk prog E16 := (noFns _ _)
noncomputable def L16_0 : Nat → Option LoopD := fun _ => none
def sh16_2 : List Fm := .cell (.val (.sl (.int .i64))) :: .cell (.val (.sl (.int .i64))) :: D 8 (.cell (.val (.int .i64)) :: .cell (.val (.int .i64)) :: D 17 [])
def xs16_2 : List (Ex × List Fm) := [(.ret, (D 4 (.cell (.val .bool) :: D 24 []))), (.exit 0, (.cell (.val (.sl (.int .i64))) :: .cell (.val (.sl (.int .i64))) :: D 27 []))]
noncomputable def laws_daSame_l2 : ((List Int) × (List Int) × Int × Int × Unit) → Option (((List Int) × (List Int) × Int × Int × Unit) ⊕ ((Bool × Unit) ⊕ ((List Int) × (List Int) × Unit))) := fun (v0, v1, v10, v11, _) =>
 bif (decide (v11 < v10)) then
  if (((0 : Int) ≤ v11) ∧ (v11 < (((List.length v0) : Nat) : Int))) then
   if (((0 : Int) ≤ v11) ∧ (v11 < (((List.length v1) : Nat) : Int))) then
    bif ((List.getD v0 (Int.toNat v11) (0 : Int)) != (List.getD v1 (Int.toNat v11) (0 : Int))) then
     some (Sum.inr (Sum.inl (false, ())))
    else
     some (Sum.inl (v0, v1, v10, (IntKind.wrap .i64 (v11 + (1 : Int))), ()))
   else
    none
  else
   none
 else
  some (Sum.inr (Sum.inr (v0, v1, ())))
theorem laws_daSame_l2_eq : loopStep 29 E16 L16_0 (loopOf f16 2) sh16_2 xs16_2 = laws_daSame_l2 := by kernel_rfl
theorem loop16_2 {L} (h : L 2 = some ⟨29, sh16_2, xs16_2, laws_daSame_l2⟩) : LoopOk prog L (loopOf f16 2) := lo laws_daSame_l2_eq E16_ok allNil h
noncomputable def L16_1 : Nat → Option LoopD := fun n => ifEq n 2 (some ⟨29, sh16_2, xs16_2, laws_daSame_l2⟩) (L16_0 n)
noncomputable def laws_daSame : (List Int) → (List Int) → Option (Bool) := fun a0 a1 =>
 Option.bind (loopF laws_daSame_l2 (a0, a1, (if ((((List.length a1) : Nat) : Int) < (((List.length a0) : Nat) : Int)) then (((List.length a1) : Nat) : Int) else (((List.length a0) : Nat) : Int)), (0 : Int), ())) fun r0 =>
  (match r0 with
  | .inl (d1, _) =>
    some d1
  | .inr (d2, d3, _) =>
    some ((((List.length d2) : Nat) : Int) == (((List.length d3) : Nat) : Int)))
noncomputable def A16 : FnA := ⟨[.v (.sl (.int .i64)), .v (.sl (.int .i64))], true, [.bool], fun x => laws_daSame x.1 x.2.1⟩
theorem laws_daSame_eq : fnF E16 L16_1 [.v (.sl (.int .i64)), .v (.sl (.int .i64))] true [.bool] f16.ntmps f16.results.toList (codeOf f16) = fun x => laws_daSame x.1 x.2.1 := by kernel_rfl
theorem A16_ok : FnOk prog 16 A16 := fo laws_daSame_eq func16 E16_ok (allCons (loop16_2 rfl) allNil)
/-! laws.FnTexts -/
noncomputable def E4 : Env := ⟨ty0, fun g => ifEq g 9 (some A9) (ifEq g 10 (some A10) (ifEq g 11 (some A11) (ifEq g 12 (some A12) (ifEq g 13 (some A13) (ifEq g 7 (some A7) (ifEq g 5 (some A5) (ifEq g 14 (some A14) (ifEq g 15 (some A15) (ifEq g 16 (some A16) (none)))))))))), fun _ => none, fun _ => none, fun _ => none⟩
theorem E4_ok : FnsOk prog E4 := (oF A9_ok func9 (oF A10_ok func10 (oF A11_ok func11 (oF A12_ok func12 (oF A13_ok func13 (oF A7_ok func7 (oF A5_ok func5 (oF A14_ok func14 (oF A15_ok func15 (oF A16_ok func16 (noFns _ _)))))))))))
noncomputable def L4_0 : Nat → Option LoopD := fun _ => none
noncomputable def laws_FnTexts : (List Int) → (List Int) → Option (Bool) := fun a0 a1 =>
 bif (decide ((((List.length a0) : Nat) : Int) > (1048576 : Int))) then
  some true
 else
  bif (decide ((((List.length a1) : Nat) : Int) > (1048576 : Int))) then
   some true
  else
   Option.bind (spec_DrawFormatElement a0) fun ((r0, r1), r2) =>
    Option.bind (spec_DrawFormatNumbers a0) fun r3 =>
     Option.bind (spec_DrawShowWord a0) fun r4 =>
      Option.bind (spec_DrawFormatNumbers a1) fun r5 =>
       Option.bind (spec_DrawShowWord a1) fun r6 =>
        Option.bind (impl_FormatElement ((r0, r1), r2)) fun r7 =>
         Option.bind (spec_FormatElement ((r0, r1), r2)) fun r8 =>
          bif ((ByteArray.toList r7) == (ByteArray.toList r8)) then
           Option.bind (impl_FormatNumbers (List.take (List.length r3) (List.drop 0 r3))) fun r9 =>
            Option.bind (spec_FormatNumbers (List.take (List.length r3) (List.drop 0 r3))) fun r10 =>
             bif ((ByteArray.toList r9) == (ByteArray.toList r10)) then
              Option.bind (impl_ShowWord r4) fun r11 =>
               Option.bind (spec_ShowWord r4) fun r12 =>
                bif ((ByteArray.toList r11) == (ByteArray.toList r12)) then
                 Option.bind (impl_FormatNumbers (List.take (List.length r3) (List.drop 0 r3))) fun r13 =>
                  Option.bind (impl_FormatNumbers (List.take (List.length r5) (List.drop 0 r5))) fun r14 =>
                   Option.bind (laws_daSame (List.take (List.length r3) (List.drop 0 r3)) (List.take (List.length r5) (List.drop 0 r5))) fun r15 =>
                    bif (((ByteArray.toList r13) == (ByteArray.toList r14)) == r15) then
                     Option.bind (impl_ShowWord r4) fun r16 =>
                      Option.bind (impl_ShowWord r6) fun r17 =>
                       some (((ByteArray.toList r16) == (ByteArray.toList r17)) == ((ByteArray.toList r4) == (ByteArray.toList r6)))
                    else
                     some false
                else
                 some false
             else
              some false
          else
           some false
noncomputable def A4 : FnA := ⟨[.v (.sl (.int .u8)), .v (.sl (.int .u8))], true, [.bool], fun x => laws_FnTexts x.1 x.2.1⟩
theorem laws_FnTexts_eq : fnF E4 L4_0 [.v (.sl (.int .u8)), .v (.sl (.int .u8))] true [.bool] f4.ntmps f4.results.toList (codeOf f4) = fun x => laws_FnTexts x.1 x.2.1 := by kernel_rfl
theorem A4_ok : FnOk prog 4 A4 := fo laws_FnTexts_eq func4 E4_ok allNil
end Go.Proofs.YtgmgnijklampiaaDoor
