/- What Go functions that the laws reach compute, and that they do: written by a program of this session. -/
import Derived.Test.YtfdhmmnffahhgaaCmp
import Derived.KernelRfl
set_option linter.unusedVariables false
namespace Go.Proofs.Ytfdhmmnffahhgaa
open Go Go.Proofs.Ytfdhmmnffahhgaa.Am Go.Proofs.Try
set_option maxRecDepth 100000
def tyl : List (Nat × TyD) := [(3, {kd := .int .i64}),
 (4, {kd := .bool}),
 (5, {kd := .int .u8}),
 (9, {kd := .str}),
 (22, {kd := .sl (.int .u8), elt := .int .u8, bytes := 1}),
 (23, {kd := .sl (.int .i64), elt := .int .i64, bytes := 8}),
 (24, {kd := .sl (.pair (.int .i64) (.pair .str (.pair (.int .i64) (.int .i64)))), elt := .pair (.int .i64) (.pair .str (.pair (.int .i64) (.int .i64))), bytes := 40}),
 (26, {kd := .pair (.int .i64) (.pair (.sl (.int .i64)) (.pair (.sl (.int .i64)) (.sl (.pair (.int .i64) (.pair .str (.pair (.int .i64) (.int .i64))))))), flds := [(0, .int .i64), (1, .sl (.int .i64)), (2, .sl (.int .i64)), (3, .sl (.pair (.int .i64) (.pair .str (.pair (.int .i64) (.int .i64)))))]}),
 (28, {kd := .sl (.pair (.pair (.int .i64) (.sl (.int .i64))) .str), elt := .pair (.pair (.int .i64) (.sl (.int .i64))) .str, bytes := 48}),
 (32, {kd := .pair (.int .i64) (.sl (.int .i64)), flds := [(0, .int .i64), (1, .sl (.int .i64))]}),
 (34, {kd := .pair (.pair (.int .i64) (.sl (.int .i64))) .str, flds := [(0, .pair (.int .i64) (.sl (.int .i64))), (2, .str)]}),
 (44, {kd := .sl .str, elt := .str, bytes := 16}),
 (66, {kd := .pair (.sl (.pair (.pair (.int .i64) (.sl (.int .i64))) .str)) .bool, flds := [(0, .sl (.pair (.pair (.int .i64) (.sl (.int .i64))) .str)), (1, .bool)]}),
 (79, {kd := .pair (.int .i64) (.pair .str (.pair (.int .i64) (.int .i64))), flds := [(0, .int .i64), (1, .str), (2, .int .i64), (3, .int .i64)]}),
 (101, {kd := .pair (.sl (.int .u8)) (.int .i64), flds := [(0, .sl (.int .u8)), (1, .int .i64)]}),
 (102, {kd := .sl (.pair .str .pt), elt := .pair .str .pt, bytes := 40}),
 (133, {kd := .pair .str .pt, flds := [(0, .str), (1, .pt)]}),
 (139, {kd := .pair (.sl (.pair (.pair (.int .i64) (.sl (.int .i64))) .str)) .bool, flds := [(0, .sl (.pair (.pair (.int .i64) (.sl (.int .i64))) .str)), (1, .bool)]})]
def ty0 : Nat → Option TyD := assoc tyl
theorem tyl_ok : tysOkB prog tyl = true := by kernel_rfl
theorem mixed : prog.follows .mixedOrders = true := by kernel_rfl
def D : Nat → List Fm → List Fm
 | 0, l => l
 | n + 1, l => .cell .drop :: D n l
theorem oF {g : Nat} {f : FnA} {fn : Func} {ty : Nat → Option TyD} {rest : Nat → Option FnA} {ms : Nat → Option FnM} {bs : Nat → Option FnB} {il : Nat → Option (Nat × CallD)} (h : FnOk prog g f) (hf : prog.funcs[g]? = some fn) (hr : FnsOk prog ⟨ty, rest, ms, bs, il⟩)
  (h1 : (fn.name == "runtime.NumGoroutine") = false := by kernel_rfl) (h2 : fn.body.isSome = true := by kernel_rfl) : FnsOk prog ⟨ty, fun n => ifEq n g (some f) (rest n), ms, bs, il⟩ := oneFn h hf h1 h2 hr
theorem tyk {E : Env} (h : E.ty = ty0) : TysOk prog E := by
 obtain ⟨ty, fn, ms, bs, il⟩ := E
 obtain rfl : ty = ty0 := h
 exact tysOk_of tyl_ok
theorem fo {E : Env} {L : Nat → Option LoopD} {g : Nat} {fn : Func} {ps : List Prm} {own : Bool} {outs : List Kd} {F : PrmsT ps → Option (OutsT outs)} {bs : List Code} (he : fnF E L ps own outs fn.ntmps fn.results.toList (codeOf fn) = F) (hf : prog.funcs[g]? = some fn) (hF : FnsOk prog E)
  (hs : ∀ b ∈ bs, LoopOk prog L b) (hb : fn.body = some (codeOf fn) := by kernel_rfl) (hl : loopsOf (codeOf fn) = bs := by kernel_rfl) (hd : drawsB E (drawsOf (codeOf fn)) = true := by kernel_rfl) (hE : E.ty = ty0 := by rfl) : FnOk prog g ⟨ps, own, outs, F⟩ := by
 have h := fnOk_of_run (P := prog) (tyk hE) hF (L := L) (ps := ps) (own := own) (outs := outs) hf hb (codeOk_in (tyk hE) hF mixed hl hs hd)
 rw [he] at h
 exact h
theorem lo {E : Env} {L L' : Nat → Option LoopD} {n i : Nat} {b : Code} {bs : List Code} {sh : List Fm} {xs : List (Ex × List Fm)} {f : FmsT sh → Option (FmsT sh ⊕ XsT xs)} (he : loopStep n E L' b sh xs = f) (hF : FnsOk prog E)
  (hs : ∀ b ∈ bs, LoopOk prog L' b) (h : L i = some ⟨n, sh, xs, f⟩) (hl : loopsOf b = bs := by kernel_rfl) (hd : drawsB E (drawsOf b) = true := by kernel_rfl) (h1 : nodupN (toksF sh) = true := by kernel_rfl) (h2 : okXs xs = true := by kernel_rfl) (hi : firstId b = i := by kernel_rfl) (hE : E.ty = ty0 := by rfl) : LoopOk prog L b :=
 loopOk (tyk hE) hF (codeOk_in (tyk hE) hF mixed hl hs hd) h1 h2 he (by rw [hi]; exact h)
abbrev d : Fm := .cell .drop
/-! spec.l13Open -/
noncomputable def E30 : Env := ⟨ty0, fun _ => none, fun _ => none, fun _ => none, fun _ => none⟩
theorem E30_ok : FnsOk prog E30 := (noFns _ _)
noncomputable def L30_0 : Nat → Option LoopD := fun _ => none
noncomputable def spec_l13Open : (List Int) → Option (((List Int) × Int)) := fun a0 =>
 bif (decide ((((List.length a0) : Nat) : Int) > (2000 : Int))) then
  if (((0 : Int) ≤ (2000 : Int)) ∧ ((2000 : Int) ≤ (((List.length a0) : Nat) : Int))) then
   some ((List.take ((Int.toNat (2000 : Int)) - 0) (List.drop 0 a0)), (0 : Int))
  else
   none
 else
  some (a0, (0 : Int))
noncomputable def A30 : FnB := ⟨[.v (.sl (.int .u8))], .pair (.sl (.int .u8)) (.int .i64), fun x => spec_l13Open x.1⟩
theorem spec_l13Open_eq : fnBF E30 L30_0 [.v (.sl (.int .u8))] (.pair (.sl (.int .u8)) (.int .i64)) f30.ntmps f30.results.toList (codeOf f30) = fun x => spec_l13Open x.1 := by kernel_rfl
theorem A30_ok : FnBOk prog 30 A30 := by
 have h := fnBOk_of_run (P := prog) (E := E30) (tysOk_of tyl_ok) E30_ok (L := L30_0) (ps := [.v (.sl (.int .u8))]) (k := .pair (.sl (.int .u8)) (.int .i64)) func30 (c := codeOf f30) (by kernel_rfl) (codeOk_in (L := L30_0) (tysOk_of tyl_ok) E30_ok mixed (c := codeOf f30) (bs := []) (by kernel_rfl) allNil (by kernel_rfl))
 rw [spec_l13Open_eq] at h
 exact h
/-! (*spec.l13Rd).pick -/
noncomputable def E72 : Env := ⟨ty0, fun _ => none, fun _ => none, fun _ => none, fun _ => none⟩
theorem E72_ok : FnsOk prog E72 := (noFns _ _)
noncomputable def L72_0 : Nat → Option LoopD := fun _ => none
noncomputable def spec_l13Rd_pick : ((List Int) × Int) → Int → Option ((Int) × (((List Int) × Int) × Unit)) := fun (a0_0, a0_1) a1 =>
 bif (decide (a1 < (1 : Int))) then
  some ((0 : Int), (a0_0, (IntKind.wrap .i64 (a0_1 + (1 : Int)))), ())
 else
  bif ((((List.length a0_0) : Nat) : Int) == (0 : Int)) then
   some ((0 : Int), (a0_0, (IntKind.wrap .i64 (a0_1 + (1 : Int)))), ())
  else
   bif (decide ((IntKind.wrap .i64 ((IntKind.wrap .i64 (a0_1 + (1 : Int))) - (1 : Int))) < (((List.length a0_0) : Nat) : Int))) then
    if (((0 : Int) ≤ (IntKind.wrap .i64 ((IntKind.wrap .i64 (a0_1 + (1 : Int))) - (1 : Int)))) ∧ ((IntKind.wrap .i64 ((IntKind.wrap .i64 (a0_1 + (1 : Int))) - (1 : Int))) < (((List.length a0_0) : Nat) : Int))) then
     if (a1 = (0 : Int)) then
      none
     else
      some ((Int.tmod (IntKind.wrap .i64 (List.getD a0_0 (Int.toNat (IntKind.wrap .i64 ((IntKind.wrap .i64 (a0_1 + (1 : Int))) - (1 : Int)))) (0 : Int))) a1), (a0_0, (IntKind.wrap .i64 (a0_1 + (1 : Int)))), ())
    else
     none
   else
    if ((((List.length a0_0) : Nat) : Int) = (0 : Int)) then
     none
    else
     if (((0 : Int) ≤ (Int.tmod (IntKind.wrap .i64 ((IntKind.wrap .i64 (a0_1 + (1 : Int))) - (1 : Int))) (((List.length a0_0) : Nat) : Int))) ∧ ((Int.tmod (IntKind.wrap .i64 ((IntKind.wrap .i64 (a0_1 + (1 : Int))) - (1 : Int))) (((List.length a0_0) : Nat) : Int)) < (((List.length a0_0) : Nat) : Int))) then
      if ((((List.length a0_0) : Nat) : Int) = (0 : Int)) then
       none
      else
       if (((0 : Int) ≤ (Int.tmod (IntKind.wrap .i64 ((IntKind.wrap .i64 ((IntKind.wrap .i64 ((IntKind.wrap .i64 (a0_1 + (1 : Int))) - (1 : Int))) * (7 : Int))) + (3 : Int))) (((List.length a0_0) : Nat) : Int))) ∧ ((Int.tmod (IntKind.wrap .i64 ((IntKind.wrap .i64 ((IntKind.wrap .i64 ((IntKind.wrap .i64 (a0_1 + (1 : Int))) - (1 : Int))) * (7 : Int))) + (3 : Int))) (((List.length a0_0) : Nat) : Int)) < (((List.length a0_0) : Nat) : Int))) then
        if ((((List.length a0_0) : Nat) : Int) = (0 : Int)) then
         none
        else
         if ((64 : Int) = (0 : Int)) then
          none
         else
          if (a1 = (0 : Int)) then
           none
          else
           some ((Int.tmod (Decidable.rec (fun y0 => ((((BitVec.toNat ((BitVec.ofInt (IntKind.bits .i64) (IntKind.wrap .i64 ((IntKind.wrap .i64 ((IntKind.wrap .i64 ((IntKind.wrap .i64 ((IntKind.wrap .i64 (List.getD a0_0 (Int.toNat (Int.tmod (IntKind.wrap .i64 ((IntKind.wrap .i64 (a0_1 + (1 : Int))) - (1 : Int))) (((List.length a0_0) : Nat) : Int))) (0 : Int))) * (131 : Int))) + (IntKind.wrap .i64 ((IntKind.wrap .i64 (List.getD a0_0 (Int.toNat (Int.tmod (IntKind.wrap .i64 ((IntKind.wrap .i64 ((IntKind.wrap .i64 ((IntKind.wrap .i64 (a0_1 + (1 : Int))) - (1 : Int))) * (7 : Int))) + (3 : Int))) (((List.length a0_0) : Nat) : Int))) (0 : Int))) * (1117 : Int))))) + (IntKind.wrap .i64 ((IntKind.wrap .i64 ((IntKind.wrap .i64 (a0_1 + (1 : Int))) - (1 : Int))) * (29 : Int))))) + (IntKind.wrap .i64 ((IntKind.wrap .i64 (Int.tdiv (IntKind.wrap .i64 ((IntKind.wrap .i64 (a0_1 + (1 : Int))) - (1 : Int))) (((List.length a0_0) : Nat) : Int))) * (53 : Int)))))) ^^^ (BitVec.ofInt (IntKind.bits .i64) (IntKind.wrap .i64 (Int.tdiv (IntKind.wrap .i64 ((IntKind.wrap .i64 ((IntKind.wrap .i64 ((IntKind.wrap .i64 ((IntKind.wrap .i64 (List.getD a0_0 (Int.toNat (Int.tmod (IntKind.wrap .i64 ((IntKind.wrap .i64 (a0_1 + (1 : Int))) - (1 : Int))) (((List.length a0_0) : Nat) : Int))) (0 : Int))) * (131 : Int))) + (IntKind.wrap .i64 ((IntKind.wrap .i64 (List.getD a0_0 (Int.toNat (Int.tmod (IntKind.wrap .i64 ((IntKind.wrap .i64 ((IntKind.wrap .i64 ((IntKind.wrap .i64 (a0_1 + (1 : Int))) - (1 : Int))) * (7 : Int))) + (3 : Int))) (((List.length a0_0) : Nat) : Int))) (0 : Int))) * (1117 : Int))))) + (IntKind.wrap .i64 ((IntKind.wrap .i64 ((IntKind.wrap .i64 (a0_1 + (1 : Int))) - (1 : Int))) * (29 : Int))))) + (IntKind.wrap .i64 ((IntKind.wrap .i64 (Int.tdiv (IntKind.wrap .i64 ((IntKind.wrap .i64 (a0_1 + (1 : Int))) - (1 : Int))) (((List.length a0_0) : Nat) : Int))) * (53 : Int))))) (64 : Int)))))) : Nat) : Int) % ((2 : Int) ^ (IntKind.bits .i64)))) (fun y1 => (((((BitVec.toNat ((BitVec.ofInt (IntKind.bits .i64) (IntKind.wrap .i64 ((IntKind.wrap .i64 ((IntKind.wrap .i64 ((IntKind.wrap .i64 ((IntKind.wrap .i64 (List.getD a0_0 (Int.toNat (Int.tmod (IntKind.wrap .i64 ((IntKind.wrap .i64 (a0_1 + (1 : Int))) - (1 : Int))) (((List.length a0_0) : Nat) : Int))) (0 : Int))) * (131 : Int))) + (IntKind.wrap .i64 ((IntKind.wrap .i64 (List.getD a0_0 (Int.toNat (Int.tmod (IntKind.wrap .i64 ((IntKind.wrap .i64 ((IntKind.wrap .i64 ((IntKind.wrap .i64 (a0_1 + (1 : Int))) - (1 : Int))) * (7 : Int))) + (3 : Int))) (((List.length a0_0) : Nat) : Int))) (0 : Int))) * (1117 : Int))))) + (IntKind.wrap .i64 ((IntKind.wrap .i64 ((IntKind.wrap .i64 (a0_1 + (1 : Int))) - (1 : Int))) * (29 : Int))))) + (IntKind.wrap .i64 ((IntKind.wrap .i64 (Int.tdiv (IntKind.wrap .i64 ((IntKind.wrap .i64 (a0_1 + (1 : Int))) - (1 : Int))) (((List.length a0_0) : Nat) : Int))) * (53 : Int)))))) ^^^ (BitVec.ofInt (IntKind.bits .i64) (IntKind.wrap .i64 (Int.tdiv (IntKind.wrap .i64 ((IntKind.wrap .i64 ((IntKind.wrap .i64 ((IntKind.wrap .i64 ((IntKind.wrap .i64 (List.getD a0_0 (Int.toNat (Int.tmod (IntKind.wrap .i64 ((IntKind.wrap .i64 (a0_1 + (1 : Int))) - (1 : Int))) (((List.length a0_0) : Nat) : Int))) (0 : Int))) * (131 : Int))) + (IntKind.wrap .i64 ((IntKind.wrap .i64 (List.getD a0_0 (Int.toNat (Int.tmod (IntKind.wrap .i64 ((IntKind.wrap .i64 ((IntKind.wrap .i64 ((IntKind.wrap .i64 (a0_1 + (1 : Int))) - (1 : Int))) * (7 : Int))) + (3 : Int))) (((List.length a0_0) : Nat) : Int))) (0 : Int))) * (1117 : Int))))) + (IntKind.wrap .i64 ((IntKind.wrap .i64 ((IntKind.wrap .i64 (a0_1 + (1 : Int))) - (1 : Int))) * (29 : Int))))) + (IntKind.wrap .i64 ((IntKind.wrap .i64 (Int.tdiv (IntKind.wrap .i64 ((IntKind.wrap .i64 (a0_1 + (1 : Int))) - (1 : Int))) (((List.length a0_0) : Nat) : Int))) * (53 : Int))))) (64 : Int)))))) : Nat) : Int) % ((2 : Int) ^ (IntKind.bits .i64))) - ((2 : Int) ^ (IntKind.bits .i64)))) (instDecidableEqBool ((IntKind.signed .i64) && (decide (((((BitVec.toNat ((BitVec.ofInt (IntKind.bits .i64) (IntKind.wrap .i64 ((IntKind.wrap .i64 ((IntKind.wrap .i64 ((IntKind.wrap .i64 ((IntKind.wrap .i64 (List.getD a0_0 (Int.toNat (Int.tmod (IntKind.wrap .i64 ((IntKind.wrap .i64 (a0_1 + (1 : Int))) - (1 : Int))) (((List.length a0_0) : Nat) : Int))) (0 : Int))) * (131 : Int))) + (IntKind.wrap .i64 ((IntKind.wrap .i64 (List.getD a0_0 (Int.toNat (Int.tmod (IntKind.wrap .i64 ((IntKind.wrap .i64 ((IntKind.wrap .i64 ((IntKind.wrap .i64 (a0_1 + (1 : Int))) - (1 : Int))) * (7 : Int))) + (3 : Int))) (((List.length a0_0) : Nat) : Int))) (0 : Int))) * (1117 : Int))))) + (IntKind.wrap .i64 ((IntKind.wrap .i64 ((IntKind.wrap .i64 (a0_1 + (1 : Int))) - (1 : Int))) * (29 : Int))))) + (IntKind.wrap .i64 ((IntKind.wrap .i64 (Int.tdiv (IntKind.wrap .i64 ((IntKind.wrap .i64 (a0_1 + (1 : Int))) - (1 : Int))) (((List.length a0_0) : Nat) : Int))) * (53 : Int)))))) ^^^ (BitVec.ofInt (IntKind.bits .i64) (IntKind.wrap .i64 (Int.tdiv (IntKind.wrap .i64 ((IntKind.wrap .i64 ((IntKind.wrap .i64 ((IntKind.wrap .i64 ((IntKind.wrap .i64 (List.getD a0_0 (Int.toNat (Int.tmod (IntKind.wrap .i64 ((IntKind.wrap .i64 (a0_1 + (1 : Int))) - (1 : Int))) (((List.length a0_0) : Nat) : Int))) (0 : Int))) * (131 : Int))) + (IntKind.wrap .i64 ((IntKind.wrap .i64 (List.getD a0_0 (Int.toNat (Int.tmod (IntKind.wrap .i64 ((IntKind.wrap .i64 ((IntKind.wrap .i64 ((IntKind.wrap .i64 (a0_1 + (1 : Int))) - (1 : Int))) * (7 : Int))) + (3 : Int))) (((List.length a0_0) : Nat) : Int))) (0 : Int))) * (1117 : Int))))) + (IntKind.wrap .i64 ((IntKind.wrap .i64 ((IntKind.wrap .i64 (a0_1 + (1 : Int))) - (1 : Int))) * (29 : Int))))) + (IntKind.wrap .i64 ((IntKind.wrap .i64 (Int.tdiv (IntKind.wrap .i64 ((IntKind.wrap .i64 (a0_1 + (1 : Int))) - (1 : Int))) (((List.length a0_0) : Nat) : Int))) * (53 : Int))))) (64 : Int)))))) : Nat) : Int) % ((2 : Int) ^ (IntKind.bits .i64))) ≥ ((2 : Int) ^ ((IntKind.bits .i64) - 1))))) true)) a1), (a0_0, (IntKind.wrap .i64 (a0_1 + (1 : Int)))), ())
       else
        none
     else
      none
noncomputable def A72 : FnM := ⟨[.bx (.pair (.sl (.int .u8)) (.int .i64)), .v (.int .i64)], true, [.int .i64], none, fun x => spec_l13Rd_pick x.1 x.2.1⟩
theorem spec_l13Rd_pick_eq : fnMF E72 L72_0 [.bx (.pair (.sl (.int .u8)) (.int .i64)), .v (.int .i64)] true [.int .i64] f72.ntmps f72.results.toList (codeOf f72) = fun x => spec_l13Rd_pick x.1 x.2.1 := by kernel_rfl
theorem A72_ok : FnMOk prog 72 A72 := by
 have h := fnMOk_of_run (P := prog) (E := E72) (tysOk_of tyl_ok) E72_ok (L := L72_0) (ps := [.bx (.pair (.sl (.int .u8)) (.int .i64)), .v (.int .i64)]) (own := true) (outs := [.int .i64]) func72 (c := codeOf f72) (by kernel_rfl) (codeOk_in (L := L72_0) (tysOk_of tyl_ok) E72_ok mixed (c := codeOf f72) (bs := []) (by kernel_rfl) allNil (by kernel_rfl)) (by kernel_rfl)
 rw [spec_l13Rd_pick_eq] at h
 exact h
/-! spec.l13Cut -/
noncomputable def E171 : Env := ⟨ty0, fun _ => none, fun _ => none, fun _ => none, fun _ => none⟩
theorem E171_ok : FnsOk prog E171 := (noFns _ _)
noncomputable def L171_0 : Nat → Option LoopD := fun _ => none
def sh171_4 : List Fm := .cell (.val .str) :: .cell (.val (.int .u8)) :: d :: d :: d :: .cell (.own .str 100500 false) :: .cell (.val (.int .i64)) :: .cell (.val (.int .i64)) :: D 28 []
def xs171_4 : List (Ex × List Fm) := [(.exit 0, (D 5 (.cell (.own .str 100500 false) :: D 30 [])))]
noncomputable def spec_l13Cut_l4 : (ByteArray × Int × (List ByteArray) × Int × Int × Unit) → Option ((ByteArray × Int × (List ByteArray) × Int × Int × Unit) ⊕ (((List ByteArray) × Unit))) := fun (v0, v1, v5, v6, v7, _) =>
 bif (decide (v7 ≤ (((ByteArray.size v0) : Nat) : Int))) then
  bif (v7 == (((ByteArray.size v0) : Nat) : Int)) then
   if (((0 : Int) ≤ v6) ∧ ((v6 ≤ v7) ∧ (v7 ≤ (((ByteArray.size v0) : Nat) : Int)))) then
    if (((0 + (List.length v5)) = (List.length v5)) ∧ ((((List.length v5) + (List.length (List.take 1 (List.drop 0 [(ByteArray.extract v0 (Int.toNat v6) (Int.toNat v7))])))) * 16) ≤ 140737488355328)) then
     some (Sum.inl (v0, v1, (List.take ((List.length v5) + (List.length (List.take 1 (List.drop 0 [(ByteArray.extract v0 (Int.toNat v6) (Int.toNat v7))])))) (List.drop 0 ((List.drop 0 v5) ++ (List.take 1 (List.drop 0 [(ByteArray.extract v0 (Int.toNat v6) (Int.toNat v7))]))))), (IntKind.wrap .i64 (v7 + (1 : Int))), (IntKind.wrap .i64 (v7 + (1 : Int))), ()))
    else
     none
   else
    none
  else
   if (((0 : Int) ≤ v7) ∧ (v7 < (((ByteArray.size v0) : Nat) : Int))) then
    bif ((((UInt8.toNat (Array.getD (ByteArray.data v0) (Int.toNat v7) (0 : UInt8))) : Nat) : Int) == v1) then
     if (((0 : Int) ≤ v6) ∧ ((v6 ≤ v7) ∧ (v7 ≤ (((ByteArray.size v0) : Nat) : Int)))) then
      if (((0 + (List.length v5)) = (List.length v5)) ∧ ((((List.length v5) + (List.length (List.take 1 (List.drop 0 [(ByteArray.extract v0 (Int.toNat v6) (Int.toNat v7))])))) * 16) ≤ 140737488355328)) then
       some (Sum.inl (v0, v1, (List.take ((List.length v5) + (List.length (List.take 1 (List.drop 0 [(ByteArray.extract v0 (Int.toNat v6) (Int.toNat v7))])))) (List.drop 0 ((List.drop 0 v5) ++ (List.take 1 (List.drop 0 [(ByteArray.extract v0 (Int.toNat v6) (Int.toNat v7))]))))), (IntKind.wrap .i64 (v7 + (1 : Int))), (IntKind.wrap .i64 (v7 + (1 : Int))), ()))
      else
       none
     else
      none
    else
     some (Sum.inl (v0, v1, (List.take (List.length v5) (List.drop 0 v5)), v6, (IntKind.wrap .i64 (v7 + (1 : Int))), ()))
   else
    none
 else
  some (Sum.inr ((List.take (List.length v5) (List.drop 0 v5)), ()))
theorem spec_l13Cut_l4_eq : loopStep 36 E171 L171_0 (loopOf f171 4) sh171_4 xs171_4 = spec_l13Cut_l4 := by kernel_rfl
theorem loop171_4 {L} (h : L 4 = some ⟨36, sh171_4, xs171_4, spec_l13Cut_l4⟩) : LoopOk prog L (loopOf f171 4) := lo spec_l13Cut_l4_eq E171_ok allNil h
noncomputable def L171_1 : Nat → Option LoopD := fun n => ifEq n 4 (some ⟨36, sh171_4, xs171_4, spec_l13Cut_l4⟩) (L171_0 n)
noncomputable def spec_l13Cut : ByteArray → Int → Option ((List ByteArray)) := fun a0 a1 =>
 Option.bind (loopF spec_l13Cut_l4 (a0, a1, (List.take 0 (List.drop 0 [])), (0 : Int), (0 : Int), ())) fun (r0, _) =>
  some (List.take (List.length r0) (List.drop 0 r0))
noncomputable def A171 : FnA := ⟨[.v .str, .v (.int .u8)], true, [.sl .str], fun x => spec_l13Cut x.1 x.2.1⟩
theorem spec_l13Cut_eq : fnF E171 L171_1 [.v .str, .v (.int .u8)] true [.sl .str] f171.ntmps f171.results.toList (codeOf f171) = fun x => spec_l13Cut x.1 x.2.1 := by kernel_rfl
theorem A171_ok : FnOk prog 171 A171 := fo spec_l13Cut_eq func171 E171_ok (allCons (loop171_4 rfl) allNil)
/-! spec.l13Num -/
noncomputable def E172 : Env := ⟨ty0, fun _ => none, fun _ => none, fun _ => none, fun _ => none⟩
theorem E172_ok : FnsOk prog E172 := (noFns _ _)
noncomputable def L172_0 : Nat → Option LoopD := fun _ => none
def sh172_8 : List Fm := .cell (.val .str) :: d :: d :: d :: .cell (.val .bool) :: .cell (.val (.int .i64)) :: .cell (.val (.int .i64)) :: D 60 []
def xs172_8 : List (Ex × List Fm) := [(.ret, (d :: d :: .cell (.val (.int .i64)) :: .cell (.val .bool) :: D 63 [])), (.exit 0, (D 4 (.cell (.val .bool) :: .cell (.val (.int .i64)) :: D 61 [])))]
noncomputable def spec_l13Num_l8 : (ByteArray × Bool × Int × Int × Unit) → Option ((ByteArray × Bool × Int × Int × Unit) ⊕ ((Int × Bool × Unit) ⊕ (Bool × Int × Unit))) := fun (v0, v4, v5, v6, _) =>
 bif (decide (v6 < (((ByteArray.size v0) : Nat) : Int))) then
  if (((0 : Int) ≤ v6) ∧ (v6 < (((ByteArray.size v0) : Nat) : Int))) then
   bif (decide ((((UInt8.toNat (Array.getD (ByteArray.data v0) (Int.toNat v6) (0 : UInt8))) : Nat) : Int) < (48 : Int))) then
    some (Sum.inr (Sum.inl ((0 : Int), false, ())))
   else
    if (((0 : Int) ≤ v6) ∧ (v6 < (((ByteArray.size v0) : Nat) : Int))) then
     bif (decide ((((UInt8.toNat (Array.getD (ByteArray.data v0) (Int.toNat v6) (0 : UInt8))) : Nat) : Int) > (57 : Int))) then
      some (Sum.inr (Sum.inl ((0 : Int), false, ())))
     else
      if (((0 : Int) ≤ v6) ∧ (v6 < (((ByteArray.size v0) : Nat) : Int))) then
       some (Sum.inl (v0, v4, (IntKind.wrap .i64 ((IntKind.wrap .i64 (v5 * (10 : Int))) + (IntKind.wrap .i64 (IntKind.wrap .u8 ((((UInt8.toNat (Array.getD (ByteArray.data v0) (Int.toNat v6) (0 : UInt8))) : Nat) : Int) - (48 : Int)))))), (IntKind.wrap .i64 (v6 + (1 : Int))), ()))
      else
       none
    else
     none
  else
   none
 else
  some (Sum.inr (Sum.inr (v4, v5, ())))
theorem spec_l13Num_l8_eq : loopStep 67 E172 L172_0 (loopOf f172 8) sh172_8 xs172_8 = spec_l13Num_l8 := by kernel_rfl
theorem loop172_8 {L} (h : L 8 = some ⟨67, sh172_8, xs172_8, spec_l13Num_l8⟩) : LoopOk prog L (loopOf f172 8) := lo spec_l13Num_l8_eq E172_ok allNil h
noncomputable def L172_1 : Nat → Option LoopD := fun n => ifEq n 8 (some ⟨67, sh172_8, xs172_8, spec_l13Num_l8⟩) (L172_0 n)
noncomputable def spec_l13Num : ByteArray → Option (Int × Bool) := fun a0 =>
 bif (decide ((((ByteArray.size a0) : Nat) : Int) > (0 : Int))) then
  if (((0 : Int) ≤ (0 : Int)) ∧ ((0 : Int) < (((ByteArray.size a0) : Nat) : Int))) then
   bif ((((UInt8.toNat (Array.getD (ByteArray.data a0) (Int.toNat (0 : Int)) (0 : UInt8))) : Nat) : Int) == (45 : Int)) then
    if (((0 : Int) ≤ (1 : Int)) ∧ ((1 : Int) ≤ (((ByteArray.size a0) : Nat) : Int))) then
     bif ((((ByteArray.size (ByteArray.extract a0 (Int.toNat (1 : Int)) (ByteArray.size a0))) : Nat) : Int) == (0 : Int)) then
      some ((0 : Int), false)
     else
      bif (decide ((((ByteArray.size (ByteArray.extract a0 (Int.toNat (1 : Int)) (ByteArray.size a0))) : Nat) : Int) > (17 : Int))) then
       some ((0 : Int), false)
      else
       if (((0 : Int) ≤ (0 : Int)) ∧ ((0 : Int) < (((ByteArray.size (ByteArray.extract a0 (Int.toNat (1 : Int)) (ByteArray.size a0))) : Nat) : Int))) then
        bif ((((UInt8.toNat (Array.getD (ByteArray.data (ByteArray.extract a0 (Int.toNat (1 : Int)) (ByteArray.size a0))) (Int.toNat (0 : Int)) (0 : UInt8))) : Nat) : Int) == (48 : Int)) then
         bif (decide ((((ByteArray.size (ByteArray.extract a0 (Int.toNat (1 : Int)) (ByteArray.size a0))) : Nat) : Int) > (1 : Int))) then
          some ((0 : Int), false)
         else
          bif ((((UInt8.toNat (Array.getD (ByteArray.data a0) (Int.toNat (0 : Int)) (0 : UInt8))) : Nat) : Int) == (45 : Int)) then
           some ((0 : Int), false)
          else
           Option.bind (loopF spec_l13Num_l8 ((ByteArray.extract a0 (Int.toNat (1 : Int)) (ByteArray.size a0)), ((((UInt8.toNat (Array.getD (ByteArray.data a0) (Int.toNat (0 : Int)) (0 : UInt8))) : Nat) : Int) == (45 : Int)), (0 : Int), (0 : Int), ())) fun r0 =>
            (match r0 with
            | .inl (d1, d2, _) =>
              some (d1, d2)
            | .inr (d3, d4, _) =>
              bif d3 then
               some ((IntKind.wrap .i64 ((0 : Int) - d4)), true)
              else
               some (d4, true))
        else
         Option.bind (loopF spec_l13Num_l8 ((ByteArray.extract a0 (Int.toNat (1 : Int)) (ByteArray.size a0)), ((((UInt8.toNat (Array.getD (ByteArray.data a0) (Int.toNat (0 : Int)) (0 : UInt8))) : Nat) : Int) == (45 : Int)), (0 : Int), (0 : Int), ())) fun r5 =>
          (match r5 with
          | .inl (d6, d7, _) =>
            some (d6, d7)
          | .inr (d8, d9, _) =>
            bif d8 then
             some ((IntKind.wrap .i64 ((0 : Int) - d9)), true)
            else
             some (d9, true))
       else
        none
    else
     none
   else
    bif ((((ByteArray.size a0) : Nat) : Int) == (0 : Int)) then
     some ((0 : Int), false)
    else
     bif (decide ((((ByteArray.size a0) : Nat) : Int) > (17 : Int))) then
      some ((0 : Int), false)
     else
      if (((0 : Int) ≤ (0 : Int)) ∧ ((0 : Int) < (((ByteArray.size a0) : Nat) : Int))) then
       bif ((((UInt8.toNat (Array.getD (ByteArray.data a0) (Int.toNat (0 : Int)) (0 : UInt8))) : Nat) : Int) == (48 : Int)) then
        bif (decide ((((ByteArray.size a0) : Nat) : Int) > (1 : Int))) then
         some ((0 : Int), false)
        else
         bif ((((UInt8.toNat (Array.getD (ByteArray.data a0) (Int.toNat (0 : Int)) (0 : UInt8))) : Nat) : Int) == (45 : Int)) then
          some ((0 : Int), false)
         else
          Option.bind (loopF spec_l13Num_l8 (a0, ((((UInt8.toNat (Array.getD (ByteArray.data a0) (Int.toNat (0 : Int)) (0 : UInt8))) : Nat) : Int) == (45 : Int)), (0 : Int), (0 : Int), ())) fun r10 =>
           (match r10 with
           | .inl (d11, d12, _) =>
             some (d11, d12)
           | .inr (d13, d14, _) =>
             bif d13 then
              some ((IntKind.wrap .i64 ((0 : Int) - d14)), true)
             else
              some (d14, true))
       else
        Option.bind (loopF spec_l13Num_l8 (a0, ((((UInt8.toNat (Array.getD (ByteArray.data a0) (Int.toNat (0 : Int)) (0 : UInt8))) : Nat) : Int) == (45 : Int)), (0 : Int), (0 : Int), ())) fun r15 =>
         (match r15 with
         | .inl (d16, d17, _) =>
           some (d16, d17)
         | .inr (d18, d19, _) =>
           bif d18 then
            some ((IntKind.wrap .i64 ((0 : Int) - d19)), true)
           else
            some (d19, true))
      else
       none
  else
   none
 else
  bif ((((ByteArray.size a0) : Nat) : Int) == (0 : Int)) then
   some ((0 : Int), false)
  else
   bif (decide ((((ByteArray.size a0) : Nat) : Int) > (17 : Int))) then
    some ((0 : Int), false)
   else
    if (((0 : Int) ≤ (0 : Int)) ∧ ((0 : Int) < (((ByteArray.size a0) : Nat) : Int))) then
     bif ((((UInt8.toNat (Array.getD (ByteArray.data a0) (Int.toNat (0 : Int)) (0 : UInt8))) : Nat) : Int) == (48 : Int)) then
      bif (decide ((((ByteArray.size a0) : Nat) : Int) > (1 : Int))) then
       some ((0 : Int), false)
      else
       Option.bind (loopF spec_l13Num_l8 (a0, false, (0 : Int), (0 : Int), ())) fun r20 =>
        (match r20 with
        | .inl (d21, d22, _) =>
          some (d21, d22)
        | .inr (d23, d24, _) =>
          bif d23 then
           some ((IntKind.wrap .i64 ((0 : Int) - d24)), true)
          else
           some (d24, true))
     else
      Option.bind (loopF spec_l13Num_l8 (a0, false, (0 : Int), (0 : Int), ())) fun r25 =>
       (match r25 with
       | .inl (d26, d27, _) =>
         some (d26, d27)
       | .inr (d28, d29, _) =>
         bif d28 then
          some ((IntKind.wrap .i64 ((0 : Int) - d29)), true)
         else
          some (d29, true))
    else
     none
noncomputable def A172 : FnA := ⟨[.v .str], true, [.int .i64, .bool], fun x => spec_l13Num x.1⟩
theorem spec_l13Num_eq : fnF E172 L172_1 [.v .str] true [.int .i64, .bool] f172.ntmps f172.results.toList (codeOf f172) = fun x => spec_l13Num x.1 := by kernel_rfl
theorem A172_ok : FnOk prog 172 A172 := fo spec_l13Num_eq func172 E172_ok (allCons (loop172_8 rfl) allNil)
/-! spec.l3Read -/
noncomputable def E173 : Env := ⟨ty0, fun g => ifEq g 171 (some A171) (ifEq g 172 (some A172) (none)), fun _ => none, fun _ => none, fun _ => none⟩
theorem E173_ok : FnsOk prog E173 := (oF A171_ok func171 (oF A172_ok func172 (noFns _ _)))
noncomputable def L173_0 : Nat → Option LoopD := fun _ => none
def sh173_5 : List Fm := D 4 (.cell (.own (.int .i64) 100400 false) :: D 9 (.cell (.own .str 101400 false) :: .cell (.val (.int .i64)) :: .cell (.val (.int .i64)) :: D 17 []))
def xs173_5 : List (Ex × List Fm) := [(.ret, (d :: d :: .cell (.own (.int .i64) 100200 false) :: .cell (.val .bool) :: D 30 [])), (.exit 0, (D 4 (.cell (.own (.int .i64) 100400 false) :: D 29 [])))]
noncomputable def spec_l3Read_l5 : ((List Int) × (List ByteArray) × Int × Int × Unit) → Option (((List Int) × (List ByteArray) × Int × Int × Unit) ⊕ (((List Int) × Bool × Unit) ⊕ ((List Int) × Unit))) := fun (v4, v14, v15, v16, _) =>
 bif (decide (v16 < v15)) then
  if (((0 : Int) ≤ v16) ∧ (v16 < (((List.length v14) : Nat) : Int))) then
   Option.bind (spec_l13Num (List.getD v14 (0 + (Int.toNat v16)) (⟨Array.empty⟩ : ByteArray))) fun (r0, r1) =>
    bif (!r1) then
     some (Sum.inr (Sum.inl ((List.take 0 (List.drop 0 [])), false, ())))
    else
     if (((0 + (List.length v4)) = (List.length v4)) ∧ ((((List.length v4) + (List.length (List.take 1 (List.drop 0 [r0])))) * 8) ≤ 140737488355328)) then
      some (Sum.inl ((List.take ((List.length v4) + (List.length (List.take 1 (List.drop 0 [r0])))) (List.drop 0 ((List.drop 0 v4) ++ (List.take 1 (List.drop 0 [r0]))))), (List.take (List.length v14) (List.drop 0 v14)), v15, (IntKind.wrap .i64 (v16 + (1 : Int))), ()))
     else
      none
  else
   none
 else
  some (Sum.inr (Sum.inr ((List.take (List.length v4) (List.drop 0 v4)), ())))
theorem spec_l3Read_l5_eq : loopStep 34 E173 L173_0 (loopOf f173 5) sh173_5 xs173_5 = spec_l3Read_l5 := by kernel_rfl
theorem loop173_5 {L} (h : L 5 = some ⟨34, sh173_5, xs173_5, spec_l3Read_l5⟩) : LoopOk prog L (loopOf f173 5) := lo spec_l3Read_l5_eq E173_ok allNil h
noncomputable def L173_1 : Nat → Option LoopD := fun n => ifEq n 5 (some ⟨34, sh173_5, xs173_5, spec_l3Read_l5⟩) (L173_0 n)
noncomputable def spec_l3Read : ByteArray → Option ((List Int) × Bool) := fun a0 =>
 bif ((ByteArray.toList a0) == (ByteArray.toList (⟨#[]⟩ : ByteArray))) then
  some ((List.take 0 (List.drop 0 [])), true)
 else
  Option.bind (spec_l13Cut a0 (32 : Int)) fun r0 =>
   Option.bind (loopF spec_l3Read_l5 ((List.take 0 (List.drop 0 [])), (List.take (List.length r0) (List.drop 0 r0)), (((List.length r0) : Nat) : Int), (0 : Int), ())) fun r1 =>
    (match r1 with
    | .inl (d2, d3, _) =>
      some ((List.take (List.length d2) (List.drop 0 d2)), d3)
    | .inr (d4, _) =>
      some ((List.take (List.length d4) (List.drop 0 d4)), true))
noncomputable def A173 : FnA := ⟨[.v .str], true, [.sl (.int .i64), .bool], fun x => spec_l3Read x.1⟩
theorem spec_l3Read_eq : fnF E173 L173_1 [.v .str] true [.sl (.int .i64), .bool] f173.ntmps f173.results.toList (codeOf f173) = fun x => spec_l3Read x.1 := by kernel_rfl
theorem A173_ok : FnOk prog 173 A173 := fo spec_l3Read_eq func173 E173_ok (allCons (loop173_5 rfl) allNil)
/-! spec.l1In -/
noncomputable def E106 : Env := ⟨ty0, fun _ => none, fun _ => none, fun _ => none, fun _ => none⟩
theorem E106_ok : FnsOk prog E106 := (noFns _ _)
noncomputable def L106_0 : Nat → Option LoopD := fun _ => none
noncomputable def spec_l1In : Int → Int → Int → Option (Bool) := fun a0 a1 a2 =>
 bif (decide (a0 ≥ a1)) then
  some (decide (a0 ≤ a2))
 else
  some false
noncomputable def A106 : FnA := ⟨[.v (.int .i64), .v (.int .i64), .v (.int .i64)], true, [.bool], fun x => spec_l1In x.1 x.2.1 x.2.2.1⟩
theorem spec_l1In_eq : fnF E106 L106_0 [.v (.int .i64), .v (.int .i64), .v (.int .i64)] true [.bool] f106.ntmps f106.results.toList (codeOf f106) = fun x => spec_l1In x.1 x.2.1 x.2.2.1 := by kernel_rfl
theorem A106_ok : FnOk prog 106 A106 := fo spec_l1In_eq func106 E106_ok allNil
/-! spec.l3Marks -/
noncomputable def E123 : Env := ⟨ty0, fun g => ifEq g 106 (some A106) (none), fun _ => none, fun _ => none, fun _ => none⟩
theorem E123_ok : FnsOk prog E123 := (oF A106_ok func106 (noFns _ _))
noncomputable def L123_0 : Nat → Option LoopD := fun _ => none
def sh123_2 : List Fm := .cell (.val (.int .i64)) :: .cell (.val (.sl (.int .i64))) :: D 5 (.cell (.val (.sl (.int .i64))) :: .cell (.val (.int .i64)) :: .cell (.val (.int .i64)) :: D 23 [])
def xs123_2 : List (Ex × List Fm) := [(.ret, (D 4 (.cell (.val .bool) :: D 28 []))), (.exit 0, (D 33 []))]
noncomputable def spec_l3Marks_l2 : (Int × (List Int) × (List Int) × Int × Int × Unit) → Option ((Int × (List Int) × (List Int) × Int × Int × Unit) ⊕ ((Bool × Unit) ⊕ (Unit))) := fun (v0, v1, v7, v8, v9, _) =>
 bif (decide (v9 < v8)) then
  if (((0 : Int) ≤ v9) ∧ (v9 < (((List.length v7) : Nat) : Int))) then
   Option.bind (spec_l1In (List.getD v7 (Int.toNat v9) (0 : Int)) (0 : Int) (IntKind.wrap .i64 (v0 - (1 : Int)))) fun r0 =>
    bif (!r0) then
     some (Sum.inr (Sum.inl (false, ())))
    else
     bif (decide (v9 > (0 : Int))) then
      if (((0 : Int) ≤ (IntKind.wrap .i64 (v9 - (1 : Int)))) ∧ ((IntKind.wrap .i64 (v9 - (1 : Int))) < (((List.length v1) : Nat) : Int))) then
       bif (decide ((List.getD v1 (Int.toNat (IntKind.wrap .i64 (v9 - (1 : Int)))) (0 : Int)) ≥ (List.getD v7 (Int.toNat v9) (0 : Int)))) then
        some (Sum.inr (Sum.inl (false, ())))
       else
        some (Sum.inl (v0, v1, v7, v8, (IntKind.wrap .i64 (v9 + (1 : Int))), ()))
      else
       none
     else
      some (Sum.inl (v0, v1, v7, v8, (IntKind.wrap .i64 (v9 + (1 : Int))), ()))
  else
   none
 else
  some (Sum.inr (Sum.inr ()))
theorem spec_l3Marks_l2_eq : loopStep 33 E123 L123_0 (loopOf f123 2) sh123_2 xs123_2 = spec_l3Marks_l2 := by kernel_rfl
theorem loop123_2 {L} (h : L 2 = some ⟨33, sh123_2, xs123_2, spec_l3Marks_l2⟩) : LoopOk prog L (loopOf f123 2) := lo spec_l3Marks_l2_eq E123_ok allNil h
noncomputable def L123_1 : Nat → Option LoopD := fun n => ifEq n 2 (some ⟨33, sh123_2, xs123_2, spec_l3Marks_l2⟩) (L123_0 n)
noncomputable def spec_l3Marks : Int → (List Int) → Option (Bool) := fun a0 a1 =>
 Option.bind (loopF spec_l3Marks_l2 (a0, a1, a1, (((List.length a1) : Nat) : Int), (0 : Int), ())) fun r0 =>
  (match r0 with
  | .inl (d1, _) =>
    some d1
  | .inr _ =>
    some true)
noncomputable def A123 : FnA := ⟨[.v (.int .i64), .v (.sl (.int .i64))], true, [.bool], fun x => spec_l3Marks x.1 x.2.1⟩
theorem spec_l3Marks_eq : fnF E123 L123_1 [.v (.int .i64), .v (.sl (.int .i64))] true [.bool] f123.ntmps f123.results.toList (codeOf f123) = fun x => spec_l3Marks x.1 x.2.1 := by kernel_rfl
theorem A123_ok : FnOk prog 123 A123 := fo spec_l3Marks_eq func123 E123_ok (allCons (loop123_2 rfl) allNil)
/-! spec.l3Step -/
noncomputable def E124 : Env := ⟨ty0, fun g => ifEq g 106 (some A106) (none), fun _ => none, fun _ => none, fun _ => none⟩
theorem E124_ok : FnsOk prog E124 := (oF A106_ok func106 (noFns _ _))
noncomputable def L124_0 : Nat → Option LoopD := fun _ => none
noncomputable def spec_l3Step : Int → (Int × (ByteArray × (Int × Int))) → Option (Bool) := fun a0 (a1_0, a1_1, a1_2, a1_3) =>
 Option.bind (spec_l1In a1_0 (0 : Int) (IntKind.wrap .i64 (a0 - (1 : Int)))) fun r0 =>
  bif r0 then
   Option.bind (spec_l1In a1_2 (0 : Int) (IntKind.wrap .i64 (a0 - (1 : Int)))) fun r1 =>
    bif r1 then
     Option.bind (spec_l1In a1_3 (0 : Int) (3 : Int)) fun r2 =>
      bif r2 then
       bif ((ByteArray.toList a1_1) == (ByteArray.toList (⟨#[(97 : UInt8)]⟩ : ByteArray))) then
        some true
       else
        some ((ByteArray.toList a1_1) == (ByteArray.toList (⟨#[(98 : UInt8)]⟩ : ByteArray)))
      else
       some false
    else
     some false
  else
   some false
noncomputable def A124 : FnA := ⟨[.v (.int .i64), .v (.pair (.int .i64) (.pair .str (.pair (.int .i64) (.int .i64))))], true, [.bool], fun x => spec_l3Step x.1 x.2.1⟩
theorem spec_l3Step_eq : fnF E124 L124_0 [.v (.int .i64), .v (.pair (.int .i64) (.pair .str (.pair (.int .i64) (.int .i64))))] true [.bool] f124.ntmps f124.results.toList (codeOf f124) = fun x => spec_l3Step x.1 x.2.1 := by kernel_rfl
theorem A124_ok : FnOk prog 124 A124 := fo spec_l3Step_eq func124 E124_ok allNil
/-! spec.l3Before -/
noncomputable def E107 : Env := ⟨ty0, fun _ => none, fun _ => none, fun _ => none, fun _ => none⟩
theorem E107_ok : FnsOk prog E107 := (noFns _ _)
noncomputable def L107_0 : Nat → Option LoopD := fun _ => none
noncomputable def spec_l3Before : (Int × (ByteArray × (Int × Int))) → (Int × (ByteArray × (Int × Int))) → Option (Bool) := fun (a0_0, a0_1, a0_2, a0_3) (a1_0, a1_1, a1_2, a1_3) =>
 bif (a0_0 != a1_0) then
  some (decide (a0_0 < a1_0))
 else
  bif (!((ByteArray.toList a0_1) == (ByteArray.toList a1_1))) then
   some (Op.bytesLess (ByteArray.toList a0_1) (ByteArray.toList a1_1))
  else
   some (decide (a0_2 < a1_2))
noncomputable def A107 : FnA := ⟨[.v (.pair (.int .i64) (.pair .str (.pair (.int .i64) (.int .i64)))), .v (.pair (.int .i64) (.pair .str (.pair (.int .i64) (.int .i64))))], true, [.bool], fun x => spec_l3Before x.1 x.2.1⟩
theorem spec_l3Before_eq : fnF E107 L107_0 [.v (.pair (.int .i64) (.pair .str (.pair (.int .i64) (.int .i64)))), .v (.pair (.int .i64) (.pair .str (.pair (.int .i64) (.int .i64))))] true [.bool] f107.ntmps f107.results.toList (codeOf f107) = fun x => spec_l3Before x.1 x.2.1 := by kernel_rfl
theorem A107_ok : FnOk prog 107 A107 := fo spec_l3Before_eq func107 E107_ok allNil
/-! spec.AutomatonValid -/
noncomputable def E82 : Env := ⟨ty0, fun g => ifEq g 106 (some A106) (ifEq g 123 (some A123) (ifEq g 124 (some A124) (ifEq g 107 (some A107) (none)))), fun _ => none, fun _ => none, fun _ => none⟩
theorem E82_ok : FnsOk prog E82 := (oF A106_ok func106 (oF A123_ok func123 (oF A124_ok func124 (oF A107_ok func107 (noFns _ _)))))
noncomputable def L82_0 : Nat → Option LoopD := fun _ => none
def sh82_4 : List Fm := d :: .box 100100 [.val (.int .i64), .val (.sl (.int .i64)), .val (.sl (.int .i64)), .val (.sl (.pair (.int .i64) (.pair .str (.pair (.int .i64) (.int .i64)))))] :: D 30 (.cell (.val (.sl (.pair (.int .i64) (.pair .str (.pair (.int .i64) (.int .i64)))))) :: .cell (.val (.int .i64)) :: .cell (.val (.int .i64)) :: D 25 [])
def xs82_4 : List (Ex × List Fm) := [(.ret, (d :: d :: .cell (.val .bool) :: D 57 [])), (.exit 0, (D 60 []))]
noncomputable def spec_AutomatonValid_l4 : ((Int × (List Int) × (List Int) × (List (Int × (ByteArray × (Int × Int)))) × Unit) × (List (Int × (ByteArray × (Int × Int)))) × Int × Int × Unit) → Option (((Int × (List Int) × (List Int) × (List (Int × (ByteArray × (Int × Int)))) × Unit) × (List (Int × (ByteArray × (Int × Int)))) × Int × Int × Unit) ⊕ ((Bool × Unit) ⊕ (Unit))) := fun ((v1_0, v1_1, v1_2, v1_3, _), v32, v33, v34, _) =>
 bif (decide (v34 < v33)) then
  if (((0 : Int) ≤ v34) ∧ (v34 < (((List.length v32) : Nat) : Int))) then
   Option.bind (spec_l3Step v1_0 ((List.getD v32 (Int.toNat v34) ((0 : Int), (⟨Array.empty⟩ : ByteArray), (0 : Int), (0 : Int))).1, (List.getD v32 (Int.toNat v34) ((0 : Int), (⟨Array.empty⟩ : ByteArray), (0 : Int), (0 : Int))).2.1, (List.getD v32 (Int.toNat v34) ((0 : Int), (⟨Array.empty⟩ : ByteArray), (0 : Int), (0 : Int))).2.2.1, (List.getD v32 (Int.toNat v34) ((0 : Int), (⟨Array.empty⟩ : ByteArray), (0 : Int), (0 : Int))).2.2.2)) fun r0 =>
    bif (!r0) then
     some (Sum.inr (Sum.inl (false, ())))
    else
     bif (decide (v34 > (0 : Int))) then
      if (((0 : Int) ≤ (IntKind.wrap .i64 (v34 - (1 : Int)))) ∧ ((IntKind.wrap .i64 (v34 - (1 : Int))) < (((List.length v1_3) : Nat) : Int))) then
       Option.bind (spec_l3Before (List.getD v1_3 (Int.toNat (IntKind.wrap .i64 (v34 - (1 : Int)))) ((0 : Int), (⟨Array.empty⟩ : ByteArray), (0 : Int), (0 : Int))) ((List.getD v32 (Int.toNat v34) ((0 : Int), (⟨Array.empty⟩ : ByteArray), (0 : Int), (0 : Int))).1, (List.getD v32 (Int.toNat v34) ((0 : Int), (⟨Array.empty⟩ : ByteArray), (0 : Int), (0 : Int))).2.1, (List.getD v32 (Int.toNat v34) ((0 : Int), (⟨Array.empty⟩ : ByteArray), (0 : Int), (0 : Int))).2.2.1, (List.getD v32 (Int.toNat v34) ((0 : Int), (⟨Array.empty⟩ : ByteArray), (0 : Int), (0 : Int))).2.2.2)) fun r1 =>
        bif (!r1) then
         some (Sum.inr (Sum.inl (false, ())))
        else
         some (Sum.inl ((v1_0, v1_1, v1_2, v1_3, ()), v32, v33, (IntKind.wrap .i64 (v34 + (1 : Int))), ()))
      else
       none
     else
      some (Sum.inl ((v1_0, v1_1, v1_2, v1_3, ()), v32, v33, (IntKind.wrap .i64 (v34 + (1 : Int))), ()))
  else
   none
 else
  some (Sum.inr (Sum.inr ()))
theorem spec_AutomatonValid_l4_eq : loopStep 60 E82 L82_0 (loopOf f82 4) sh82_4 xs82_4 = spec_AutomatonValid_l4 := by kernel_rfl
theorem loop82_4 {L} (h : L 4 = some ⟨60, sh82_4, xs82_4, spec_AutomatonValid_l4⟩) : LoopOk prog L (loopOf f82 4) := lo spec_AutomatonValid_l4_eq E82_ok allNil h
noncomputable def L82_1 : Nat → Option LoopD := fun n => ifEq n 4 (some ⟨60, sh82_4, xs82_4, spec_AutomatonValid_l4⟩) (L82_0 n)
noncomputable def spec_AutomatonValid : (Int × ((List Int) × ((List Int) × (List (Int × (ByteArray × (Int × Int))))))) → Option (Bool) := fun (a0_0, a0_1, a0_2, a0_3) =>
 Option.bind (spec_l1In a0_0 (1 : Int) (4 : Int)) fun r0 =>
  bif (!r0) then
   some false
  else
   Option.bind (spec_l3Marks a0_0 a0_1) fun r1 =>
    bif (!r1) then
     some false
    else
     Option.bind (spec_l3Marks a0_0 a0_2) fun r2 =>
      bif (!r2) then
       some false
      else
       bif (decide ((((List.length a0_3) : Nat) : Int) > (24 : Int))) then
        some false
       else
        Option.bind (loopF spec_AutomatonValid_l4 ((a0_0, a0_1, a0_2, a0_3, ()), a0_3, (((List.length a0_3) : Nat) : Int), (0 : Int), ())) fun r3 =>
         (match r3 with
         | .inl (d4, _) =>
           some d4
         | .inr _ =>
           some true)
noncomputable def A82 : FnA := ⟨[.v (.pair (.int .i64) (.pair (.sl (.int .i64)) (.pair (.sl (.int .i64)) (.sl (.pair (.int .i64) (.pair .str (.pair (.int .i64) (.int .i64))))))))], true, [.bool], fun x => spec_AutomatonValid x.1⟩
theorem spec_AutomatonValid_eq : fnF E82 L82_1 [.v (.pair (.int .i64) (.pair (.sl (.int .i64)) (.pair (.sl (.int .i64)) (.sl (.pair (.int .i64) (.pair .str (.pair (.int .i64) (.int .i64))))))))] true [.bool] f82.ntmps f82.results.toList (codeOf f82) = fun x => spec_AutomatonValid x.1 := by kernel_rfl
theorem A82_ok : FnOk prog 82 A82 := fo spec_AutomatonValid_eq func82 E82_ok (allCons (loop82_4 rfl) allNil)
/-! spec.ParseAutomaton -/
noncomputable def E141 : Env := ⟨ty0, fun g => ifEq g 171 (some A171) (ifEq g 172 (some A172) (ifEq g 173 (some A173) (ifEq g 82 (some A82) (none)))), fun _ => none, fun _ => none, fun _ => none⟩
theorem E141_ok : FnsOk prog E141 := (oF A171_ok func171 (oF A172_ok func172 (oF A173_ok func173 (oF A82_ok func82 (noFns _ _)))))
noncomputable def L141_0 : Nat → Option LoopD := fun _ => none
def sh141_11 : List Fm := d :: d :: .box 100200 [.val (.int .i64), .own (.int .i64) 100202 false, .own (.int .i64) 100203 false, .own (.pair (.int .i64) (.pair .str (.pair (.int .i64) (.int .i64)))) 100204 false] :: D 8 (.box 101100 [.val (.int .i64), .own (.int .i64) 101102 false, .own (.int .i64) 101103 false, .own (.pair (.int .i64) (.pair .str (.pair (.int .i64) (.int .i64)))) 101104 false] :: .cell (.val .bool) :: D 54 (.cell (.own .str 106700 false) :: .cell (.val (.int .i64)) :: .cell (.val (.int .i64)) :: D 61 []))
def xs141_11 : List (Ex × List Fm) := [(.ret, [d, d, .box 100200 [.val (.int .i64), .own (.int .i64) 100202 false, .own (.int .i64) 100203 false, .own (.pair (.int .i64) (.pair .str (.pair (.int .i64) (.int .i64)))) 100204 false], .cell (.val .bool), d, d, d, d, d, d, d, d, d, d, d, d, d, d, d, d, d, d, d, d, d, d, d, d, d, d, d, d, d, d, d, d, d, d, d, d, d, d, d, d, d, d, d, d, d, d, d, d, d, d, d, d, d, d, d, d, d, d, d, d, d, d, d, d, d, d, d, d, d, d, d, d, d, d, d, d, d, d, d, d, d, d, d, d, d, d, d, d, d, d, d, d, d, d, d, d, d, d, d, d, d, d, d, d, d, d, d, d, d, d, d, d, d, d, d, d, d, d, d, d, d, d, d, d, d, d, d]), (.exit 0, [d, d, .box 100200 [.val (.int .i64), .own (.int .i64) 100202 false, .own (.int .i64) 100203 false, .own (.pair (.int .i64) (.pair .str (.pair (.int .i64) (.int .i64)))) 100204 false], d, d, d, d, d, d, d, d, .box 101100 [.val (.int .i64), .own (.int .i64) 101102 false, .own (.int .i64) 101103 false, .own (.pair (.int .i64) (.pair .str (.pair (.int .i64) (.int .i64)))) 101104 false], .cell (.val .bool), d, d, d, d, d, d, d, d, d, d, d, d, d, d, d, d, d, d, d, d, d, d, d, d, d, d, d, d, d, d, d, d, d, d, d, d, d, d, d, d, d, d, d, d, d, d, d, d, d, d, d, d, d, d, d, d, d, d, d, d, d, d, d, d, d, d, d, d, d, d, d, d, d, d, d, d, d, d, d, d, d, d, d, d, d, d, d, d, d, d, d, d, d, d, d, d, d, d, d, d, d, d, d, d, d, d, d, d, d, d, d, d, d, d, d, d, d, d])]
noncomputable def spec_ParseAutomaton_l11 : ((Int × (List Int) × (List Int) × (List (Int × (ByteArray × (Int × Int)))) × Unit) × (Int × (List Int) × (List Int) × (List (Int × (ByteArray × (Int × Int)))) × Unit) × Bool × (List ByteArray) × Int × Int × Unit) → Option (((Int × (List Int) × (List Int) × (List (Int × (ByteArray × (Int × Int)))) × Unit) × (Int × (List Int) × (List Int) × (List (Int × (ByteArray × (Int × Int)))) × Unit) × Bool × (List ByteArray) × Int × Int × Unit) ⊕ (((Int × (List Int) × (List Int) × (List (Int × (ByteArray × (Int × Int)))) × Unit) × Bool × Unit) ⊕ ((Int × (List Int) × (List Int) × (List (Int × (ByteArray × (Int × Int)))) × Unit) × (Int × (List Int) × (List Int) × (List (Int × (ByteArray × (Int × Int)))) × Unit) × Bool × Unit))) := fun ((v2_0, v2_1, v2_2, v2_3, _), (v11_0, v11_1, v11_2, v11_3, _), v12, v67, v68, v69, _) =>
 bif (decide (v69 < v68)) then
  if (((0 : Int) ≤ v69) ∧ (v69 < (((List.length v67) : Nat) : Int))) then
   bif ((((ByteArray.size (List.getD v67 (0 + (Int.toNat v69)) (⟨Array.empty⟩ : ByteArray))) : Nat) : Int) != (5 : Int)) then
    some (Sum.inr (Sum.inl (((0 : Int), [], [], [], ()), false, ())))
   else
    if (((0 : Int) ≤ (3 : Int)) ∧ ((3 : Int) < (((ByteArray.size (List.getD v67 (0 + (Int.toNat v69)) (⟨Array.empty⟩ : ByteArray))) : Nat) : Int))) then
     bif ((((UInt8.toNat (Array.getD (ByteArray.data (List.getD v67 (0 + (Int.toNat v69)) (⟨Array.empty⟩ : ByteArray))) (Int.toNat (3 : Int)) (0 : UInt8))) : Nat) : Int) != (58 : Int)) then
      some (Sum.inr (Sum.inl (((0 : Int), [], [], [], ()), false, ())))
     else
      if (((0 : Int) ≤ (1 : Int)) ∧ ((1 : Int) ≤ (((ByteArray.size (List.getD v67 (0 + (Int.toNat v69)) (⟨Array.empty⟩ : ByteArray))) : Nat) : Int))) then
       Option.bind (spec_l13Num (ByteArray.extract (List.getD v67 (0 + (Int.toNat v69)) (⟨Array.empty⟩ : ByteArray)) 0 (Int.toNat (1 : Int)))) fun (r0, r1) =>
        if (((0 : Int) ≤ (2 : Int)) ∧ (((2 : Int) ≤ (3 : Int)) ∧ ((3 : Int) ≤ (((ByteArray.size (List.getD v67 (0 + (Int.toNat v69)) (⟨Array.empty⟩ : ByteArray))) : Nat) : Int)))) then
         Option.bind (spec_l13Num (ByteArray.extract (List.getD v67 (0 + (Int.toNat v69)) (⟨Array.empty⟩ : ByteArray)) (Int.toNat (2 : Int)) (Int.toNat (3 : Int)))) fun (r2, r3) =>
          if (((0 : Int) ≤ (4 : Int)) ∧ ((4 : Int) ≤ (((ByteArray.size (List.getD v67 (0 + (Int.toNat v69)) (⟨Array.empty⟩ : ByteArray))) : Nat) : Int))) then
           Option.bind (spec_l13Num (ByteArray.extract (List.getD v67 (0 + (Int.toNat v69)) (⟨Array.empty⟩ : ByteArray)) (Int.toNat (4 : Int)) (ByteArray.size (List.getD v67 (0 + (Int.toNat v69)) (⟨Array.empty⟩ : ByteArray))))) fun (r4, r5) =>
            bif v12 then
             bif r1 then
              bif r3 then
               if (((0 : Int) ≤ (1 : Int)) ∧ (((1 : Int) ≤ (2 : Int)) ∧ ((2 : Int) ≤ (((ByteArray.size (List.getD v67 (0 + (Int.toNat v69)) (⟨Array.empty⟩ : ByteArray))) : Nat) : Int)))) then
                if (((0 + (List.length v11_3)) = (List.length v11_3)) ∧ ((((List.length v11_3) + (List.length (List.take 1 (List.drop 0 [(r0, (ByteArray.extract (List.getD v67 (0 + (Int.toNat v69)) (⟨Array.empty⟩ : ByteArray)) (Int.toNat (1 : Int)) (Int.toNat (2 : Int))), r2, r4)])))) * 40) ≤ 140737488355328)) then
                 some (Sum.inl ((v2_0, (List.take (List.length v2_1) (List.drop 0 v2_1)), (List.take (List.length v2_2) (List.drop 0 v2_2)), (List.take (List.length v2_3) (List.drop 0 v2_3)), ()), (v11_0, (List.take (List.length v11_1) (List.drop 0 v11_1)), (List.take (List.length v11_2) (List.drop 0 v11_2)), (List.take ((List.length v11_3) + (List.length (List.take 1 (List.drop 0 [(r0, (ByteArray.extract (List.getD v67 (0 + (Int.toNat v69)) (⟨Array.empty⟩ : ByteArray)) (Int.toNat (1 : Int)) (Int.toNat (2 : Int))), r2, r4)])))) (List.drop 0 ((List.drop 0 v11_3) ++ (List.take 1 (List.drop 0 [(r0, (ByteArray.extract (List.getD v67 (0 + (Int.toNat v69)) (⟨Array.empty⟩ : ByteArray)) (Int.toNat (1 : Int)) (Int.toNat (2 : Int))), r2, r4)]))))), ()), r5, (List.take (List.length v67) (List.drop 0 v67)), v68, (IntKind.wrap .i64 (v69 + (1 : Int))), ()))
                else
                 none
               else
                none
              else
               if (((0 : Int) ≤ (1 : Int)) ∧ (((1 : Int) ≤ (2 : Int)) ∧ ((2 : Int) ≤ (((ByteArray.size (List.getD v67 (0 + (Int.toNat v69)) (⟨Array.empty⟩ : ByteArray))) : Nat) : Int)))) then
                if (((0 + (List.length v11_3)) = (List.length v11_3)) ∧ ((((List.length v11_3) + (List.length (List.take 1 (List.drop 0 [(r0, (ByteArray.extract (List.getD v67 (0 + (Int.toNat v69)) (⟨Array.empty⟩ : ByteArray)) (Int.toNat (1 : Int)) (Int.toNat (2 : Int))), r2, r4)])))) * 40) ≤ 140737488355328)) then
                 some (Sum.inl ((v2_0, (List.take (List.length v2_1) (List.drop 0 v2_1)), (List.take (List.length v2_2) (List.drop 0 v2_2)), (List.take (List.length v2_3) (List.drop 0 v2_3)), ()), (v11_0, (List.take (List.length v11_1) (List.drop 0 v11_1)), (List.take (List.length v11_2) (List.drop 0 v11_2)), (List.take ((List.length v11_3) + (List.length (List.take 1 (List.drop 0 [(r0, (ByteArray.extract (List.getD v67 (0 + (Int.toNat v69)) (⟨Array.empty⟩ : ByteArray)) (Int.toNat (1 : Int)) (Int.toNat (2 : Int))), r2, r4)])))) (List.drop 0 ((List.drop 0 v11_3) ++ (List.take 1 (List.drop 0 [(r0, (ByteArray.extract (List.getD v67 (0 + (Int.toNat v69)) (⟨Array.empty⟩ : ByteArray)) (Int.toNat (1 : Int)) (Int.toNat (2 : Int))), r2, r4)]))))), ()), false, (List.take (List.length v67) (List.drop 0 v67)), v68, (IntKind.wrap .i64 (v69 + (1 : Int))), ()))
                else
                 none
               else
                none
             else
              if (((0 : Int) ≤ (1 : Int)) ∧ (((1 : Int) ≤ (2 : Int)) ∧ ((2 : Int) ≤ (((ByteArray.size (List.getD v67 (0 + (Int.toNat v69)) (⟨Array.empty⟩ : ByteArray))) : Nat) : Int)))) then
               if (((0 + (List.length v11_3)) = (List.length v11_3)) ∧ ((((List.length v11_3) + (List.length (List.take 1 (List.drop 0 [(r0, (ByteArray.extract (List.getD v67 (0 + (Int.toNat v69)) (⟨Array.empty⟩ : ByteArray)) (Int.toNat (1 : Int)) (Int.toNat (2 : Int))), r2, r4)])))) * 40) ≤ 140737488355328)) then
                some (Sum.inl ((v2_0, (List.take (List.length v2_1) (List.drop 0 v2_1)), (List.take (List.length v2_2) (List.drop 0 v2_2)), (List.take (List.length v2_3) (List.drop 0 v2_3)), ()), (v11_0, (List.take (List.length v11_1) (List.drop 0 v11_1)), (List.take (List.length v11_2) (List.drop 0 v11_2)), (List.take ((List.length v11_3) + (List.length (List.take 1 (List.drop 0 [(r0, (ByteArray.extract (List.getD v67 (0 + (Int.toNat v69)) (⟨Array.empty⟩ : ByteArray)) (Int.toNat (1 : Int)) (Int.toNat (2 : Int))), r2, r4)])))) (List.drop 0 ((List.drop 0 v11_3) ++ (List.take 1 (List.drop 0 [(r0, (ByteArray.extract (List.getD v67 (0 + (Int.toNat v69)) (⟨Array.empty⟩ : ByteArray)) (Int.toNat (1 : Int)) (Int.toNat (2 : Int))), r2, r4)]))))), ()), false, (List.take (List.length v67) (List.drop 0 v67)), v68, (IntKind.wrap .i64 (v69 + (1 : Int))), ()))
               else
                none
              else
               none
            else
             if (((0 : Int) ≤ (1 : Int)) ∧ (((1 : Int) ≤ (2 : Int)) ∧ ((2 : Int) ≤ (((ByteArray.size (List.getD v67 (0 + (Int.toNat v69)) (⟨Array.empty⟩ : ByteArray))) : Nat) : Int)))) then
              if (((0 + (List.length v11_3)) = (List.length v11_3)) ∧ ((((List.length v11_3) + (List.length (List.take 1 (List.drop 0 [(r0, (ByteArray.extract (List.getD v67 (0 + (Int.toNat v69)) (⟨Array.empty⟩ : ByteArray)) (Int.toNat (1 : Int)) (Int.toNat (2 : Int))), r2, r4)])))) * 40) ≤ 140737488355328)) then
               some (Sum.inl ((v2_0, (List.take (List.length v2_1) (List.drop 0 v2_1)), (List.take (List.length v2_2) (List.drop 0 v2_2)), (List.take (List.length v2_3) (List.drop 0 v2_3)), ()), (v11_0, (List.take (List.length v11_1) (List.drop 0 v11_1)), (List.take (List.length v11_2) (List.drop 0 v11_2)), (List.take ((List.length v11_3) + (List.length (List.take 1 (List.drop 0 [(r0, (ByteArray.extract (List.getD v67 (0 + (Int.toNat v69)) (⟨Array.empty⟩ : ByteArray)) (Int.toNat (1 : Int)) (Int.toNat (2 : Int))), r2, r4)])))) (List.drop 0 ((List.drop 0 v11_3) ++ (List.take 1 (List.drop 0 [(r0, (ByteArray.extract (List.getD v67 (0 + (Int.toNat v69)) (⟨Array.empty⟩ : ByteArray)) (Int.toNat (1 : Int)) (Int.toNat (2 : Int))), r2, r4)]))))), ()), false, (List.take (List.length v67) (List.drop 0 v67)), v68, (IntKind.wrap .i64 (v69 + (1 : Int))), ()))
              else
               none
             else
              none
          else
           none
        else
         none
      else
       none
    else
     none
  else
   none
 else
  some (Sum.inr (Sum.inr ((v2_0, (List.take (List.length v2_1) (List.drop 0 v2_1)), (List.take (List.length v2_2) (List.drop 0 v2_2)), (List.take (List.length v2_3) (List.drop 0 v2_3)), ()), (v11_0, (List.take (List.length v11_1) (List.drop 0 v11_1)), (List.take (List.length v11_2) (List.drop 0 v11_2)), (List.take (List.length v11_3) (List.drop 0 v11_3)), ()), v12, ())))
theorem spec_ParseAutomaton_l11_eq : loopStep 131 E141 L141_0 (loopOf f141 11) sh141_11 xs141_11 = spec_ParseAutomaton_l11 := by kernel_rfl
theorem loop141_11 {L} (h : L 11 = some ⟨131, sh141_11, xs141_11, spec_ParseAutomaton_l11⟩) : LoopOk prog L (loopOf f141 11) := lo spec_ParseAutomaton_l11_eq E141_ok allNil h
noncomputable def L141_1 : Nat → Option LoopD := fun n => ifEq n 11 (some ⟨131, sh141_11, xs141_11, spec_ParseAutomaton_l11⟩) (L141_0 n)
noncomputable def spec_ParseAutomaton : ByteArray → Option ((Int × ((List Int) × ((List Int) × (List (Int × (ByteArray × (Int × Int))))))) × Bool) := fun a0 =>
 Option.bind (spec_l13Cut a0 (59 : Int)) fun r0 =>
  bif ((((List.length r0) : Nat) : Int) != (4 : Int)) then
   some (((0 : Int), [], [], []), false)
  else
   if (((0 : Int) ≤ (0 : Int)) ∧ ((0 : Int) < (((List.length r0) : Nat) : Int))) then
    Option.bind (spec_l13Num (List.getD r0 (0 + (Int.toNat (0 : Int))) (⟨Array.empty⟩ : ByteArray))) fun (r1, r2) =>
     if (((0 : Int) ≤ (1 : Int)) ∧ ((1 : Int) < (((List.length r0) : Nat) : Int))) then
      Option.bind (spec_l3Read (List.getD r0 (0 + (Int.toNat (1 : Int))) (⟨Array.empty⟩ : ByteArray))) fun (r3, r4) =>
       if (((0 : Int) ≤ (2 : Int)) ∧ ((2 : Int) < (((List.length r0) : Nat) : Int))) then
        Option.bind (spec_l3Read (List.getD r0 (0 + (Int.toNat (2 : Int))) (⟨Array.empty⟩ : ByteArray))) fun (r5, r6) =>
         bif r2 then
          bif r4 then
           if (((0 : Int) ≤ (3 : Int)) ∧ ((3 : Int) < (((List.length r0) : Nat) : Int))) then
            bif (!((ByteArray.toList (List.getD r0 (0 + (Int.toNat (3 : Int))) (⟨Array.empty⟩ : ByteArray))) == (ByteArray.toList (⟨#[]⟩ : ByteArray)))) then
             if (((0 : Int) ≤ (3 : Int)) ∧ ((3 : Int) < (((List.length r0) : Nat) : Int))) then
              Option.bind (spec_l13Cut (List.getD r0 (0 + (Int.toNat (3 : Int))) (⟨Array.empty⟩ : ByteArray)) (32 : Int)) fun r7 =>
               Option.bind (loopF spec_ParseAutomaton_l11 (((0 : Int), [], [], [], ()), (r1, (List.take (List.length r3) (List.drop 0 r3)), (List.take (List.length r5) (List.drop 0 r5)), (List.take 0 (List.drop 0 [])), ()), r6, (List.take (List.length r7) (List.drop 0 r7)), (((List.length r7) : Nat) : Int), (0 : Int), ())) fun r8 =>
                (match r8 with
                | .inl ((d9, d10, d11, d12, _), d13, _) =>
                  some ((d9, (List.take (List.length d10) (List.drop 0 d10)), (List.take (List.length d11) (List.drop 0 d11)), (List.take (List.length d12) (List.drop 0 d12))), d13)
                | .inr ((d14, d15, d16, d17, _), (d18, d19, d20, d21, _), d22, _) =>
                  bif (!d22) then
                   some (((0 : Int), [], [], []), false)
                  else
                   Option.bind (spec_AutomatonValid (d18, (List.take (List.length d19) (List.drop 0 d19)), (List.take (List.length d20) (List.drop 0 d20)), (List.take (List.length d21) (List.drop 0 d21)))) fun r23 =>
                    bif (!r23) then
                     some (((0 : Int), [], [], []), false)
                    else
                     some ((d18, (List.take (List.length d19) (List.drop 0 d19)), (List.take (List.length d20) (List.drop 0 d20)), (List.take (List.length d21) (List.drop 0 d21))), true))
             else
              none
            else
             bif (!r6) then
              some (((0 : Int), [], [], []), false)
             else
              Option.bind (spec_AutomatonValid (r1, (List.take (List.length r3) (List.drop 0 r3)), (List.take (List.length r5) (List.drop 0 r5)), (List.take 0 (List.drop 0 [])))) fun r24 =>
               bif (!r24) then
                some (((0 : Int), [], [], []), false)
               else
                some ((r1, (List.take (List.length r3) (List.drop 0 r3)), (List.take (List.length r5) (List.drop 0 r5)), (List.take 0 (List.drop 0 []))), true)
           else
            none
          else
           if (((0 : Int) ≤ (3 : Int)) ∧ ((3 : Int) < (((List.length r0) : Nat) : Int))) then
            bif (!((ByteArray.toList (List.getD r0 (0 + (Int.toNat (3 : Int))) (⟨Array.empty⟩ : ByteArray))) == (ByteArray.toList (⟨#[]⟩ : ByteArray)))) then
             if (((0 : Int) ≤ (3 : Int)) ∧ ((3 : Int) < (((List.length r0) : Nat) : Int))) then
              Option.bind (spec_l13Cut (List.getD r0 (0 + (Int.toNat (3 : Int))) (⟨Array.empty⟩ : ByteArray)) (32 : Int)) fun r25 =>
               Option.bind (loopF spec_ParseAutomaton_l11 (((0 : Int), [], [], [], ()), (r1, (List.take (List.length r3) (List.drop 0 r3)), (List.take (List.length r5) (List.drop 0 r5)), (List.take 0 (List.drop 0 [])), ()), false, (List.take (List.length r25) (List.drop 0 r25)), (((List.length r25) : Nat) : Int), (0 : Int), ())) fun r26 =>
                (match r26 with
                | .inl ((d27, d28, d29, d30, _), d31, _) =>
                  some ((d27, (List.take (List.length d28) (List.drop 0 d28)), (List.take (List.length d29) (List.drop 0 d29)), (List.take (List.length d30) (List.drop 0 d30))), d31)
                | .inr ((d32, d33, d34, d35, _), (d36, d37, d38, d39, _), d40, _) =>
                  bif (!d40) then
                   some (((0 : Int), [], [], []), false)
                  else
                   Option.bind (spec_AutomatonValid (d36, (List.take (List.length d37) (List.drop 0 d37)), (List.take (List.length d38) (List.drop 0 d38)), (List.take (List.length d39) (List.drop 0 d39)))) fun r41 =>
                    bif (!r41) then
                     some (((0 : Int), [], [], []), false)
                    else
                     some ((d36, (List.take (List.length d37) (List.drop 0 d37)), (List.take (List.length d38) (List.drop 0 d38)), (List.take (List.length d39) (List.drop 0 d39))), true))
             else
              none
            else
             some (((0 : Int), [], [], []), false)
           else
            none
         else
          if (((0 : Int) ≤ (3 : Int)) ∧ ((3 : Int) < (((List.length r0) : Nat) : Int))) then
           bif (!((ByteArray.toList (List.getD r0 (0 + (Int.toNat (3 : Int))) (⟨Array.empty⟩ : ByteArray))) == (ByteArray.toList (⟨#[]⟩ : ByteArray)))) then
            if (((0 : Int) ≤ (3 : Int)) ∧ ((3 : Int) < (((List.length r0) : Nat) : Int))) then
             Option.bind (spec_l13Cut (List.getD r0 (0 + (Int.toNat (3 : Int))) (⟨Array.empty⟩ : ByteArray)) (32 : Int)) fun r42 =>
              Option.bind (loopF spec_ParseAutomaton_l11 (((0 : Int), [], [], [], ()), (r1, (List.take (List.length r3) (List.drop 0 r3)), (List.take (List.length r5) (List.drop 0 r5)), (List.take 0 (List.drop 0 [])), ()), false, (List.take (List.length r42) (List.drop 0 r42)), (((List.length r42) : Nat) : Int), (0 : Int), ())) fun r43 =>
               (match r43 with
               | .inl ((d44, d45, d46, d47, _), d48, _) =>
                 some ((d44, (List.take (List.length d45) (List.drop 0 d45)), (List.take (List.length d46) (List.drop 0 d46)), (List.take (List.length d47) (List.drop 0 d47))), d48)
               | .inr ((d49, d50, d51, d52, _), (d53, d54, d55, d56, _), d57, _) =>
                 bif (!d57) then
                  some (((0 : Int), [], [], []), false)
                 else
                  Option.bind (spec_AutomatonValid (d53, (List.take (List.length d54) (List.drop 0 d54)), (List.take (List.length d55) (List.drop 0 d55)), (List.take (List.length d56) (List.drop 0 d56)))) fun r58 =>
                   bif (!r58) then
                    some (((0 : Int), [], [], []), false)
                   else
                    some ((d53, (List.take (List.length d54) (List.drop 0 d54)), (List.take (List.length d55) (List.drop 0 d55)), (List.take (List.length d56) (List.drop 0 d56))), true))
            else
             none
           else
            some (((0 : Int), [], [], []), false)
          else
           none
       else
        none
     else
      none
   else
    none
noncomputable def A141 : FnA := ⟨[.v .str], true, [.pair (.int .i64) (.pair (.sl (.int .i64)) (.pair (.sl (.int .i64)) (.sl (.pair (.int .i64) (.pair .str (.pair (.int .i64) (.int .i64))))))), .bool], fun x => spec_ParseAutomaton x.1⟩
theorem spec_ParseAutomaton_eq : fnF E141 L141_1 [.v .str] true [.pair (.int .i64) (.pair (.sl (.int .i64)) (.pair (.sl (.int .i64)) (.sl (.pair (.int .i64) (.pair .str (.pair (.int .i64) (.int .i64))))))), .bool] f141.ntmps f141.results.toList (codeOf f141) = fun x => spec_ParseAutomaton x.1 := by kernel_rfl
theorem A141_ok : FnOk prog 141 A141 := fo spec_ParseAutomaton_eq func141 E141_ok (allCons (loop141_11 rfl) allNil)
/-! spec.l3Known -/
noncomputable def E117 : Env := ⟨ty0, fun g => ifEq g 141 (some A141) (none), fun _ => none, fun _ => none, fun _ => none⟩
theorem E117_ok : FnsOk prog E117 := (oF A141_ok func141 (noFns _ _))
noncomputable def L117_0 : Nat → Option LoopD := fun _ => none
noncomputable def spec_l3Known : Int → Option ((Int × ((List Int) × ((List Int) × (List (Int × (ByteArray × (Int × Int)))))))) := fun a0 =>
 if (((9 : Nat) : Int) = (0 : Int)) then
  none
 else
  if (((0 : Int) ≤ (Int.tmod a0 ((9 : Nat) : Int))) ∧ ((Int.tmod a0 ((9 : Nat) : Int)) < ((9 : Nat) : Int))) then
   Option.bind (spec_ParseAutomaton (List.getD [(⟨#[(49 : UInt8), (59 : UInt8), (48 : UInt8), (59 : UInt8), (48 : UInt8), (59 : UInt8), (48 : UInt8), (97 : UInt8), (48 : UInt8), (58 : UInt8), (49 : UInt8), (32 : UInt8), (48 : UInt8), (98 : UInt8), (48 : UInt8), (58 : UInt8), (48 : UInt8)]⟩ : ByteArray), (⟨#[(50 : UInt8), (59 : UInt8), (48 : UInt8), (59 : UInt8), (49 : UInt8), (59 : UInt8), (48 : UInt8), (97 : UInt8), (48 : UInt8), (58 : UInt8), (48 : UInt8), (32 : UInt8), (48 : UInt8), (97 : UInt8), (49 : UInt8), (58 : UInt8), (49 : UInt8), (32 : UInt8), (49 : UInt8), (98 : UInt8), (49 : UInt8), (58 : UInt8), (48 : UInt8)]⟩ : ByteArray), (⟨#[(50 : UInt8), (59 : UInt8), (48 : UInt8), (32 : UInt8), (49 : UInt8), (59 : UInt8), (48 : UInt8), (32 : UInt8), (49 : UInt8), (59 : UInt8), (48 : UInt8), (97 : UInt8), (48 : UInt8), (58 : UInt8), (49 : UInt8), (32 : UInt8), (48 : UInt8), (98 : UInt8), (48 : UInt8), (58 : UInt8), (48 : UInt8), (32 : UInt8), (49 : UInt8), (97 : UInt8), (49 : UInt8), (58 : UInt8), (48 : UInt8), (32 : UInt8), (49 : UInt8), (98 : UInt8), (49 : UInt8), (58 : UInt8), (49 : UInt8)]⟩ : ByteArray), (⟨#[(51 : UInt8), (59 : UInt8), (48 : UInt8), (59 : UInt8), (48 : UInt8), (32 : UInt8), (50 : UInt8), (59 : UInt8), (48 : UInt8), (97 : UInt8), (48 : UInt8), (58 : UInt8), (48 : UInt8), (32 : UInt8), (48 : UInt8), (97 : UInt8), (49 : UInt8), (58 : UInt8), (48 : UInt8), (32 : UInt8), (48 : UInt8), (98 : UInt8), (48 : UInt8), (58 : UInt8), (49 : UInt8), (32 : UInt8), (49 : UInt8), (97 : UInt8), (49 : UInt8), (58 : UInt8), (49 : UInt8), (32 : UInt8), (49 : UInt8), (98 : UInt8), (50 : UInt8), (58 : UInt8), (48 : UInt8), (32 : UInt8), (50 : UInt8), (97 : UInt8), (50 : UInt8), (58 : UInt8), (48 : UInt8), (32 : UInt8), (50 : UInt8), (98 : UInt8), (50 : UInt8), (58 : UInt8), (48 : UInt8)]⟩ : ByteArray), (⟨#[(50 : UInt8), (59 : UInt8), (48 : UInt8), (59 : UInt8), (48 : UInt8), (59 : UInt8), (48 : UInt8), (97 : UInt8), (49 : UInt8), (58 : UInt8), (49 : UInt8), (32 : UInt8), (49 : UInt8), (98 : UInt8), (48 : UInt8), (58 : UInt8), (48 : UInt8)]⟩ : ByteArray), (⟨#[(51 : UInt8), (59 : UInt8), (48 : UInt8), (59 : UInt8), (50 : UInt8), (59 : UInt8), (48 : UInt8), (97 : UInt8), (48 : UInt8), (58 : UInt8), (48 : UInt8), (32 : UInt8), (48 : UInt8), (98 : UInt8), (48 : UInt8), (58 : UInt8), (48 : UInt8), (32 : UInt8), (48 : UInt8), (98 : UInt8), (49 : UInt8), (58 : UInt8), (48 : UInt8), (32 : UInt8), (49 : UInt8), (97 : UInt8), (49 : UInt8), (58 : UInt8), (49 : UInt8), (32 : UInt8), (49 : UInt8), (98 : UInt8), (50 : UInt8), (58 : UInt8), (48 : UInt8), (32 : UInt8), (50 : UInt8), (97 : UInt8), (50 : UInt8), (58 : UInt8), (48 : UInt8), (32 : UInt8), (50 : UInt8), (98 : UInt8), (50 : UInt8), (58 : UInt8), (48 : UInt8)]⟩ : ByteArray), (⟨#[(49 : UInt8), (59 : UInt8), (48 : UInt8), (59 : UInt8), (48 : UInt8), (59 : UInt8), (48 : UInt8), (97 : UInt8), (48 : UInt8), (58 : UInt8), (48 : UInt8)]⟩ : ByteArray), (⟨#[(50 : UInt8), (59 : UInt8), (48 : UInt8), (59 : UInt8), (48 : UInt8), (32 : UInt8), (49 : UInt8), (59 : UInt8), (48 : UInt8), (97 : UInt8), (48 : UInt8), (58 : UInt8), (48 : UInt8), (32 : UInt8), (48 : UInt8), (98 : UInt8), (49 : UInt8), (58 : UInt8), (49 : UInt8), (32 : UInt8), (49 : UInt8), (97 : UInt8), (48 : UInt8), (58 : UInt8), (48 : UInt8), (32 : UInt8), (49 : UInt8), (98 : UInt8), (49 : UInt8), (58 : UInt8), (48 : UInt8)]⟩ : ByteArray), (⟨#[(50 : UInt8), (59 : UInt8), (48 : UInt8), (59 : UInt8), (49 : UInt8), (59 : UInt8), (48 : UInt8), (97 : UInt8), (49 : UInt8), (58 : UInt8), (50 : UInt8), (32 : UInt8), (49 : UInt8), (97 : UInt8), (49 : UInt8), (58 : UInt8), (48 : UInt8), (32 : UInt8), (49 : UInt8), (98 : UInt8), (48 : UInt8), (58 : UInt8), (49 : UInt8)]⟩ : ByteArray)] (0 + (Int.toNat (Int.tmod a0 ((9 : Nat) : Int)))) (⟨Array.empty⟩ : ByteArray))) fun ((r0, r1, r2, r3), r4) =>
    some (r0, (List.take (List.length r1) (List.drop 0 r1)), (List.take (List.length r2) (List.drop 0 r2)), (List.take (List.length r3) (List.drop 0 r3)))
  else
   none
noncomputable def A117 : FnA := ⟨[.v (.int .i64)], true, [.pair (.int .i64) (.pair (.sl (.int .i64)) (.pair (.sl (.int .i64)) (.sl (.pair (.int .i64) (.pair .str (.pair (.int .i64) (.int .i64)))))))], fun x => spec_l3Known x.1⟩
theorem spec_l3Known_eq : fnF E117 L117_0 [.v (.int .i64)] true [.pair (.int .i64) (.pair (.sl (.int .i64)) (.pair (.sl (.int .i64)) (.sl (.pair (.int .i64) (.pair .str (.pair (.int .i64) (.int .i64)))))))] f117.ntmps f117.results.toList (codeOf f117) = fun x => spec_l3Known x.1 := by kernel_rfl
theorem A117_ok : FnOk prog 117 A117 := fo spec_l3Known_eq func117 E117_ok allNil
/-! spec.l3Some -/
noncomputable def E118 : Env := ⟨ty0, fun _ => none, fun g => ifEq g 72 (some A72) (none), fun _ => none, fun _ => none⟩
theorem E118_ok : FnsOk prog E118 := (oneMs A72_ok (by kernel_rfl) func72 (by kernel_rfl) (by kernel_rfl) (noFns _ _))
noncomputable def L118_0 : Nat → Option LoopD := fun _ => none
def sh118_3 : List Fm := .box 200000 [.val (.sl (.int .u8)), .val (.int .i64)] :: D 4 (.cell (.own (.int .i64) 100500 false) :: d :: d :: .cell (.val (.int .i64)) :: .cell (.val (.int .i64)) :: D 11 [])
def xs118_3 : List (Ex × List Fm) := [(.exit 0, [.box 200000 [.val (.sl (.int .u8)), .val (.int .i64)], d, d, d, d, .cell (.own (.int .i64) 100500 false), d, d, d, d, d, d, d, d, d, d, d, d, d, d, d])]
noncomputable def spec_l3Some_l3 : (((List Int) × Int × Unit) × (List Int) × Int × Int × Unit) → Option ((((List Int) × Int × Unit) × (List Int) × Int × Int × Unit) ⊕ ((((List Int) × Int × Unit) × (List Int) × Unit))) := fun ((v0_0, v0_1, _), v5, v8, v9, _) =>
 bif (decide (v9 < v8)) then
  Option.bind (spec_l13Rd_pick (v0_0, v0_1) (2 : Int)) fun (r0, (r1, r2), _) =>
   bif (r0 == (0 : Int)) then
    if (((0 + (List.length v5)) = (List.length v5)) ∧ ((((List.length v5) + (List.length (List.take 1 (List.drop 0 [v9])))) * 8) ≤ 140737488355328)) then
     some (Sum.inl ((r1, r2, ()), (List.take ((List.length v5) + (List.length (List.take 1 (List.drop 0 [v9])))) (List.drop 0 ((List.drop 0 v5) ++ (List.take 1 (List.drop 0 [v9]))))), v8, (IntKind.wrap .i64 (v9 + (1 : Int))), ()))
    else
     none
   else
    some (Sum.inl ((r1, r2, ()), (List.take (List.length v5) (List.drop 0 v5)), v8, (IntKind.wrap .i64 (v9 + (1 : Int))), ()))
 else
  some (Sum.inr ((v0_0, v0_1, ()), (List.take (List.length v5) (List.drop 0 v5)), ()))
theorem spec_l3Some_l3_eq : loopStep 21 E118 L118_0 (loopOf f118 3) sh118_3 xs118_3 = spec_l3Some_l3 := by kernel_rfl
theorem loop118_3 {L} (h : L 3 = some ⟨21, sh118_3, xs118_3, spec_l3Some_l3⟩) : LoopOk prog L (loopOf f118 3) := lo spec_l3Some_l3_eq E118_ok allNil h
noncomputable def L118_1 : Nat → Option LoopD := fun n => ifEq n 3 (some ⟨21, sh118_3, xs118_3, spec_l3Some_l3⟩) (L118_0 n)
noncomputable def spec_l3Some : ((List Int) × Int) → Int → Option (((List Int)) × (((List Int) × Int) × Unit)) := fun (a0_0, a0_1) a1 =>
 Option.bind (loopF spec_l3Some_l3 ((a0_0, a0_1, ()), (List.take 0 (List.drop 0 [])), a1, (0 : Int), ())) fun ((r0, r1, _), r2, _) =>
  some ((List.take (List.length r2) (List.drop 0 r2)), (r0, r1), ())
noncomputable def A118 : FnM := ⟨[.bx (.pair (.sl (.int .u8)) (.int .i64)), .v (.int .i64)], true, [.sl (.int .i64)], none, fun x => spec_l3Some x.1 x.2.1⟩
theorem spec_l3Some_eq : fnMF E118 L118_1 [.bx (.pair (.sl (.int .u8)) (.int .i64)), .v (.int .i64)] true [.sl (.int .i64)] f118.ntmps f118.results.toList (codeOf f118) = fun x => spec_l3Some x.1 x.2.1 := by kernel_rfl
theorem A118_ok : FnMOk prog 118 A118 := by
 have h := fnMOk_of_run (P := prog) (E := E118) (tysOk_of tyl_ok) E118_ok (L := L118_1) (ps := [.bx (.pair (.sl (.int .u8)) (.int .i64)), .v (.int .i64)]) (own := true) (outs := [.sl (.int .i64)]) func118 (c := codeOf f118) (by kernel_rfl) (codeOk_in (L := L118_1) (tysOk_of tyl_ok) E118_ok mixed (c := codeOf f118) (bs := [loopOf f118 3]) (by kernel_rfl) (allCons (loop118_3 rfl) allNil) (by kernel_rfl)) (by kernel_rfl)
 rw [spec_l3Some_eq] at h
 exact h
/-! (*spec.l13Rd).of -/
noncomputable def E94 : Env := ⟨ty0, fun _ => none, fun g => ifEq g 72 (some A72) (none), fun _ => none, fun _ => none⟩
theorem E94_ok : FnsOk prog E94 := (oneMs A72_ok (by kernel_rfl) func72 (by kernel_rfl) (by kernel_rfl) (noFns _ _))
noncomputable def L94_0 : Nat → Option LoopD := fun _ => none
noncomputable def spec_l13Rd_of : ((List Int) × Int) → (List ByteArray) → Option ((ByteArray) × (((List Int) × Int) × Unit)) := fun (a0_0, a0_1) a1 =>
 Option.bind (spec_l13Rd_pick (a0_0, a0_1) (((List.length a1) : Nat) : Int)) fun (r0, (r1, r2), _) =>
  if (((0 : Int) ≤ r0) ∧ (r0 < (((List.length a1) : Nat) : Int))) then
   some ((List.getD a1 (Int.toNat r0) (⟨Array.empty⟩ : ByteArray)), (r1, r2), ())
  else
   none
noncomputable def A94 : FnM := ⟨[.bx (.pair (.sl (.int .u8)) (.int .i64)), .v (.sl .str)], true, [.str], none, fun x => spec_l13Rd_of x.1 x.2.1⟩
theorem spec_l13Rd_of_eq : fnMF E94 L94_0 [.bx (.pair (.sl (.int .u8)) (.int .i64)), .v (.sl .str)] true [.str] f94.ntmps f94.results.toList (codeOf f94) = fun x => spec_l13Rd_of x.1 x.2.1 := by kernel_rfl
theorem A94_ok : FnMOk prog 94 A94 := by
 have h := fnMOk_of_run (P := prog) (E := E94) (tysOk_of tyl_ok) E94_ok (L := L94_0) (ps := [.bx (.pair (.sl (.int .u8)) (.int .i64)), .v (.sl .str)]) (own := true) (outs := [.str]) func94 (c := codeOf f94) (by kernel_rfl) (codeOk_in (L := L94_0) (tysOk_of tyl_ok) E94_ok mixed (c := codeOf f94) (bs := []) (by kernel_rfl) allNil (by kernel_rfl)) (by kernel_rfl)
 rw [spec_l13Rd_of_eq] at h
 exact h
/-! (*spec.l13Rd).num -/
noncomputable def E116 : Env := ⟨ty0, fun _ => none, fun g => ifEq g 72 (some A72) (none), fun _ => none, fun _ => none⟩
theorem E116_ok : FnsOk prog E116 := (oneMs A72_ok (by kernel_rfl) func72 (by kernel_rfl) (by kernel_rfl) (noFns _ _))
noncomputable def L116_0 : Nat → Option LoopD := fun _ => none
noncomputable def spec_l13Rd_num : ((List Int) × Int) → (List Int) → Option ((Int) × (((List Int) × Int) × Unit)) := fun (a0_0, a0_1) a1 =>
 Option.bind (spec_l13Rd_pick (a0_0, a0_1) (((List.length a1) : Nat) : Int)) fun (r0, (r1, r2), _) =>
  if (((0 : Int) ≤ r0) ∧ (r0 < (((List.length a1) : Nat) : Int))) then
   some ((List.getD a1 (Int.toNat r0) (0 : Int)), (r1, r2), ())
  else
   none
noncomputable def A116 : FnM := ⟨[.bx (.pair (.sl (.int .u8)) (.int .i64)), .v (.sl (.int .i64))], true, [.int .i64], none, fun x => spec_l13Rd_num x.1 x.2.1⟩
theorem spec_l13Rd_num_eq : fnMF E116 L116_0 [.bx (.pair (.sl (.int .u8)) (.int .i64)), .v (.sl (.int .i64))] true [.int .i64] f116.ntmps f116.results.toList (codeOf f116) = fun x => spec_l13Rd_num x.1 x.2.1 := by kernel_rfl
theorem A116_ok : FnMOk prog 116 A116 := by
 have h := fnMOk_of_run (P := prog) (E := E116) (tysOk_of tyl_ok) E116_ok (L := L116_0) (ps := [.bx (.pair (.sl (.int .u8)) (.int .i64)), .v (.sl (.int .i64))]) (own := true) (outs := [.int .i64]) func116 (c := codeOf f116) (by kernel_rfl) (codeOk_in (L := L116_0) (tysOk_of tyl_ok) E116_ok mixed (c := codeOf f116) (bs := []) (by kernel_rfl) allNil (by kernel_rfl)) (by kernel_rfl)
 rw [spec_l13Rd_num_eq] at h
 exact h
/-! spec.l3Put -/
noncomputable def E60 : Env := ⟨ty0, fun g => ifEq g 107 (some A107) (none), fun _ => none, fun _ => none, fun _ => none⟩
theorem E60_ok : FnsOk prog E60 := (oF A107_ok func107 (noFns _ _))
noncomputable def L60_0 : Nat → Option LoopD := fun _ => none
def sh60_2 : List Fm := .cell (.val (.sl (.pair (.int .i64) (.pair .str (.pair (.int .i64) (.int .i64)))))) :: d :: d :: .box 100300 [.val (.int .i64), .val .str, .val (.int .i64), .val (.int .i64)] :: d :: .cell (.val (.int .i64)) :: D 56 []
def xs60_2 : List (Ex × List Fm) := [(.exit 0, [.cell (.val (.sl (.pair (.int .i64) (.pair .str (.pair (.int .i64) (.int .i64)))))), d, d, .box 100300 [.val (.int .i64), .val .str, .val (.int .i64), .val (.int .i64)], d, .cell (.val (.int .i64)), d, d, d, d, d, d, d, d, d, d, d, d, d, d, d, d, d, d, d, d, d, d, d, d, d, d, d, d, d, d, d, d, d, d, d, d, d, d, d, d, d, d, d, d, d, d, d, d, d, d, d, d, d, d, d, d])]
noncomputable def spec_l3Put_l2 : ((List (Int × (ByteArray × (Int × Int)))) × (Int × ByteArray × Int × Int × Unit) × Int × Unit) → Option (((List (Int × (ByteArray × (Int × Int)))) × (Int × ByteArray × Int × Int × Unit) × Int × Unit) ⊕ (((List (Int × (ByteArray × (Int × Int)))) × (Int × ByteArray × Int × Int × Unit) × Int × Unit))) := fun (v0, (v3_0, v3_1, v3_2, v3_3, _), v5, _) =>
 bif (decide (v5 < (((List.length v0) : Nat) : Int))) then
  if (((0 : Int) ≤ v5) ∧ (v5 < (((List.length v0) : Nat) : Int))) then
   Option.bind (spec_l3Before (List.getD v0 (Int.toNat v5) ((0 : Int), (⟨Array.empty⟩ : ByteArray), (0 : Int), (0 : Int))) (v3_0, v3_1, v3_2, v3_3)) fun r0 =>
    bif r0 then
     some (Sum.inl (v0, (v3_0, v3_1, v3_2, v3_3, ()), (IntKind.wrap .i64 (v5 + (1 : Int))), ()))
    else
     some (Sum.inr (v0, (v3_0, v3_1, v3_2, v3_3, ()), v5, ()))
  else
   none
 else
  some (Sum.inr (v0, (v3_0, v3_1, v3_2, v3_3, ()), v5, ()))
theorem spec_l3Put_l2_eq : loopStep 62 E60 L60_0 (loopOf f60 2) sh60_2 xs60_2 = spec_l3Put_l2 := by kernel_rfl
theorem loop60_2 {L} (h : L 2 = some ⟨62, sh60_2, xs60_2, spec_l3Put_l2⟩) : LoopOk prog L (loopOf f60 2) := lo spec_l3Put_l2_eq E60_ok allNil h
noncomputable def L60_1 : Nat → Option LoopD := fun n => ifEq n 2 (some ⟨62, sh60_2, xs60_2, spec_l3Put_l2⟩) (L60_0 n)
noncomputable def spec_l3Put : (List (Int × (ByteArray × (Int × Int)))) → (Int × (ByteArray × (Int × Int))) → Option ((List (Int × (ByteArray × (Int × Int))))) := fun a0 (a1_0, a1_1, a1_2, a1_3) =>
 Option.bind (loopF spec_l3Put_l2 (a0, (a1_0, a1_1, a1_2, a1_3, ()), (0 : Int), ())) fun (r0, (r1, r2, r3, r4, _), r5, _) =>
  bif (decide (r5 < (((List.length r0) : Nat) : Int))) then
   if (((0 : Int) ≤ r5) ∧ (r5 < (((List.length r0) : Nat) : Int))) then
    Option.bind (spec_l3Before (r1, r2, r3, r4) (List.getD r0 (Int.toNat r5) ((0 : Int), (⟨Array.empty⟩ : ByteArray), (0 : Int), (0 : Int)))) fun r6 =>
     bif (!r6) then
      if (((0 + 0) = (List.length ([] : List Unit))) ∧ (((0 + (List.length r0)) * 40) ≤ 140737488355328)) then
       if (((0 : Int) ≤ r5) ∧ (r5 < (((0 + (List.length r0)) : Nat) : Int))) then
        if (((0 : Int) ≤ r5) ∧ (r5 < (((0 + (List.length r0)) : Nat) : Int))) then
         Option.bind (Option.some (List.set ((List.drop 0 []) ++ r0) (0 + (Int.toNat r5)) ((List.getD ((List.drop 0 []) ++ r0) (0 + (Int.toNat r5)) ((0 : Int), (⟨Array.empty⟩ : ByteArray), (0 : Int), (0 : Int))).1, (List.getD ((List.drop 0 []) ++ r0) (0 + (Int.toNat r5)) ((0 : Int), (⟨Array.empty⟩ : ByteArray), (0 : Int), (0 : Int))).2.1, (List.getD ((List.drop 0 []) ++ r0) (0 + (Int.toNat r5)) ((0 : Int), (⟨Array.empty⟩ : ByteArray), (0 : Int), (0 : Int))).2.2.1, (if (r4 < (List.getD ((List.drop 0 []) ++ r0) (0 + (Int.toNat r5)) ((0 : Int), (⟨Array.empty⟩ : ByteArray), (0 : Int), (0 : Int))).2.2.2) then r4 else (List.getD ((List.drop 0 []) ++ r0) (0 + (Int.toNat r5)) ((0 : Int), (⟨Array.empty⟩ : ByteArray), (0 : Int), (0 : Int))).2.2.2)))) fun r7 =>
          some (List.take (0 + (List.length r0)) (List.drop 0 r7))
        else
         none
       else
        none
      else
       none
     else
      if (((0 : Int) ≤ r5) ∧ (r5 ≤ (((List.length r0) : Nat) : Int))) then
       if (((0 + 0) = (List.length ([] : List Unit))) ∧ (((0 + (List.length (List.take ((Int.toNat r5) - 0) (List.drop 0 r0)))) * 40) ≤ 140737488355328)) then
        if (((0 + (0 + (List.length (List.take ((Int.toNat r5) - 0) (List.drop 0 r0))))) = (List.length ((List.drop 0 []) ++ (List.take ((Int.toNat r5) - 0) (List.drop 0 r0))))) ∧ ((((0 + (List.length (List.take ((Int.toNat r5) - 0) (List.drop 0 r0)))) + (List.length (List.take 1 (List.drop 0 [(r1, r2, r3, r4)])))) * 40) ≤ 140737488355328)) then
         if (((0 : Int) ≤ r5) ∧ (r5 ≤ (((List.length r0) : Nat) : Int))) then
          if (((0 + ((0 + (List.length (List.take ((Int.toNat r5) - 0) (List.drop 0 r0)))) + (List.length (List.take 1 (List.drop 0 [(r1, r2, r3, r4)]))))) = (List.length ((List.drop 0 ((List.drop 0 []) ++ (List.take ((Int.toNat r5) - 0) (List.drop 0 r0)))) ++ (List.take 1 (List.drop 0 [(r1, r2, r3, r4)]))))) ∧ (((((0 + (List.length (List.take ((Int.toNat r5) - 0) (List.drop 0 r0)))) + (List.length (List.take 1 (List.drop 0 [(r1, r2, r3, r4)])))) + (List.length (List.take ((List.length r0) - (Int.toNat r5)) (List.drop (Int.toNat r5) r0)))) * 40) ≤ 140737488355328)) then
           some (List.take (((0 + (List.length (List.take ((Int.toNat r5) - 0) (List.drop 0 r0)))) + (List.length (List.take 1 (List.drop 0 [(r1, r2, r3, r4)])))) + (List.length (List.take ((List.length r0) - (Int.toNat r5)) (List.drop (Int.toNat r5) r0)))) (List.drop 0 ((List.drop 0 ((List.drop 0 ((List.drop 0 []) ++ (List.take ((Int.toNat r5) - 0) (List.drop 0 r0)))) ++ (List.take 1 (List.drop 0 [(r1, r2, r3, r4)])))) ++ (List.take ((List.length r0) - (Int.toNat r5)) (List.drop (Int.toNat r5) r0)))))
          else
           none
         else
          none
        else
         none
       else
        none
      else
       none
   else
    none
  else
   if (((0 : Int) ≤ r5) ∧ (r5 ≤ (((List.length r0) : Nat) : Int))) then
    if (((0 + 0) = (List.length ([] : List Unit))) ∧ (((0 + (List.length (List.take ((Int.toNat r5) - 0) (List.drop 0 r0)))) * 40) ≤ 140737488355328)) then
     if (((0 + (0 + (List.length (List.take ((Int.toNat r5) - 0) (List.drop 0 r0))))) = (List.length ((List.drop 0 []) ++ (List.take ((Int.toNat r5) - 0) (List.drop 0 r0))))) ∧ ((((0 + (List.length (List.take ((Int.toNat r5) - 0) (List.drop 0 r0)))) + (List.length (List.take 1 (List.drop 0 [(r1, r2, r3, r4)])))) * 40) ≤ 140737488355328)) then
      if (((0 : Int) ≤ r5) ∧ (r5 ≤ (((List.length r0) : Nat) : Int))) then
       if (((0 + ((0 + (List.length (List.take ((Int.toNat r5) - 0) (List.drop 0 r0)))) + (List.length (List.take 1 (List.drop 0 [(r1, r2, r3, r4)]))))) = (List.length ((List.drop 0 ((List.drop 0 []) ++ (List.take ((Int.toNat r5) - 0) (List.drop 0 r0)))) ++ (List.take 1 (List.drop 0 [(r1, r2, r3, r4)]))))) ∧ (((((0 + (List.length (List.take ((Int.toNat r5) - 0) (List.drop 0 r0)))) + (List.length (List.take 1 (List.drop 0 [(r1, r2, r3, r4)])))) + (List.length (List.take ((List.length r0) - (Int.toNat r5)) (List.drop (Int.toNat r5) r0)))) * 40) ≤ 140737488355328)) then
        some (List.take (((0 + (List.length (List.take ((Int.toNat r5) - 0) (List.drop 0 r0)))) + (List.length (List.take 1 (List.drop 0 [(r1, r2, r3, r4)])))) + (List.length (List.take ((List.length r0) - (Int.toNat r5)) (List.drop (Int.toNat r5) r0)))) (List.drop 0 ((List.drop 0 ((List.drop 0 ((List.drop 0 []) ++ (List.take ((Int.toNat r5) - 0) (List.drop 0 r0)))) ++ (List.take 1 (List.drop 0 [(r1, r2, r3, r4)])))) ++ (List.take ((List.length r0) - (Int.toNat r5)) (List.drop (Int.toNat r5) r0)))))
       else
        none
      else
       none
     else
      none
    else
     none
   else
    none
noncomputable def A60 : FnA := ⟨[.v (.sl (.pair (.int .i64) (.pair .str (.pair (.int .i64) (.int .i64))))), .v (.pair (.int .i64) (.pair .str (.pair (.int .i64) (.int .i64))))], true, [.sl (.pair (.int .i64) (.pair .str (.pair (.int .i64) (.int .i64))))], fun x => spec_l3Put x.1 x.2.1⟩
theorem spec_l3Put_eq : fnF E60 L60_1 [.v (.sl (.pair (.int .i64) (.pair .str (.pair (.int .i64) (.int .i64))))), .v (.pair (.int .i64) (.pair .str (.pair (.int .i64) (.int .i64))))] true [.sl (.pair (.int .i64) (.pair .str (.pair (.int .i64) (.int .i64))))] f60.ntmps f60.results.toList (codeOf f60) = fun x => spec_l3Put x.1 x.2.1 := by kernel_rfl
theorem A60_ok : FnOk prog 60 A60 := fo spec_l3Put_eq func60 E60_ok (allCons (loop60_2 rfl) allNil)
/-! spec.l3Draw -/
noncomputable def E74 : Env := ⟨ty0, fun g => ifEq g 117 (some A117) (ifEq g 60 (some A60) (none)), fun g => ifEq g 72 (some A72) (ifEq g 118 (some A118) (ifEq g 94 (some A94) (ifEq g 116 (some A116) (none)))), fun _ => none, fun _ => none⟩
theorem E74_ok : FnsOk prog E74 := (oF A117_ok func117 (oF A60_ok func60 (oneMs A72_ok (by kernel_rfl) func72 (by kernel_rfl) (by kernel_rfl) (oneMs A118_ok (by kernel_rfl) func118 (by kernel_rfl) (by kernel_rfl) (oneMs A94_ok (by kernel_rfl) func94 (by kernel_rfl) (by kernel_rfl) (oneMs A116_ok (by kernel_rfl) func116 (by kernel_rfl) (by kernel_rfl) (noFns _ _)))))))
noncomputable def L74_0 : Nat → Option LoopD := fun _ => none
def sh74_8 : List Fm := .box 200000 [.val (.sl (.int .u8)), .val (.int .i64)] :: d :: d :: d :: .box 100400 [.val (.int .i64), .own (.int .i64) 100402 false, .own (.int .i64) 100403 false, .own (.pair (.int .i64) (.pair .str (.pair (.int .i64) (.int .i64)))) 100404 false] :: d :: .cell (.val (.int .i64)) :: .box 100700 [.val (.int .i64), .own (.int .i64) 100702 false, .own (.int .i64) 100703 false, .own (.pair (.int .i64) (.pair .str (.pair (.int .i64) (.int .i64)))) 100704 false] :: D 30 (.cell (.val (.int .i64)) :: .cell (.val (.int .i64)) :: D 21 [])
def xs74_8 : List (Ex × List Fm) := [(.exit 0, [.box 200000 [.val (.sl (.int .u8)), .val (.int .i64)], d, d, d, .box 100400 [.val (.int .i64), .own (.int .i64) 100402 false, .own (.int .i64) 100403 false, .own (.pair (.int .i64) (.pair .str (.pair (.int .i64) (.int .i64)))) 100404 false], d, d, .box 100700 [.val (.int .i64), .own (.int .i64) 100702 false, .own (.int .i64) 100703 false, .own (.pair (.int .i64) (.pair .str (.pair (.int .i64) (.int .i64)))) 100704 false], d, d, d, d, d, d, d, d, d, d, d, d, d, d, d, d, d, d, d, d, d, d, d, d, d, d, d, d, d, d, d, d, d, d, d, d, d, d, d, d, d, d, d, d, d, d, d, d, d, d, d, d, d])]
noncomputable def spec_l3Draw_l8 : (((List Int) × Int × Unit) × (Int × (List Int) × (List Int) × (List (Int × (ByteArray × (Int × Int)))) × Unit) × Int × (Int × (List Int) × (List Int) × (List (Int × (ByteArray × (Int × Int)))) × Unit) × Int × Int × Unit) → Option ((((List Int) × Int × Unit) × (Int × (List Int) × (List Int) × (List (Int × (ByteArray × (Int × Int)))) × Unit) × Int × (Int × (List Int) × (List Int) × (List (Int × (ByteArray × (Int × Int)))) × Unit) × Int × Int × Unit) ⊕ ((((List Int) × Int × Unit) × (Int × (List Int) × (List Int) × (List (Int × (ByteArray × (Int × Int)))) × Unit) × (Int × (List Int) × (List Int) × (List (Int × (ByteArray × (Int × Int)))) × Unit) × Unit))) := fun ((v0_0, v0_1, _), (v4_0, v4_1, v4_2, v4_3, _), v6, (v7_0, v7_1, v7_2, v7_3, _), v38, v39, _) =>
 bif (decide (v39 < v38)) then
  Option.bind (spec_l13Rd_pick (v0_0, v0_1) v6) fun (r0, (r1, r2), _) =>
   Option.bind (spec_l13Rd_of (r1, r2) (List.take 2 (List.drop 0 [(⟨#[(97 : UInt8)]⟩ : ByteArray), (⟨#[(98 : UInt8)]⟩ : ByteArray)]))) fun (r3, (r4, r5), _) =>
    Option.bind (spec_l13Rd_pick (r4, r5) v6) fun (r6, (r7, r8), _) =>
     Option.bind (spec_l13Rd_num (r7, r8) (List.take 6 (List.drop 0 [(0 : Int), (1 : Int), (0 : Int), (1 : Int), (2 : Int), (0 : Int)]))) fun (r9, (r10, r11), _) =>
      Option.bind (spec_l3Put (List.take (List.length v7_3) (List.drop 0 v7_3)) (r0, r3, r6, r9)) fun r12 =>
       some (Sum.inl ((r10, r11, ()), (v4_0, (List.take (List.length v4_1) (List.drop 0 v4_1)), (List.take (List.length v4_2) (List.drop 0 v4_2)), (List.take (List.length v4_3) (List.drop 0 v4_3)), ()), v6, (v7_0, (List.take (List.length v7_1) (List.drop 0 v7_1)), (List.take (List.length v7_2) (List.drop 0 v7_2)), (List.take (List.length r12) (List.drop 0 r12)), ()), v38, (IntKind.wrap .i64 (v39 + (1 : Int))), ()))
 else
  some (Sum.inr ((v0_0, v0_1, ()), (v4_0, (List.take (List.length v4_1) (List.drop 0 v4_1)), (List.take (List.length v4_2) (List.drop 0 v4_2)), (List.take (List.length v4_3) (List.drop 0 v4_3)), ()), (v7_0, (List.take (List.length v7_1) (List.drop 0 v7_1)), (List.take (List.length v7_2) (List.drop 0 v7_2)), (List.take (List.length v7_3) (List.drop 0 v7_3)), ()), ()))
theorem spec_l3Draw_l8_eq : loopStep 61 E74 L74_0 (loopOf f74 8) sh74_8 xs74_8 = spec_l3Draw_l8 := by kernel_rfl
theorem loop74_8 {L} (h : L 8 = some ⟨61, sh74_8, xs74_8, spec_l3Draw_l8⟩) : LoopOk prog L (loopOf f74 8) := lo spec_l3Draw_l8_eq E74_ok allNil h
noncomputable def L74_1 : Nat → Option LoopD := fun n => ifEq n 8 (some ⟨61, sh74_8, xs74_8, spec_l3Draw_l8⟩) (L74_0 n)
noncomputable def spec_l3Draw : ((List Int) × Int) → Int → Option (((Int × ((List Int) × ((List Int) × (List (Int × (ByteArray × (Int × Int)))))))) × (((List Int) × Int) × Unit)) := fun (a0_0, a0_1) a1 =>
 Option.bind (spec_l13Rd_pick (a0_0, a0_1) (3 : Int)) fun (r0, (r1, r2), _) =>
  bif (r0 == (0 : Int)) then
   Option.bind (spec_l13Rd_pick (r1, r2) (9 : Int)) fun (r3, (r4, r5), _) =>
    Option.bind (spec_l3Known r3) fun (r6, r7, r8, r9) =>
     bif (decide (r6 ≤ a1)) then
      some ((r6, (List.take (List.length r7) (List.drop 0 r7)), (List.take (List.length r8) (List.drop 0 r8)), (List.take (List.length r9) (List.drop 0 r9))), (r4, r5), ())
     else
      Option.bind (spec_l13Rd_pick (r4, r5) a1) fun (r10, (r11, r12), _) =>
       Option.bind (spec_l3Some (r11, r12) (IntKind.wrap .i64 ((1 : Int) + r10))) fun (r13, (r14, r15), _) =>
        Option.bind (spec_l3Some (r14, r15) (IntKind.wrap .i64 ((1 : Int) + r10))) fun (r16, (r17, r18), _) =>
         Option.bind (spec_l13Rd_pick (r17, r18) (IntKind.wrap .i64 ((IntKind.wrap .i64 ((2 : Int) * (IntKind.wrap .i64 ((1 : Int) + r10)))) + (1 : Int)))) fun (r19, (r20, r21), _) =>
          Option.bind (loopF spec_l3Draw_l8 ((r20, r21, ()), ((0 : Int), [], [], [], ()), (IntKind.wrap .i64 ((1 : Int) + r10)), ((IntKind.wrap .i64 ((1 : Int) + r10)), (List.take (List.length r13) (List.drop 0 r13)), (List.take (List.length r16) (List.drop 0 r16)), (List.take 0 (List.drop 0 [])), ()), (IntKind.wrap .i64 ((1 : Int) + r19)), (0 : Int), ())) fun ((r22, r23, _), (r24, r25, r26, r27, _), (r28, r29, r30, r31, _), _) =>
           some ((r28, (List.take (List.length r29) (List.drop 0 r29)), (List.take (List.length r30) (List.drop 0 r30)), (List.take (List.length r31) (List.drop 0 r31))), (r22, r23), ())
  else
   Option.bind (spec_l13Rd_pick (r1, r2) a1) fun (r32, (r33, r34), _) =>
    Option.bind (spec_l3Some (r33, r34) (IntKind.wrap .i64 ((1 : Int) + r32))) fun (r35, (r36, r37), _) =>
     Option.bind (spec_l3Some (r36, r37) (IntKind.wrap .i64 ((1 : Int) + r32))) fun (r38, (r39, r40), _) =>
      Option.bind (spec_l13Rd_pick (r39, r40) (IntKind.wrap .i64 ((IntKind.wrap .i64 ((2 : Int) * (IntKind.wrap .i64 ((1 : Int) + r32)))) + (1 : Int)))) fun (r41, (r42, r43), _) =>
       Option.bind (loopF spec_l3Draw_l8 ((r42, r43, ()), ((0 : Int), [], [], [], ()), (IntKind.wrap .i64 ((1 : Int) + r32)), ((IntKind.wrap .i64 ((1 : Int) + r32)), (List.take (List.length r35) (List.drop 0 r35)), (List.take (List.length r38) (List.drop 0 r38)), (List.take 0 (List.drop 0 [])), ()), (IntKind.wrap .i64 ((1 : Int) + r41)), (0 : Int), ())) fun ((r44, r45, _), (r46, r47, r48, r49, _), (r50, r51, r52, r53, _), _) =>
        some ((r50, (List.take (List.length r51) (List.drop 0 r51)), (List.take (List.length r52) (List.drop 0 r52)), (List.take (List.length r53) (List.drop 0 r53))), (r44, r45), ())
noncomputable def A74 : FnM := ⟨[.bx (.pair (.sl (.int .u8)) (.int .i64)), .v (.int .i64)], true, [.pair (.int .i64) (.pair (.sl (.int .i64)) (.pair (.sl (.int .i64)) (.sl (.pair (.int .i64) (.pair .str (.pair (.int .i64) (.int .i64)))))))], none, fun x => spec_l3Draw x.1 x.2.1⟩
theorem spec_l3Draw_eq : fnMF E74 L74_1 [.bx (.pair (.sl (.int .u8)) (.int .i64)), .v (.int .i64)] true [.pair (.int .i64) (.pair (.sl (.int .i64)) (.pair (.sl (.int .i64)) (.sl (.pair (.int .i64) (.pair .str (.pair (.int .i64) (.int .i64)))))))] f74.ntmps f74.results.toList (codeOf f74) = fun x => spec_l3Draw x.1 x.2.1 := by kernel_rfl
theorem A74_ok : FnMOk prog 74 A74 := by
 have h := fnMOk_of_run (P := prog) (E := E74) (tysOk_of tyl_ok) E74_ok (L := L74_1) (ps := [.bx (.pair (.sl (.int .u8)) (.int .i64)), .v (.int .i64)]) (own := true) (outs := [.pair (.int .i64) (.pair (.sl (.int .i64)) (.pair (.sl (.int .i64)) (.sl (.pair (.int .i64) (.pair .str (.pair (.int .i64) (.int .i64)))))))]) func74 (c := codeOf f74) (by kernel_rfl) (codeOk_in (L := L74_1) (tysOk_of tyl_ok) E74_ok mixed (c := codeOf f74) (bs := [loopOf f74 8]) (by kernel_rfl) (allCons (loop74_8 rfl) allNil) (by kernel_rfl)) (by kernel_rfl)
 rw [spec_l3Draw_eq] at h
 exact h
/-! spec.l3Bad -/
noncomputable def E73 : Env := ⟨ty0, fun _ => none, fun g => ifEq g 72 (some A72) (ifEq g 116 (some A116) (ifEq g 94 (some A94) (none))), fun _ => none, fun _ => none⟩
theorem E73_ok : FnsOk prog E73 := (oneMs A72_ok (by kernel_rfl) func72 (by kernel_rfl) (by kernel_rfl) (oneMs A116_ok (by kernel_rfl) func116 (by kernel_rfl) (by kernel_rfl) (oneMs A94_ok (by kernel_rfl) func94 (by kernel_rfl) (by kernel_rfl) (noFns _ _))))
noncomputable def L73_0 : Nat → Option LoopD := fun _ => none
noncomputable def spec_l3Bad : ((List Int) × Int) → (Int × ((List Int) × ((List Int) × (List (Int × (ByteArray × (Int × Int))))))) → Option (((Int × ((List Int) × ((List Int) × (List (Int × (ByteArray × (Int × Int)))))))) × (((List Int) × Int) × Unit)) := fun (a0_0, a0_1) (a1_0, a1_1, a1_2, a1_3) =>
 Option.bind (spec_l13Rd_pick (a0_0, a0_1) (36 : Int)) fun (r0, (r1, r2), _) =>
  bif (r0 == (0 : Int)) then
   Option.bind (spec_l13Rd_num (r1, r2) (List.take 5 (List.drop 0 [(0 : Int), (5 : Int), (-1 : Int), (1 : Int), (9223372036854775807 : Int)]))) fun (r3, (r4, r5), _) =>
    some ((r3, a1_1, a1_2, a1_3), (r4, r5), ())
  else
   bif (r0 == (1 : Int)) then
    if (((0 + 0) = (List.length ([] : List Unit))) ∧ (((0 + (List.length a1_3)) * 40) ≤ 140737488355328)) then
     Option.bind (spec_l13Rd_pick (r1, r2) (2 : Int)) fun (r6, (r7, r8), _) =>
      Option.bind (spec_l13Rd_of (r7, r8) (List.take 3 (List.drop 0 [(⟨#[(97 : UInt8)]⟩ : ByteArray), (⟨#[(99 : UInt8)]⟩ : ByteArray), (⟨#[]⟩ : ByteArray)]))) fun (r9, (r10, r11), _) =>
       Option.bind (spec_l13Rd_num (r10, r11) (List.take 3 (List.drop 0 [(0 : Int), (4 : Int), (-1 : Int)]))) fun (r12, (r13, r14), _) =>
        Option.bind (spec_l13Rd_num (r13, r14) (List.take 3 (List.drop 0 [(0 : Int), (4 : Int), (-1 : Int)]))) fun (r15, (r16, r17), _) =>
         if (((0 + (0 + (List.length a1_3))) = (List.length ((List.drop 0 []) ++ a1_3))) ∧ ((((0 + (List.length a1_3)) + (List.length (List.take 1 (List.drop 0 [(r6, r9, r12, r15)])))) * 40) ≤ 140737488355328)) then
          some ((a1_0, a1_1, a1_2, (List.take ((0 + (List.length a1_3)) + (List.length (List.take 1 (List.drop 0 [(r6, r9, r12, r15)])))) (List.drop 0 ((List.drop 0 ((List.drop 0 []) ++ a1_3)) ++ (List.take 1 (List.drop 0 [(r6, r9, r12, r15)])))))), (r16, r17), ())
         else
          none
    else
     none
   else
    bif (r0 == (2 : Int)) then
     if (((0 + 0) = (List.length ([] : List Unit))) ∧ (((0 + (List.length a1_1)) * 8) ≤ 140737488355328)) then
      Option.bind (spec_l13Rd_num (r1, r2) (List.take 3 (List.drop 0 [(0 : Int), (4 : Int), (-1 : Int)]))) fun (r18, (r19, r20), _) =>
       if (((0 + (0 + (List.length a1_1))) = (List.length ((List.drop 0 []) ++ a1_1))) ∧ ((((0 + (List.length a1_1)) + (List.length (List.take 1 (List.drop 0 [r18])))) * 8) ≤ 140737488355328)) then
        some ((a1_0, (List.take ((0 + (List.length a1_1)) + (List.length (List.take 1 (List.drop 0 [r18])))) (List.drop 0 ((List.drop 0 ((List.drop 0 []) ++ a1_1)) ++ (List.take 1 (List.drop 0 [r18]))))), a1_2, a1_3), (r19, r20), ())
       else
        none
     else
      none
    else
     some ((a1_0, a1_1, a1_2, a1_3), (r1, r2), ())
noncomputable def A73 : FnM := ⟨[.bx (.pair (.sl (.int .u8)) (.int .i64)), .v (.pair (.int .i64) (.pair (.sl (.int .i64)) (.pair (.sl (.int .i64)) (.sl (.pair (.int .i64) (.pair .str (.pair (.int .i64) (.int .i64))))))))], false, [.pair (.int .i64) (.pair (.sl (.int .i64)) (.pair (.sl (.int .i64)) (.sl (.pair (.int .i64) (.pair .str (.pair (.int .i64) (.int .i64)))))))], none, fun x => spec_l3Bad x.1 x.2.1⟩
theorem spec_l3Bad_eq : fnMF E73 L73_0 [.bx (.pair (.sl (.int .u8)) (.int .i64)), .v (.pair (.int .i64) (.pair (.sl (.int .i64)) (.pair (.sl (.int .i64)) (.sl (.pair (.int .i64) (.pair .str (.pair (.int .i64) (.int .i64))))))))] false [.pair (.int .i64) (.pair (.sl (.int .i64)) (.pair (.sl (.int .i64)) (.sl (.pair (.int .i64) (.pair .str (.pair (.int .i64) (.int .i64)))))))] f73.ntmps f73.results.toList (codeOf f73) = fun x => spec_l3Bad x.1 x.2.1 := by kernel_rfl
theorem A73_ok : FnMOk prog 73 A73 := by
 have h := fnMOk_of_run (P := prog) (E := E73) (tysOk_of tyl_ok) E73_ok (L := L73_0) (ps := [.bx (.pair (.sl (.int .u8)) (.int .i64)), .v (.pair (.int .i64) (.pair (.sl (.int .i64)) (.pair (.sl (.int .i64)) (.sl (.pair (.int .i64) (.pair .str (.pair (.int .i64) (.int .i64))))))))]) (own := false) (outs := [.pair (.int .i64) (.pair (.sl (.int .i64)) (.pair (.sl (.int .i64)) (.sl (.pair (.int .i64) (.pair .str (.pair (.int .i64) (.int .i64)))))))]) func73 (c := codeOf f73) (by kernel_rfl) (codeOk_in (L := L73_0) (tysOk_of tyl_ok) E73_ok mixed (c := codeOf f73) (bs := []) (by kernel_rfl) allNil (by kernel_rfl)) (by kernel_rfl)
 rw [spec_l3Bad_eq] at h
 exact h
/-! spec.l8Draw -/
noncomputable def E29 : Env := ⟨ty0, fun _ => none, fun g => ifEq g 72 (some A72) (ifEq g 74 (some A74) (ifEq g 73 (some A73) (none))), fun _ => none, fun _ => none⟩
theorem E29_ok : FnsOk prog E29 := (oneMs A72_ok (by kernel_rfl) func72 (by kernel_rfl) (by kernel_rfl) (oneMs A74_ok (by kernel_rfl) func74 (by kernel_rfl) (by kernel_rfl) (oneMs A73_ok (by kernel_rfl) func73 (by kernel_rfl) (by kernel_rfl) (noFns _ _))))
noncomputable def L29_0 : Nat → Option LoopD := fun _ => none
noncomputable def spec_l8Draw : ((List Int) × Int) → Option (((Int × ((List Int) × ((List Int) × (List (Int × (ByteArray × (Int × Int)))))))) × (((List Int) × Int) × Unit)) := fun (a0_0, a0_1) =>
 Option.bind (spec_l13Rd_pick (a0_0, a0_1) (3 : Int)) fun (r0, (r1, r2), _) =>
  bif (r0 == (0 : Int)) then
   Option.bind (spec_l3Draw (r1, r2) (3 : Int)) fun ((r3, r4, r5, r6), (r7, r8), _) =>
    Option.bind (spec_l3Bad (r7, r8) (r3, (List.take (List.length r4) (List.drop 0 r4)), (List.take (List.length r5) (List.drop 0 r5)), (List.take (List.length r6) (List.drop 0 r6)))) fun ((r9, r10, r11, r12), (r13, r14), _) =>
     some ((r9, r10, r11, r12), (r13, r14), ())
  else
   Option.bind (spec_l3Draw (r1, r2) (2 : Int)) fun ((r15, r16, r17, r18), (r19, r20), _) =>
    Option.bind (spec_l3Bad (r19, r20) (r15, (List.take (List.length r16) (List.drop 0 r16)), (List.take (List.length r17) (List.drop 0 r17)), (List.take (List.length r18) (List.drop 0 r18)))) fun ((r21, r22, r23, r24), (r25, r26), _) =>
     some ((r21, r22, r23, r24), (r25, r26), ())
noncomputable def A29 : FnM := ⟨[.bx (.pair (.sl (.int .u8)) (.int .i64))], false, [.pair (.int .i64) (.pair (.sl (.int .i64)) (.pair (.sl (.int .i64)) (.sl (.pair (.int .i64) (.pair .str (.pair (.int .i64) (.int .i64)))))))], none, fun x => spec_l8Draw x.1⟩
theorem spec_l8Draw_eq : fnMF E29 L29_0 [.bx (.pair (.sl (.int .u8)) (.int .i64))] false [.pair (.int .i64) (.pair (.sl (.int .i64)) (.pair (.sl (.int .i64)) (.sl (.pair (.int .i64) (.pair .str (.pair (.int .i64) (.int .i64)))))))] f29.ntmps f29.results.toList (codeOf f29) = fun x => spec_l8Draw x.1 := by kernel_rfl
theorem A29_ok : FnMOk prog 29 A29 := by
 have h := fnMOk_of_run (P := prog) (E := E29) (tysOk_of tyl_ok) E29_ok (L := L29_0) (ps := [.bx (.pair (.sl (.int .u8)) (.int .i64))]) (own := false) (outs := [.pair (.int .i64) (.pair (.sl (.int .i64)) (.pair (.sl (.int .i64)) (.sl (.pair (.int .i64) (.pair .str (.pair (.int .i64) (.int .i64)))))))]) func29 (c := codeOf f29) (by kernel_rfl) (codeOk_in (L := L29_0) (tysOk_of tyl_ok) E29_ok mixed (c := codeOf f29) (bs := []) (by kernel_rfl) allNil (by kernel_rfl)) (by kernel_rfl)
 rw [spec_l8Draw_eq] at h
 exact h
/-! spec.DrawWordElements -/
noncomputable def E6 : Env := ⟨ty0, fun _ => none, fun g => ifEq g 29 (some A29) (none), fun g => ifEq g 30 (some A30) (none), fun _ => none⟩
theorem E6_ok : FnsOk prog E6 := (oneBs A30_ok func30 (by kernel_rfl) (by kernel_rfl) (oneMs A29_ok (by kernel_rfl) func29 (by kernel_rfl) (by kernel_rfl) (noFns _ _)))
noncomputable def L6_0 : Nat → Option LoopD := fun _ => none
noncomputable def spec_DrawWordElements : (List Int) → Option ((Int × ((List Int) × ((List Int) × (List (Int × (ByteArray × (Int × Int)))))))) := fun a0 =>
 Option.bind (spec_l13Open a0) fun (r0, r1) =>
  Option.bind (spec_l8Draw (r0, r1)) fun ((r2, r3, r4, r5), (r6, r7), _) =>
   some (r2, r3, r4, r5)
noncomputable def A6 : FnA := ⟨[.v (.sl (.int .u8))], false, [.pair (.int .i64) (.pair (.sl (.int .i64)) (.pair (.sl (.int .i64)) (.sl (.pair (.int .i64) (.pair .str (.pair (.int .i64) (.int .i64)))))))], fun x => spec_DrawWordElements x.1⟩
theorem spec_DrawWordElements_eq : fnF E6 L6_0 [.v (.sl (.int .u8))] false [.pair (.int .i64) (.pair (.sl (.int .i64)) (.pair (.sl (.int .i64)) (.sl (.pair (.int .i64) (.pair .str (.pair (.int .i64) (.int .i64)))))))] f6.ntmps f6.results.toList (codeOf f6) = fun x => spec_DrawWordElements x.1 := by kernel_rfl
theorem A6_ok : FnOk prog 6 A6 := fo spec_DrawWordElements_eq func6 E6_ok allNil
/-! impl.statesOk -/
noncomputable def E64 : Env := ⟨ty0, fun _ => none, fun _ => none, fun _ => none, fun _ => none⟩
theorem E64_ok : FnsOk prog E64 := (noFns _ _)
noncomputable def L64_0 : Nat → Option LoopD := fun _ => none
def sh64_2 : List Fm := .cell (.val (.sl (.int .i64))) :: .cell (.val (.int .i64)) :: D 5 (.cell (.val (.sl (.int .i64))) :: .cell (.val (.int .i64)) :: .cell (.val (.int .i64)) :: D 25 [])
def xs64_2 : List (Ex × List Fm) := [(.ret, (D 4 (.cell (.val .bool) :: D 30 []))), (.exit 0, (D 35 []))]
noncomputable def impl_statesOk_l2 : ((List Int) × Int × (List Int) × Int × Int × Unit) → Option (((List Int) × Int × (List Int) × Int × Int × Unit) ⊕ ((Bool × Unit) ⊕ (Unit))) := fun (v0, v1, v7, v8, v9, _) =>
 bif (decide (v9 < v8)) then
  if (((0 : Int) ≤ v9) ∧ (v9 < (((List.length v7) : Nat) : Int))) then
   bif (decide ((List.getD v7 (Int.toNat v9) (0 : Int)) < (0 : Int))) then
    some (Sum.inr (Sum.inl (false, ())))
   else
    bif (decide ((List.getD v7 (Int.toNat v9) (0 : Int)) ≥ v1)) then
     some (Sum.inr (Sum.inl (false, ())))
    else
     bif (decide (v9 > (0 : Int))) then
      if (((0 : Int) ≤ (IntKind.wrap .i64 (v9 - (1 : Int)))) ∧ ((IntKind.wrap .i64 (v9 - (1 : Int))) < (((List.length v0) : Nat) : Int))) then
       bif (decide ((List.getD v0 (Int.toNat (IntKind.wrap .i64 (v9 - (1 : Int)))) (0 : Int)) ≥ (List.getD v7 (Int.toNat v9) (0 : Int)))) then
        some (Sum.inr (Sum.inl (false, ())))
       else
        some (Sum.inl (v0, v1, v7, v8, (IntKind.wrap .i64 (v9 + (1 : Int))), ()))
      else
       none
     else
      some (Sum.inl (v0, v1, v7, v8, (IntKind.wrap .i64 (v9 + (1 : Int))), ()))
  else
   none
 else
  some (Sum.inr (Sum.inr ()))
theorem impl_statesOk_l2_eq : loopStep 35 E64 L64_0 (loopOf f64 2) sh64_2 xs64_2 = impl_statesOk_l2 := by kernel_rfl
theorem loop64_2 {L} (h : L 2 = some ⟨35, sh64_2, xs64_2, impl_statesOk_l2⟩) : LoopOk prog L (loopOf f64 2) := lo impl_statesOk_l2_eq E64_ok allNil h
noncomputable def L64_1 : Nat → Option LoopD := fun n => ifEq n 2 (some ⟨35, sh64_2, xs64_2, impl_statesOk_l2⟩) (L64_0 n)
noncomputable def impl_statesOk : (List Int) → Int → Option (Bool) := fun a0 a1 =>
 Option.bind (loopF impl_statesOk_l2 (a0, a1, a0, (((List.length a0) : Nat) : Int), (0 : Int), ())) fun r0 =>
  (match r0 with
  | .inl (d1, _) =>
    some d1
  | .inr _ =>
    some true)
noncomputable def A64 : FnA := ⟨[.v (.sl (.int .i64)), .v (.int .i64)], true, [.bool], fun x => impl_statesOk x.1 x.2.1⟩
theorem impl_statesOk_eq : fnF E64 L64_1 [.v (.sl (.int .i64)), .v (.int .i64)] true [.bool] f64.ntmps f64.results.toList (codeOf f64) = fun x => impl_statesOk x.1 x.2.1 := by kernel_rfl
theorem A64_ok : FnOk prog 64 A64 := fo impl_statesOk_eq func64 E64_ok (allCons (loop64_2 rfl) allNil)
/-! cmp.isNaN[int] -/
noncomputable def E133 : Env := ⟨ty0, fun _ => none, fun _ => none, fun _ => none, fun _ => none⟩
theorem E133_ok : FnsOk prog E133 := (noFns _ _)
noncomputable def L133_0 : Nat → Option LoopD := fun _ => none
noncomputable def cmp_isNaN : Int → Option (Bool) := fun a0 =>
 some (a0 != a0)
noncomputable def A133 : FnA := ⟨[.v (.int .i64)], true, [.bool], fun x => cmp_isNaN x.1⟩
theorem cmp_isNaN_eq : fnF E133 L133_0 [.v (.int .i64)] true [.bool] f133.ntmps f133.results.toList (codeOf f133) = fun x => cmp_isNaN x.1 := by kernel_rfl
theorem A133_ok : FnOk prog 133 A133 := fo cmp_isNaN_eq func133 E133_ok allNil
/-! cmp.Compare[int] -/
noncomputable def E100 : Env := ⟨ty0, fun g => ifEq g 133 (some A133) (none), fun _ => none, fun _ => none, fun _ => none⟩
theorem E100_ok : FnsOk prog E100 := (oF A133_ok func133 (noFns _ _))
noncomputable def L100_0 : Nat → Option LoopD := fun _ => none
noncomputable def cmp_Compare : Int → Int → Option (Int) := fun a0 a1 =>
 Option.bind (cmp_isNaN a0) fun r0 =>
  Option.bind (cmp_isNaN a1) fun r1 =>
   bif r0 then
    bif r1 then
     some (0 : Int)
    else
     some (-1 : Int)
   else
    bif r1 then
     some (1 : Int)
    else
     bif (decide (a0 < a1)) then
      some (-1 : Int)
     else
      bif (decide (a0 > a1)) then
       some (1 : Int)
      else
       some (0 : Int)
noncomputable def A100 : FnA := ⟨[.v (.int .i64), .v (.int .i64)], true, [.int .i64], fun x => cmp_Compare x.1 x.2.1⟩
theorem cmp_Compare_eq : fnF E100 L100_0 [.v (.int .i64), .v (.int .i64)] true [.int .i64] f100.ntmps f100.results.toList (codeOf f100) = fun x => cmp_Compare x.1 x.2.1 := by kernel_rfl
theorem A100_ok : FnOk prog 100 A100 := fo cmp_Compare_eq func100 E100_ok allNil
/-! cmp.Or[int] -/
noncomputable def E99 : Env := ⟨ty0, fun _ => none, fun _ => none, fun _ => none, fun _ => none⟩
theorem E99_ok : FnsOk prog E99 := (noFns _ _)
noncomputable def L99_0 : Nat → Option LoopD := fun _ => none
def sh99_3 : List Fm := d :: d :: d :: .cell (.val (.int .i64)) :: d :: d :: .cell (.val (.sl (.int .i64))) :: .cell (.val (.int .i64)) :: .cell (.val (.int .i64)) :: D 9 []
def xs99_3 : List (Ex × List Fm) := [(.ret, (d :: d :: .cell (.val (.int .i64)) :: D 15 [])), (.exit 0, (d :: d :: d :: .cell (.val (.int .i64)) :: D 14 []))]
noncomputable def cmp_Or_l3 : (Int × (List Int) × Int × Int × Unit) → Option ((Int × (List Int) × Int × Int × Unit) ⊕ ((Int × Unit) ⊕ (Int × Unit))) := fun (v3, v6, v7, v8, _) =>
 bif (decide (v8 < v7)) then
  if (((0 : Int) ≤ v8) ∧ (v8 < (((List.length v6) : Nat) : Int))) then
   bif ((List.getD v6 (Int.toNat v8) (0 : Int)) != v3) then
    some (Sum.inr (Sum.inl ((List.getD v6 (Int.toNat v8) (0 : Int)), ())))
   else
    some (Sum.inl (v3, v6, v7, (IntKind.wrap .i64 (v8 + (1 : Int))), ()))
  else
   none
 else
  some (Sum.inr (Sum.inr (v3, ())))
theorem cmp_Or_l3_eq : loopStep 18 E99 L99_0 (loopOf f99 3) sh99_3 xs99_3 = cmp_Or_l3 := by kernel_rfl
theorem loop99_3 {L} (h : L 3 = some ⟨18, sh99_3, xs99_3, cmp_Or_l3⟩) : LoopOk prog L (loopOf f99 3) := lo cmp_Or_l3_eq E99_ok allNil h
noncomputable def L99_1 : Nat → Option LoopD := fun n => ifEq n 3 (some ⟨18, sh99_3, xs99_3, cmp_Or_l3⟩) (L99_0 n)
noncomputable def cmp_Or : (List Int) → Option (Int) := fun a0 =>
 Option.bind (loopF cmp_Or_l3 ((0 : Int), a0, (((List.length a0) : Nat) : Int), (0 : Int), ())) fun r0 =>
  (match r0 with
  | .inl (d1, _) =>
    some d1
  | .inr (d2, _) =>
    some d2)
noncomputable def A99 : FnA := ⟨[.v (.sl (.int .i64))], true, [.int .i64], fun x => cmp_Or x.1⟩
theorem cmp_Or_eq : fnF E99 L99_1 [.v (.sl (.int .i64))] true [.int .i64] f99.ntmps f99.results.toList (codeOf f99) = fun x => cmp_Or x.1 := by kernel_rfl
theorem A99_ok : FnOk prog 99 A99 := fo cmp_Or_eq func99 E99_ok (allCons (loop99_3 rfl) allNil)
/-! impl.stepOrder -/
noncomputable def E55 : Env := ⟨ty0, fun g => ifEq g 100 (some A100) (ifEq g 101 (some A101) (ifEq g 99 (some A99) (none))), fun _ => none, fun _ => none, fun _ => none⟩
theorem E55_ok : FnsOk prog E55 := (oF A100_ok func100 (oF A101_ok func101 (oF A99_ok func99 (noFns _ _))))
noncomputable def L55_0 : Nat → Option LoopD := fun _ => none
noncomputable def impl_stepOrder : (Int × (ByteArray × (Int × Int))) → (Int × (ByteArray × (Int × Int))) → Option (Int) := fun (a0_0, a0_1, a0_2, a0_3) (a1_0, a1_1, a1_2, a1_3) =>
 Option.bind (cmp_Compare a0_0 a1_0) fun r0 =>
  Option.bind (strings_Compare a0_1 a1_1) fun r1 =>
   Option.bind (cmp_Compare a0_2 a1_2) fun r2 =>
    Option.bind (cmp_Or (List.take 3 (List.drop 0 [r0, r1, r2]))) fun r3 =>
     some r3
noncomputable def A55 : FnA := ⟨[.v (.pair (.int .i64) (.pair .str (.pair (.int .i64) (.int .i64)))), .v (.pair (.int .i64) (.pair .str (.pair (.int .i64) (.int .i64))))], true, [.int .i64], fun x => impl_stepOrder x.1 x.2.1⟩
theorem impl_stepOrder_eq : fnF E55 L55_0 [.v (.pair (.int .i64) (.pair .str (.pair (.int .i64) (.int .i64)))), .v (.pair (.int .i64) (.pair .str (.pair (.int .i64) (.int .i64))))] true [.int .i64] f55.ntmps f55.results.toList (codeOf f55) = fun x => impl_stepOrder x.1 x.2.1 := by kernel_rfl
theorem A55_ok : FnOk prog 55 A55 := fo impl_stepOrder_eq func55 E55_ok allNil
/-! impl.AutomatonValid -/
noncomputable def E21 : Env := ⟨ty0, fun g => ifEq g 64 (some A64) (ifEq g 55 (some A55) (none)), fun _ => none, fun _ => none, fun _ => none⟩
theorem E21_ok : FnsOk prog E21 := (oF A64_ok func64 (oF A55_ok func55 (noFns _ _)))
noncomputable def L21_0 : Nat → Option LoopD := fun _ => none
def sh21_4 : List Fm := d :: .box 100100 [.val (.int .i64), .val (.sl (.int .i64)), .val (.sl (.int .i64)), .val (.sl (.pair (.int .i64) (.pair .str (.pair (.int .i64) (.int .i64)))))] :: D 34 (.cell (.val (.sl (.pair (.int .i64) (.pair .str (.pair (.int .i64) (.int .i64)))))) :: .cell (.val (.int .i64)) :: .cell (.val (.int .i64)) :: D 62 [])
def xs21_4 : List (Ex × List Fm) := [(.ret, (d :: d :: .cell (.val .bool) :: D 98 [])), (.exit 0, (D 101 []))]
noncomputable def impl_AutomatonValid_l4 : ((Int × (List Int) × (List Int) × (List (Int × (ByteArray × (Int × Int)))) × Unit) × (List (Int × (ByteArray × (Int × Int)))) × Int × Int × Unit) → Option (((Int × (List Int) × (List Int) × (List (Int × (ByteArray × (Int × Int)))) × Unit) × (List (Int × (ByteArray × (Int × Int)))) × Int × Int × Unit) ⊕ ((Bool × Unit) ⊕ (Unit))) := fun ((v1_0, v1_1, v1_2, v1_3, _), v36, v37, v38, _) =>
 bif (decide (v38 < v37)) then
  if (((0 : Int) ≤ v38) ∧ (v38 < (((List.length v36) : Nat) : Int))) then
   bif (decide ((List.getD v36 (Int.toNat v38) ((0 : Int), (⟨Array.empty⟩ : ByteArray), (0 : Int), (0 : Int))).1 < (0 : Int))) then
    some (Sum.inr (Sum.inl (false, ())))
   else
    bif (decide ((List.getD v36 (Int.toNat v38) ((0 : Int), (⟨Array.empty⟩ : ByteArray), (0 : Int), (0 : Int))).1 ≥ v1_0)) then
     some (Sum.inr (Sum.inl (false, ())))
    else
     bif (decide ((List.getD v36 (Int.toNat v38) ((0 : Int), (⟨Array.empty⟩ : ByteArray), (0 : Int), (0 : Int))).2.2.1 < (0 : Int))) then
      some (Sum.inr (Sum.inl (false, ())))
     else
      bif (decide ((List.getD v36 (Int.toNat v38) ((0 : Int), (⟨Array.empty⟩ : ByteArray), (0 : Int), (0 : Int))).2.2.1 ≥ v1_0)) then
       some (Sum.inr (Sum.inl (false, ())))
      else
       bif (!((ByteArray.toList (List.getD v36 (Int.toNat v38) ((0 : Int), (⟨Array.empty⟩ : ByteArray), (0 : Int), (0 : Int))).2.1) == (ByteArray.toList (⟨#[(97 : UInt8)]⟩ : ByteArray)))) then
        bif (!((ByteArray.toList (List.getD v36 (Int.toNat v38) ((0 : Int), (⟨Array.empty⟩ : ByteArray), (0 : Int), (0 : Int))).2.1) == (ByteArray.toList (⟨#[(98 : UInt8)]⟩ : ByteArray)))) then
         some (Sum.inr (Sum.inl (false, ())))
        else
         bif (decide ((List.getD v36 (Int.toNat v38) ((0 : Int), (⟨Array.empty⟩ : ByteArray), (0 : Int), (0 : Int))).2.2.2 < (0 : Int))) then
          some (Sum.inr (Sum.inl (false, ())))
         else
          bif (decide ((List.getD v36 (Int.toNat v38) ((0 : Int), (⟨Array.empty⟩ : ByteArray), (0 : Int), (0 : Int))).2.2.2 > (3 : Int))) then
           some (Sum.inr (Sum.inl (false, ())))
          else
           bif (decide (v38 > (0 : Int))) then
            if (((0 : Int) ≤ (IntKind.wrap .i64 (v38 - (1 : Int)))) ∧ ((IntKind.wrap .i64 (v38 - (1 : Int))) < (((List.length v1_3) : Nat) : Int))) then
             Option.bind (impl_stepOrder (List.getD v1_3 (Int.toNat (IntKind.wrap .i64 (v38 - (1 : Int)))) ((0 : Int), (⟨Array.empty⟩ : ByteArray), (0 : Int), (0 : Int))) ((List.getD v36 (Int.toNat v38) ((0 : Int), (⟨Array.empty⟩ : ByteArray), (0 : Int), (0 : Int))).1, (List.getD v36 (Int.toNat v38) ((0 : Int), (⟨Array.empty⟩ : ByteArray), (0 : Int), (0 : Int))).2.1, (List.getD v36 (Int.toNat v38) ((0 : Int), (⟨Array.empty⟩ : ByteArray), (0 : Int), (0 : Int))).2.2.1, (List.getD v36 (Int.toNat v38) ((0 : Int), (⟨Array.empty⟩ : ByteArray), (0 : Int), (0 : Int))).2.2.2)) fun r0 =>
              bif (decide (r0 ≥ (0 : Int))) then
               some (Sum.inr (Sum.inl (false, ())))
              else
               some (Sum.inl ((v1_0, v1_1, v1_2, v1_3, ()), v36, v37, (IntKind.wrap .i64 (v38 + (1 : Int))), ()))
            else
             none
           else
            some (Sum.inl ((v1_0, v1_1, v1_2, v1_3, ()), v36, v37, (IntKind.wrap .i64 (v38 + (1 : Int))), ()))
       else
        bif (decide ((List.getD v36 (Int.toNat v38) ((0 : Int), (⟨Array.empty⟩ : ByteArray), (0 : Int), (0 : Int))).2.2.2 < (0 : Int))) then
         some (Sum.inr (Sum.inl (false, ())))
        else
         bif (decide ((List.getD v36 (Int.toNat v38) ((0 : Int), (⟨Array.empty⟩ : ByteArray), (0 : Int), (0 : Int))).2.2.2 > (3 : Int))) then
          some (Sum.inr (Sum.inl (false, ())))
         else
          bif (decide (v38 > (0 : Int))) then
           if (((0 : Int) ≤ (IntKind.wrap .i64 (v38 - (1 : Int)))) ∧ ((IntKind.wrap .i64 (v38 - (1 : Int))) < (((List.length v1_3) : Nat) : Int))) then
            Option.bind (impl_stepOrder (List.getD v1_3 (Int.toNat (IntKind.wrap .i64 (v38 - (1 : Int)))) ((0 : Int), (⟨Array.empty⟩ : ByteArray), (0 : Int), (0 : Int))) ((List.getD v36 (Int.toNat v38) ((0 : Int), (⟨Array.empty⟩ : ByteArray), (0 : Int), (0 : Int))).1, (List.getD v36 (Int.toNat v38) ((0 : Int), (⟨Array.empty⟩ : ByteArray), (0 : Int), (0 : Int))).2.1, (List.getD v36 (Int.toNat v38) ((0 : Int), (⟨Array.empty⟩ : ByteArray), (0 : Int), (0 : Int))).2.2.1, (List.getD v36 (Int.toNat v38) ((0 : Int), (⟨Array.empty⟩ : ByteArray), (0 : Int), (0 : Int))).2.2.2)) fun r1 =>
             bif (decide (r1 ≥ (0 : Int))) then
              some (Sum.inr (Sum.inl (false, ())))
             else
              some (Sum.inl ((v1_0, v1_1, v1_2, v1_3, ()), v36, v37, (IntKind.wrap .i64 (v38 + (1 : Int))), ()))
           else
            none
          else
           some (Sum.inl ((v1_0, v1_1, v1_2, v1_3, ()), v36, v37, (IntKind.wrap .i64 (v38 + (1 : Int))), ()))
  else
   none
 else
  some (Sum.inr (Sum.inr ()))
theorem impl_AutomatonValid_l4_eq : loopStep 101 E21 L21_0 (loopOf f21 4) sh21_4 xs21_4 = impl_AutomatonValid_l4 := by kernel_rfl
theorem loop21_4 {L} (h : L 4 = some ⟨101, sh21_4, xs21_4, impl_AutomatonValid_l4⟩) : LoopOk prog L (loopOf f21 4) := lo impl_AutomatonValid_l4_eq E21_ok allNil h
noncomputable def L21_1 : Nat → Option LoopD := fun n => ifEq n 4 (some ⟨101, sh21_4, xs21_4, impl_AutomatonValid_l4⟩) (L21_0 n)
noncomputable def impl_AutomatonValid : (Int × ((List Int) × ((List Int) × (List (Int × (ByteArray × (Int × Int))))))) → Option (Bool) := fun (a0_0, a0_1, a0_2, a0_3) =>
 bif (decide (a0_0 < (1 : Int))) then
  some false
 else
  bif (decide (a0_0 > (4 : Int))) then
   some false
  else
   bif (decide ((((List.length a0_3) : Nat) : Int) > (24 : Int))) then
    some false
   else
    Option.bind (impl_statesOk a0_1 a0_0) fun r0 =>
     bif (!r0) then
      some false
     else
      Option.bind (impl_statesOk a0_2 a0_0) fun r1 =>
       bif (!r1) then
        some false
       else
        Option.bind (loopF impl_AutomatonValid_l4 ((a0_0, a0_1, a0_2, a0_3, ()), a0_3, (((List.length a0_3) : Nat) : Int), (0 : Int), ())) fun r2 =>
         (match r2 with
         | .inl (d3, _) =>
           some d3
         | .inr _ =>
           some true)
noncomputable def A21 : FnA := ⟨[.v (.pair (.int .i64) (.pair (.sl (.int .i64)) (.pair (.sl (.int .i64)) (.sl (.pair (.int .i64) (.pair .str (.pair (.int .i64) (.int .i64))))))))], true, [.bool], fun x => impl_AutomatonValid x.1⟩
theorem impl_AutomatonValid_eq : fnF E21 L21_1 [.v (.pair (.int .i64) (.pair (.sl (.int .i64)) (.pair (.sl (.int .i64)) (.sl (.pair (.int .i64) (.pair .str (.pair (.int .i64) (.int .i64))))))))] true [.bool] f21.ntmps f21.results.toList (codeOf f21) = fun x => impl_AutomatonValid x.1 := by kernel_rfl
theorem A21_ok : FnOk prog 21 A21 := fo impl_AutomatonValid_eq func21 E21_ok (allCons (loop21_4 rfl) allNil)
/-! internal/stringslite.HasPrefix -/
noncomputable def E174 : Env := ⟨ty0, fun _ => none, fun _ => none, fun _ => none, fun _ => none⟩
theorem E174_ok : FnsOk prog E174 := (noFns _ _)
noncomputable def L174_0 : Nat → Option LoopD := fun _ => none
noncomputable def internal_stringslite_HasPrefix : ByteArray → ByteArray → Option (Bool) := fun a0 a1 =>
 bif (decide ((((ByteArray.size a0) : Nat) : Int) ≥ (((ByteArray.size a1) : Nat) : Int))) then
  if (((0 : Int) ≤ (((ByteArray.size a1) : Nat) : Int)) ∧ ((((ByteArray.size a1) : Nat) : Int) ≤ (((ByteArray.size a0) : Nat) : Int))) then
   some ((ByteArray.toList (ByteArray.extract a0 0 (Int.toNat (((ByteArray.size a1) : Nat) : Int)))) == (ByteArray.toList a1))
  else
   none
 else
  some false
noncomputable def A174 : FnA := ⟨[.v .str, .v .str], true, [.bool], fun x => internal_stringslite_HasPrefix x.1 x.2.1⟩
theorem internal_stringslite_HasPrefix_eq : fnF E174 L174_0 [.v .str, .v .str] true [.bool] f174.ntmps f174.results.toList (codeOf f174) = fun x => internal_stringslite_HasPrefix x.1 x.2.1 := by kernel_rfl
theorem A174_ok : FnOk prog 174 A174 := fo internal_stringslite_HasPrefix_eq func174 E174_ok allNil
/-! strings.HasPrefix -/
noncomputable def E142 : Env := ⟨ty0, fun g => ifEq g 174 (some A174) (none), fun _ => none, fun _ => none, fun _ => none⟩
theorem E142_ok : FnsOk prog E142 := (oF A174_ok func174 (noFns _ _))
noncomputable def L142_0 : Nat → Option LoopD := fun _ => none
noncomputable def strings_HasPrefix : ByteArray → ByteArray → Option (Bool) := fun a0 a1 =>
 Option.bind (internal_stringslite_HasPrefix a0 a1) fun r0 =>
  some r0
noncomputable def A142 : FnA := ⟨[.v .str, .v .str], true, [.bool], fun x => strings_HasPrefix x.1 x.2.1⟩
theorem strings_HasPrefix_eq : fnF E142 L142_0 [.v .str, .v .str] true [.bool] f142.ntmps f142.results.toList (codeOf f142) = fun x => strings_HasPrefix x.1 x.2.1 := by kernel_rfl
theorem A142_ok : FnOk prog 142 A142 := fo strings_HasPrefix_eq func142 E142_ok allNil
/-! impl.readParts -/
noncomputable def R119 (impl_readParts_rec : ByteArray → Option ((List (ByteArray × PT)) × ByteArray)) : FnA := ⟨[.v .str], true, [.sl (.pair .str .pt), .str], fun x => impl_readParts_rec x.1⟩
noncomputable def E119 (impl_readParts_rec : ByteArray → Option ((List (ByteArray × PT)) × ByteArray)) : Env := ⟨ty0, fun g => ifEq g 119 (some (R119 impl_readParts_rec)) (ifEq g 142 (some A142) (none)), fun _ => none, fun _ => none, fun _ => none⟩
theorem E119_ok (impl_readParts_rec : ByteArray → Option ((List (ByteArray × PT)) × ByteArray)) (hrec : FnOk prog 119 (R119 impl_readParts_rec)) : FnsOk prog (E119 impl_readParts_rec) := (oF hrec func119 (oF A142_ok func142 (noFns _ _)))
noncomputable def L119_0 (impl_readParts_rec : ByteArray → Option ((List (ByteArray × PT)) × ByteArray)) : Nat → Option LoopD := fun _ => none
def sh119_2 : List Fm := .cell (.val .str) :: d :: d :: d :: .cell (.own (.pair .str .pt) 100400 false) :: D 44 []
def xs119_2 : List (Ex × List Fm) := [(.ret, (d :: d :: .cell (.own (.pair .str .pt) 100200 false) :: .cell (.val .str) :: D 45 [])), (.exit 0, (.cell (.val .str) :: d :: d :: d :: .cell (.own (.pair .str .pt) 100400 false) :: D 44 []))]
noncomputable def impl_readParts_l2 (impl_readParts_rec : ByteArray → Option ((List (ByteArray × PT)) × ByteArray)) : (ByteArray × (List (ByteArray × PT)) × Unit) → Option ((ByteArray × (List (ByteArray × PT)) × Unit) ⊕ (((List (ByteArray × PT)) × ByteArray × Unit) ⊕ (ByteArray × (List (ByteArray × PT)) × Unit))) := fun (v0, v4, _) =>
 bif (!((ByteArray.toList v0) == (ByteArray.toList (⟨#[]⟩ : ByteArray)))) then
  if (((0 : Int) ≤ (0 : Int)) ∧ ((0 : Int) < (((ByteArray.size v0) : Nat) : Int))) then
   bif ((((UInt8.toNat (Array.getD (ByteArray.data v0) (Int.toNat (0 : Int)) (0 : UInt8))) : Nat) : Int) == (97 : Int)) then
    bif ((((UInt8.toNat (Array.getD (ByteArray.data v0) (Int.toNat (0 : Int)) (0 : UInt8))) : Nat) : Int) == (97 : Int)) then
     if (((0 : Int) ≤ (1 : Int)) ∧ ((1 : Int) ≤ (((ByteArray.size v0) : Nat) : Int))) then
      if (((0 + (List.length v4)) = (List.length v4)) ∧ ((((List.length v4) + (List.length (List.take 1 (List.drop 0 [((ByteArray.extract v0 0 (Int.toNat (1 : Int))), (PT.mk []))])))) * 40) ≤ 140737488355328)) then
       if (((0 : Int) ≤ (1 : Int)) ∧ ((1 : Int) ≤ (((ByteArray.size v0) : Nat) : Int))) then
        some (Sum.inl ((ByteArray.extract v0 (Int.toNat (1 : Int)) (ByteArray.size v0)), (List.take ((List.length v4) + (List.length (List.take 1 (List.drop 0 [((ByteArray.extract v0 0 (Int.toNat (1 : Int))), (PT.mk []))])))) (List.drop 0 ((List.drop 0 v4) ++ (List.take 1 (List.drop 0 [((ByteArray.extract v0 0 (Int.toNat (1 : Int))), (PT.mk []))]))))), ()))
       else
        none
      else
       none
     else
      none
    else
     bif ((((UInt8.toNat (Array.getD (ByteArray.data v0) (Int.toNat (0 : Int)) (0 : UInt8))) : Nat) : Int) == (40 : Int)) then
      if (((0 : Int) ≤ (1 : Int)) ∧ ((1 : Int) ≤ (((ByteArray.size v0) : Nat) : Int))) then
       Option.bind (impl_readParts_rec (ByteArray.extract v0 (Int.toNat (1 : Int)) (ByteArray.size v0))) fun (r0, r1) =>
        bif (decide ((((List.length r0) : Nat) : Int) > (0 : Int))) then
         Option.bind (strings_HasPrefix r1 (⟨#[(41 : UInt8), (35 : UInt8)]⟩ : ByteArray)) fun r2 =>
          bif r2 then
           if (((0 + (List.length v4)) = (List.length v4)) ∧ ((((List.length v4) + (List.length (List.take 1 (List.drop 0 [((⟨Array.empty⟩ : ByteArray), (PT.mk (List.take (List.length r0) (List.drop 0 r0))))])))) * 40) ≤ 140737488355328)) then
            if (((0 : Int) ≤ (2 : Int)) ∧ ((2 : Int) ≤ (((ByteArray.size r1) : Nat) : Int))) then
             some (Sum.inl ((ByteArray.extract r1 (Int.toNat (2 : Int)) (ByteArray.size r1)), (List.take ((List.length v4) + (List.length (List.take 1 (List.drop 0 [((⟨Array.empty⟩ : ByteArray), (PT.mk (List.take (List.length r0) (List.drop 0 r0))))])))) (List.drop 0 ((List.drop 0 v4) ++ (List.take 1 (List.drop 0 [((⟨Array.empty⟩ : ByteArray), (PT.mk (List.take (List.length r0) (List.drop 0 r0))))]))))), ()))
            else
             none
           else
            none
          else
           some (Sum.inr (Sum.inl ((List.take (List.length v4) (List.drop 0 v4)), v0, ())))
        else
         some (Sum.inr (Sum.inl ((List.take (List.length v4) (List.drop 0 v4)), v0, ())))
      else
       none
     else
      some (Sum.inr (Sum.inl ((List.take (List.length v4) (List.drop 0 v4)), v0, ())))
   else
    bif ((((UInt8.toNat (Array.getD (ByteArray.data v0) (Int.toNat (0 : Int)) (0 : UInt8))) : Nat) : Int) == (98 : Int)) then
     if (((0 : Int) ≤ (1 : Int)) ∧ ((1 : Int) ≤ (((ByteArray.size v0) : Nat) : Int))) then
      if (((0 + (List.length v4)) = (List.length v4)) ∧ ((((List.length v4) + (List.length (List.take 1 (List.drop 0 [((ByteArray.extract v0 0 (Int.toNat (1 : Int))), (PT.mk []))])))) * 40) ≤ 140737488355328)) then
       if (((0 : Int) ≤ (1 : Int)) ∧ ((1 : Int) ≤ (((ByteArray.size v0) : Nat) : Int))) then
        some (Sum.inl ((ByteArray.extract v0 (Int.toNat (1 : Int)) (ByteArray.size v0)), (List.take ((List.length v4) + (List.length (List.take 1 (List.drop 0 [((ByteArray.extract v0 0 (Int.toNat (1 : Int))), (PT.mk []))])))) (List.drop 0 ((List.drop 0 v4) ++ (List.take 1 (List.drop 0 [((ByteArray.extract v0 0 (Int.toNat (1 : Int))), (PT.mk []))]))))), ()))
       else
        none
      else
       none
     else
      none
    else
     bif ((((UInt8.toNat (Array.getD (ByteArray.data v0) (Int.toNat (0 : Int)) (0 : UInt8))) : Nat) : Int) == (40 : Int)) then
      if (((0 : Int) ≤ (1 : Int)) ∧ ((1 : Int) ≤ (((ByteArray.size v0) : Nat) : Int))) then
       Option.bind (impl_readParts_rec (ByteArray.extract v0 (Int.toNat (1 : Int)) (ByteArray.size v0))) fun (r3, r4) =>
        bif (decide ((((List.length r3) : Nat) : Int) > (0 : Int))) then
         Option.bind (strings_HasPrefix r4 (⟨#[(41 : UInt8), (35 : UInt8)]⟩ : ByteArray)) fun r5 =>
          bif r5 then
           if (((0 + (List.length v4)) = (List.length v4)) ∧ ((((List.length v4) + (List.length (List.take 1 (List.drop 0 [((⟨Array.empty⟩ : ByteArray), (PT.mk (List.take (List.length r3) (List.drop 0 r3))))])))) * 40) ≤ 140737488355328)) then
            if (((0 : Int) ≤ (2 : Int)) ∧ ((2 : Int) ≤ (((ByteArray.size r4) : Nat) : Int))) then
             some (Sum.inl ((ByteArray.extract r4 (Int.toNat (2 : Int)) (ByteArray.size r4)), (List.take ((List.length v4) + (List.length (List.take 1 (List.drop 0 [((⟨Array.empty⟩ : ByteArray), (PT.mk (List.take (List.length r3) (List.drop 0 r3))))])))) (List.drop 0 ((List.drop 0 v4) ++ (List.take 1 (List.drop 0 [((⟨Array.empty⟩ : ByteArray), (PT.mk (List.take (List.length r3) (List.drop 0 r3))))]))))), ()))
            else
             none
           else
            none
          else
           some (Sum.inr (Sum.inl ((List.take (List.length v4) (List.drop 0 v4)), v0, ())))
        else
         some (Sum.inr (Sum.inl ((List.take (List.length v4) (List.drop 0 v4)), v0, ())))
      else
       none
     else
      some (Sum.inr (Sum.inl ((List.take (List.length v4) (List.drop 0 v4)), v0, ())))
  else
   none
 else
  some (Sum.inr (Sum.inr (v0, (List.take (List.length v4) (List.drop 0 v4)), ())))
theorem impl_readParts_l2_eq (impl_readParts_rec : ByteArray → Option ((List (ByteArray × PT)) × ByteArray)) : loopStep 49 (E119 impl_readParts_rec) (L119_0 impl_readParts_rec) (loopOf f119 2) sh119_2 xs119_2 = (impl_readParts_l2 impl_readParts_rec) := by kernel_rfl
theorem loop119_2 (impl_readParts_rec : ByteArray → Option ((List (ByteArray × PT)) × ByteArray)) (hrec : FnOk prog 119 (R119 impl_readParts_rec)) {L : Nat → Option LoopD} (h : L 2 = some ⟨49, sh119_2, xs119_2, (impl_readParts_l2 impl_readParts_rec)⟩) : LoopOk prog L (loopOf f119 2) :=
 loopOk (tysOk_of tyl_ok) (E119_ok impl_readParts_rec hrec) (codeOk_in (L := (L119_0 impl_readParts_rec)) (tysOk_of tyl_ok) (E119_ok impl_readParts_rec hrec) mixed (c := loopOf f119 2) (bs := []) (by kernel_rfl) allNil (by kernel_rfl)) (by kernel_rfl) (by kernel_rfl) (impl_readParts_l2_eq impl_readParts_rec) (by rw [show firstId (loopOf f119 2) = 2 from by kernel_rfl]; exact h)
noncomputable def L119_1 (impl_readParts_rec : ByteArray → Option ((List (ByteArray × PT)) × ByteArray)) : Nat → Option LoopD := fun n => ifEq n 2 (some ⟨49, sh119_2, xs119_2, (impl_readParts_l2 impl_readParts_rec)⟩) ((L119_0 impl_readParts_rec) n)
noncomputable def impl_readParts_step (impl_readParts_rec : ByteArray → Option ((List (ByteArray × PT)) × ByteArray)) : ByteArray → Option ((List (ByteArray × PT)) × ByteArray) := fun a0 =>
 Option.bind (loopF (impl_readParts_l2 impl_readParts_rec) (a0, (List.take 0 (List.drop 0 [])), ())) fun r0 =>
  (match r0 with
  | .inl (d1, d2, _) =>
    some ((List.take (List.length d1) (List.drop 0 d1)), d2)
  | .inr (d3, d4, _) =>
    some ((List.take (List.length d4) (List.drop 0 d4)), d3))
theorem impl_readParts_step_eq (impl_readParts_rec : ByteArray → Option ((List (ByteArray × PT)) × ByteArray)) : fnF (E119 impl_readParts_rec) (L119_1 impl_readParts_rec) [.v .str] true [.sl (.pair .str .pt), .str] f119.ntmps f119.results.toList (codeOf f119) = fun x => (impl_readParts_step impl_readParts_rec) x.1 := by kernel_rfl
theorem impl_readParts_step_ok (impl_readParts_rec : ByteArray → Option ((List (ByteArray × PT)) × ByteArray)) (hrec : FnOk prog 119 (R119 impl_readParts_rec)) : FnOk prog 119 ⟨[.v .str], true, [.sl (.pair .str .pt), .str], fun x => (impl_readParts_step impl_readParts_rec) x.1⟩ := by
 have h := fnOk_of_run (P := prog) (E := (E119 impl_readParts_rec)) (tysOk_of tyl_ok) (E119_ok impl_readParts_rec hrec) (L := (L119_1 impl_readParts_rec)) (ps := [.v .str]) (own := true) (outs := [.sl (.pair .str .pt), .str]) func119 (c := codeOf f119) (by kernel_rfl) (codeOk_in (L := (L119_1 impl_readParts_rec)) (tysOk_of tyl_ok) (E119_ok impl_readParts_rec hrec) mixed (c := codeOf f119) (bs := [loopOf f119 2]) (by kernel_rfl) (allCons (loop119_2 impl_readParts_rec hrec rfl) allNil) (by kernel_rfl))
 rw [(impl_readParts_step_eq impl_readParts_rec)] at h
 exact h
/-- so many calls within each other -/
noncomputable def impl_readParts_fuel : Nat → ByteArray → Option ((List (ByteArray × PT)) × ByteArray)
 | 0 => fun _ => none
 | n + 1 => impl_readParts_step (impl_readParts_fuel n)
theorem impl_readParts_fuel_ok : ∀ n, FnOk prog 119 (R119 (impl_readParts_fuel n))
 | 0 => fun xs r h => by cases h
 | n + 1 => impl_readParts_step_ok (impl_readParts_fuel n) (impl_readParts_fuel_ok n)
noncomputable def impl_readParts : ByteArray → Option ((List (ByteArray × PT)) × ByteArray) := impl_readParts_fuel 200
noncomputable def A119 : FnA := R119 impl_readParts
theorem A119_ok : FnOk prog 119 A119 := impl_readParts_fuel_ok 200
/-! impl.parts -/
noncomputable def E75 : Env := ⟨ty0, fun g => ifEq g 119 (some A119) (none), fun _ => none, fun _ => none, fun _ => none⟩
theorem E75_ok : FnsOk prog E75 := (oF A119_ok func119 (noFns _ _))
noncomputable def L75_0 : Nat → Option LoopD := fun _ => none
noncomputable def impl_parts : ByteArray → Option ((List (ByteArray × PT)) × Bool) := fun a0 =>
 bif (decide ((((ByteArray.size a0) : Nat) : Int) > (120 : Int))) then
  some ([], false)
 else
  Option.bind (impl_readParts a0) fun (r0, r1) =>
   bif (decide ((((List.length r0) : Nat) : Int) > (0 : Int))) then
    some ((List.take (List.length r0) (List.drop 0 r0)), ((ByteArray.toList r1) == (ByteArray.toList (⟨#[]⟩ : ByteArray))))
   else
    some ((List.take (List.length r0) (List.drop 0 r0)), false)
noncomputable def A75 : FnA := ⟨[.v .str], true, [.sl (.pair .str .pt), .bool], fun x => impl_parts x.1⟩
theorem impl_parts_eq : fnF E75 L75_0 [.v .str] true [.sl (.pair .str .pt), .bool] f75.ntmps f75.results.toList (codeOf f75) = fun x => impl_parts x.1 := by kernel_rfl
theorem A75_ok : FnOk prog 75 A75 := fo impl_parts_eq func75 E75_ok allNil
/-! impl.filled -/
noncomputable def E43 : Env := ⟨ty0, fun _ => none, fun _ => none, fun _ => none, fun _ => none⟩
theorem E43_ok : FnsOk prog E43 := (noFns _ _)
noncomputable def L43_0 : Nat → Option LoopD := fun _ => none
def sh43_6 : List Fm := .cell (.val (.int .i64)) :: .clo [.int .i64, .int .i64] (.int .i64) :: d :: d :: .box 100400 [.val (.int .i64), .own (.int .i64) 100402 false] :: .box 100500 [.val (.int .i64), .own (.int .i64) 100502 false] :: .cell (.val (.int .i64)) :: d :: d :: d :: .cell (.val (.int .i64)) :: .cell (.val (.int .i64)) :: d :: d :: .cell (.val (.int .i64)) :: .cell (.val (.int .i64)) :: D 14 []
def xs43_6 : List (Ex × List Fm) := [(.exit 2, [.cell (.val (.int .i64)), .clo [.int .i64, .int .i64] (.int .i64), d, d, .box 100400 [.val (.int .i64), .own (.int .i64) 100402 false], .box 100500 [.val (.int .i64), .own (.int .i64) 100502 false], d, d, d, d, .cell (.val (.int .i64)), .cell (.val (.int .i64)), d, d, d, d, d, d, d, d, d, d, d, d, d, d, d, d, d, d])]
noncomputable def impl_filled_l6 : (Int × ((Int × Int × Unit) → Option (Int)) × (Int × (List Int) × Unit) × (Int × (List Int) × Unit) × Int × Int × Int × Int × Int × Unit) → Option ((Int × ((Int × Int × Unit) → Option (Int)) × (Int × (List Int) × Unit) × (Int × (List Int) × Unit) × Int × Int × Int × Int × Int × Unit) ⊕ ((Int × ((Int × Int × Unit) → Option (Int)) × (Int × (List Int) × Unit) × (Int × (List Int) × Unit) × Int × Int × Unit))) := fun (v0, v1, (v4_0, v4_1, _), (v5_0, v5_1, _), v6, v10, v11, v14, v15, _) =>
 bif (decide (v15 < v14)) then
  Option.bind (v1 (v6, v15, ())) fun r0 =>
   if (((0 + (List.length v5_1)) = (List.length v5_1)) ∧ ((((List.length v5_1) + (List.length (List.take 1 (List.drop 0 [r0])))) * 8) ≤ 140737488355328)) then
    some (Sum.inl (v0, v1, (v4_0, (List.take (List.length v4_1) (List.drop 0 v4_1)), ()), (v5_0, (List.take ((List.length v5_1) + (List.length (List.take 1 (List.drop 0 [r0])))) (List.drop 0 ((List.drop 0 v5_1) ++ (List.take 1 (List.drop 0 [r0]))))), ()), v6, v10, v11, v14, (IntKind.wrap .i64 (v15 + (1 : Int))), ()))
   else
    none
 else
  some (Sum.inr (v0, v1, (v4_0, (List.take (List.length v4_1) (List.drop 0 v4_1)), ()), (v5_0, (List.take (List.length v5_1) (List.drop 0 v5_1)), ()), v10, v11, ()))
theorem impl_filled_l6_eq : loopStep 30 E43 L43_0 (loopOf f43 6) sh43_6 xs43_6 = impl_filled_l6 := by kernel_rfl
theorem loop43_6 {L} (h : L 6 = some ⟨30, sh43_6, xs43_6, impl_filled_l6⟩) : LoopOk prog L (loopOf f43 6) := lo impl_filled_l6_eq E43_ok allNil h
noncomputable def L43_1 : Nat → Option LoopD := fun n => ifEq n 6 (some ⟨30, sh43_6, xs43_6, impl_filled_l6⟩) (L43_0 n)
def sh43_3 : List Fm := .cell (.val (.int .i64)) :: .clo [.int .i64, .int .i64] (.int .i64) :: d :: d :: .box 100400 [.val (.int .i64), .own (.int .i64) 100402 false] :: .box 100500 [.val (.int .i64), .own (.int .i64) 100502 false] :: D 4 (.cell (.val (.int .i64)) :: .cell (.val (.int .i64)) :: D 18 [])
def xs43_3 : List (Ex × List Fm) := [(.exit 0, [d, d, d, d, .box 100400 [.val (.int .i64), .own (.int .i64) 100402 false], .box 100500 [.val (.int .i64), .own (.int .i64) 100502 false], d, d, d, d, d, d, d, d, d, d, d, d, d, d, d, d, d, d, d, d, d, d, d, d])]
noncomputable def impl_filled_l3 : (Int × ((Int × Int × Unit) → Option (Int)) × (Int × (List Int) × Unit) × (Int × (List Int) × Unit) × Int × Int × Unit) → Option ((Int × ((Int × Int × Unit) → Option (Int)) × (Int × (List Int) × Unit) × (Int × (List Int) × Unit) × Int × Int × Unit) ⊕ (((Int × (List Int) × Unit) × (Int × (List Int) × Unit) × Unit))) := fun (v0, v1, (v4_0, v4_1, _), (v5_0, v5_1, _), v10, v11, _) =>
 bif (decide (v11 < v10)) then
  Option.bind (loopF impl_filled_l6 (v0, v1, (v4_0, (List.take (List.length v4_1) (List.drop 0 v4_1)), ()), (v5_0, (List.take (List.length v5_1) (List.drop 0 v5_1)), ()), v11, v10, v11, v0, (0 : Int), ())) fun (r0, r1, (r2, r3, _), (r4, r5, _), r6, r7, _) =>
   some (Sum.inl (r0, r1, (r2, (List.take (List.length r3) (List.drop 0 r3)), ()), (r4, (List.take (List.length r5) (List.drop 0 r5)), ()), r6, (IntKind.wrap .i64 (r7 + (1 : Int))), ()))
 else
  some (Sum.inr ((v4_0, (List.take (List.length v4_1) (List.drop 0 v4_1)), ()), (v5_0, (List.take (List.length v5_1) (List.drop 0 v5_1)), ()), ()))
theorem impl_filled_l3_eq : loopStep 30 E43 L43_1 (loopOf f43 3) sh43_3 xs43_3 = impl_filled_l3 := by kernel_rfl
theorem loop43_3 {L} (h : L 3 = some ⟨30, sh43_3, xs43_3, impl_filled_l3⟩) : LoopOk prog L (loopOf f43 3) := lo impl_filled_l3_eq E43_ok (allCons (loop43_6 rfl) allNil) h
noncomputable def L43_2 : Nat → Option LoopD := fun n => ifEq n 3 (some ⟨30, sh43_3, xs43_3, impl_filled_l3⟩) (L43_1 n)
noncomputable def impl_filled : Int → ((Int × Int × Unit) → Option (Int)) → Option ((Int × (List Int))) := fun a0 a1 =>
 Option.bind (loopF impl_filled_l3 (a0, a1, ((0 : Int), [], ()), (a0, [], ()), a0, (0 : Int), ())) fun ((r0, r1, _), (r2, r3, _), _) =>
  some (r2, (List.take (List.length r3) (List.drop 0 r3)))
noncomputable def A43 : FnA := ⟨[.v (.int .i64), .clo [.int .i64, .int .i64] (.int .i64)], true, [.pair (.int .i64) (.sl (.int .i64))], fun x => impl_filled x.1 x.2.1⟩
theorem impl_filled_eq : fnF E43 L43_2 [.v (.int .i64), .clo [.int .i64, .int .i64] (.int .i64)] true [.pair (.int .i64) (.sl (.int .i64))] f43.ntmps f43.results.toList (codeOf f43) = fun x => impl_filled x.1 x.2.1 := by kernel_rfl
theorem A43_ok : FnOk prog 43 A43 := fo impl_filled_eq func43 E43_ok (allCons (loop43_3 rfl) allNil)
/-! impl.StepMatrix$1 -/
noncomputable def E86 : Env := ⟨ty0, fun _ => none, fun _ => none, fun _ => none, fun _ => none⟩
theorem E86_ok : FnsOk prog E86 := (noFns _ _)
noncomputable def L86_0 : Nat → Option LoopD := fun _ => none
noncomputable def impl_StepMatrix_1 : Int → Int → Option (Int) := fun a0 a1 =>
 some (1000000 : Int)
noncomputable def A86 : FnA := ⟨[.v (.int .i64), .v (.int .i64)], true, [.int .i64], fun x => impl_StepMatrix_1 x.1 x.2.1⟩
theorem impl_StepMatrix_1_eq : fnF E86 L86_0 [.v (.int .i64), .v (.int .i64)] true [.int .i64] f86.ntmps f86.results.toList (codeOf f86) = fun x => impl_StepMatrix_1 x.1 x.2.1 := by kernel_rfl
theorem A86_ok : FnOk prog 86 A86 := fo impl_StepMatrix_1_eq func86 E86_ok allNil
/-! impl.StepMatrix -/
noncomputable def E40 : Env := ⟨ty0, fun g => ifEq g 21 (some A21) (ifEq g 43 (some A43) (ifEq g 86 (some A86) (none))), fun _ => none, fun _ => none, fun _ => none⟩
theorem E40_ok : FnsOk prog E40 := (oF A21_ok func21 (oF A43_ok func43 (oF A86_ok func86 (noFns _ _))))
noncomputable def L40_0 : Nat → Option LoopD := fun _ => none
def sh40_5 : List Fm := d :: .cell (.val .str) :: d :: d :: .box 100400 [.val (.int .i64), .own (.int .i64) 100402 false] :: d :: .box 100600 [.val (.int .i64), .own (.int .i64) 100602 false] :: D 18 (.cell (.val (.sl (.pair (.int .i64) (.pair .str (.pair (.int .i64) (.int .i64)))))) :: .cell (.val (.int .i64)) :: .cell (.val (.int .i64)) :: D 22 [])
def xs40_5 : List (Ex × List Fm) := [(.exit 0, [d, d, d, d, .box 100400 [.val (.int .i64), .own (.int .i64) 100402 false], d, .box 100600 [.val (.int .i64), .own (.int .i64) 100602 false], d, d, d, d, d, d, d, d, d, d, d, d, d, d, d, d, d, d, d, d, d, d, d, d, d, d, d, d, d, d, d, d, d, d, d, d, d, d, d, d, d, d, d])]
noncomputable def impl_StepMatrix_l5 : (ByteArray × (Int × (List Int) × Unit) × (Int × (List Int) × Unit) × (List (Int × (ByteArray × (Int × Int)))) × Int × Int × Unit) → Option ((ByteArray × (Int × (List Int) × Unit) × (Int × (List Int) × Unit) × (List (Int × (ByteArray × (Int × Int)))) × Int × Int × Unit) ⊕ (((Int × (List Int) × Unit) × (Int × (List Int) × Unit) × Unit))) := fun (v1, (v4_0, v4_1, _), (v6_0, v6_1, _), v25, v26, v27, _) =>
 bif (decide (v27 < v26)) then
  if (((0 : Int) ≤ v27) ∧ (v27 < (((List.length v25) : Nat) : Int))) then
   bif ((ByteArray.toList (List.getD v25 (Int.toNat v27) ((0 : Int), (⟨Array.empty⟩ : ByteArray), (0 : Int), (0 : Int))).2.1) == (ByteArray.toList v1)) then
    if (((0 : Int) ≤ (IntKind.wrap .i64 ((IntKind.wrap .i64 ((List.getD v25 (Int.toNat v27) ((0 : Int), (⟨Array.empty⟩ : ByteArray), (0 : Int), (0 : Int))).1 * v6_0)) + (List.getD v25 (Int.toNat v27) ((0 : Int), (⟨Array.empty⟩ : ByteArray), (0 : Int), (0 : Int))).2.2.1))) ∧ ((IntKind.wrap .i64 ((IntKind.wrap .i64 ((List.getD v25 (Int.toNat v27) ((0 : Int), (⟨Array.empty⟩ : ByteArray), (0 : Int), (0 : Int))).1 * v6_0)) + (List.getD v25 (Int.toNat v27) ((0 : Int), (⟨Array.empty⟩ : ByteArray), (0 : Int), (0 : Int))).2.2.1)) < (((List.length v6_1) : Nat) : Int))) then
     some (Sum.inl (v1, (v4_0, (List.take (List.length v4_1) (List.drop 0 v4_1)), ()), (v6_0, (List.take (List.length v6_1) (List.drop 0 (List.set v6_1 (0 + (Int.toNat (IntKind.wrap .i64 ((IntKind.wrap .i64 ((List.getD v25 (Int.toNat v27) ((0 : Int), (⟨Array.empty⟩ : ByteArray), (0 : Int), (0 : Int))).1 * v6_0)) + (List.getD v25 (Int.toNat v27) ((0 : Int), (⟨Array.empty⟩ : ByteArray), (0 : Int), (0 : Int))).2.2.1)))) (List.getD v25 (Int.toNat v27) ((0 : Int), (⟨Array.empty⟩ : ByteArray), (0 : Int), (0 : Int))).2.2.2))), ()), v25, v26, (IntKind.wrap .i64 (v27 + (1 : Int))), ()))
    else
     none
   else
    some (Sum.inl (v1, (v4_0, (List.take (List.length v4_1) (List.drop 0 v4_1)), ()), (v6_0, (List.take (List.length v6_1) (List.drop 0 v6_1)), ()), v25, v26, (IntKind.wrap .i64 (v27 + (1 : Int))), ()))
  else
   none
 else
  some (Sum.inr ((v4_0, (List.take (List.length v4_1) (List.drop 0 v4_1)), ()), (v6_0, (List.take (List.length v6_1) (List.drop 0 v6_1)), ()), ()))
theorem impl_StepMatrix_l5_eq : loopStep 50 E40 L40_0 (loopOf f40 5) sh40_5 xs40_5 = impl_StepMatrix_l5 := by kernel_rfl
theorem loop40_5 {L} (h : L 5 = some ⟨50, sh40_5, xs40_5, impl_StepMatrix_l5⟩) : LoopOk prog L (loopOf f40 5) := lo impl_StepMatrix_l5_eq E40_ok allNil h
noncomputable def L40_1 : Nat → Option LoopD := fun n => ifEq n 5 (some ⟨50, sh40_5, xs40_5, impl_StepMatrix_l5⟩) (L40_0 n)
noncomputable def impl_StepMatrix : (Int × ((List Int) × ((List Int) × (List (Int × (ByteArray × (Int × Int))))))) → ByteArray → Option ((Int × (List Int)) × Bool) := fun (a0_0, a0_1, a0_2, a0_3) a1 =>
 Option.bind (impl_AutomatonValid (a0_0, a0_1, a0_2, a0_3)) fun r0 =>
  bif (!r0) then
   some (((0 : Int), []), false)
  else
   bif (!((ByteArray.toList a1) == (ByteArray.toList (⟨#[(97 : UInt8)]⟩ : ByteArray)))) then
    bif (!((ByteArray.toList a1) == (ByteArray.toList (⟨#[(98 : UInt8)]⟩ : ByteArray)))) then
     some (((0 : Int), []), false)
    else
     Option.bind (impl_filled a0_0 (fun y1 => (impl_StepMatrix_1 y1.1 y1.2.1))) fun (r2, r3) =>
      Option.bind (loopF impl_StepMatrix_l5 (a1, ((0 : Int), [], ()), (r2, (List.take (List.length r3) (List.drop 0 r3)), ()), a0_3, (((List.length a0_3) : Nat) : Int), (0 : Int), ())) fun ((r4, r5, _), (r6, r7, _), _) =>
       some ((r6, (List.take (List.length r7) (List.drop 0 r7))), true)
   else
    Option.bind (impl_filled a0_0 (fun y8 => (impl_StepMatrix_1 y8.1 y8.2.1))) fun (r9, r10) =>
     Option.bind (loopF impl_StepMatrix_l5 (a1, ((0 : Int), [], ()), (r9, (List.take (List.length r10) (List.drop 0 r10)), ()), a0_3, (((List.length a0_3) : Nat) : Int), (0 : Int), ())) fun ((r11, r12, _), (r13, r14, _), _) =>
      some ((r13, (List.take (List.length r14) (List.drop 0 r14))), true)
noncomputable def A40 : FnA := ⟨[.v (.pair (.int .i64) (.pair (.sl (.int .i64)) (.pair (.sl (.int .i64)) (.sl (.pair (.int .i64) (.pair .str (.pair (.int .i64) (.int .i64)))))))), .v .str], true, [.pair (.int .i64) (.sl (.int .i64)), .bool], fun x => impl_StepMatrix x.1 x.2.1⟩
theorem impl_StepMatrix_eq : fnF E40 L40_1 [.v (.pair (.int .i64) (.pair (.sl (.int .i64)) (.pair (.sl (.int .i64)) (.sl (.pair (.int .i64) (.pair .str (.pair (.int .i64) (.int .i64)))))))), .v .str] true [.pair (.int .i64) (.sl (.int .i64)), .bool] f40.ntmps f40.results.toList (codeOf f40) = fun x => impl_StepMatrix x.1 x.2.1 := by kernel_rfl
theorem A40_ok : FnOk prog 40 A40 := fo impl_StepMatrix_eq func40 E40_ok (allCons (loop40_5 rfl) allNil)
/-! slices.IndexFunc[[]int,int] -/
noncomputable def E132 : Env := ⟨ty0, fun _ => none, fun _ => none, fun _ => none, fun _ => none⟩
theorem E132_ok : FnsOk prog E132 := (noFns _ _)
noncomputable def L132_0 : Nat → Option LoopD := fun _ => none
def sh132_2 : List Fm := .cell (.val (.sl (.int .i64))) :: .clo [.int .i64] .bool :: D 5 (.cell (.val (.int .i64)) :: .cell (.val (.int .i64)) :: D 10 [])
def xs132_2 : List (Ex × List Fm) := [(.ret, (D 4 (.cell (.val (.int .i64)) :: D 14 []))), (.exit 0, (D 19 []))]
noncomputable def slices_IndexFunc_l2 : ((List Int) × ((Int × Unit) → Option (Bool)) × Int × Int × Unit) → Option (((List Int) × ((Int × Unit) → Option (Bool)) × Int × Int × Unit) ⊕ ((Int × Unit) ⊕ (Unit))) := fun (v0, v1, v7, v8, _) =>
 bif (decide (v8 < v7)) then
  if (((0 : Int) ≤ v8) ∧ (v8 < (((List.length v0) : Nat) : Int))) then
   Option.bind (v1 ((List.getD v0 (Int.toNat v8) (0 : Int)), ())) fun r0 =>
    bif r0 then
     some (Sum.inr (Sum.inl (v8, ())))
    else
     some (Sum.inl (v0, v1, v7, (IntKind.wrap .i64 (v8 + (1 : Int))), ()))
  else
   none
 else
  some (Sum.inr (Sum.inr ()))
theorem slices_IndexFunc_l2_eq : loopStep 19 E132 L132_0 (loopOf f132 2) sh132_2 xs132_2 = slices_IndexFunc_l2 := by kernel_rfl
theorem loop132_2 {L} (h : L 2 = some ⟨19, sh132_2, xs132_2, slices_IndexFunc_l2⟩) : LoopOk prog L (loopOf f132 2) := lo slices_IndexFunc_l2_eq E132_ok allNil h
noncomputable def L132_1 : Nat → Option LoopD := fun n => ifEq n 2 (some ⟨19, sh132_2, xs132_2, slices_IndexFunc_l2⟩) (L132_0 n)
noncomputable def slices_IndexFunc : (List Int) → ((Int × Unit) → Option (Bool)) → Option (Int) := fun a0 a1 =>
 Option.bind (loopF slices_IndexFunc_l2 (a0, a1, (((List.length a0) : Nat) : Int), (0 : Int), ())) fun r0 =>
  (match r0 with
  | .inl (d1, _) =>
    some d1
  | .inr _ =>
    some (-1 : Int))
noncomputable def A132 : FnA := ⟨[.v (.sl (.int .i64)), .clo [.int .i64] .bool], true, [.int .i64], fun x => slices_IndexFunc x.1 x.2.1⟩
theorem slices_IndexFunc_eq : fnF E132 L132_1 [.v (.sl (.int .i64)), .clo [.int .i64] .bool] true [.int .i64] f132.ntmps f132.results.toList (codeOf f132) = fun x => slices_IndexFunc x.1 x.2.1 := by kernel_rfl
theorem A132_ok : FnOk prog 132 A132 := fo slices_IndexFunc_eq func132 E132_ok (allCons (loop132_2 rfl) allNil)
/-! slices.ContainsFunc[[]int,int] -/
noncomputable def E90 : Env := ⟨ty0, fun g => ifEq g 132 (some A132) (none), fun _ => none, fun _ => none, fun _ => none⟩
theorem E90_ok : FnsOk prog E90 := (oF A132_ok func132 (noFns _ _))
noncomputable def L90_0 : Nat → Option LoopD := fun _ => none
noncomputable def slices_ContainsFunc : (List Int) → ((Int × Unit) → Option (Bool)) → Option (Bool) := fun a0 a1 =>
 Option.bind (slices_IndexFunc a0 a1) fun r0 =>
  some (decide (r0 ≥ (0 : Int)))
noncomputable def A90 : FnA := ⟨[.v (.sl (.int .i64)), .clo [.int .i64] .bool], true, [.bool], fun x => slices_ContainsFunc x.1 x.2.1⟩
theorem slices_ContainsFunc_eq : fnF E90 L90_0 [.v (.sl (.int .i64)), .clo [.int .i64] .bool] true [.bool] f90.ntmps f90.results.toList (codeOf f90) = fun x => slices_ContainsFunc x.1 x.2.1 := by kernel_rfl
theorem A90_ok : FnOk prog 90 A90 := fo slices_ContainsFunc_eq func90 E90_ok allNil
/-! impl.CostValid -/
noncomputable def E92 : Env := ⟨ty0, fun _ => none, fun _ => none, fun _ => none, fun _ => none⟩
theorem E92_ok : FnsOk prog E92 := (noFns _ _)
noncomputable def L92_0 : Nat → Option LoopD := fun _ => none
noncomputable def impl_CostValid : Int → Option (Bool) := fun a0 =>
 bif (decide (a0 ≥ (0 : Int))) then
  some (decide (a0 ≤ (1000000 : Int)))
 else
  some false
noncomputable def A92 : FnA := ⟨[.v (.int .i64)], true, [.bool], fun x => impl_CostValid x.1⟩
theorem impl_CostValid_eq : fnF E92 L92_0 [.v (.int .i64)] true [.bool] f92.ntmps f92.results.toList (codeOf f92) = fun x => impl_CostValid x.1 := by kernel_rfl
theorem A92_ok : FnOk prog 92 A92 := fo impl_CostValid_eq func92 E92_ok allNil
/-! impl.MatrixValid$1 -/
noncomputable def E91 : Env := ⟨ty0, fun g => ifEq g 92 (some A92) (none), fun _ => none, fun _ => none, fun _ => none⟩
theorem E91_ok : FnsOk prog E91 := (oF A92_ok func92 (noFns _ _))
noncomputable def L91_0 : Nat → Option LoopD := fun _ => none
noncomputable def impl_MatrixValid_1 : Int → Option (Bool) := fun a0 =>
 Option.bind (impl_CostValid a0) fun r0 =>
  some (!r0)
noncomputable def A91 : FnA := ⟨[.v (.int .i64)], true, [.bool], fun x => impl_MatrixValid_1 x.1⟩
theorem impl_MatrixValid_1_eq : fnF E91 L91_0 [.v (.int .i64)] true [.bool] f91.ntmps f91.results.toList (codeOf f91) = fun x => impl_MatrixValid_1 x.1 := by kernel_rfl
theorem A91_ok : FnOk prog 91 A91 := fo impl_MatrixValid_1_eq func91 E91_ok allNil
/-! impl.MatrixValid -/
noncomputable def E42 : Env := ⟨ty0, fun g => ifEq g 90 (some A90) (ifEq g 91 (some A91) (none)), fun _ => none, fun _ => none, fun _ => none⟩
theorem E42_ok : FnsOk prog E42 := (oF A90_ok func90 (oF A91_ok func91 (noFns _ _)))
noncomputable def L42_0 : Nat → Option LoopD := fun _ => none
noncomputable def impl_MatrixValid : (Int × (List Int)) → Option (Bool) := fun (a0_0, a0_1) =>
 bif (decide (a0_0 < (1 : Int))) then
  some false
 else
  bif (decide (a0_0 > (4 : Int))) then
   some false
  else
   bif ((((List.length a0_1) : Nat) : Int) != (IntKind.wrap .i64 (a0_0 * a0_0))) then
    some false
   else
    Option.bind (slices_ContainsFunc a0_1 (fun y0 => (impl_MatrixValid_1 y0.1))) fun r1 =>
     some (!r1)
noncomputable def A42 : FnA := ⟨[.v (.pair (.int .i64) (.sl (.int .i64)))], true, [.bool], fun x => impl_MatrixValid x.1⟩
theorem impl_MatrixValid_eq : fnF E42 L42_0 [.v (.pair (.int .i64) (.sl (.int .i64)))] true [.bool] f42.ntmps f42.results.toList (codeOf f42) = fun x => impl_MatrixValid x.1 := by kernel_rfl
theorem A42_ok : FnOk prog 42 A42 := fo impl_MatrixValid_eq func42 E42_ok allNil
/-! (impl.Matrix).at -/
noncomputable def E45 : Env := ⟨ty0, fun _ => none, fun _ => none, fun _ => none, fun _ => none⟩
theorem E45_ok : FnsOk prog E45 := (noFns _ _)
noncomputable def L45_0 : Nat → Option LoopD := fun _ => none
noncomputable def impl_Matrix_at : (Int × (List Int)) → Int → Int → Option (Int) := fun (a0_0, a0_1) a1 a2 =>
 if (((0 : Int) ≤ (IntKind.wrap .i64 ((IntKind.wrap .i64 (a1 * a0_0)) + a2))) ∧ ((IntKind.wrap .i64 ((IntKind.wrap .i64 (a1 * a0_0)) + a2)) < (((List.length a0_1) : Nat) : Int))) then
  some (List.getD a0_1 (Int.toNat (IntKind.wrap .i64 ((IntKind.wrap .i64 (a1 * a0_0)) + a2))) (0 : Int))
 else
  none
noncomputable def A45 : FnA := ⟨[.v (.pair (.int .i64) (.sl (.int .i64))), .v (.int .i64), .v (.int .i64)], true, [.int .i64], fun x => impl_Matrix_at x.1 x.2.1 x.2.2.1⟩
theorem impl_Matrix_at_eq : fnF E45 L45_0 [.v (.pair (.int .i64) (.sl (.int .i64))), .v (.int .i64), .v (.int .i64)] true [.int .i64] f45.ntmps f45.results.toList (codeOf f45) = fun x => impl_Matrix_at x.1 x.2.1 x.2.2.1 := by kernel_rfl
theorem A45_ok : FnOk prog 45 A45 := fo impl_Matrix_at_eq func45 E45_ok allNil
/-! impl.GradesOf$1 -/
noncomputable def E44 : Env := ⟨ty0, fun g => ifEq g 45 (some A45) (none), fun _ => none, fun _ => none, fun _ => none⟩
theorem E44_ok : FnsOk prog E44 := (oF A45_ok func45 (noFns _ _))
noncomputable def L44_0 : Nat → Option LoopD := fun _ => none
noncomputable def impl_GradesOf_1 : Int → Int → (Int × (List Int)) → Option (Int) := fun a0 a1 (a2_0, a2_1) =>
 Option.bind (impl_Matrix_at (a2_0, a2_1) a0 a1) fun r0 =>
  bif (r0 == (0 : Int)) then
   some (0 : Int)
  else
   bif (r0 == (1000000 : Int)) then
    some (3 : Int)
   else
    some (1 : Int)
noncomputable def A44 : FnA := ⟨[.v (.int .i64), .v (.int .i64), .cap (.pair (.int .i64) (.sl (.int .i64)))], true, [.int .i64], fun x => impl_GradesOf_1 x.1 x.2.1 x.2.2.1⟩
theorem impl_GradesOf_1_eq : fnF E44 L44_0 [.v (.int .i64), .v (.int .i64), .cap (.pair (.int .i64) (.sl (.int .i64)))] true [.int .i64] f44.ntmps f44.results.toList (codeOf f44) = fun x => impl_GradesOf_1 x.1 x.2.1 x.2.2.1 := by kernel_rfl
theorem A44_ok : FnOk prog 44 A44 := fo impl_GradesOf_1_eq func44 E44_ok allNil
/-! impl.GradesOf -/
noncomputable def E10 : Env := ⟨ty0, fun g => ifEq g 42 (some A42) (ifEq g 43 (some A43) (ifEq g 44 (some A44) (none))), fun _ => none, fun _ => none, fun _ => none⟩
theorem E10_ok : FnsOk prog E10 := (oF A42_ok func42 (oF A43_ok func43 (oF A44_ok func44 (noFns _ _))))
noncomputable def L10_0 : Nat → Option LoopD := fun _ => none
noncomputable def impl_GradesOf : (Int × (List Int)) → Option ((Int × (List Int)) × Bool) := fun (a0_0, a0_1) =>
 Option.bind (impl_MatrixValid (a0_0, a0_1)) fun r0 =>
  bif (!r0) then
   some (((0 : Int), []), false)
  else
   Option.bind (impl_filled a0_0 (fun y1 => (impl_GradesOf_1 y1.1 y1.2.1 (a0_0, a0_1)))) fun (r2, r3) =>
    some ((r2, (List.take (List.length r3) (List.drop 0 r3))), true)
noncomputable def A10 : FnA := ⟨[.v (.pair (.int .i64) (.sl (.int .i64)))], true, [.pair (.int .i64) (.sl (.int .i64)), .bool], fun x => impl_GradesOf x.1⟩
theorem impl_GradesOf_eq : fnF E10 L10_0 [.v (.pair (.int .i64) (.sl (.int .i64)))] true [.pair (.int .i64) (.sl (.int .i64)), .bool] f10.ntmps f10.results.toList (codeOf f10) = fun x => impl_GradesOf x.1 := by kernel_rfl
theorem A10_ok : FnOk prog 10 A10 := fo impl_GradesOf_eq func10 E10_ok allNil
/-! impl.GradesValid$1 -/
noncomputable def E120 : Env := ⟨ty0, fun _ => none, fun _ => none, fun _ => none, fun _ => none⟩
theorem E120_ok : FnsOk prog E120 := (noFns _ _)
noncomputable def L120_0 : Nat → Option LoopD := fun _ => none
noncomputable def impl_GradesValid_1 : Int → Option (Bool) := fun a0 =>
 some (decide (a0 > (3 : Int)))
noncomputable def A120 : FnA := ⟨[.v (.int .i64)], true, [.bool], fun x => impl_GradesValid_1 x.1⟩
theorem impl_GradesValid_1_eq : fnF E120 L120_0 [.v (.int .i64)] true [.bool] f120.ntmps f120.results.toList (codeOf f120) = fun x => impl_GradesValid_1 x.1 := by kernel_rfl
theorem A120_ok : FnOk prog 120 A120 := fo impl_GradesValid_1_eq func120 E120_ok allNil
/-! impl.GradesValid -/
noncomputable def E77 : Env := ⟨ty0, fun g => ifEq g 42 (some A42) (ifEq g 90 (some A90) (ifEq g 120 (some A120) (none))), fun _ => none, fun _ => none, fun _ => none⟩
theorem E77_ok : FnsOk prog E77 := (oF A42_ok func42 (oF A90_ok func90 (oF A120_ok func120 (noFns _ _))))
noncomputable def L77_0 : Nat → Option LoopD := fun _ => none
noncomputable def impl_GradesValid : (Int × (List Int)) → Option (Bool) := fun (a0_0, a0_1) =>
 Option.bind (impl_MatrixValid (a0_0, a0_1)) fun r0 =>
  bif r0 then
   Option.bind (slices_ContainsFunc a0_1 (fun y1 => (impl_GradesValid_1 y1.1))) fun r2 =>
    some (!r2)
  else
   some false
noncomputable def A77 : FnA := ⟨[.v (.pair (.int .i64) (.sl (.int .i64)))], true, [.bool], fun x => impl_GradesValid x.1⟩
theorem impl_GradesValid_eq : fnF E77 L77_0 [.v (.pair (.int .i64) (.sl (.int .i64)))] true [.bool] f77.ntmps f77.results.toList (codeOf f77) = fun x => impl_GradesValid x.1 := by kernel_rfl
theorem A77_ok : FnOk prog 77 A77 := fo impl_GradesValid_eq func77 E77_ok allNil
/-! impl.MulGrades$1 -/
noncomputable def E78 : Env := ⟨ty0, fun g => ifEq g 45 (some A45) (none), fun _ => none, fun _ => none, fun _ => none⟩
theorem E78_ok : FnsOk prog E78 := (oF A45_ok func45 (noFns _ _))
noncomputable def L78_0 : Nat → Option LoopD := fun _ => none
def sh78_3 : List Fm := .cell (.val (.int .i64)) :: .cell (.val (.int .i64)) :: .fp (.pair (.int .i64) (.sl (.int .i64))) :: .fp (.pair (.int .i64) (.sl (.int .i64))) :: d :: d :: d :: .cell (.val (.int .i64)) :: d :: d :: .cell (.val (.int .i64)) :: .cell (.val (.int .i64)) :: D 15 []
def xs78_3 : List (Ex × List Fm) := [(.exit 0, (D 7 (.cell (.val (.int .i64)) :: D 19 [])))]
noncomputable def impl_MulGrades_1_l3 : (Int × Int × (Int × (List Int)) × (Int × (List Int)) × Int × Int × Int × Unit) → Option ((Int × Int × (Int × (List Int)) × (Int × (List Int)) × Int × Int × Int × Unit) ⊕ ((Int × Unit))) := fun (v0, v1, (v2_0, v2_1), (v3_0, v3_1), v7, v10, v11, _) =>
 bif (decide (v11 < v10)) then
  Option.bind (impl_Matrix_at (v2_0, v2_1) v0 v11) fun r0 =>
   Option.bind (impl_Matrix_at (v3_0, v3_1) v11 v1) fun r1 =>
    some (Sum.inl (v0, v1, (v2_0, v2_1), (v3_0, v3_1), (if ((if (r1 > r0) then r1 else r0) < v7) then (if (r1 > r0) then r1 else r0) else v7), v10, (IntKind.wrap .i64 (v11 + (1 : Int))), ()))
 else
  some (Sum.inr (v7, ()))
theorem impl_MulGrades_1_l3_eq : loopStep 27 E78 L78_0 (loopOf f78 3) sh78_3 xs78_3 = impl_MulGrades_1_l3 := by kernel_rfl
theorem loop78_3 {L} (h : L 3 = some ⟨27, sh78_3, xs78_3, impl_MulGrades_1_l3⟩) : LoopOk prog L (loopOf f78 3) := lo impl_MulGrades_1_l3_eq E78_ok allNil h
noncomputable def L78_1 : Nat → Option LoopD := fun n => ifEq n 3 (some ⟨27, sh78_3, xs78_3, impl_MulGrades_1_l3⟩) (L78_0 n)
noncomputable def impl_MulGrades_1 : Int → Int → (Int × (List Int)) → (Int × (List Int)) → Option (Int) := fun a0 a1 (a2_0, a2_1) (a3_0, a3_1) =>
 Option.bind (loopF impl_MulGrades_1_l3 (a0, a1, (a2_0, a2_1), (a3_0, a3_1), (3 : Int), a2_0, (0 : Int), ())) fun (r0, _) =>
  some r0
noncomputable def A78 : FnA := ⟨[.v (.int .i64), .v (.int .i64), .cap (.pair (.int .i64) (.sl (.int .i64))), .cap (.pair (.int .i64) (.sl (.int .i64)))], true, [.int .i64], fun x => impl_MulGrades_1 x.1 x.2.1 x.2.2.1 x.2.2.2.1⟩
theorem impl_MulGrades_1_eq : fnF E78 L78_1 [.v (.int .i64), .v (.int .i64), .cap (.pair (.int .i64) (.sl (.int .i64))), .cap (.pair (.int .i64) (.sl (.int .i64)))] true [.int .i64] f78.ntmps f78.results.toList (codeOf f78) = fun x => impl_MulGrades_1 x.1 x.2.1 x.2.2.1 x.2.2.2.1 := by kernel_rfl
theorem A78_ok : FnOk prog 78 A78 := fo impl_MulGrades_1_eq func78 E78_ok (allCons (loop78_3 rfl) allNil)
/-! impl.MulGrades -/
noncomputable def E34 : Env := ⟨ty0, fun g => ifEq g 77 (some A77) (ifEq g 43 (some A43) (ifEq g 78 (some A78) (none))), fun _ => none, fun _ => none, fun _ => none⟩
theorem E34_ok : FnsOk prog E34 := (oF A77_ok func77 (oF A43_ok func43 (oF A78_ok func78 (noFns _ _))))
noncomputable def L34_0 : Nat → Option LoopD := fun _ => none
noncomputable def impl_MulGrades : (Int × (List Int)) → (Int × (List Int)) → Option ((Int × (List Int)) × Bool) := fun (a0_0, a0_1) (a1_0, a1_1) =>
 Option.bind (impl_GradesValid (a0_0, a0_1)) fun r0 =>
  bif (!r0) then
   some (((0 : Int), []), false)
  else
   Option.bind (impl_GradesValid (a1_0, a1_1)) fun r1 =>
    bif (!r1) then
     some (((0 : Int), []), false)
    else
     bif (a0_0 != a1_0) then
      some (((0 : Int), []), false)
     else
      Option.bind (impl_filled a0_0 (fun y2 => (impl_MulGrades_1 y2.1 y2.2.1 (a0_0, a0_1) (a1_0, a1_1)))) fun (r3, r4) =>
       some ((r3, (List.take (List.length r4) (List.drop 0 r4))), true)
noncomputable def A34 : FnA := ⟨[.v (.pair (.int .i64) (.sl (.int .i64))), .v (.pair (.int .i64) (.sl (.int .i64)))], true, [.pair (.int .i64) (.sl (.int .i64)), .bool], fun x => impl_MulGrades x.1 x.2.1⟩
theorem impl_MulGrades_eq : fnF E34 L34_0 [.v (.pair (.int .i64) (.sl (.int .i64))), .v (.pair (.int .i64) (.sl (.int .i64)))] true [.pair (.int .i64) (.sl (.int .i64)), .bool] f34.ntmps f34.results.toList (codeOf f34) = fun x => impl_MulGrades x.1 x.2.1 := by kernel_rfl
theorem A34_ok : FnOk prog 34 A34 := fo impl_MulGrades_eq func34 E34_ok allNil
/-! slices.Equal[[]int,int] -/
noncomputable def E122 : Env := ⟨ty0, fun _ => none, fun _ => none, fun _ => none, fun _ => none⟩
theorem E122_ok : FnsOk prog E122 := (noFns _ _)
noncomputable def L122_0 : Nat → Option LoopD := fun _ => none
def sh122_4 : List Fm := .cell (.val (.sl (.int .i64))) :: .cell (.val (.sl (.int .i64))) :: D 10 (.cell (.val (.int .i64)) :: .cell (.val (.int .i64)) :: D 12 [])
def xs122_4 : List (Ex × List Fm) := [(.ret, (D 4 (.cell (.val .bool) :: D 21 []))), (.exit 0, (D 26 []))]
noncomputable def slices_Equal_l4 : ((List Int) × (List Int) × Int × Int × Unit) → Option (((List Int) × (List Int) × Int × Int × Unit) ⊕ ((Bool × Unit) ⊕ (Unit))) := fun (v0, v1, v12, v13, _) =>
 bif (decide (v13 < v12)) then
  if (((0 : Int) ≤ v13) ∧ (v13 < (((List.length v0) : Nat) : Int))) then
   if (((0 : Int) ≤ v13) ∧ (v13 < (((List.length v1) : Nat) : Int))) then
    bif ((List.getD v0 (Int.toNat v13) (0 : Int)) != (List.getD v1 (Int.toNat v13) (0 : Int))) then
     some (Sum.inr (Sum.inl (false, ())))
    else
     some (Sum.inl (v0, v1, v12, (IntKind.wrap .i64 (v13 + (1 : Int))), ()))
   else
    none
  else
   none
 else
  some (Sum.inr (Sum.inr ()))
theorem slices_Equal_l4_eq : loopStep 26 E122 L122_0 (loopOf f122 4) sh122_4 xs122_4 = slices_Equal_l4 := by kernel_rfl
theorem loop122_4 {L} (h : L 4 = some ⟨26, sh122_4, xs122_4, slices_Equal_l4⟩) : LoopOk prog L (loopOf f122 4) := lo slices_Equal_l4_eq E122_ok allNil h
noncomputable def L122_1 : Nat → Option LoopD := fun n => ifEq n 4 (some ⟨26, sh122_4, xs122_4, slices_Equal_l4⟩) (L122_0 n)
noncomputable def slices_Equal : (List Int) → (List Int) → Option (Bool) := fun a0 a1 =>
 bif ((((List.length a0) : Nat) : Int) != (((List.length a1) : Nat) : Int)) then
  some false
 else
  Option.bind (loopF slices_Equal_l4 (a0, a1, (((List.length a0) : Nat) : Int), (0 : Int), ())) fun r0 =>
   (match r0 with
   | .inl (d1, _) =>
     some d1
   | .inr _ =>
     some true)
noncomputable def A122 : FnA := ⟨[.v (.sl (.int .i64)), .v (.sl (.int .i64))], true, [.bool], fun x => slices_Equal x.1 x.2.1⟩
theorem slices_Equal_eq : fnF E122 L122_1 [.v (.sl (.int .i64)), .v (.sl (.int .i64))] true [.bool] f122.ntmps f122.results.toList (codeOf f122) = fun x => slices_Equal x.1 x.2.1 := by kernel_rfl
theorem A122_ok : FnOk prog 122 A122 := fo slices_Equal_eq func122 E122_ok (allCons (loop122_4 rfl) allNil)
/-! impl.SameMatrix -/
noncomputable def E81 : Env := ⟨ty0, fun g => ifEq g 122 (some A122) (none), fun _ => none, fun _ => none, fun _ => none⟩
theorem E81_ok : FnsOk prog E81 := (oF A122_ok func122 (noFns _ _))
noncomputable def L81_0 : Nat → Option LoopD := fun _ => none
noncomputable def impl_SameMatrix : (Int × (List Int)) → (Int × (List Int)) → Option (Bool) := fun (a0_0, a0_1) (a1_0, a1_1) =>
 bif (a0_0 == a1_0) then
  Option.bind (slices_Equal a0_1 a1_1) fun r0 =>
   some r0
 else
  some false
noncomputable def A81 : FnA := ⟨[.v (.pair (.int .i64) (.sl (.int .i64))), .v (.pair (.int .i64) (.sl (.int .i64)))], true, [.bool], fun x => impl_SameMatrix x.1 x.2.1⟩
theorem impl_SameMatrix_eq : fnF E81 L81_0 [.v (.pair (.int .i64) (.sl (.int .i64))), .v (.pair (.int .i64) (.sl (.int .i64)))] true [.bool] f81.ntmps f81.results.toList (codeOf f81) = fun x => impl_SameMatrix x.1 x.2.1 := by kernel_rfl
theorem A81_ok : FnOk prog 81 A81 := fo impl_SameMatrix_eq func81 E81_ok allNil
/-! impl.IsIdempotent -/
noncomputable def E95 : Env := ⟨ty0, fun g => ifEq g 34 (some A34) (ifEq g 81 (some A81) (none)), fun _ => none, fun _ => none, fun _ => none⟩
theorem E95_ok : FnsOk prog E95 := (oF A34_ok func34 (oF A81_ok func81 (noFns _ _)))
noncomputable def L95_0 : Nat → Option LoopD := fun _ => none
noncomputable def impl_IsIdempotent : (Int × (List Int)) → Option (Bool) := fun (a0_0, a0_1) =>
 Option.bind (impl_MulGrades (a0_0, a0_1) (a0_0, a0_1)) fun ((r0, r1), r2) =>
  bif r2 then
   Option.bind (impl_SameMatrix (r0, (List.take (List.length r1) (List.drop 0 r1))) (a0_0, a0_1)) fun r3 =>
    some r3
  else
   some false
noncomputable def A95 : FnA := ⟨[.v (.pair (.int .i64) (.sl (.int .i64)))], true, [.bool], fun x => impl_IsIdempotent x.1⟩
theorem impl_IsIdempotent_eq : fnF E95 L95_0 [.v (.pair (.int .i64) (.sl (.int .i64)))] true [.bool] f95.ntmps f95.results.toList (codeOf f95) = fun x => impl_IsIdempotent x.1 := by kernel_rfl
theorem A95_ok : FnOk prog 95 A95 := fo impl_IsIdempotent_eq func95 E95_ok allNil
/-! impl.Stabilise$1 -/
noncomputable def E96 : Env := ⟨ty0, fun g => ifEq g 45 (some A45) (none), fun _ => none, fun _ => none, fun _ => none⟩
theorem E96_ok : FnsOk prog E96 := (oF A45_ok func45 (noFns _ _))
noncomputable def L96_0 : Nat → Option LoopD := fun _ => none
def sh96_3 : List Fm := .cell (.val (.int .i64)) :: .cell (.val (.int .i64)) :: .fp (.pair (.int .i64) (.sl (.int .i64))) :: d :: d :: d :: .cell (.val (.int .i64)) :: d :: d :: d :: .cell (.val (.int .i64)) :: .cell (.val (.int .i64)) :: D 22 []
def xs96_3 : List (Ex × List Fm) := [(.exit 0, (D 6 (.cell (.val (.int .i64)) :: D 27 [])))]
noncomputable def impl_Stabilise_1_l3 : (Int × Int × (Int × (List Int)) × Int × Int × Int × Unit) → Option ((Int × Int × (Int × (List Int)) × Int × Int × Int × Unit) ⊕ ((Int × Unit))) := fun (v0, v1, (v2_0, v2_1), v6, v10, v11, _) =>
 bif (decide (v11 < v10)) then
  Option.bind (impl_Matrix_at (v2_0, v2_1) v11 v11) fun r0 =>
   bif (r0 == (1 : Int)) then
    Option.bind (impl_Matrix_at (v2_0, v2_1) v0 v11) fun r1 =>
     Option.bind (impl_Matrix_at (v2_0, v2_1) v11 v1) fun r2 =>
      some (Sum.inl (v0, v1, (v2_0, v2_1), (if ((if (r2 > (if ((2 : Int) > r1) then (2 : Int) else r1)) then r2 else (if ((2 : Int) > r1) then (2 : Int) else r1)) < v6) then (if (r2 > (if ((2 : Int) > r1) then (2 : Int) else r1)) then r2 else (if ((2 : Int) > r1) then (2 : Int) else r1)) else v6), v10, (IntKind.wrap .i64 (v11 + (1 : Int))), ()))
   else
    Option.bind (impl_Matrix_at (v2_0, v2_1) v0 v11) fun r3 =>
     Option.bind (impl_Matrix_at (v2_0, v2_1) v11 v1) fun r4 =>
      some (Sum.inl (v0, v1, (v2_0, v2_1), (if ((if (r4 > (if (r0 > r3) then r0 else r3)) then r4 else (if (r0 > r3) then r0 else r3)) < v6) then (if (r4 > (if (r0 > r3) then r0 else r3)) then r4 else (if (r0 > r3) then r0 else r3)) else v6), v10, (IntKind.wrap .i64 (v11 + (1 : Int))), ()))
 else
  some (Sum.inr (v6, ()))
theorem impl_Stabilise_1_l3_eq : loopStep 34 E96 L96_0 (loopOf f96 3) sh96_3 xs96_3 = impl_Stabilise_1_l3 := by kernel_rfl
theorem loop96_3 {L} (h : L 3 = some ⟨34, sh96_3, xs96_3, impl_Stabilise_1_l3⟩) : LoopOk prog L (loopOf f96 3) := lo impl_Stabilise_1_l3_eq E96_ok allNil h
noncomputable def L96_1 : Nat → Option LoopD := fun n => ifEq n 3 (some ⟨34, sh96_3, xs96_3, impl_Stabilise_1_l3⟩) (L96_0 n)
noncomputable def impl_Stabilise_1 : Int → Int → (Int × (List Int)) → Option (Int) := fun a0 a1 (a2_0, a2_1) =>
 Option.bind (loopF impl_Stabilise_1_l3 (a0, a1, (a2_0, a2_1), (3 : Int), a2_0, (0 : Int), ())) fun (r0, _) =>
  some r0
noncomputable def A96 : FnA := ⟨[.v (.int .i64), .v (.int .i64), .cap (.pair (.int .i64) (.sl (.int .i64)))], true, [.int .i64], fun x => impl_Stabilise_1 x.1 x.2.1 x.2.2.1⟩
theorem impl_Stabilise_1_eq : fnF E96 L96_1 [.v (.int .i64), .v (.int .i64), .cap (.pair (.int .i64) (.sl (.int .i64)))] true [.int .i64] f96.ntmps f96.results.toList (codeOf f96) = fun x => impl_Stabilise_1 x.1 x.2.1 x.2.2.1 := by kernel_rfl
theorem A96_ok : FnOk prog 96 A96 := fo impl_Stabilise_1_eq func96 E96_ok (allCons (loop96_3 rfl) allNil)
/-! impl.Stabilise -/
noncomputable def E48 : Env := ⟨ty0, fun g => ifEq g 95 (some A95) (ifEq g 43 (some A43) (ifEq g 96 (some A96) (none))), fun _ => none, fun _ => none, fun _ => none⟩
theorem E48_ok : FnsOk prog E48 := (oF A95_ok func95 (oF A43_ok func43 (oF A96_ok func96 (noFns _ _))))
noncomputable def L48_0 : Nat → Option LoopD := fun _ => none
noncomputable def impl_Stabilise : (Int × (List Int)) → Option ((Int × (List Int)) × Bool) := fun (a0_0, a0_1) =>
 Option.bind (impl_IsIdempotent (a0_0, a0_1)) fun r0 =>
  bif (!r0) then
   some (((0 : Int), []), false)
  else
   Option.bind (impl_filled a0_0 (fun y1 => (impl_Stabilise_1 y1.1 y1.2.1 (a0_0, a0_1)))) fun (r2, r3) =>
    some ((r2, (List.take (List.length r3) (List.drop 0 r3))), true)
noncomputable def A48 : FnA := ⟨[.v (.pair (.int .i64) (.sl (.int .i64)))], true, [.pair (.int .i64) (.sl (.int .i64)), .bool], fun x => impl_Stabilise x.1⟩
theorem impl_Stabilise_eq : fnF E48 L48_0 [.v (.pair (.int .i64) (.sl (.int .i64)))] true [.pair (.int .i64) (.sl (.int .i64)), .bool] f48.ntmps f48.results.toList (codeOf f48) = fun x => impl_Stabilise x.1 := by kernel_rfl
theorem A48_ok : FnOk prog 48 A48 := fo impl_Stabilise_eq func48 E48_ok allNil
/-! impl.value -/
noncomputable def R76 (impl_value_rec : (Int × ((List Int) × ((List Int) × (List (Int × (ByteArray × (Int × Int))))))) → (List (ByteArray × PT)) → Option ((Int × (List Int)) × Bool)) : FnA := ⟨[.v (.pair (.int .i64) (.pair (.sl (.int .i64)) (.pair (.sl (.int .i64)) (.sl (.pair (.int .i64) (.pair .str (.pair (.int .i64) (.int .i64)))))))), .v (.sl (.pair .str .pt))], true, [.pair (.int .i64) (.sl (.int .i64)), .bool], fun x => impl_value_rec x.1 x.2.1⟩
noncomputable def E76 (impl_value_rec : (Int × ((List Int) × ((List Int) × (List (Int × (ByteArray × (Int × Int))))))) → (List (ByteArray × PT)) → Option ((Int × (List Int)) × Bool)) : Env := ⟨ty0, fun g => ifEq g 40 (some A40) (ifEq g 10 (some A10) (ifEq g 76 (some (R76 impl_value_rec)) (ifEq g 48 (some A48) (ifEq g 34 (some A34) (none))))), fun _ => none, fun _ => none, fun _ => none⟩
theorem E76_ok (impl_value_rec : (Int × ((List Int) × ((List Int) × (List (Int × (ByteArray × (Int × Int))))))) → (List (ByteArray × PT)) → Option ((Int × (List Int)) × Bool)) (hrec : FnOk prog 76 (R76 impl_value_rec)) : FnsOk prog (E76 impl_value_rec) := (oF A40_ok func40 (oF A10_ok func10 (oF hrec func76 (oF A48_ok func48 (oF A34_ok func34 (noFns _ _))))))
noncomputable def L76_0 (impl_value_rec : (Int × ((List Int) × ((List Int) × (List (Int × (ByteArray × (Int × Int))))))) → (List (ByteArray × PT)) → Option ((Int × (List Int)) × Bool)) : Nat → Option LoopD := fun _ => none
def sh76_3 : List Fm := d :: d :: .box 100200 [.val (.int .i64), .val (.sl (.int .i64)), .val (.sl (.int .i64)), .val (.sl (.pair (.int .i64) (.pair .str (.pair (.int .i64) (.int .i64)))))] :: d :: .box 100400 [.val (.int .i64), .own (.int .i64) 100402 false] :: d :: .box 100600 [.val (.int .i64), .own (.int .i64) 100602 false] :: D 6 (.cell (.val (.sl (.pair .str .pt))) :: .cell (.val (.int .i64)) :: .cell (.val (.int .i64)) :: D 46 [])
def xs76_3 : List (Ex × List Fm) := [(.ret, [d, d, d, d, .box 100400 [.val (.int .i64), .own (.int .i64) 100402 false], .cell (.val .bool), d, d, d, d, d, d, d, d, d, d, d, d, d, d, d, d, d, d, d, d, d, d, d, d, d, d, d, d, d, d, d, d, d, d, d, d, d, d, d, d, d, d, d, d, d, d, d, d, d, d, d, d, d, d, d, d]), (.exit 0, [d, d, d, d, .box 100400 [.val (.int .i64), .own (.int .i64) 100402 false], d, .box 100600 [.val (.int .i64), .own (.int .i64) 100602 false], d, d, d, d, d, d, d, d, d, d, d, d, d, d, d, d, d, d, d, d, d, d, d, d, d, d, d, d, d, d, d, d, d, d, d, d, d, d, d, d, d, d, d, d, d, d, d, d, d, d, d, d, d, d, d])]
noncomputable def impl_value_l3 (impl_value_rec : (Int × ((List Int) × ((List Int) × (List (Int × (ByteArray × (Int × Int))))))) → (List (ByteArray × PT)) → Option ((Int × (List Int)) × Bool)) : ((Int × (List Int) × (List Int) × (List (Int × (ByteArray × (Int × Int)))) × Unit) × (Int × (List Int) × Unit) × (Int × (List Int) × Unit) × (List (ByteArray × PT)) × Int × Int × Unit) → Option (((Int × (List Int) × (List Int) × (List (Int × (ByteArray × (Int × Int)))) × Unit) × (Int × (List Int) × Unit) × (Int × (List Int) × Unit) × (List (ByteArray × PT)) × Int × Int × Unit) ⊕ (((Int × (List Int) × Unit) × Bool × Unit) ⊕ ((Int × (List Int) × Unit) × (Int × (List Int) × Unit) × Unit))) := fun ((v2_0, v2_1, v2_2, v2_3, _), (v4_0, v4_1, _), (v6_0, v6_1, _), v13, v14, v15, _) =>
 bif (decide (v15 < v14)) then
  if (((0 : Int) ≤ v15) ∧ (v15 < (((List.length v13) : Nat) : Int))) then
   bif (!((ByteArray.toList (List.getD v13 (Int.toNat v15) ((⟨Array.empty⟩ : ByteArray), (PT.mk []))).1) == (ByteArray.toList (⟨#[]⟩ : ByteArray)))) then
    Option.bind (impl_StepMatrix (v2_0, v2_1, v2_2, v2_3) (List.getD v13 (Int.toNat v15) ((⟨Array.empty⟩ : ByteArray), (PT.mk []))).1) fun ((r0, r1), r2) =>
     Option.bind (impl_GradesOf (r0, (List.take (List.length r1) (List.drop 0 r1)))) fun ((r3, r4), r5) =>
      bif (decide (v15 > (0 : Int))) then
       Option.bind (impl_MulGrades (v6_0, (List.take (List.length v6_1) (List.drop 0 v6_1))) (r3, (List.take (List.length r4) (List.drop 0 r4)))) fun ((r6, r7), r8) =>
        some (Sum.inl ((v2_0, v2_1, v2_2, v2_3, ()), (v4_0, (List.take (List.length v4_1) (List.drop 0 v4_1)), ()), (r6, (List.take (List.length r7) (List.drop 0 r7)), ()), v13, v14, (IntKind.wrap .i64 (v15 + (1 : Int))), ()))
      else
       some (Sum.inl ((v2_0, v2_1, v2_2, v2_3, ()), (v4_0, (List.take (List.length v4_1) (List.drop 0 v4_1)), ()), (r3, (List.take (List.length r4) (List.drop 0 r4)), ()), v13, v14, (IntKind.wrap .i64 (v15 + (1 : Int))), ()))
   else
    Option.bind (impl_value_rec (v2_0, v2_1, v2_2, v2_3) (PT.l (List.getD v13 (Int.toNat v15) ((⟨Array.empty⟩ : ByteArray), (PT.mk []))).2)) fun ((r9, r10), r11) =>
     bif r11 then
      Option.bind (impl_Stabilise (r9, (List.take (List.length r10) (List.drop 0 r10)))) fun ((r12, r13), r14) =>
       bif (!r14) then
        some (Sum.inr (Sum.inl (((0 : Int), [], ()), false, ())))
       else
        bif (decide (v15 > (0 : Int))) then
         Option.bind (impl_MulGrades (v6_0, (List.take (List.length v6_1) (List.drop 0 v6_1))) (r12, (List.take (List.length r13) (List.drop 0 r13)))) fun ((r15, r16), r17) =>
          some (Sum.inl ((v2_0, v2_1, v2_2, v2_3, ()), (v4_0, (List.take (List.length v4_1) (List.drop 0 v4_1)), ()), (r15, (List.take (List.length r16) (List.drop 0 r16)), ()), v13, v14, (IntKind.wrap .i64 (v15 + (1 : Int))), ()))
        else
         some (Sum.inl ((v2_0, v2_1, v2_2, v2_3, ()), (v4_0, (List.take (List.length v4_1) (List.drop 0 v4_1)), ()), (r12, (List.take (List.length r13) (List.drop 0 r13)), ()), v13, v14, (IntKind.wrap .i64 (v15 + (1 : Int))), ()))
     else
      bif (!r11) then
       some (Sum.inr (Sum.inl (((0 : Int), [], ()), false, ())))
      else
       bif (decide (v15 > (0 : Int))) then
        Option.bind (impl_MulGrades (v6_0, (List.take (List.length v6_1) (List.drop 0 v6_1))) (r9, (List.take (List.length r10) (List.drop 0 r10)))) fun ((r18, r19), r20) =>
         some (Sum.inl ((v2_0, v2_1, v2_2, v2_3, ()), (v4_0, (List.take (List.length v4_1) (List.drop 0 v4_1)), ()), (r18, (List.take (List.length r19) (List.drop 0 r19)), ()), v13, v14, (IntKind.wrap .i64 (v15 + (1 : Int))), ()))
       else
        some (Sum.inl ((v2_0, v2_1, v2_2, v2_3, ()), (v4_0, (List.take (List.length v4_1) (List.drop 0 v4_1)), ()), (r9, (List.take (List.length r10) (List.drop 0 r10)), ()), v13, v14, (IntKind.wrap .i64 (v15 + (1 : Int))), ()))
  else
   none
 else
  some (Sum.inr (Sum.inr ((v4_0, (List.take (List.length v4_1) (List.drop 0 v4_1)), ()), (v6_0, (List.take (List.length v6_1) (List.drop 0 v6_1)), ()), ())))
theorem impl_value_l3_eq (impl_value_rec : (Int × ((List Int) × ((List Int) × (List (Int × (ByteArray × (Int × Int))))))) → (List (ByteArray × PT)) → Option ((Int × (List Int)) × Bool)) : loopStep 62 (E76 impl_value_rec) (L76_0 impl_value_rec) (loopOf f76 3) sh76_3 xs76_3 = (impl_value_l3 impl_value_rec) := by kernel_rfl
theorem loop76_3 (impl_value_rec : (Int × ((List Int) × ((List Int) × (List (Int × (ByteArray × (Int × Int))))))) → (List (ByteArray × PT)) → Option ((Int × (List Int)) × Bool)) (hrec : FnOk prog 76 (R76 impl_value_rec)) {L : Nat → Option LoopD} (h : L 3 = some ⟨62, sh76_3, xs76_3, (impl_value_l3 impl_value_rec)⟩) : LoopOk prog L (loopOf f76 3) :=
 loopOk (tysOk_of tyl_ok) (E76_ok impl_value_rec hrec) (codeOk_in (L := (L76_0 impl_value_rec)) (tysOk_of tyl_ok) (E76_ok impl_value_rec hrec) mixed (c := loopOf f76 3) (bs := []) (by kernel_rfl) allNil (by kernel_rfl)) (by kernel_rfl) (by kernel_rfl) (impl_value_l3_eq impl_value_rec) (by rw [show firstId (loopOf f76 3) = 3 from by kernel_rfl]; exact h)
noncomputable def L76_1 (impl_value_rec : (Int × ((List Int) × ((List Int) × (List (Int × (ByteArray × (Int × Int))))))) → (List (ByteArray × PT)) → Option ((Int × (List Int)) × Bool)) : Nat → Option LoopD := fun n => ifEq n 3 (some ⟨62, sh76_3, xs76_3, (impl_value_l3 impl_value_rec)⟩) ((L76_0 impl_value_rec) n)
noncomputable def impl_value_step (impl_value_rec : (Int × ((List Int) × ((List Int) × (List (Int × (ByteArray × (Int × Int))))))) → (List (ByteArray × PT)) → Option ((Int × (List Int)) × Bool)) : (Int × ((List Int) × ((List Int) × (List (Int × (ByteArray × (Int × Int))))))) → (List (ByteArray × PT)) → Option ((Int × (List Int)) × Bool) := fun (a0_0, a0_1, a0_2, a0_3) a1 =>
 Option.bind (loopF (impl_value_l3 impl_value_rec) ((a0_0, a0_1, a0_2, a0_3, ()), ((0 : Int), [], ()), ((0 : Int), [], ()), a1, (((List.length a1) : Nat) : Int), (0 : Int), ())) fun r0 =>
  (match r0 with
  | .inl ((d1, d2, _), d3, _) =>
    some ((d1, (List.take (List.length d2) (List.drop 0 d2))), d3)
  | .inr ((d4, d5, _), (d6, d7, _), _) =>
    some ((d6, (List.take (List.length d7) (List.drop 0 d7))), true))
theorem impl_value_step_eq (impl_value_rec : (Int × ((List Int) × ((List Int) × (List (Int × (ByteArray × (Int × Int))))))) → (List (ByteArray × PT)) → Option ((Int × (List Int)) × Bool)) : fnF (E76 impl_value_rec) (L76_1 impl_value_rec) [.v (.pair (.int .i64) (.pair (.sl (.int .i64)) (.pair (.sl (.int .i64)) (.sl (.pair (.int .i64) (.pair .str (.pair (.int .i64) (.int .i64)))))))), .v (.sl (.pair .str .pt))] true [.pair (.int .i64) (.sl (.int .i64)), .bool] f76.ntmps f76.results.toList (codeOf f76) = fun x => (impl_value_step impl_value_rec) x.1 x.2.1 := by kernel_rfl
theorem impl_value_step_ok (impl_value_rec : (Int × ((List Int) × ((List Int) × (List (Int × (ByteArray × (Int × Int))))))) → (List (ByteArray × PT)) → Option ((Int × (List Int)) × Bool)) (hrec : FnOk prog 76 (R76 impl_value_rec)) : FnOk prog 76 ⟨[.v (.pair (.int .i64) (.pair (.sl (.int .i64)) (.pair (.sl (.int .i64)) (.sl (.pair (.int .i64) (.pair .str (.pair (.int .i64) (.int .i64)))))))), .v (.sl (.pair .str .pt))], true, [.pair (.int .i64) (.sl (.int .i64)), .bool], fun x => (impl_value_step impl_value_rec) x.1 x.2.1⟩ := by
 have h := fnOk_of_run (P := prog) (E := (E76 impl_value_rec)) (tysOk_of tyl_ok) (E76_ok impl_value_rec hrec) (L := (L76_1 impl_value_rec)) (ps := [.v (.pair (.int .i64) (.pair (.sl (.int .i64)) (.pair (.sl (.int .i64)) (.sl (.pair (.int .i64) (.pair .str (.pair (.int .i64) (.int .i64)))))))), .v (.sl (.pair .str .pt))]) (own := true) (outs := [.pair (.int .i64) (.sl (.int .i64)), .bool]) func76 (c := codeOf f76) (by kernel_rfl) (codeOk_in (L := (L76_1 impl_value_rec)) (tysOk_of tyl_ok) (E76_ok impl_value_rec hrec) mixed (c := codeOf f76) (bs := [loopOf f76 3]) (by kernel_rfl) (allCons (loop76_3 impl_value_rec hrec rfl) allNil) (by kernel_rfl))
 rw [(impl_value_step_eq impl_value_rec)] at h
 exact h
/-- so many calls within each other -/
noncomputable def impl_value_fuel : Nat → (Int × ((List Int) × ((List Int) × (List (Int × (ByteArray × (Int × Int))))))) → (List (ByteArray × PT)) → Option ((Int × (List Int)) × Bool)
 | 0 => fun _ _ => none
 | n + 1 => impl_value_step (impl_value_fuel n)
theorem impl_value_fuel_ok : ∀ n, FnOk prog 76 (R76 (impl_value_fuel n))
 | 0 => fun xs r h => by cases h
 | n + 1 => impl_value_step_ok (impl_value_fuel n) (impl_value_fuel_ok n)
noncomputable def impl_value : (Int × ((List Int) × ((List Int) × (List (Int × (ByteArray × (Int × Int))))))) → (List (ByteArray × PT)) → Option ((Int × (List Int)) × Bool) := impl_value_fuel 200
noncomputable def A76 : FnA := R76 impl_value
theorem A76_ok : FnOk prog 76 A76 := impl_value_fuel_ok 200
/-! impl.ValueOf -/
noncomputable def E33 : Env := ⟨ty0, fun g => ifEq g 75 (some A75) (ifEq g 21 (some A21) (ifEq g 76 (some A76) (none))), fun _ => none, fun _ => none, fun _ => none⟩
theorem E33_ok : FnsOk prog E33 := (oF A75_ok func75 (oF A21_ok func21 (oF A76_ok func76 (noFns _ _))))
noncomputable def L33_0 : Nat → Option LoopD := fun _ => none
noncomputable def impl_ValueOf : (Int × ((List Int) × ((List Int) × (List (Int × (ByteArray × (Int × Int))))))) → ByteArray → Option ((Int × (List Int)) × Bool) := fun (a0_0, a0_1, a0_2, a0_3) a1 =>
 Option.bind (impl_parts a1) fun (r0, r1) =>
  bif (!r1) then
   some (((0 : Int), []), false)
  else
   Option.bind (impl_AutomatonValid (a0_0, a0_1, a0_2, a0_3)) fun r2 =>
    bif (!r2) then
     some (((0 : Int), []), false)
    else
     Option.bind (impl_value (a0_0, a0_1, a0_2, a0_3) (List.take (List.length r0) (List.drop 0 r0))) fun ((r3, r4), r5) =>
      some ((r3, (List.take (List.length r4) (List.drop 0 r4))), r5)
noncomputable def A33 : FnA := ⟨[.v (.pair (.int .i64) (.pair (.sl (.int .i64)) (.pair (.sl (.int .i64)) (.sl (.pair (.int .i64) (.pair .str (.pair (.int .i64) (.int .i64)))))))), .v .str], true, [.pair (.int .i64) (.sl (.int .i64)), .bool], fun x => impl_ValueOf x.1 x.2.1⟩
theorem impl_ValueOf_eq : fnF E33 L33_0 [.v (.pair (.int .i64) (.pair (.sl (.int .i64)) (.pair (.sl (.int .i64)) (.sl (.pair (.int .i64) (.pair .str (.pair (.int .i64) (.int .i64)))))))), .v .str] true [.pair (.int .i64) (.sl (.int .i64)), .bool] f33.ntmps f33.results.toList (codeOf f33) = fun x => impl_ValueOf x.1 x.2.1 := by kernel_rfl
theorem A33_ok : FnOk prog 33 A33 := fo impl_ValueOf_eq func33 E33_ok allNil
/-! slices.IndexFunc[[]impl.Element,impl.Element] -/
noncomputable def E121 : Env := ⟨ty0, fun _ => none, fun _ => none, fun _ => none, fun _ => none⟩
theorem E121_ok : FnsOk prog E121 := (noFns _ _)
noncomputable def L121_0 : Nat → Option LoopD := fun _ => none
def sh121_2 : List Fm := .cell (.val (.sl (.pair (.pair (.int .i64) (.sl (.int .i64))) .str))) :: .clo [.pair (.pair (.int .i64) (.sl (.int .i64))) .str] .bool :: D 5 (.cell (.val (.int .i64)) :: .cell (.val (.int .i64)) :: D 10 [])
def xs121_2 : List (Ex × List Fm) := [(.ret, (D 4 (.cell (.val (.int .i64)) :: D 14 []))), (.exit 0, (D 19 []))]
noncomputable def slices_IndexFunc_Element_l2 : ((List ((Int × (List Int)) × ByteArray)) × ((((Int × (List Int)) × ByteArray) × Unit) → Option (Bool)) × Int × Int × Unit) → Option (((List ((Int × (List Int)) × ByteArray)) × ((((Int × (List Int)) × ByteArray) × Unit) → Option (Bool)) × Int × Int × Unit) ⊕ ((Int × Unit) ⊕ (Unit))) := fun (v0, v1, v7, v8, _) =>
 bif (decide (v8 < v7)) then
  if (((0 : Int) ≤ v8) ∧ (v8 < (((List.length v0) : Nat) : Int))) then
   Option.bind (v1 ((List.getD v0 (Int.toNat v8) (((0 : Int), []), (⟨Array.empty⟩ : ByteArray))), ())) fun r0 =>
    bif r0 then
     some (Sum.inr (Sum.inl (v8, ())))
    else
     some (Sum.inl (v0, v1, v7, (IntKind.wrap .i64 (v8 + (1 : Int))), ()))
  else
   none
 else
  some (Sum.inr (Sum.inr ()))
theorem slices_IndexFunc_Element_l2_eq : loopStep 19 E121 L121_0 (loopOf f121 2) sh121_2 xs121_2 = slices_IndexFunc_Element_l2 := by kernel_rfl
theorem loop121_2 {L} (h : L 2 = some ⟨19, sh121_2, xs121_2, slices_IndexFunc_Element_l2⟩) : LoopOk prog L (loopOf f121 2) := lo slices_IndexFunc_Element_l2_eq E121_ok allNil h
noncomputable def L121_1 : Nat → Option LoopD := fun n => ifEq n 2 (some ⟨19, sh121_2, xs121_2, slices_IndexFunc_Element_l2⟩) (L121_0 n)
noncomputable def slices_IndexFunc_Element : (List ((Int × (List Int)) × ByteArray)) → ((((Int × (List Int)) × ByteArray) × Unit) → Option (Bool)) → Option (Int) := fun a0 a1 =>
 Option.bind (loopF slices_IndexFunc_Element_l2 (a0, a1, (((List.length a0) : Nat) : Int), (0 : Int), ())) fun r0 =>
  (match r0 with
  | .inl (d1, _) =>
    some d1
  | .inr _ =>
    some (-1 : Int))
noncomputable def A121 : FnA := ⟨[.v (.sl (.pair (.pair (.int .i64) (.sl (.int .i64))) .str)), .clo [.pair (.pair (.int .i64) (.sl (.int .i64))) .str] .bool], true, [.int .i64], fun x => slices_IndexFunc_Element x.1 x.2.1⟩
theorem slices_IndexFunc_Element_eq : fnF E121 L121_1 [.v (.sl (.pair (.pair (.int .i64) (.sl (.int .i64))) .str)), .clo [.pair (.pair (.int .i64) (.sl (.int .i64))) .str] .bool] true [.int .i64] f121.ntmps f121.results.toList (codeOf f121) = fun x => slices_IndexFunc_Element x.1 x.2.1 := by kernel_rfl
theorem A121_ok : FnOk prog 121 A121 := fo slices_IndexFunc_Element_eq func121 E121_ok (allCons (loop121_2 rfl) allNil)
/-! slices.ContainsFunc[[]impl.Element,impl.Element] -/
noncomputable def E79 : Env := ⟨ty0, fun g => ifEq g 121 (some A121) (none), fun _ => none, fun _ => none, fun _ => none⟩
theorem E79_ok : FnsOk prog E79 := (oF A121_ok func121 (noFns _ _))
noncomputable def L79_0 : Nat → Option LoopD := fun _ => none
noncomputable def slices_ContainsFunc_Element : (List ((Int × (List Int)) × ByteArray)) → ((((Int × (List Int)) × ByteArray) × Unit) → Option (Bool)) → Option (Bool) := fun a0 a1 =>
 Option.bind (slices_IndexFunc_Element a0 a1) fun r0 =>
  some (decide (r0 ≥ (0 : Int)))
noncomputable def A79 : FnA := ⟨[.v (.sl (.pair (.pair (.int .i64) (.sl (.int .i64))) .str)), .clo [.pair (.pair (.int .i64) (.sl (.int .i64))) .str] .bool], true, [.bool], fun x => slices_ContainsFunc_Element x.1 x.2.1⟩
theorem slices_ContainsFunc_Element_eq : fnF E79 L79_0 [.v (.sl (.pair (.pair (.int .i64) (.sl (.int .i64))) .str)), .clo [.pair (.pair (.int .i64) (.sl (.int .i64))) .str] .bool] true [.bool] f79.ntmps f79.results.toList (codeOf f79) = fun x => slices_ContainsFunc_Element x.1 x.2.1 := by kernel_rfl
theorem A79_ok : FnOk prog 79 A79 := fo slices_ContainsFunc_Element_eq func79 E79_ok allNil
/-! (*impl.found).put$1 -/
noncomputable def E80 : Env := ⟨ty0, fun g => ifEq g 81 (some A81) (none), fun _ => none, fun _ => none, fun _ => none⟩
theorem E80_ok : FnsOk prog E80 := (oF A81_ok func81 (noFns _ _))
noncomputable def L80_0 : Nat → Option LoopD := fun _ => none
noncomputable def impl_found_put_1 : ((Int × (List Int)) × ByteArray) → (Int × (List Int)) → Option (Bool) := fun ((a0_0, a0_1), a0_2) (a1_0, a1_1) =>
 Option.bind (impl_SameMatrix (a0_0, a0_1) (a1_0, a1_1)) fun r0 =>
  some r0
noncomputable def A80 : FnA := ⟨[.v (.pair (.pair (.int .i64) (.sl (.int .i64))) .str), .cap (.pair (.int .i64) (.sl (.int .i64)))], true, [.bool], fun x => impl_found_put_1 x.1 x.2.1⟩
theorem impl_found_put_1_eq : fnF E80 L80_0 [.v (.pair (.pair (.int .i64) (.sl (.int .i64))) .str), .cap (.pair (.int .i64) (.sl (.int .i64)))] true [.bool] f80.ntmps f80.results.toList (codeOf f80) = fun x => impl_found_put_1 x.1 x.2.1 := by kernel_rfl
theorem A80_ok : FnOk prog 80 A80 := fo impl_found_put_1_eq func80 E80_ok allNil
end Go.Proofs.Ytfdhmmnffahhgaa
