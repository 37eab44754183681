/- What Go functions that the laws reach compute, and that they do: written by a program of this session. -/
import Derived.Test.YtfdhmmnffahhgaaGreatCmp
import Derived.Test.YtfdhmmnffahhgaaGreatRep
import Derived.KernelRfl
set_option linter.unusedVariables false
namespace Go.Proofs.YtfdhmmnffahhgaaGreat
open Go Go.Proofs.YtfdhmmnffahhgaaGreat.Am Go.Proofs.Tryz
set_option maxRecDepth 100000
def tyl : List (Nat × TyD) := [(3, {kd := .int .i64}),
 (4, {kd := .bool}),
 (5, {kd := .int .u8}),
 (9, {kd := .str}),
 (22, {kd := .sl (.int .i64), elt := .int .i64, bytes := 8}),
 (29, {kd := .sl (.pair (.int .i64) (.pair .str (.pair (.int .i64) (.int .i64)))), elt := .pair (.int .i64) (.pair .str (.pair (.int .i64) (.int .i64))), bytes := 40}),
 (31, {kd := .pair (.int .i64) (.pair (.sl (.int .i64)) (.pair (.sl (.int .i64)) (.sl (.pair (.int .i64) (.pair .str (.pair (.int .i64) (.int .i64))))))), flds := [(0, .int .i64), (1, .sl (.int .i64)), (2, .sl (.int .i64)), (3, .sl (.pair (.int .i64) (.pair .str (.pair (.int .i64) (.int .i64)))))]}),
 (35, {kd := .sl (.int .u8), elt := .int .u8, bytes := 1}),
 (57, {kd := .pair (.int .i64) (.sl (.int .i64)), flds := [(0, .int .i64), (1, .sl (.int .i64))]}),
 (62, {kd := .sl (.sl (.int .i64)), elt := .sl (.int .i64), bytes := 24}),
 (64, {kd := .sl (.pair .str .pt), elt := .pair .str .pt, bytes := 40}),
 (68, {kd := .sl (.pair (.pair (.int .i64) (.sl (.int .i64))) .str), elt := .pair (.pair (.int .i64) (.sl (.int .i64))) .str, bytes := 48}),
 (72, {kd := .pair (.pair (.int .i64) (.sl (.int .i64))) .str, flds := [(0, .pair (.int .i64) (.sl (.int .i64))), (2, .str)]}),
 (80, {kd := .pair (.int .i64) (.pair .str (.pair (.int .i64) (.int .i64))), flds := [(0, .int .i64), (1, .str), (2, .int .i64), (3, .int .i64)]}),
 (84, {kd := .pair (.sl (.int .u8)) (.int .i64), flds := [(0, .sl (.int .u8)), (1, .int .i64)]}),
 (95, {kd := .pair .str .pt, flds := [(0, .str), (1, .pt)]}),
 (100, {kd := .pair (.sl (.pair (.pair (.int .i64) (.sl (.int .i64))) .str)) .bool, flds := [(0, .sl (.pair (.pair (.int .i64) (.sl (.int .i64))) .str)), (1, .bool)]}),
 (112, {kd := .sl .str, elt := .str, bytes := 16}),
 (120, {kd := .int .u64}),
 (146, {kd := .int .u64}),
 (155, {kd := .pair (.sl (.pair (.pair (.int .i64) (.sl (.int .i64))) .str)) .bool, flds := [(0, .sl (.pair (.pair (.int .i64) (.sl (.int .i64))) .str)), (1, .bool)]})]
def ty0 : Nat → Option TyD := yz3 tyl
theorem yd4 : z3h prog tyl = true := by kernel_rfl
theorem mixed : prog.follows .mixedOrders = true := by kernel_rfl
def D : Nat → List Fm → List Fm
 | 0, l => l
 | n + 1, l => .cell .drop :: D n l
theorem oF {g : Nat} {f : FnA} {fn : Func} {ty : Nat → Option TyD} {rest : Nat → Option FnA} {ms : Nat → Option FnM} {bs : Nat → Option FnB} {il : Nat → Option (Nat × CallD)} (h : FnOk prog g f) (hf : prog.funcs[g]? = some fn) (hr : FnsOk prog ⟨ty, rest, ms, bs, il⟩)
  (h1 : (fn.name == "runtime.NumGoroutine") = false := by kernel_rfl) (h2 : fn.body.isSome = true := by kernel_rfl) : FnsOk prog ⟨ty, fun n => ifEq n g (some f) (rest n), ms, bs, il⟩ := oneFn h hf h1 h2 hr
theorem tyk {E : Env} (h : E.ty = ty0) : yn3 prog E := by
 obtain ⟨ty, fn, ms, bs, il⟩ := E
 obtain rfl : ty = ty0 := h
 exact ya9 yd4
theorem fo {E : Env} {L : Nat → Option LoopD} {g : Nat} {fn : Func} {ps : List Prm} {own : Bool} {outs : List Kd} {F : y45 ps → Option (yu5 outs)} {bs : List Code} (he : fnF E L ps own outs fn.ntmps fn.results.toList (ya2 fn) = F) (hf : prog.funcs[g]? = some fn) (hF : FnsOk prog E)
  (hs : ∀ b ∈ bs, yc0 prog L b) (hb : fn.body = some (ya2 fn) := by kernel_rfl) (hl : y00 (ya2 fn) = bs := by kernel_rfl) (hd : z3u E (y01 (ya2 fn)) = true := by kernel_rfl) (hE : E.ty = ty0 := by rfl) : FnOk prog g ⟨ps, own, outs, F⟩ := by
 have h := yz8 (P := prog) (tyk hE) hF (L := L) (ps := ps) (own := own) (outs := outs) hf hb (yc6 (tyk hE) hF mixed hl hs hd)
 rw [he] at h
 exact h
theorem lo {E : Env} {L L' : Nat → Option LoopD} {n i : Nat} {b : Code} {bs : List Code} {sh : List Fm} {xs : List (Ex × List Fm)} {f : FmsT sh → Option (FmsT sh ⊕ XsT xs)} (he : ya6 n E L' b sh xs = f) (hF : FnsOk prog E)
  (hs : ∀ b ∈ bs, yc0 prog L' b) (h : L i = some ⟨n, sh, xs, f⟩) (hl : y00 b = bs := by kernel_rfl) (hd : z3u E (y01 b) = true := by kernel_rfl) (h1 : yx3 (yz4 sh) = true := by kernel_rfl) (h2 : okXs xs = true := by kernel_rfl) (hi : yv9 b = i := by kernel_rfl) (hE : E.ty = ty0 := by rfl) : yc0 prog L b :=
 zp7 (tyk hE) hF (yc6 (tyk hE) hF mixed hl hs hd) h1 h2 he (by rw [hi]; exact h)
abbrev d : Fm := .cell .drop
/-! spec.l13Open -/
noncomputable def E28 : Env := ⟨ty0, fun _ => none, fun _ => none, fun _ => none, fun _ => none⟩
theorem E28_ok : FnsOk prog E28 := (yc1 _ _)
noncomputable def L28_0 : Nat → Option LoopD := fun _ => none
noncomputable def y0n : (List Int) → Option (((List Int) × Int)) := fun a0 =>
 bif (decide ((((List.length a0) : Nat) : Int) > (2000 : Int))) then
  if (((0 : Int) ≤ (2000 : Int)) ∧ ((2000 : Int) ≤ (((List.length a0) : Nat) : Int))) then
   some ((List.take ((Int.toNat (2000 : Int)) - 0) (List.drop 0 a0)), (0 : Int))
  else
   none
 else
  some (a0, (0 : Int))
noncomputable def A28 : FnB := ⟨[.v (.sl (.int .u8))], .pair (.sl (.int .u8)) (.int .i64), fun x => y0n x.1⟩
theorem zs1 : fnBF E28 L28_0 [.v (.sl (.int .u8))] (.pair (.sl (.int .u8)) (.int .i64)) f28.ntmps f28.results.toList (ya2 f28) = fun x => y0n x.1 := by kernel_rfl
theorem A28_ok : FnBOk prog 28 A28 := by
 have h := z3f (P := prog) (E := E28) (ya9 yd4) E28_ok (L := L28_0) (ps := [.v (.sl (.int .u8))]) (k := .pair (.sl (.int .u8)) (.int .i64)) func28 (c := ya2 f28) (by kernel_rfl) (yc6 (L := L28_0) (ya9 yd4) E28_ok mixed (c := ya2 f28) (bs := []) (by kernel_rfl) ya0 (by kernel_rfl))
 rw [zs1] at h
 exact h
/-! (*spec.l13Rd).pick -/
noncomputable def E50 : Env := ⟨ty0, fun _ => none, fun _ => none, fun _ => none, fun _ => none⟩
theorem E50_ok : FnsOk prog E50 := (yc1 _ _)
noncomputable def L50_0 : Nat → Option LoopD := fun _ => none
noncomputable def yb8 : ((List Int) × Int) → Int → Option ((Int) × (((List Int) × Int) × Unit)) := fun (a0_0, a0_1) a1 =>
 bif (decide (a1 < (1 : Int))) then
  some ((0 : Int), (a0_0, (IntKind.wrap .i64 (a0_1 + (1 : Int)))), ())
 else
  bif ((((List.length a0_0) : Nat) : Int) == (0 : Int)) then
   some ((0 : Int), (a0_0, (IntKind.wrap .i64 (a0_1 + (1 : Int)))), ())
  else
   bif (decide ((IntKind.wrap .i64 ((IntKind.wrap .i64 (a0_1 + (1 : Int))) - (1 : Int))) < (((List.length a0_0) : Nat) : Int))) then
    if (((0 : Int) ≤ (IntKind.wrap .i64 ((IntKind.wrap .i64 (a0_1 + (1 : Int))) - (1 : Int)))) ∧ ((IntKind.wrap .i64 ((IntKind.wrap .i64 (a0_1 + (1 : Int))) - (1 : Int))) < (((List.length a0_0) : Nat) : Int))) then
     if (a1 = (0 : Int)) then
      none
     else
      some ((Int.tmod (IntKind.wrap .i64 (List.getD a0_0 (Int.toNat (IntKind.wrap .i64 ((IntKind.wrap .i64 (a0_1 + (1 : Int))) - (1 : Int)))) (0 : Int))) a1), (a0_0, (IntKind.wrap .i64 (a0_1 + (1 : Int)))), ())
    else
     none
   else
    if ((((List.length a0_0) : Nat) : Int) = (0 : Int)) then
     none
    else
     if (((0 : Int) ≤ (Int.tmod (IntKind.wrap .i64 ((IntKind.wrap .i64 (a0_1 + (1 : Int))) - (1 : Int))) (((List.length a0_0) : Nat) : Int))) ∧ ((Int.tmod (IntKind.wrap .i64 ((IntKind.wrap .i64 (a0_1 + (1 : Int))) - (1 : Int))) (((List.length a0_0) : Nat) : Int)) < (((List.length a0_0) : Nat) : Int))) then
      if ((((List.length a0_0) : Nat) : Int) = (0 : Int)) then
       none
      else
       if (((0 : Int) ≤ (Int.tmod (IntKind.wrap .i64 ((IntKind.wrap .i64 ((IntKind.wrap .i64 ((IntKind.wrap .i64 (a0_1 + (1 : Int))) - (1 : Int))) * (7 : Int))) + (3 : Int))) (((List.length a0_0) : Nat) : Int))) ∧ ((Int.tmod (IntKind.wrap .i64 ((IntKind.wrap .i64 ((IntKind.wrap .i64 ((IntKind.wrap .i64 (a0_1 + (1 : Int))) - (1 : Int))) * (7 : Int))) + (3 : Int))) (((List.length a0_0) : Nat) : Int)) < (((List.length a0_0) : Nat) : Int))) then
        if ((((List.length a0_0) : Nat) : Int) = (0 : Int)) then
         none
        else
         if ((64 : Int) = (0 : Int)) then
          none
         else
          if (a1 = (0 : Int)) then
           none
          else
           some ((Int.tmod (Decidable.rec (fun y0 => ((((BitVec.toNat ((BitVec.ofInt (IntKind.bits .i64) (IntKind.wrap .i64 ((IntKind.wrap .i64 ((IntKind.wrap .i64 ((IntKind.wrap .i64 ((IntKind.wrap .i64 (List.getD a0_0 (Int.toNat (Int.tmod (IntKind.wrap .i64 ((IntKind.wrap .i64 (a0_1 + (1 : Int))) - (1 : Int))) (((List.length a0_0) : Nat) : Int))) (0 : Int))) * (131 : Int))) + (IntKind.wrap .i64 ((IntKind.wrap .i64 (List.getD a0_0 (Int.toNat (Int.tmod (IntKind.wrap .i64 ((IntKind.wrap .i64 ((IntKind.wrap .i64 ((IntKind.wrap .i64 (a0_1 + (1 : Int))) - (1 : Int))) * (7 : Int))) + (3 : Int))) (((List.length a0_0) : Nat) : Int))) (0 : Int))) * (1117 : Int))))) + (IntKind.wrap .i64 ((IntKind.wrap .i64 ((IntKind.wrap .i64 (a0_1 + (1 : Int))) - (1 : Int))) * (29 : Int))))) + (IntKind.wrap .i64 ((IntKind.wrap .i64 (Int.tdiv (IntKind.wrap .i64 ((IntKind.wrap .i64 (a0_1 + (1 : Int))) - (1 : Int))) (((List.length a0_0) : Nat) : Int))) * (53 : Int)))))) ^^^ (BitVec.ofInt (IntKind.bits .i64) (IntKind.wrap .i64 (Int.tdiv (IntKind.wrap .i64 ((IntKind.wrap .i64 ((IntKind.wrap .i64 ((IntKind.wrap .i64 ((IntKind.wrap .i64 (List.getD a0_0 (Int.toNat (Int.tmod (IntKind.wrap .i64 ((IntKind.wrap .i64 (a0_1 + (1 : Int))) - (1 : Int))) (((List.length a0_0) : Nat) : Int))) (0 : Int))) * (131 : Int))) + (IntKind.wrap .i64 ((IntKind.wrap .i64 (List.getD a0_0 (Int.toNat (Int.tmod (IntKind.wrap .i64 ((IntKind.wrap .i64 ((IntKind.wrap .i64 ((IntKind.wrap .i64 (a0_1 + (1 : Int))) - (1 : Int))) * (7 : Int))) + (3 : Int))) (((List.length a0_0) : Nat) : Int))) (0 : Int))) * (1117 : Int))))) + (IntKind.wrap .i64 ((IntKind.wrap .i64 ((IntKind.wrap .i64 (a0_1 + (1 : Int))) - (1 : Int))) * (29 : Int))))) + (IntKind.wrap .i64 ((IntKind.wrap .i64 (Int.tdiv (IntKind.wrap .i64 ((IntKind.wrap .i64 (a0_1 + (1 : Int))) - (1 : Int))) (((List.length a0_0) : Nat) : Int))) * (53 : Int))))) (64 : Int)))))) : Nat) : Int) % ((2 : Int) ^ (IntKind.bits .i64)))) (fun y1 => (((((BitVec.toNat ((BitVec.ofInt (IntKind.bits .i64) (IntKind.wrap .i64 ((IntKind.wrap .i64 ((IntKind.wrap .i64 ((IntKind.wrap .i64 ((IntKind.wrap .i64 (List.getD a0_0 (Int.toNat (Int.tmod (IntKind.wrap .i64 ((IntKind.wrap .i64 (a0_1 + (1 : Int))) - (1 : Int))) (((List.length a0_0) : Nat) : Int))) (0 : Int))) * (131 : Int))) + (IntKind.wrap .i64 ((IntKind.wrap .i64 (List.getD a0_0 (Int.toNat (Int.tmod (IntKind.wrap .i64 ((IntKind.wrap .i64 ((IntKind.wrap .i64 ((IntKind.wrap .i64 (a0_1 + (1 : Int))) - (1 : Int))) * (7 : Int))) + (3 : Int))) (((List.length a0_0) : Nat) : Int))) (0 : Int))) * (1117 : Int))))) + (IntKind.wrap .i64 ((IntKind.wrap .i64 ((IntKind.wrap .i64 (a0_1 + (1 : Int))) - (1 : Int))) * (29 : Int))))) + (IntKind.wrap .i64 ((IntKind.wrap .i64 (Int.tdiv (IntKind.wrap .i64 ((IntKind.wrap .i64 (a0_1 + (1 : Int))) - (1 : Int))) (((List.length a0_0) : Nat) : Int))) * (53 : Int)))))) ^^^ (BitVec.ofInt (IntKind.bits .i64) (IntKind.wrap .i64 (Int.tdiv (IntKind.wrap .i64 ((IntKind.wrap .i64 ((IntKind.wrap .i64 ((IntKind.wrap .i64 ((IntKind.wrap .i64 (List.getD a0_0 (Int.toNat (Int.tmod (IntKind.wrap .i64 ((IntKind.wrap .i64 (a0_1 + (1 : Int))) - (1 : Int))) (((List.length a0_0) : Nat) : Int))) (0 : Int))) * (131 : Int))) + (IntKind.wrap .i64 ((IntKind.wrap .i64 (List.getD a0_0 (Int.toNat (Int.tmod (IntKind.wrap .i64 ((IntKind.wrap .i64 ((IntKind.wrap .i64 ((IntKind.wrap .i64 (a0_1 + (1 : Int))) - (1 : Int))) * (7 : Int))) + (3 : Int))) (((List.length a0_0) : Nat) : Int))) (0 : Int))) * (1117 : Int))))) + (IntKind.wrap .i64 ((IntKind.wrap .i64 ((IntKind.wrap .i64 (a0_1 + (1 : Int))) - (1 : Int))) * (29 : Int))))) + (IntKind.wrap .i64 ((IntKind.wrap .i64 (Int.tdiv (IntKind.wrap .i64 ((IntKind.wrap .i64 (a0_1 + (1 : Int))) - (1 : Int))) (((List.length a0_0) : Nat) : Int))) * (53 : Int))))) (64 : Int)))))) : Nat) : Int) % ((2 : Int) ^ (IntKind.bits .i64))) - ((2 : Int) ^ (IntKind.bits .i64)))) (instDecidableEqBool ((IntKind.signed .i64) && (decide (((((BitVec.toNat ((BitVec.ofInt (IntKind.bits .i64) (IntKind.wrap .i64 ((IntKind.wrap .i64 ((IntKind.wrap .i64 ((IntKind.wrap .i64 ((IntKind.wrap .i64 (List.getD a0_0 (Int.toNat (Int.tmod (IntKind.wrap .i64 ((IntKind.wrap .i64 (a0_1 + (1 : Int))) - (1 : Int))) (((List.length a0_0) : Nat) : Int))) (0 : Int))) * (131 : Int))) + (IntKind.wrap .i64 ((IntKind.wrap .i64 (List.getD a0_0 (Int.toNat (Int.tmod (IntKind.wrap .i64 ((IntKind.wrap .i64 ((IntKind.wrap .i64 ((IntKind.wrap .i64 (a0_1 + (1 : Int))) - (1 : Int))) * (7 : Int))) + (3 : Int))) (((List.length a0_0) : Nat) : Int))) (0 : Int))) * (1117 : Int))))) + (IntKind.wrap .i64 ((IntKind.wrap .i64 ((IntKind.wrap .i64 (a0_1 + (1 : Int))) - (1 : Int))) * (29 : Int))))) + (IntKind.wrap .i64 ((IntKind.wrap .i64 (Int.tdiv (IntKind.wrap .i64 ((IntKind.wrap .i64 (a0_1 + (1 : Int))) - (1 : Int))) (((List.length a0_0) : Nat) : Int))) * (53 : Int)))))) ^^^ (BitVec.ofInt (IntKind.bits .i64) (IntKind.wrap .i64 (Int.tdiv (IntKind.wrap .i64 ((IntKind.wrap .i64 ((IntKind.wrap .i64 ((IntKind.wrap .i64 ((IntKind.wrap .i64 (List.getD a0_0 (Int.toNat (Int.tmod (IntKind.wrap .i64 ((IntKind.wrap .i64 (a0_1 + (1 : Int))) - (1 : Int))) (((List.length a0_0) : Nat) : Int))) (0 : Int))) * (131 : Int))) + (IntKind.wrap .i64 ((IntKind.wrap .i64 (List.getD a0_0 (Int.toNat (Int.tmod (IntKind.wrap .i64 ((IntKind.wrap .i64 ((IntKind.wrap .i64 ((IntKind.wrap .i64 (a0_1 + (1 : Int))) - (1 : Int))) * (7 : Int))) + (3 : Int))) (((List.length a0_0) : Nat) : Int))) (0 : Int))) * (1117 : Int))))) + (IntKind.wrap .i64 ((IntKind.wrap .i64 ((IntKind.wrap .i64 (a0_1 + (1 : Int))) - (1 : Int))) * (29 : Int))))) + (IntKind.wrap .i64 ((IntKind.wrap .i64 (Int.tdiv (IntKind.wrap .i64 ((IntKind.wrap .i64 (a0_1 + (1 : Int))) - (1 : Int))) (((List.length a0_0) : Nat) : Int))) * (53 : Int))))) (64 : Int)))))) : Nat) : Int) % ((2 : Int) ^ (IntKind.bits .i64))) ≥ ((2 : Int) ^ ((IntKind.bits .i64) - 1))))) true)) a1), (a0_0, (IntKind.wrap .i64 (a0_1 + (1 : Int)))), ())
       else
        none
     else
      none
noncomputable def A50 : FnM := ⟨[.bx (.pair (.sl (.int .u8)) (.int .i64)), .v (.int .i64)], true, [.int .i64], none, fun x => yb8 x.1 x.2.1⟩
theorem y9h : fnMF E50 L50_0 [.bx (.pair (.sl (.int .u8)) (.int .i64)), .v (.int .i64)] true [.int .i64] f50.ntmps f50.results.toList (ya2 f50) = fun x => yb8 x.1 x.2.1 := by kernel_rfl
theorem z0r : zw6 prog 50 A50 := by
 have h := ys9 (P := prog) (E := E50) (ya9 yd4) E50_ok (L := L50_0) (ps := [.bx (.pair (.sl (.int .u8)) (.int .i64)), .v (.int .i64)]) (own := true) (outs := [.int .i64]) func50 (c := ya2 f50) (by kernel_rfl) (yc6 (L := L50_0) (ya9 yd4) E50_ok mixed (c := ya2 f50) (bs := []) (by kernel_rfl) ya0 (by kernel_rfl)) (by kernel_rfl)
 rw [y9h] at h
 exact h
/-! spec.l13Cut -/
noncomputable def E127 : Env := ⟨ty0, fun _ => none, fun _ => none, fun _ => none, fun _ => none⟩
theorem kf4 : FnsOk prog E127 := (yc1 _ _)
noncomputable def L127_0 : Nat → Option LoopD := fun _ => none
def z5k : List Fm := .cell (.val .str) :: .cell (.val (.int .u8)) :: d :: d :: d :: .cell (.own .str 100500 false) :: .cell (.val (.int .i64)) :: .cell (.val (.int .i64)) :: D 28 []
def z5l : List (Ex × List Fm) := [(.exit 0, (D 5 (.cell (.own .str 100500 false) :: D 30 [])))]
noncomputable def yj9 : (ByteArray × Int × (List ByteArray) × Int × Int × Unit) → Option ((ByteArray × Int × (List ByteArray) × Int × Int × Unit) ⊕ (((List ByteArray) × Unit))) := fun (v0, v1, v5, v6, v7, _) =>
 bif (decide (v7 ≤ (((ByteArray.size v0) : Nat) : Int))) then
  bif (v7 == (((ByteArray.size v0) : Nat) : Int)) then
   if (((0 : Int) ≤ v6) ∧ ((v6 ≤ v7) ∧ (v7 ≤ (((ByteArray.size v0) : Nat) : Int)))) then
    if (((0 + (List.length v5)) = (List.length v5)) ∧ ((((List.length v5) + (List.length (List.take 1 (List.drop 0 [(ByteArray.extract v0 (Int.toNat v6) (Int.toNat v7))])))) * 16) ≤ 140737488355328)) then
     some (Sum.inl (v0, v1, (List.take ((List.length v5) + (List.length (List.take 1 (List.drop 0 [(ByteArray.extract v0 (Int.toNat v6) (Int.toNat v7))])))) (List.drop 0 ((List.drop 0 v5) ++ (List.take 1 (List.drop 0 [(ByteArray.extract v0 (Int.toNat v6) (Int.toNat v7))]))))), (IntKind.wrap .i64 (v7 + (1 : Int))), (IntKind.wrap .i64 (v7 + (1 : Int))), ()))
    else
     none
   else
    none
  else
   if (((0 : Int) ≤ v7) ∧ (v7 < (((ByteArray.size v0) : Nat) : Int))) then
    bif ((((UInt8.toNat (Array.getD (ByteArray.data v0) (Int.toNat v7) (0 : UInt8))) : Nat) : Int) == v1) then
     if (((0 : Int) ≤ v6) ∧ ((v6 ≤ v7) ∧ (v7 ≤ (((ByteArray.size v0) : Nat) : Int)))) then
      if (((0 + (List.length v5)) = (List.length v5)) ∧ ((((List.length v5) + (List.length (List.take 1 (List.drop 0 [(ByteArray.extract v0 (Int.toNat v6) (Int.toNat v7))])))) * 16) ≤ 140737488355328)) then
       some (Sum.inl (v0, v1, (List.take ((List.length v5) + (List.length (List.take 1 (List.drop 0 [(ByteArray.extract v0 (Int.toNat v6) (Int.toNat v7))])))) (List.drop 0 ((List.drop 0 v5) ++ (List.take 1 (List.drop 0 [(ByteArray.extract v0 (Int.toNat v6) (Int.toNat v7))]))))), (IntKind.wrap .i64 (v7 + (1 : Int))), (IntKind.wrap .i64 (v7 + (1 : Int))), ()))
      else
       none
     else
      none
    else
     some (Sum.inl (v0, v1, (List.take (List.length v5) (List.drop 0 v5)), v6, (IntKind.wrap .i64 (v7 + (1 : Int))), ()))
   else
    none
 else
  some (Sum.inr ((List.take (List.length v5) (List.drop 0 v5)), ()))
theorem zc6 : ya6 36 E127 L127_0 (ya1 f127 4) z5k z5l = yj9 := by kernel_rfl
theorem kf5 {L} (h : L 4 = some ⟨36, z5k, z5l, yj9⟩) : yc0 prog L (ya1 f127 4) := lo zc6 kf4 ya0 h
noncomputable def L127_1 : Nat → Option LoopD := fun n => ifEq n 4 (some ⟨36, z5k, z5l, yj9⟩) (L127_0 n)
noncomputable def yq6 : ByteArray → Int → Option ((List ByteArray)) := fun a0 a1 =>
 Option.bind (ya4 yj9 (a0, a1, (List.take 0 (List.drop 0 [])), (0 : Int), (0 : Int), ())) fun (r0, _) =>
  some (List.take (List.length r0) (List.drop 0 r0))
noncomputable def A127 : FnA := ⟨[.v .str, .v (.int .u8)], true, [.sl .str], fun x => yq6 x.1 x.2.1⟩
theorem zx2 : fnF E127 L127_1 [.v .str, .v (.int .u8)] true [.sl .str] f127.ntmps f127.results.toList (ya2 f127) = fun x => yq6 x.1 x.2.1 := by kernel_rfl
theorem kf6 : FnOk prog 127 A127 := fo zx2 func127 kf4 (yb4 (kf5 rfl) ya0)
/-! spec.l13Num -/
noncomputable def E128 : Env := ⟨ty0, fun _ => none, fun _ => none, fun _ => none, fun _ => none⟩
theorem kf7 : FnsOk prog E128 := (yc1 _ _)
noncomputable def L128_0 : Nat → Option LoopD := fun _ => none
def z5m : List Fm := .cell (.val .str) :: d :: d :: d :: .cell (.val .bool) :: .cell (.val (.int .i64)) :: .cell (.val (.int .i64)) :: D 60 []
def z5n : List (Ex × List Fm) := [(.ret, (d :: d :: .cell (.val (.int .i64)) :: .cell (.val .bool) :: D 63 [])), (.exit 0, (D 4 (.cell (.val .bool) :: .cell (.val (.int .i64)) :: D 61 [])))]
noncomputable def yd1 : (ByteArray × Bool × Int × Int × Unit) → Option ((ByteArray × Bool × Int × Int × Unit) ⊕ ((Int × Bool × Unit) ⊕ (Bool × Int × Unit))) := fun (v0, v4, v5, v6, _) =>
 bif (decide (v6 < (((ByteArray.size v0) : Nat) : Int))) then
  if (((0 : Int) ≤ v6) ∧ (v6 < (((ByteArray.size v0) : Nat) : Int))) then
   bif (decide ((((UInt8.toNat (Array.getD (ByteArray.data v0) (Int.toNat v6) (0 : UInt8))) : Nat) : Int) < (48 : Int))) then
    some (Sum.inr (Sum.inl ((0 : Int), false, ())))
   else
    if (((0 : Int) ≤ v6) ∧ (v6 < (((ByteArray.size v0) : Nat) : Int))) then
     bif (decide ((((UInt8.toNat (Array.getD (ByteArray.data v0) (Int.toNat v6) (0 : UInt8))) : Nat) : Int) > (57 : Int))) then
      some (Sum.inr (Sum.inl ((0 : Int), false, ())))
     else
      if (((0 : Int) ≤ v6) ∧ (v6 < (((ByteArray.size v0) : Nat) : Int))) then
       some (Sum.inl (v0, v4, (IntKind.wrap .i64 ((IntKind.wrap .i64 (v5 * (10 : Int))) + (IntKind.wrap .i64 (IntKind.wrap .u8 ((((UInt8.toNat (Array.getD (ByteArray.data v0) (Int.toNat v6) (0 : UInt8))) : Nat) : Int) - (48 : Int)))))), (IntKind.wrap .i64 (v6 + (1 : Int))), ()))
      else
       none
    else
     none
  else
   none
 else
  some (Sum.inr (Sum.inr (v4, v5, ())))
theorem zc7 : ya6 67 E128 L128_0 (ya1 f128 8) z5m z5n = yd1 := by kernel_rfl
theorem kf8 {L} (h : L 8 = some ⟨67, z5m, z5n, yd1⟩) : yc0 prog L (ya1 f128 8) := lo zc7 kf7 ya0 h
noncomputable def L128_1 : Nat → Option LoopD := fun n => ifEq n 8 (some ⟨67, z5m, z5n, yd1⟩) (L128_0 n)
noncomputable def yq7 : ByteArray → Option (Int × Bool) := fun a0 =>
 bif (decide ((((ByteArray.size a0) : Nat) : Int) > (0 : Int))) then
  if (((0 : Int) ≤ (0 : Int)) ∧ ((0 : Int) < (((ByteArray.size a0) : Nat) : Int))) then
   bif ((((UInt8.toNat (Array.getD (ByteArray.data a0) (Int.toNat (0 : Int)) (0 : UInt8))) : Nat) : Int) == (45 : Int)) then
    if (((0 : Int) ≤ (1 : Int)) ∧ ((1 : Int) ≤ (((ByteArray.size a0) : Nat) : Int))) then
     bif ((((ByteArray.size (ByteArray.extract a0 (Int.toNat (1 : Int)) (ByteArray.size a0))) : Nat) : Int) == (0 : Int)) then
      some ((0 : Int), false)
     else
      bif (decide ((((ByteArray.size (ByteArray.extract a0 (Int.toNat (1 : Int)) (ByteArray.size a0))) : Nat) : Int) > (17 : Int))) then
       some ((0 : Int), false)
      else
       if (((0 : Int) ≤ (0 : Int)) ∧ ((0 : Int) < (((ByteArray.size (ByteArray.extract a0 (Int.toNat (1 : Int)) (ByteArray.size a0))) : Nat) : Int))) then
        bif ((((UInt8.toNat (Array.getD (ByteArray.data (ByteArray.extract a0 (Int.toNat (1 : Int)) (ByteArray.size a0))) (Int.toNat (0 : Int)) (0 : UInt8))) : Nat) : Int) == (48 : Int)) then
         bif (decide ((((ByteArray.size (ByteArray.extract a0 (Int.toNat (1 : Int)) (ByteArray.size a0))) : Nat) : Int) > (1 : Int))) then
          some ((0 : Int), false)
         else
          bif ((((UInt8.toNat (Array.getD (ByteArray.data a0) (Int.toNat (0 : Int)) (0 : UInt8))) : Nat) : Int) == (45 : Int)) then
           some ((0 : Int), false)
          else
           Option.bind (ya4 yd1 ((ByteArray.extract a0 (Int.toNat (1 : Int)) (ByteArray.size a0)), ((((UInt8.toNat (Array.getD (ByteArray.data a0) (Int.toNat (0 : Int)) (0 : UInt8))) : Nat) : Int) == (45 : Int)), (0 : Int), (0 : Int), ())) fun r0 =>
            (match r0 with
            | .inl (d1, d2, _) =>
              some (d1, d2)
            | .inr (d3, d4, _) =>
              bif d3 then
               some ((IntKind.wrap .i64 ((0 : Int) - d4)), true)
              else
               some (d4, true))
        else
         Option.bind (ya4 yd1 ((ByteArray.extract a0 (Int.toNat (1 : Int)) (ByteArray.size a0)), ((((UInt8.toNat (Array.getD (ByteArray.data a0) (Int.toNat (0 : Int)) (0 : UInt8))) : Nat) : Int) == (45 : Int)), (0 : Int), (0 : Int), ())) fun r5 =>
          (match r5 with
          | .inl (d6, d7, _) =>
            some (d6, d7)
          | .inr (d8, d9, _) =>
            bif d8 then
             some ((IntKind.wrap .i64 ((0 : Int) - d9)), true)
            else
             some (d9, true))
       else
        none
    else
     none
   else
    bif ((((ByteArray.size a0) : Nat) : Int) == (0 : Int)) then
     some ((0 : Int), false)
    else
     bif (decide ((((ByteArray.size a0) : Nat) : Int) > (17 : Int))) then
      some ((0 : Int), false)
     else
      if (((0 : Int) ≤ (0 : Int)) ∧ ((0 : Int) < (((ByteArray.size a0) : Nat) : Int))) then
       bif ((((UInt8.toNat (Array.getD (ByteArray.data a0) (Int.toNat (0 : Int)) (0 : UInt8))) : Nat) : Int) == (48 : Int)) then
        bif (decide ((((ByteArray.size a0) : Nat) : Int) > (1 : Int))) then
         some ((0 : Int), false)
        else
         bif ((((UInt8.toNat (Array.getD (ByteArray.data a0) (Int.toNat (0 : Int)) (0 : UInt8))) : Nat) : Int) == (45 : Int)) then
          some ((0 : Int), false)
         else
          Option.bind (ya4 yd1 (a0, ((((UInt8.toNat (Array.getD (ByteArray.data a0) (Int.toNat (0 : Int)) (0 : UInt8))) : Nat) : Int) == (45 : Int)), (0 : Int), (0 : Int), ())) fun r10 =>
           (match r10 with
           | .inl (d11, d12, _) =>
             some (d11, d12)
           | .inr (d13, d14, _) =>
             bif d13 then
              some ((IntKind.wrap .i64 ((0 : Int) - d14)), true)
             else
              some (d14, true))
       else
        Option.bind (ya4 yd1 (a0, ((((UInt8.toNat (Array.getD (ByteArray.data a0) (Int.toNat (0 : Int)) (0 : UInt8))) : Nat) : Int) == (45 : Int)), (0 : Int), (0 : Int), ())) fun r15 =>
         (match r15 with
         | .inl (d16, d17, _) =>
           some (d16, d17)
         | .inr (d18, d19, _) =>
           bif d18 then
            some ((IntKind.wrap .i64 ((0 : Int) - d19)), true)
           else
            some (d19, true))
      else
       none
  else
   none
 else
  bif ((((ByteArray.size a0) : Nat) : Int) == (0 : Int)) then
   some ((0 : Int), false)
  else
   bif (decide ((((ByteArray.size a0) : Nat) : Int) > (17 : Int))) then
    some ((0 : Int), false)
   else
    if (((0 : Int) ≤ (0 : Int)) ∧ ((0 : Int) < (((ByteArray.size a0) : Nat) : Int))) then
     bif ((((UInt8.toNat (Array.getD (ByteArray.data a0) (Int.toNat (0 : Int)) (0 : UInt8))) : Nat) : Int) == (48 : Int)) then
      bif (decide ((((ByteArray.size a0) : Nat) : Int) > (1 : Int))) then
       some ((0 : Int), false)
      else
       Option.bind (ya4 yd1 (a0, false, (0 : Int), (0 : Int), ())) fun r20 =>
        (match r20 with
        | .inl (d21, d22, _) =>
          some (d21, d22)
        | .inr (d23, d24, _) =>
          bif d23 then
           some ((IntKind.wrap .i64 ((0 : Int) - d24)), true)
          else
           some (d24, true))
     else
      Option.bind (ya4 yd1 (a0, false, (0 : Int), (0 : Int), ())) fun r25 =>
       (match r25 with
       | .inl (d26, d27, _) =>
         some (d26, d27)
       | .inr (d28, d29, _) =>
         bif d28 then
          some ((IntKind.wrap .i64 ((0 : Int) - d29)), true)
         else
          some (d29, true))
    else
     none
noncomputable def A128 : FnA := ⟨[.v .str], true, [.int .i64, .bool], fun x => yq7 x.1⟩
theorem zx3 : fnF E128 L128_1 [.v .str] true [.int .i64, .bool] f128.ntmps f128.results.toList (ya2 f128) = fun x => yq7 x.1 := by kernel_rfl
theorem kf9 : FnOk prog 128 A128 := fo zx3 func128 kf7 (yb4 (kf8 rfl) ya0)
/-! spec.l3Read -/
noncomputable def E129 : Env := ⟨ty0, fun g => ifEq g 127 (some A127) (ifEq g 128 (some A128) (none)), fun _ => none, fun _ => none, fun _ => none⟩
theorem kg0 : FnsOk prog E129 := (oF kf6 func127 (oF kf9 func128 (yc1 _ _)))
noncomputable def L129_0 : Nat → Option LoopD := fun _ => none
def z5o : List Fm := D 4 (.cell (.own (.int .i64) 100400 false) :: D 9 (.cell (.own .str 101400 false) :: .cell (.val (.int .i64)) :: .cell (.val (.int .i64)) :: D 17 []))
def z5p : List (Ex × List Fm) := [(.ret, (d :: d :: .cell (.own (.int .i64) 100200 false) :: .cell (.val .bool) :: D 30 [])), (.exit 0, (D 4 (.cell (.own (.int .i64) 100400 false) :: D 29 [])))]
noncomputable def ym3 : ((List Int) × (List ByteArray) × Int × Int × Unit) → Option (((List Int) × (List ByteArray) × Int × Int × Unit) ⊕ (((List Int) × Bool × Unit) ⊕ ((List Int) × Unit))) := fun (v4, v14, v15, v16, _) =>
 bif (decide (v16 < v15)) then
  if (((0 : Int) ≤ v16) ∧ (v16 < (((List.length v14) : Nat) : Int))) then
   Option.bind (yq7 (List.getD v14 (0 + (Int.toNat v16)) (⟨Array.empty⟩ : ByteArray))) fun (r0, r1) =>
    bif (!r1) then
     some (Sum.inr (Sum.inl ((List.take 0 (List.drop 0 [])), false, ())))
    else
     if (((0 + (List.length v4)) = (List.length v4)) ∧ ((((List.length v4) + (List.length (List.take 1 (List.drop 0 [r0])))) * 8) ≤ 140737488355328)) then
      some (Sum.inl ((List.take ((List.length v4) + (List.length (List.take 1 (List.drop 0 [r0])))) (List.drop 0 ((List.drop 0 v4) ++ (List.take 1 (List.drop 0 [r0]))))), (List.take (List.length v14) (List.drop 0 v14)), v15, (IntKind.wrap .i64 (v16 + (1 : Int))), ()))
     else
      none
  else
   none
 else
  some (Sum.inr (Sum.inr ((List.take (List.length v4) (List.drop 0 v4)), ())))
theorem zc8 : ya6 34 E129 L129_0 (ya1 f129 5) z5o z5p = ym3 := by kernel_rfl
theorem kg1 {L} (h : L 5 = some ⟨34, z5o, z5p, ym3⟩) : yc0 prog L (ya1 f129 5) := lo zc8 kg0 ya0 h
noncomputable def L129_1 : Nat → Option LoopD := fun n => ifEq n 5 (some ⟨34, z5o, z5p, ym3⟩) (L129_0 n)
noncomputable def y0c : ByteArray → Option ((List Int) × Bool) := fun a0 =>
 bif ((ByteArray.toList a0) == (ByteArray.toList (⟨#[]⟩ : ByteArray))) then
  some ((List.take 0 (List.drop 0 [])), true)
 else
  Option.bind (yq6 a0 (32 : Int)) fun r0 =>
   Option.bind (ya4 ym3 ((List.take 0 (List.drop 0 [])), (List.take (List.length r0) (List.drop 0 r0)), (((List.length r0) : Nat) : Int), (0 : Int), ())) fun r1 =>
    (match r1 with
    | .inl (d2, d3, _) =>
      some ((List.take (List.length d2) (List.drop 0 d2)), d3)
    | .inr (d4, _) =>
      some ((List.take (List.length d4) (List.drop 0 d4)), true))
noncomputable def A129 : FnA := ⟨[.v .str], true, [.sl (.int .i64), .bool], fun x => y0c x.1⟩
theorem zx4 : fnF E129 L129_1 [.v .str] true [.sl (.int .i64), .bool] f129.ntmps f129.results.toList (ya2 f129) = fun x => y0c x.1 := by kernel_rfl
theorem A129_ok : FnOk prog 129 A129 := fo zx4 func129 kg0 (yb4 (kg1 rfl) ya0)
/-! spec.l1In -/
noncomputable def E114 : Env := ⟨ty0, fun _ => none, fun _ => none, fun _ => none, fun _ => none⟩
theorem E114_ok : FnsOk prog E114 := (yc1 _ _)
noncomputable def L114_0 : Nat → Option LoopD := fun _ => none
noncomputable def yy0 : Int → Int → Int → Option (Bool) := fun a0 a1 a2 =>
 bif (decide (a0 ≥ a1)) then
  some (decide (a0 ≤ a2))
 else
  some false
noncomputable def A114 : FnA := ⟨[.v (.int .i64), .v (.int .i64), .v (.int .i64)], true, [.bool], fun x => yy0 x.1 x.2.1 x.2.2.1⟩
theorem z3w : fnF E114 L114_0 [.v (.int .i64), .v (.int .i64), .v (.int .i64)] true [.bool] f114.ntmps f114.results.toList (ya2 f114) = fun x => yy0 x.1 x.2.1 x.2.2.1 := by kernel_rfl
theorem z5q : FnOk prog 114 A114 := fo z3w func114 E114_ok ya0
/-! spec.l3Marks -/
noncomputable def E115 : Env := ⟨ty0, fun g => ifEq g 114 (some A114) (none), fun _ => none, fun _ => none, fun _ => none⟩
theorem kg2 : FnsOk prog E115 := (oF z5q func114 (yc1 _ _))
noncomputable def L115_0 : Nat → Option LoopD := fun _ => none
def z5r : List Fm := .cell (.val (.int .i64)) :: .cell (.val (.sl (.int .i64))) :: D 5 (.cell (.val (.sl (.int .i64))) :: .cell (.val (.int .i64)) :: .cell (.val (.int .i64)) :: D 23 [])
def z5s : List (Ex × List Fm) := [(.ret, (D 4 (.cell (.val .bool) :: D 28 []))), (.exit 0, (D 33 []))]
noncomputable def yn4 : (Int × (List Int) × (List Int) × Int × Int × Unit) → Option ((Int × (List Int) × (List Int) × Int × Int × Unit) ⊕ ((Bool × Unit) ⊕ (Unit))) := fun (v0, v1, v7, v8, v9, _) =>
 bif (decide (v9 < v8)) then
  if (((0 : Int) ≤ v9) ∧ (v9 < (((List.length v7) : Nat) : Int))) then
   Option.bind (yy0 (List.getD v7 (Int.toNat v9) (0 : Int)) (0 : Int) (IntKind.wrap .i64 (v0 - (1 : Int)))) fun r0 =>
    bif (!r0) then
     some (Sum.inr (Sum.inl (false, ())))
    else
     bif (decide (v9 > (0 : Int))) then
      if (((0 : Int) ≤ (IntKind.wrap .i64 (v9 - (1 : Int)))) ∧ ((IntKind.wrap .i64 (v9 - (1 : Int))) < (((List.length v1) : Nat) : Int))) then
       bif (decide ((List.getD v1 (Int.toNat (IntKind.wrap .i64 (v9 - (1 : Int)))) (0 : Int)) ≥ (List.getD v7 (Int.toNat v9) (0 : Int)))) then
        some (Sum.inr (Sum.inl (false, ())))
       else
        some (Sum.inl (v0, v1, v7, v8, (IntKind.wrap .i64 (v9 + (1 : Int))), ()))
      else
       none
     else
      some (Sum.inl (v0, v1, v7, v8, (IntKind.wrap .i64 (v9 + (1 : Int))), ()))
  else
   none
 else
  some (Sum.inr (Sum.inr ()))
theorem y9i : ya6 33 E115 L115_0 (ya1 f115 2) z5r z5s = yn4 := by kernel_rfl
theorem kg3 {L} (h : L 2 = some ⟨33, z5r, z5s, yn4⟩) : yc0 prog L (ya1 f115 2) := lo y9i kg2 ya0 h
noncomputable def L115_1 : Nat → Option LoopD := fun n => ifEq n 2 (some ⟨33, z5r, z5s, yn4⟩) (L115_0 n)
noncomputable def yw7 : Int → (List Int) → Option (Bool) := fun a0 a1 =>
 Option.bind (ya4 yn4 (a0, a1, a1, (((List.length a1) : Nat) : Int), (0 : Int), ())) fun r0 =>
  (match r0 with
  | .inl (d1, _) =>
    some d1
  | .inr _ =>
    some true)
noncomputable def A115 : FnA := ⟨[.v (.int .i64), .v (.sl (.int .i64))], true, [.bool], fun x => yw7 x.1 x.2.1⟩
theorem zs2 : fnF E115 L115_1 [.v (.int .i64), .v (.sl (.int .i64))] true [.bool] f115.ntmps f115.results.toList (ya2 f115) = fun x => yw7 x.1 x.2.1 := by kernel_rfl
theorem A115_ok : FnOk prog 115 A115 := fo zs2 func115 kg2 (yb4 (kg3 rfl) ya0)
/-! spec.l3Step -/
noncomputable def E116 : Env := ⟨ty0, fun g => ifEq g 114 (some A114) (none), fun _ => none, fun _ => none, fun _ => none⟩
theorem E116_ok : FnsOk prog E116 := (oF z5q func114 (yc1 _ _))
noncomputable def L116_0 : Nat → Option LoopD := fun _ => none
noncomputable def y11 : Int → (Int × (ByteArray × (Int × Int))) → Option (Bool) := fun a0 (a1_0, a1_1, a1_2, a1_3) =>
 Option.bind (yy0 a1_0 (0 : Int) (IntKind.wrap .i64 (a0 - (1 : Int)))) fun r0 =>
  bif r0 then
   Option.bind (yy0 a1_2 (0 : Int) (IntKind.wrap .i64 (a0 - (1 : Int)))) fun r1 =>
    bif r1 then
     Option.bind (yy0 a1_3 (0 : Int) (3 : Int)) fun r2 =>
      bif r2 then
       bif ((ByteArray.toList a1_1) == (ByteArray.toList (⟨#[(97 : UInt8)]⟩ : ByteArray))) then
        some true
       else
        some ((ByteArray.toList a1_1) == (ByteArray.toList (⟨#[(98 : UInt8)]⟩ : ByteArray)))
      else
       some false
    else
     some false
  else
   some false
noncomputable def A116 : FnA := ⟨[.v (.int .i64), .v (.pair (.int .i64) (.pair .str (.pair (.int .i64) (.int .i64))))], true, [.bool], fun x => y11 x.1 x.2.1⟩
theorem zx5 : fnF E116 L116_0 [.v (.int .i64), .v (.pair (.int .i64) (.pair .str (.pair (.int .i64) (.int .i64))))] true [.bool] f116.ntmps f116.results.toList (ya2 f116) = fun x => y11 x.1 x.2.1 := by kernel_rfl
theorem A116_ok : FnOk prog 116 A116 := fo zx5 func116 E116_ok ya0
/-! spec.l3Before -/
noncomputable def E103 : Env := ⟨ty0, fun _ => none, fun _ => none, fun _ => none, fun _ => none⟩
theorem E103_ok : FnsOk prog E103 := (yc1 _ _)
noncomputable def L103_0 : Nat → Option LoopD := fun _ => none
noncomputable def yq8 : (Int × (ByteArray × (Int × Int))) → (Int × (ByteArray × (Int × Int))) → Option (Bool) := fun (a0_0, a0_1, a0_2, a0_3) (a1_0, a1_1, a1_2, a1_3) =>
 bif (a0_0 != a1_0) then
  some (decide (a0_0 < a1_0))
 else
  bif (!((ByteArray.toList a0_1) == (ByteArray.toList a1_1))) then
   some (Op.bytesLess (ByteArray.toList a0_1) (ByteArray.toList a1_1))
  else
   some (decide (a0_2 < a1_2))
noncomputable def A103 : FnA := ⟨[.v (.pair (.int .i64) (.pair .str (.pair (.int .i64) (.int .i64)))), .v (.pair (.int .i64) (.pair .str (.pair (.int .i64) (.int .i64))))], true, [.bool], fun x => yq8 x.1 x.2.1⟩
theorem zj7 : fnF E103 L103_0 [.v (.pair (.int .i64) (.pair .str (.pair (.int .i64) (.int .i64)))), .v (.pair (.int .i64) (.pair .str (.pair (.int .i64) (.int .i64))))] true [.bool] f103.ntmps f103.results.toList (ya2 f103) = fun x => yq8 x.1 x.2.1 := by kernel_rfl
theorem kg4 : FnOk prog 103 A103 := fo zj7 func103 E103_ok ya0
/-! spec.AutomatonValid -/
noncomputable def E89 : Env := ⟨ty0, fun g => ifEq g 114 (some A114) (ifEq g 115 (some A115) (ifEq g 116 (some A116) (ifEq g 103 (some A103) (none)))), fun _ => none, fun _ => none, fun _ => none⟩
theorem E89_ok : FnsOk prog E89 := (oF z5q func114 (oF A115_ok func115 (oF A116_ok func116 (oF kg4 func103 (yc1 _ _)))))
noncomputable def L89_0 : Nat → Option LoopD := fun _ => none
def kg5 : List Fm := d :: .box 100100 [.val (.int .i64), .val (.sl (.int .i64)), .val (.sl (.int .i64)), .val (.sl (.pair (.int .i64) (.pair .str (.pair (.int .i64) (.int .i64)))))] :: D 30 (.cell (.val (.sl (.pair (.int .i64) (.pair .str (.pair (.int .i64) (.int .i64)))))) :: .cell (.val (.int .i64)) :: .cell (.val (.int .i64)) :: D 25 [])
def kg6 : List (Ex × List Fm) := [(.ret, (d :: d :: .cell (.val .bool) :: D 57 [])), (.exit 0, (D 60 []))]
noncomputable def yf2 : ((Int × (List Int) × (List Int) × (List (Int × (ByteArray × (Int × Int)))) × Unit) × (List (Int × (ByteArray × (Int × Int)))) × Int × Int × Unit) → Option (((Int × (List Int) × (List Int) × (List (Int × (ByteArray × (Int × Int)))) × Unit) × (List (Int × (ByteArray × (Int × Int)))) × Int × Int × Unit) ⊕ ((Bool × Unit) ⊕ (Unit))) := fun ((v1_0, v1_1, v1_2, v1_3, _), v32, v33, v34, _) =>
 bif (decide (v34 < v33)) then
  if (((0 : Int) ≤ v34) ∧ (v34 < (((List.length v32) : Nat) : Int))) then
   Option.bind (y11 v1_0 ((List.getD v32 (Int.toNat v34) ((0 : Int), (⟨Array.empty⟩ : ByteArray), (0 : Int), (0 : Int))).1, (List.getD v32 (Int.toNat v34) ((0 : Int), (⟨Array.empty⟩ : ByteArray), (0 : Int), (0 : Int))).2.1, (List.getD v32 (Int.toNat v34) ((0 : Int), (⟨Array.empty⟩ : ByteArray), (0 : Int), (0 : Int))).2.2.1, (List.getD v32 (Int.toNat v34) ((0 : Int), (⟨Array.empty⟩ : ByteArray), (0 : Int), (0 : Int))).2.2.2)) fun r0 =>
    bif (!r0) then
     some (Sum.inr (Sum.inl (false, ())))
    else
     bif (decide (v34 > (0 : Int))) then
      if (((0 : Int) ≤ (IntKind.wrap .i64 (v34 - (1 : Int)))) ∧ ((IntKind.wrap .i64 (v34 - (1 : Int))) < (((List.length v1_3) : Nat) : Int))) then
       Option.bind (yq8 (List.getD v1_3 (Int.toNat (IntKind.wrap .i64 (v34 - (1 : Int)))) ((0 : Int), (⟨Array.empty⟩ : ByteArray), (0 : Int), (0 : Int))) ((List.getD v32 (Int.toNat v34) ((0 : Int), (⟨Array.empty⟩ : ByteArray), (0 : Int), (0 : Int))).1, (List.getD v32 (Int.toNat v34) ((0 : Int), (⟨Array.empty⟩ : ByteArray), (0 : Int), (0 : Int))).2.1, (List.getD v32 (Int.toNat v34) ((0 : Int), (⟨Array.empty⟩ : ByteArray), (0 : Int), (0 : Int))).2.2.1, (List.getD v32 (Int.toNat v34) ((0 : Int), (⟨Array.empty⟩ : ByteArray), (0 : Int), (0 : Int))).2.2.2)) fun r1 =>
        bif (!r1) then
         some (Sum.inr (Sum.inl (false, ())))
        else
         some (Sum.inl ((v1_0, v1_1, v1_2, v1_3, ()), v32, v33, (IntKind.wrap .i64 (v34 + (1 : Int))), ()))
      else
       none
     else
      some (Sum.inl ((v1_0, v1_1, v1_2, v1_3, ()), v32, v33, (IntKind.wrap .i64 (v34 + (1 : Int))), ()))
  else
   none
 else
  some (Sum.inr (Sum.inr ()))
theorem y22 : ya6 60 E89 L89_0 (ya1 f89 4) kg5 kg6 = yf2 := by kernel_rfl
theorem kw8 {L} (h : L 4 = some ⟨60, kg5, kg6, yf2⟩) : yc0 prog L (ya1 f89 4) := lo y22 E89_ok ya0 h
noncomputable def L89_1 : Nat → Option LoopD := fun n => ifEq n 4 (some ⟨60, kg5, kg6, yf2⟩) (L89_0 n)
noncomputable def yc7 : (Int × ((List Int) × ((List Int) × (List (Int × (ByteArray × (Int × Int))))))) → Option (Bool) := fun (a0_0, a0_1, a0_2, a0_3) =>
 Option.bind (yy0 a0_0 (1 : Int) (4 : Int)) fun r0 =>
  bif (!r0) then
   some false
  else
   Option.bind (yw7 a0_0 a0_1) fun r1 =>
    bif (!r1) then
     some false
    else
     Option.bind (yw7 a0_0 a0_2) fun r2 =>
      bif (!r2) then
       some false
      else
       bif (decide ((((List.length a0_3) : Nat) : Int) > (24 : Int))) then
        some false
       else
        Option.bind (ya4 yf2 ((a0_0, a0_1, a0_2, a0_3, ()), a0_3, (((List.length a0_3) : Nat) : Int), (0 : Int), ())) fun r3 =>
         (match r3 with
         | .inl (d4, _) =>
           some d4
         | .inr _ =>
           some true)
noncomputable def A89 : FnA := ⟨[.v (.pair (.int .i64) (.pair (.sl (.int .i64)) (.pair (.sl (.int .i64)) (.sl (.pair (.int .i64) (.pair .str (.pair (.int .i64) (.int .i64))))))))], true, [.bool], fun x => yc7 x.1⟩
theorem y4r : fnF E89 L89_1 [.v (.pair (.int .i64) (.pair (.sl (.int .i64)) (.pair (.sl (.int .i64)) (.sl (.pair (.int .i64) (.pair .str (.pair (.int .i64) (.int .i64))))))))] true [.bool] f89.ntmps f89.results.toList (ya2 f89) = fun x => yc7 x.1 := by kernel_rfl
theorem A89_ok : FnOk prog 89 A89 := fo y4r func89 E89_ok (yb4 (kw8 rfl) ya0)
/-! spec.ParseAutomaton -/
noncomputable def E102 : Env := ⟨ty0, fun g => ifEq g 127 (some A127) (ifEq g 128 (some A128) (ifEq g 129 (some A129) (ifEq g 89 (some A89) (none)))), fun _ => none, fun _ => none, fun _ => none⟩
theorem kg7 : FnsOk prog E102 := (oF kf6 func127 (oF kf9 func128 (oF A129_ok func129 (oF A89_ok func89 (yc1 _ _)))))
noncomputable def L102_0 : Nat → Option LoopD := fun _ => none
def z10 : List Fm := d :: d :: .box 100200 [.val (.int .i64), .own (.int .i64) 100202 false, .own (.int .i64) 100203 false, .own (.pair (.int .i64) (.pair .str (.pair (.int .i64) (.int .i64)))) 100204 false] :: D 8 (.box 101100 [.val (.int .i64), .own (.int .i64) 101102 false, .own (.int .i64) 101103 false, .own (.pair (.int .i64) (.pair .str (.pair (.int .i64) (.int .i64)))) 101104 false] :: .cell (.val .bool) :: D 54 (.cell (.own .str 106700 false) :: .cell (.val (.int .i64)) :: .cell (.val (.int .i64)) :: D 61 []))
def z11 : List (Ex × List Fm) := [(.ret, [d, d, .box 100200 [.val (.int .i64), .own (.int .i64) 100202 false, .own (.int .i64) 100203 false, .own (.pair (.int .i64) (.pair .str (.pair (.int .i64) (.int .i64)))) 100204 false], .cell (.val .bool), d, d, d, d, d, d, d, d, d, d, d, d, d, d, d, d, d, d, d, d, d, d, d, d, d, d, d, d, d, d, d, d, d, d, d, d, d, d, d, d, d, d, d, d, d, d, d, d, d, d, d, d, d, d, d, d, d, d, d, d, d, d, d, d, d, d, d, d, d, d, d, d, d, d, d, d, d, d, d, d, d, d, d, d, d, d, d, d, d, d, d, d, d, d, d, d, d, d, d, d, d, d, d, d, d, d, d, d, d, d, d, d, d, d, d, d, d, d, d, d, d, d, d, d, d, d, d]), (.exit 0, [d, d, .box 100200 [.val (.int .i64), .own (.int .i64) 100202 false, .own (.int .i64) 100203 false, .own (.pair (.int .i64) (.pair .str (.pair (.int .i64) (.int .i64)))) 100204 false], d, d, d, d, d, d, d, d, .box 101100 [.val (.int .i64), .own (.int .i64) 101102 false, .own (.int .i64) 101103 false, .own (.pair (.int .i64) (.pair .str (.pair (.int .i64) (.int .i64)))) 101104 false], .cell (.val .bool), d, d, d, d, d, d, d, d, d, d, d, d, d, d, d, d, d, d, d, d, d, d, d, d, d, d, d, d, d, d, d, d, d, d, d, d, d, d, d, d, d, d, d, d, d, d, d, d, d, d, d, d, d, d, d, d, d, d, d, d, d, d, d, d, d, d, d, d, d, d, d, d, d, d, d, d, d, d, d, d, d, d, d, d, d, d, d, d, d, d, d, d, d, d, d, d, d, d, d, d, d, d, d, d, d, d, d, d, d, d, d, d, d, d, d, d, d, d])]
noncomputable def yb5 : ((Int × (List Int) × (List Int) × (List (Int × (ByteArray × (Int × Int)))) × Unit) × (Int × (List Int) × (List Int) × (List (Int × (ByteArray × (Int × Int)))) × Unit) × Bool × (List ByteArray) × Int × Int × Unit) → Option (((Int × (List Int) × (List Int) × (List (Int × (ByteArray × (Int × Int)))) × Unit) × (Int × (List Int) × (List Int) × (List (Int × (ByteArray × (Int × Int)))) × Unit) × Bool × (List ByteArray) × Int × Int × Unit) ⊕ (((Int × (List Int) × (List Int) × (List (Int × (ByteArray × (Int × Int)))) × Unit) × Bool × Unit) ⊕ ((Int × (List Int) × (List Int) × (List (Int × (ByteArray × (Int × Int)))) × Unit) × (Int × (List Int) × (List Int) × (List (Int × (ByteArray × (Int × Int)))) × Unit) × Bool × Unit))) := fun ((v2_0, v2_1, v2_2, v2_3, _), (v11_0, v11_1, v11_2, v11_3, _), v12, v67, v68, v69, _) =>
 bif (decide (v69 < v68)) then
  if (((0 : Int) ≤ v69) ∧ (v69 < (((List.length v67) : Nat) : Int))) then
   bif ((((ByteArray.size (List.getD v67 (0 + (Int.toNat v69)) (⟨Array.empty⟩ : ByteArray))) : Nat) : Int) != (5 : Int)) then
    some (Sum.inr (Sum.inl (((0 : Int), [], [], [], ()), false, ())))
   else
    if (((0 : Int) ≤ (3 : Int)) ∧ ((3 : Int) < (((ByteArray.size (List.getD v67 (0 + (Int.toNat v69)) (⟨Array.empty⟩ : ByteArray))) : Nat) : Int))) then
     bif ((((UInt8.toNat (Array.getD (ByteArray.data (List.getD v67 (0 + (Int.toNat v69)) (⟨Array.empty⟩ : ByteArray))) (Int.toNat (3 : Int)) (0 : UInt8))) : Nat) : Int) != (58 : Int)) then
      some (Sum.inr (Sum.inl (((0 : Int), [], [], [], ()), false, ())))
     else
      if (((0 : Int) ≤ (1 : Int)) ∧ ((1 : Int) ≤ (((ByteArray.size (List.getD v67 (0 + (Int.toNat v69)) (⟨Array.empty⟩ : ByteArray))) : Nat) : Int))) then
       Option.bind (yq7 (ByteArray.extract (List.getD v67 (0 + (Int.toNat v69)) (⟨Array.empty⟩ : ByteArray)) 0 (Int.toNat (1 : Int)))) fun (r0, r1) =>
        if (((0 : Int) ≤ (2 : Int)) ∧ (((2 : Int) ≤ (3 : Int)) ∧ ((3 : Int) ≤ (((ByteArray.size (List.getD v67 (0 + (Int.toNat v69)) (⟨Array.empty⟩ : ByteArray))) : Nat) : Int)))) then
         Option.bind (yq7 (ByteArray.extract (List.getD v67 (0 + (Int.toNat v69)) (⟨Array.empty⟩ : ByteArray)) (Int.toNat (2 : Int)) (Int.toNat (3 : Int)))) fun (r2, r3) =>
          if (((0 : Int) ≤ (4 : Int)) ∧ ((4 : Int) ≤ (((ByteArray.size (List.getD v67 (0 + (Int.toNat v69)) (⟨Array.empty⟩ : ByteArray))) : Nat) : Int))) then
           Option.bind (yq7 (ByteArray.extract (List.getD v67 (0 + (Int.toNat v69)) (⟨Array.empty⟩ : ByteArray)) (Int.toNat (4 : Int)) (ByteArray.size (List.getD v67 (0 + (Int.toNat v69)) (⟨Array.empty⟩ : ByteArray))))) fun (r4, r5) =>
            bif v12 then
             bif r1 then
              bif r3 then
               if (((0 : Int) ≤ (1 : Int)) ∧ (((1 : Int) ≤ (2 : Int)) ∧ ((2 : Int) ≤ (((ByteArray.size (List.getD v67 (0 + (Int.toNat v69)) (⟨Array.empty⟩ : ByteArray))) : Nat) : Int)))) then
                if (((0 + (List.length v11_3)) = (List.length v11_3)) ∧ ((((List.length v11_3) + (List.length (List.take 1 (List.drop 0 [(r0, (ByteArray.extract (List.getD v67 (0 + (Int.toNat v69)) (⟨Array.empty⟩ : ByteArray)) (Int.toNat (1 : Int)) (Int.toNat (2 : Int))), r2, r4)])))) * 40) ≤ 140737488355328)) then
                 some (Sum.inl ((v2_0, (List.take (List.length v2_1) (List.drop 0 v2_1)), (List.take (List.length v2_2) (List.drop 0 v2_2)), (List.take (List.length v2_3) (List.drop 0 v2_3)), ()), (v11_0, (List.take (List.length v11_1) (List.drop 0 v11_1)), (List.take (List.length v11_2) (List.drop 0 v11_2)), (List.take ((List.length v11_3) + (List.length (List.take 1 (List.drop 0 [(r0, (ByteArray.extract (List.getD v67 (0 + (Int.toNat v69)) (⟨Array.empty⟩ : ByteArray)) (Int.toNat (1 : Int)) (Int.toNat (2 : Int))), r2, r4)])))) (List.drop 0 ((List.drop 0 v11_3) ++ (List.take 1 (List.drop 0 [(r0, (ByteArray.extract (List.getD v67 (0 + (Int.toNat v69)) (⟨Array.empty⟩ : ByteArray)) (Int.toNat (1 : Int)) (Int.toNat (2 : Int))), r2, r4)]))))), ()), r5, (List.take (List.length v67) (List.drop 0 v67)), v68, (IntKind.wrap .i64 (v69 + (1 : Int))), ()))
                else
                 none
               else
                none
              else
               if (((0 : Int) ≤ (1 : Int)) ∧ (((1 : Int) ≤ (2 : Int)) ∧ ((2 : Int) ≤ (((ByteArray.size (List.getD v67 (0 + (Int.toNat v69)) (⟨Array.empty⟩ : ByteArray))) : Nat) : Int)))) then
                if (((0 + (List.length v11_3)) = (List.length v11_3)) ∧ ((((List.length v11_3) + (List.length (List.take 1 (List.drop 0 [(r0, (ByteArray.extract (List.getD v67 (0 + (Int.toNat v69)) (⟨Array.empty⟩ : ByteArray)) (Int.toNat (1 : Int)) (Int.toNat (2 : Int))), r2, r4)])))) * 40) ≤ 140737488355328)) then
                 some (Sum.inl ((v2_0, (List.take (List.length v2_1) (List.drop 0 v2_1)), (List.take (List.length v2_2) (List.drop 0 v2_2)), (List.take (List.length v2_3) (List.drop 0 v2_3)), ()), (v11_0, (List.take (List.length v11_1) (List.drop 0 v11_1)), (List.take (List.length v11_2) (List.drop 0 v11_2)), (List.take ((List.length v11_3) + (List.length (List.take 1 (List.drop 0 [(r0, (ByteArray.extract (List.getD v67 (0 + (Int.toNat v69)) (⟨Array.empty⟩ : ByteArray)) (Int.toNat (1 : Int)) (Int.toNat (2 : Int))), r2, r4)])))) (List.drop 0 ((List.drop 0 v11_3) ++ (List.take 1 (List.drop 0 [(r0, (ByteArray.extract (List.getD v67 (0 + (Int.toNat v69)) (⟨Array.empty⟩ : ByteArray)) (Int.toNat (1 : Int)) (Int.toNat (2 : Int))), r2, r4)]))))), ()), false, (List.take (List.length v67) (List.drop 0 v67)), v68, (IntKind.wrap .i64 (v69 + (1 : Int))), ()))
                else
                 none
               else
                none
             else
              if (((0 : Int) ≤ (1 : Int)) ∧ (((1 : Int) ≤ (2 : Int)) ∧ ((2 : Int) ≤ (((ByteArray.size (List.getD v67 (0 + (Int.toNat v69)) (⟨Array.empty⟩ : ByteArray))) : Nat) : Int)))) then
               if (((0 + (List.length v11_3)) = (List.length v11_3)) ∧ ((((List.length v11_3) + (List.length (List.take 1 (List.drop 0 [(r0, (ByteArray.extract (List.getD v67 (0 + (Int.toNat v69)) (⟨Array.empty⟩ : ByteArray)) (Int.toNat (1 : Int)) (Int.toNat (2 : Int))), r2, r4)])))) * 40) ≤ 140737488355328)) then
                some (Sum.inl ((v2_0, (List.take (List.length v2_1) (List.drop 0 v2_1)), (List.take (List.length v2_2) (List.drop 0 v2_2)), (List.take (List.length v2_3) (List.drop 0 v2_3)), ()), (v11_0, (List.take (List.length v11_1) (List.drop 0 v11_1)), (List.take (List.length v11_2) (List.drop 0 v11_2)), (List.take ((List.length v11_3) + (List.length (List.take 1 (List.drop 0 [(r0, (ByteArray.extract (List.getD v67 (0 + (Int.toNat v69)) (⟨Array.empty⟩ : ByteArray)) (Int.toNat (1 : Int)) (Int.toNat (2 : Int))), r2, r4)])))) (List.drop 0 ((List.drop 0 v11_3) ++ (List.take 1 (List.drop 0 [(r0, (ByteArray.extract (List.getD v67 (0 + (Int.toNat v69)) (⟨Array.empty⟩ : ByteArray)) (Int.toNat (1 : Int)) (Int.toNat (2 : Int))), r2, r4)]))))), ()), false, (List.take (List.length v67) (List.drop 0 v67)), v68, (IntKind.wrap .i64 (v69 + (1 : Int))), ()))
               else
                none
              else
               none
            else
             if (((0 : Int) ≤ (1 : Int)) ∧ (((1 : Int) ≤ (2 : Int)) ∧ ((2 : Int) ≤ (((ByteArray.size (List.getD v67 (0 + (Int.toNat v69)) (⟨Array.empty⟩ : ByteArray))) : Nat) : Int)))) then
              if (((0 + (List.length v11_3)) = (List.length v11_3)) ∧ ((((List.length v11_3) + (List.length (List.take 1 (List.drop 0 [(r0, (ByteArray.extract (List.getD v67 (0 + (Int.toNat v69)) (⟨Array.empty⟩ : ByteArray)) (Int.toNat (1 : Int)) (Int.toNat (2 : Int))), r2, r4)])))) * 40) ≤ 140737488355328)) then
               some (Sum.inl ((v2_0, (List.take (List.length v2_1) (List.drop 0 v2_1)), (List.take (List.length v2_2) (List.drop 0 v2_2)), (List.take (List.length v2_3) (List.drop 0 v2_3)), ()), (v11_0, (List.take (List.length v11_1) (List.drop 0 v11_1)), (List.take (List.length v11_2) (List.drop 0 v11_2)), (List.take ((List.length v11_3) + (List.length (List.take 1 (List.drop 0 [(r0, (ByteArray.extract (List.getD v67 (0 + (Int.toNat v69)) (⟨Array.empty⟩ : ByteArray)) (Int.toNat (1 : Int)) (Int.toNat (2 : Int))), r2, r4)])))) (List.drop 0 ((List.drop 0 v11_3) ++ (List.take 1 (List.drop 0 [(r0, (ByteArray.extract (List.getD v67 (0 + (Int.toNat v69)) (⟨Array.empty⟩ : ByteArray)) (Int.toNat (1 : Int)) (Int.toNat (2 : Int))), r2, r4)]))))), ()), false, (List.take (List.length v67) (List.drop 0 v67)), v68, (IntKind.wrap .i64 (v69 + (1 : Int))), ()))
              else
               none
             else
              none
          else
           none
        else
         none
      else
       none
    else
     none
  else
   none
 else
  some (Sum.inr (Sum.inr ((v2_0, (List.take (List.length v2_1) (List.drop 0 v2_1)), (List.take (List.length v2_2) (List.drop 0 v2_2)), (List.take (List.length v2_3) (List.drop 0 v2_3)), ()), (v11_0, (List.take (List.length v11_1) (List.drop 0 v11_1)), (List.take (List.length v11_2) (List.drop 0 v11_2)), (List.take (List.length v11_3) (List.drop 0 v11_3)), ()), v12, ())))
theorem y2m : ya6 131 E102 L102_0 (ya1 f102 11) z10 z11 = yb5 := by kernel_rfl
theorem z9f {L} (h : L 11 = some ⟨131, z10, z11, yb5⟩) : yc0 prog L (ya1 f102 11) := lo y2m kg7 ya0 h
noncomputable def L102_1 : Nat → Option LoopD := fun n => ifEq n 11 (some ⟨131, z10, z11, yb5⟩) (L102_0 n)
noncomputable def yn5 : ByteArray → Option ((Int × ((List Int) × ((List Int) × (List (Int × (ByteArray × (Int × Int))))))) × Bool) := fun a0 =>
 Option.bind (yq6 a0 (59 : Int)) fun r0 =>
  bif ((((List.length r0) : Nat) : Int) != (4 : Int)) then
   some (((0 : Int), [], [], []), false)
  else
   if (((0 : Int) ≤ (0 : Int)) ∧ ((0 : Int) < (((List.length r0) : Nat) : Int))) then
    Option.bind (yq7 (List.getD r0 (0 + (Int.toNat (0 : Int))) (⟨Array.empty⟩ : ByteArray))) fun (r1, r2) =>
     if (((0 : Int) ≤ (1 : Int)) ∧ ((1 : Int) < (((List.length r0) : Nat) : Int))) then
      Option.bind (y0c (List.getD r0 (0 + (Int.toNat (1 : Int))) (⟨Array.empty⟩ : ByteArray))) fun (r3, r4) =>
       if (((0 : Int) ≤ (2 : Int)) ∧ ((2 : Int) < (((List.length r0) : Nat) : Int))) then
        Option.bind (y0c (List.getD r0 (0 + (Int.toNat (2 : Int))) (⟨Array.empty⟩ : ByteArray))) fun (r5, r6) =>
         bif r2 then
          bif r4 then
           if (((0 : Int) ≤ (3 : Int)) ∧ ((3 : Int) < (((List.length r0) : Nat) : Int))) then
            bif (!((ByteArray.toList (List.getD r0 (0 + (Int.toNat (3 : Int))) (⟨Array.empty⟩ : ByteArray))) == (ByteArray.toList (⟨#[]⟩ : ByteArray)))) then
             if (((0 : Int) ≤ (3 : Int)) ∧ ((3 : Int) < (((List.length r0) : Nat) : Int))) then
              Option.bind (yq6 (List.getD r0 (0 + (Int.toNat (3 : Int))) (⟨Array.empty⟩ : ByteArray)) (32 : Int)) fun r7 =>
               Option.bind (ya4 yb5 (((0 : Int), [], [], [], ()), (r1, (List.take (List.length r3) (List.drop 0 r3)), (List.take (List.length r5) (List.drop 0 r5)), (List.take 0 (List.drop 0 [])), ()), r6, (List.take (List.length r7) (List.drop 0 r7)), (((List.length r7) : Nat) : Int), (0 : Int), ())) fun r8 =>
                (match r8 with
                | .inl ((d9, d10, d11, d12, _), d13, _) =>
                  some ((d9, (List.take (List.length d10) (List.drop 0 d10)), (List.take (List.length d11) (List.drop 0 d11)), (List.take (List.length d12) (List.drop 0 d12))), d13)
                | .inr ((d14, d15, d16, d17, _), (d18, d19, d20, d21, _), d22, _) =>
                  bif (!d22) then
                   some (((0 : Int), [], [], []), false)
                  else
                   Option.bind (yc7 (d18, (List.take (List.length d19) (List.drop 0 d19)), (List.take (List.length d20) (List.drop 0 d20)), (List.take (List.length d21) (List.drop 0 d21)))) fun r23 =>
                    bif (!r23) then
                     some (((0 : Int), [], [], []), false)
                    else
                     some ((d18, (List.take (List.length d19) (List.drop 0 d19)), (List.take (List.length d20) (List.drop 0 d20)), (List.take (List.length d21) (List.drop 0 d21))), true))
             else
              none
            else
             bif (!r6) then
              some (((0 : Int), [], [], []), false)
             else
              Option.bind (yc7 (r1, (List.take (List.length r3) (List.drop 0 r3)), (List.take (List.length r5) (List.drop 0 r5)), (List.take 0 (List.drop 0 [])))) fun r24 =>
               bif (!r24) then
                some (((0 : Int), [], [], []), false)
               else
                some ((r1, (List.take (List.length r3) (List.drop 0 r3)), (List.take (List.length r5) (List.drop 0 r5)), (List.take 0 (List.drop 0 []))), true)
           else
            none
          else
           if (((0 : Int) ≤ (3 : Int)) ∧ ((3 : Int) < (((List.length r0) : Nat) : Int))) then
            bif (!((ByteArray.toList (List.getD r0 (0 + (Int.toNat (3 : Int))) (⟨Array.empty⟩ : ByteArray))) == (ByteArray.toList (⟨#[]⟩ : ByteArray)))) then
             if (((0 : Int) ≤ (3 : Int)) ∧ ((3 : Int) < (((List.length r0) : Nat) : Int))) then
              Option.bind (yq6 (List.getD r0 (0 + (Int.toNat (3 : Int))) (⟨Array.empty⟩ : ByteArray)) (32 : Int)) fun r25 =>
               Option.bind (ya4 yb5 (((0 : Int), [], [], [], ()), (r1, (List.take (List.length r3) (List.drop 0 r3)), (List.take (List.length r5) (List.drop 0 r5)), (List.take 0 (List.drop 0 [])), ()), false, (List.take (List.length r25) (List.drop 0 r25)), (((List.length r25) : Nat) : Int), (0 : Int), ())) fun r26 =>
                (match r26 with
                | .inl ((d27, d28, d29, d30, _), d31, _) =>
                  some ((d27, (List.take (List.length d28) (List.drop 0 d28)), (List.take (List.length d29) (List.drop 0 d29)), (List.take (List.length d30) (List.drop 0 d30))), d31)
                | .inr ((d32, d33, d34, d35, _), (d36, d37, d38, d39, _), d40, _) =>
                  bif (!d40) then
                   some (((0 : Int), [], [], []), false)
                  else
                   Option.bind (yc7 (d36, (List.take (List.length d37) (List.drop 0 d37)), (List.take (List.length d38) (List.drop 0 d38)), (List.take (List.length d39) (List.drop 0 d39)))) fun r41 =>
                    bif (!r41) then
                     some (((0 : Int), [], [], []), false)
                    else
                     some ((d36, (List.take (List.length d37) (List.drop 0 d37)), (List.take (List.length d38) (List.drop 0 d38)), (List.take (List.length d39) (List.drop 0 d39))), true))
             else
              none
            else
             some (((0 : Int), [], [], []), false)
           else
            none
         else
          if (((0 : Int) ≤ (3 : Int)) ∧ ((3 : Int) < (((List.length r0) : Nat) : Int))) then
           bif (!((ByteArray.toList (List.getD r0 (0 + (Int.toNat (3 : Int))) (⟨Array.empty⟩ : ByteArray))) == (ByteArray.toList (⟨#[]⟩ : ByteArray)))) then
            if (((0 : Int) ≤ (3 : Int)) ∧ ((3 : Int) < (((List.length r0) : Nat) : Int))) then
             Option.bind (yq6 (List.getD r0 (0 + (Int.toNat (3 : Int))) (⟨Array.empty⟩ : ByteArray)) (32 : Int)) fun r42 =>
              Option.bind (ya4 yb5 (((0 : Int), [], [], [], ()), (r1, (List.take (List.length r3) (List.drop 0 r3)), (List.take (List.length r5) (List.drop 0 r5)), (List.take 0 (List.drop 0 [])), ()), false, (List.take (List.length r42) (List.drop 0 r42)), (((List.length r42) : Nat) : Int), (0 : Int), ())) fun r43 =>
               (match r43 with
               | .inl ((d44, d45, d46, d47, _), d48, _) =>
                 some ((d44, (List.take (List.length d45) (List.drop 0 d45)), (List.take (List.length d46) (List.drop 0 d46)), (List.take (List.length d47) (List.drop 0 d47))), d48)
               | .inr ((d49, d50, d51, d52, _), (d53, d54, d55, d56, _), d57, _) =>
                 bif (!d57) then
                  some (((0 : Int), [], [], []), false)
                 else
                  Option.bind (yc7 (d53, (List.take (List.length d54) (List.drop 0 d54)), (List.take (List.length d55) (List.drop 0 d55)), (List.take (List.length d56) (List.drop 0 d56)))) fun r58 =>
                   bif (!r58) then
                    some (((0 : Int), [], [], []), false)
                   else
                    some ((d53, (List.take (List.length d54) (List.drop 0 d54)), (List.take (List.length d55) (List.drop 0 d55)), (List.take (List.length d56) (List.drop 0 d56))), true))
            else
             none
           else
            some (((0 : Int), [], [], []), false)
          else
           none
       else
        none
     else
      none
   else
    none
noncomputable def A102 : FnA := ⟨[.v .str], true, [.pair (.int .i64) (.pair (.sl (.int .i64)) (.pair (.sl (.int .i64)) (.sl (.pair (.int .i64) (.pair .str (.pair (.int .i64) (.int .i64))))))), .bool], fun x => yn5 x.1⟩
theorem y4s : fnF E102 L102_1 [.v .str] true [.pair (.int .i64) (.pair (.sl (.int .i64)) (.pair (.sl (.int .i64)) (.sl (.pair (.int .i64) (.pair .str (.pair (.int .i64) (.int .i64))))))), .bool] f102.ntmps f102.results.toList (ya2 f102) = fun x => yn5 x.1 := by kernel_rfl
theorem A102_ok : FnOk prog 102 A102 := fo y4s func102 kg7 (yb4 (z9f rfl) ya0)
/-! spec.l3Known -/
noncomputable def E74 : Env := ⟨ty0, fun g => ifEq g 102 (some A102) (none), fun _ => none, fun _ => none, fun _ => none⟩
theorem E74_ok : FnsOk prog E74 := (oF A102_ok func102 (yc1 _ _))
noncomputable def L74_0 : Nat → Option LoopD := fun _ => none
noncomputable def y0o : Int → Option ((Int × ((List Int) × ((List Int) × (List (Int × (ByteArray × (Int × Int)))))))) := fun a0 =>
 if (((9 : Nat) : Int) = (0 : Int)) then
  none
 else
  if (((0 : Int) ≤ (Int.tmod a0 ((9 : Nat) : Int))) ∧ ((Int.tmod a0 ((9 : Nat) : Int)) < ((9 : Nat) : Int))) then
   Option.bind (yn5 (List.getD [(⟨#[(49 : UInt8), (59 : UInt8), (48 : UInt8), (59 : UInt8), (48 : UInt8), (59 : UInt8), (48 : UInt8), (97 : UInt8), (48 : UInt8), (58 : UInt8), (49 : UInt8), (32 : UInt8), (48 : UInt8), (98 : UInt8), (48 : UInt8), (58 : UInt8), (48 : UInt8)]⟩ : ByteArray), (⟨#[(50 : UInt8), (59 : UInt8), (48 : UInt8), (59 : UInt8), (49 : UInt8), (59 : UInt8), (48 : UInt8), (97 : UInt8), (48 : UInt8), (58 : UInt8), (48 : UInt8), (32 : UInt8), (48 : UInt8), (97 : UInt8), (49 : UInt8), (58 : UInt8), (49 : UInt8), (32 : UInt8), (49 : UInt8), (98 : UInt8), (49 : UInt8), (58 : UInt8), (48 : UInt8)]⟩ : ByteArray), (⟨#[(50 : UInt8), (59 : UInt8), (48 : UInt8), (32 : UInt8), (49 : UInt8), (59 : UInt8), (48 : UInt8), (32 : UInt8), (49 : UInt8), (59 : UInt8), (48 : UInt8), (97 : UInt8), (48 : UInt8), (58 : UInt8), (49 : UInt8), (32 : UInt8), (48 : UInt8), (98 : UInt8), (48 : UInt8), (58 : UInt8), (48 : UInt8), (32 : UInt8), (49 : UInt8), (97 : UInt8), (49 : UInt8), (58 : UInt8), (48 : UInt8), (32 : UInt8), (49 : UInt8), (98 : UInt8), (49 : UInt8), (58 : UInt8), (49 : UInt8)]⟩ : ByteArray), (⟨#[(51 : UInt8), (59 : UInt8), (48 : UInt8), (59 : UInt8), (48 : UInt8), (32 : UInt8), (50 : UInt8), (59 : UInt8), (48 : UInt8), (97 : UInt8), (48 : UInt8), (58 : UInt8), (48 : UInt8), (32 : UInt8), (48 : UInt8), (97 : UInt8), (49 : UInt8), (58 : UInt8), (48 : UInt8), (32 : UInt8), (48 : UInt8), (98 : UInt8), (48 : UInt8), (58 : UInt8), (49 : UInt8), (32 : UInt8), (49 : UInt8), (97 : UInt8), (49 : UInt8), (58 : UInt8), (49 : UInt8), (32 : UInt8), (49 : UInt8), (98 : UInt8), (50 : UInt8), (58 : UInt8), (48 : UInt8), (32 : UInt8), (50 : UInt8), (97 : UInt8), (50 : UInt8), (58 : UInt8), (48 : UInt8), (32 : UInt8), (50 : UInt8), (98 : UInt8), (50 : UInt8), (58 : UInt8), (48 : UInt8)]⟩ : ByteArray), (⟨#[(50 : UInt8), (59 : UInt8), (48 : UInt8), (59 : UInt8), (48 : UInt8), (59 : UInt8), (48 : UInt8), (97 : UInt8), (49 : UInt8), (58 : UInt8), (49 : UInt8), (32 : UInt8), (49 : UInt8), (98 : UInt8), (48 : UInt8), (58 : UInt8), (48 : UInt8)]⟩ : ByteArray), (⟨#[(51 : UInt8), (59 : UInt8), (48 : UInt8), (59 : UInt8), (50 : UInt8), (59 : UInt8), (48 : UInt8), (97 : UInt8), (48 : UInt8), (58 : UInt8), (48 : UInt8), (32 : UInt8), (48 : UInt8), (98 : UInt8), (48 : UInt8), (58 : UInt8), (48 : UInt8), (32 : UInt8), (48 : UInt8), (98 : UInt8), (49 : UInt8), (58 : UInt8), (48 : UInt8), (32 : UInt8), (49 : UInt8), (97 : UInt8), (49 : UInt8), (58 : UInt8), (49 : UInt8), (32 : UInt8), (49 : UInt8), (98 : UInt8), (50 : UInt8), (58 : UInt8), (48 : UInt8), (32 : UInt8), (50 : UInt8), (97 : UInt8), (50 : UInt8), (58 : UInt8), (48 : UInt8), (32 : UInt8), (50 : UInt8), (98 : UInt8), (50 : UInt8), (58 : UInt8), (48 : UInt8)]⟩ : ByteArray), (⟨#[(49 : UInt8), (59 : UInt8), (48 : UInt8), (59 : UInt8), (48 : UInt8), (59 : UInt8), (48 : UInt8), (97 : UInt8), (48 : UInt8), (58 : UInt8), (48 : UInt8)]⟩ : ByteArray), (⟨#[(50 : UInt8), (59 : UInt8), (48 : UInt8), (59 : UInt8), (48 : UInt8), (32 : UInt8), (49 : UInt8), (59 : UInt8), (48 : UInt8), (97 : UInt8), (48 : UInt8), (58 : UInt8), (48 : UInt8), (32 : UInt8), (48 : UInt8), (98 : UInt8), (49 : UInt8), (58 : UInt8), (49 : UInt8), (32 : UInt8), (49 : UInt8), (97 : UInt8), (48 : UInt8), (58 : UInt8), (48 : UInt8), (32 : UInt8), (49 : UInt8), (98 : UInt8), (49 : UInt8), (58 : UInt8), (48 : UInt8)]⟩ : ByteArray), (⟨#[(50 : UInt8), (59 : UInt8), (48 : UInt8), (59 : UInt8), (49 : UInt8), (59 : UInt8), (48 : UInt8), (97 : UInt8), (49 : UInt8), (58 : UInt8), (50 : UInt8), (32 : UInt8), (49 : UInt8), (97 : UInt8), (49 : UInt8), (58 : UInt8), (48 : UInt8), (32 : UInt8), (49 : UInt8), (98 : UInt8), (48 : UInt8), (58 : UInt8), (49 : UInt8)]⟩ : ByteArray)] (0 + (Int.toNat (Int.tmod a0 ((9 : Nat) : Int)))) (⟨Array.empty⟩ : ByteArray))) fun ((r0, r1, r2, r3), r4) =>
    some (r0, (List.take (List.length r1) (List.drop 0 r1)), (List.take (List.length r2) (List.drop 0 r2)), (List.take (List.length r3) (List.drop 0 r3)))
  else
   none
noncomputable def A74 : FnA := ⟨[.v (.int .i64)], true, [.pair (.int .i64) (.pair (.sl (.int .i64)) (.pair (.sl (.int .i64)) (.sl (.pair (.int .i64) (.pair .str (.pair (.int .i64) (.int .i64)))))))], fun x => y0o x.1⟩
theorem zs3 : fnF E74 L74_0 [.v (.int .i64)] true [.pair (.int .i64) (.pair (.sl (.int .i64)) (.pair (.sl (.int .i64)) (.sl (.pair (.int .i64) (.pair .str (.pair (.int .i64) (.int .i64)))))))] f74.ntmps f74.results.toList (ya2 f74) = fun x => y0o x.1 := by kernel_rfl
theorem A74_ok : FnOk prog 74 A74 := fo zs3 func74 E74_ok ya0
/-! spec.l3Some -/
noncomputable def E75 : Env := ⟨ty0, fun _ => none, fun g => ifEq g 50 (some A50) (none), fun _ => none, fun _ => none⟩
theorem kg8 : FnsOk prog E75 := (y7n z0r (by kernel_rfl) func50 (by kernel_rfl) (by kernel_rfl) (yc1 _ _))
noncomputable def L75_0 : Nat → Option LoopD := fun _ => none
def kg9 : List Fm := .box 200000 [.val (.sl (.int .u8)), .val (.int .i64)] :: D 4 (.cell (.own (.int .i64) 100500 false) :: d :: d :: .cell (.val (.int .i64)) :: .cell (.val (.int .i64)) :: D 11 [])
def kh0 : List (Ex × List Fm) := [(.exit 0, [.box 200000 [.val (.sl (.int .u8)), .val (.int .i64)], d, d, d, d, .cell (.own (.int .i64) 100500 false), d, d, d, d, d, d, d, d, d, d, d, d, d, d, d])]
noncomputable def yk0 : (((List Int) × Int × Unit) × (List Int) × Int × Int × Unit) → Option ((((List Int) × Int × Unit) × (List Int) × Int × Int × Unit) ⊕ ((((List Int) × Int × Unit) × (List Int) × Unit))) := fun ((v0_0, v0_1, _), v5, v8, v9, _) =>
 bif (decide (v9 < v8)) then
  Option.bind (yb8 (v0_0, v0_1) (2 : Int)) fun (r0, (r1, r2), _) =>
   bif (r0 == (0 : Int)) then
    if (((0 + (List.length v5)) = (List.length v5)) ∧ ((((List.length v5) + (List.length (List.take 1 (List.drop 0 [v9])))) * 8) ≤ 140737488355328)) then
     some (Sum.inl ((r1, r2, ()), (List.take ((List.length v5) + (List.length (List.take 1 (List.drop 0 [v9])))) (List.drop 0 ((List.drop 0 v5) ++ (List.take 1 (List.drop 0 [v9]))))), v8, (IntKind.wrap .i64 (v9 + (1 : Int))), ()))
    else
     none
   else
    some (Sum.inl ((r1, r2, ()), (List.take (List.length v5) (List.drop 0 v5)), v8, (IntKind.wrap .i64 (v9 + (1 : Int))), ()))
 else
  some (Sum.inr ((v0_0, v0_1, ()), (List.take (List.length v5) (List.drop 0 v5)), ()))
theorem zc9 : ya6 21 E75 L75_0 (ya1 f75 3) kg9 kh0 = yk0 := by kernel_rfl
theorem kw9 {L} (h : L 3 = some ⟨21, kg9, kh0, yk0⟩) : yc0 prog L (ya1 f75 3) := lo zc9 kg8 ya0 h
noncomputable def L75_1 : Nat → Option LoopD := fun n => ifEq n 3 (some ⟨21, kg9, kh0, yk0⟩) (L75_0 n)
noncomputable def yp2 : ((List Int) × Int) → Int → Option (((List Int)) × (((List Int) × Int) × Unit)) := fun (a0_0, a0_1) a1 =>
 Option.bind (ya4 yk0 ((a0_0, a0_1, ()), (List.take 0 (List.drop 0 [])), a1, (0 : Int), ())) fun ((r0, r1, _), r2, _) =>
  some ((List.take (List.length r2) (List.drop 0 r2)), (r0, r1), ())
noncomputable def A75 : FnM := ⟨[.bx (.pair (.sl (.int .u8)) (.int .i64)), .v (.int .i64)], true, [.sl (.int .i64)], none, fun x => yp2 x.1 x.2.1⟩
theorem zx6 : fnMF E75 L75_1 [.bx (.pair (.sl (.int .u8)) (.int .i64)), .v (.int .i64)] true [.sl (.int .i64)] f75.ntmps f75.results.toList (ya2 f75) = fun x => yp2 x.1 x.2.1 := by kernel_rfl
theorem A75_ok : zw6 prog 75 A75 := by
 have h := ys9 (P := prog) (E := E75) (ya9 yd4) kg8 (L := L75_1) (ps := [.bx (.pair (.sl (.int .u8)) (.int .i64)), .v (.int .i64)]) (own := true) (outs := [.sl (.int .i64)]) func75 (c := ya2 f75) (by kernel_rfl) (yc6 (L := L75_1) (ya9 yd4) kg8 mixed (c := ya2 f75) (bs := [ya1 f75 3]) (by kernel_rfl) (yb4 (kw9 rfl) ya0) (by kernel_rfl)) (by kernel_rfl)
 rw [zx6] at h
 exact h
/-! (*spec.l13Rd).of -/
noncomputable def E73 : Env := ⟨ty0, fun _ => none, fun g => ifEq g 50 (some A50) (none), fun _ => none, fun _ => none⟩
theorem E73_ok : FnsOk prog E73 := (y7n z0r (by kernel_rfl) func50 (by kernel_rfl) (by kernel_rfl) (yc1 _ _))
noncomputable def L73_0 : Nat → Option LoopD := fun _ => none
noncomputable def yt6 : ((List Int) × Int) → (List ByteArray) → Option ((ByteArray) × (((List Int) × Int) × Unit)) := fun (a0_0, a0_1) a1 =>
 Option.bind (yb8 (a0_0, a0_1) (((List.length a1) : Nat) : Int)) fun (r0, (r1, r2), _) =>
  if (((0 : Int) ≤ r0) ∧ (r0 < (((List.length a1) : Nat) : Int))) then
   some ((List.getD a1 (Int.toNat r0) (⟨Array.empty⟩ : ByteArray)), (r1, r2), ())
  else
   none
noncomputable def A73 : FnM := ⟨[.bx (.pair (.sl (.int .u8)) (.int .i64)), .v (.sl .str)], true, [.str], none, fun x => yt6 x.1 x.2.1⟩
theorem zj8 : fnMF E73 L73_0 [.bx (.pair (.sl (.int .u8)) (.int .i64)), .v (.sl .str)] true [.str] f73.ntmps f73.results.toList (ya2 f73) = fun x => yt6 x.1 x.2.1 := by kernel_rfl
theorem A73_ok : zw6 prog 73 A73 := by
 have h := ys9 (P := prog) (E := E73) (ya9 yd4) E73_ok (L := L73_0) (ps := [.bx (.pair (.sl (.int .u8)) (.int .i64)), .v (.sl .str)]) (own := true) (outs := [.str]) func73 (c := ya2 f73) (by kernel_rfl) (yc6 (L := L73_0) (ya9 yd4) E73_ok mixed (c := ya2 f73) (bs := []) (by kernel_rfl) ya0 (by kernel_rfl)) (by kernel_rfl)
 rw [zj8] at h
 exact h
/-! (*spec.l13Rd).num -/
noncomputable def E30 : Env := ⟨ty0, fun _ => none, fun g => ifEq g 50 (some A50) (none), fun _ => none, fun _ => none⟩
theorem E30_ok : FnsOk prog E30 := (y7n z0r (by kernel_rfl) func50 (by kernel_rfl) (by kernel_rfl) (yc1 _ _))
noncomputable def L30_0 : Nat → Option LoopD := fun _ => none
noncomputable def yh9 : ((List Int) × Int) → (List Int) → Option ((Int) × (((List Int) × Int) × Unit)) := fun (a0_0, a0_1) a1 =>
 Option.bind (yb8 (a0_0, a0_1) (((List.length a1) : Nat) : Int)) fun (r0, (r1, r2), _) =>
  if (((0 : Int) ≤ r0) ∧ (r0 < (((List.length a1) : Nat) : Int))) then
   some ((List.getD a1 (Int.toNat r0) (0 : Int)), (r1, r2), ())
  else
   none
noncomputable def A30 : FnM := ⟨[.bx (.pair (.sl (.int .u8)) (.int .i64)), .v (.sl (.int .i64))], true, [.int .i64], none, fun x => yh9 x.1 x.2.1⟩
theorem zd0 : fnMF E30 L30_0 [.bx (.pair (.sl (.int .u8)) (.int .i64)), .v (.sl (.int .i64))] true [.int .i64] f30.ntmps f30.results.toList (ya2 f30) = fun x => yh9 x.1 x.2.1 := by kernel_rfl
theorem kh1 : zw6 prog 30 A30 := by
 have h := ys9 (P := prog) (E := E30) (ya9 yd4) E30_ok (L := L30_0) (ps := [.bx (.pair (.sl (.int .u8)) (.int .i64)), .v (.sl (.int .i64))]) (own := true) (outs := [.int .i64]) func30 (c := ya2 f30) (by kernel_rfl) (yc6 (L := L30_0) (ya9 yd4) E30_ok mixed (c := ya2 f30) (bs := []) (by kernel_rfl) ya0 (by kernel_rfl)) (by kernel_rfl)
 rw [zd0] at h
 exact h
/-! spec.l3Put -/
noncomputable def E76 : Env := ⟨ty0, fun g => ifEq g 103 (some A103) (none), fun _ => none, fun _ => none, fun _ => none⟩
theorem E76_ok : FnsOk prog E76 := (oF kg4 func103 (yc1 _ _))
noncomputable def L76_0 : Nat → Option LoopD := fun _ => none
def kh2 : List Fm := .cell (.val (.sl (.pair (.int .i64) (.pair .str (.pair (.int .i64) (.int .i64)))))) :: d :: d :: .box 100300 [.val (.int .i64), .val .str, .val (.int .i64), .val (.int .i64)] :: d :: .cell (.val (.int .i64)) :: D 56 []
def kh3 : List (Ex × List Fm) := [(.exit 0, [.cell (.val (.sl (.pair (.int .i64) (.pair .str (.pair (.int .i64) (.int .i64)))))), d, d, .box 100300 [.val (.int .i64), .val .str, .val (.int .i64), .val (.int .i64)], d, .cell (.val (.int .i64)), d, d, d, d, d, d, d, d, d, d, d, d, d, d, d, d, d, d, d, d, d, d, d, d, d, d, d, d, d, d, d, d, d, d, d, d, d, d, d, d, d, d, d, d, d, d, d, d, d, d, d, d, d, d, d, d])]
noncomputable def yo3 : ((List (Int × (ByteArray × (Int × Int)))) × (Int × ByteArray × Int × Int × Unit) × Int × Unit) → Option (((List (Int × (ByteArray × (Int × Int)))) × (Int × ByteArray × Int × Int × Unit) × Int × Unit) ⊕ (((List (Int × (ByteArray × (Int × Int)))) × (Int × ByteArray × Int × Int × Unit) × Int × Unit))) := fun (v0, (v3_0, v3_1, v3_2, v3_3, _), v5, _) =>
 bif (decide (v5 < (((List.length v0) : Nat) : Int))) then
  if (((0 : Int) ≤ v5) ∧ (v5 < (((List.length v0) : Nat) : Int))) then
   Option.bind (yq8 (List.getD v0 (Int.toNat v5) ((0 : Int), (⟨Array.empty⟩ : ByteArray), (0 : Int), (0 : Int))) (v3_0, v3_1, v3_2, v3_3)) fun r0 =>
    bif r0 then
     some (Sum.inl (v0, (v3_0, v3_1, v3_2, v3_3, ()), (IntKind.wrap .i64 (v5 + (1 : Int))), ()))
    else
     some (Sum.inr (v0, (v3_0, v3_1, v3_2, v3_3, ()), v5, ()))
  else
   none
 else
  some (Sum.inr (v0, (v3_0, v3_1, v3_2, v3_3, ()), v5, ()))
theorem zj9 : ya6 62 E76 L76_0 (ya1 f76 2) kh2 kh3 = yo3 := by kernel_rfl
theorem kx0 {L} (h : L 2 = some ⟨62, kh2, kh3, yo3⟩) : yc0 prog L (ya1 f76 2) := lo zj9 E76_ok ya0 h
noncomputable def L76_1 : Nat → Option LoopD := fun n => ifEq n 2 (some ⟨62, kh2, kh3, yo3⟩) (L76_0 n)
noncomputable def y3l : (List (Int × (ByteArray × (Int × Int)))) → (Int × (ByteArray × (Int × Int))) → Option ((List (Int × (ByteArray × (Int × Int))))) := fun a0 (a1_0, a1_1, a1_2, a1_3) =>
 Option.bind (ya4 yo3 (a0, (a1_0, a1_1, a1_2, a1_3, ()), (0 : Int), ())) fun (r0, (r1, r2, r3, r4, _), r5, _) =>
  bif (decide (r5 < (((List.length r0) : Nat) : Int))) then
   if (((0 : Int) ≤ r5) ∧ (r5 < (((List.length r0) : Nat) : Int))) then
    Option.bind (yq8 (r1, r2, r3, r4) (List.getD r0 (Int.toNat r5) ((0 : Int), (⟨Array.empty⟩ : ByteArray), (0 : Int), (0 : Int)))) fun r6 =>
     bif (!r6) then
      if (((0 + 0) = (List.length ([] : List Unit))) ∧ (((0 + (List.length r0)) * 40) ≤ 140737488355328)) then
       if (((0 : Int) ≤ r5) ∧ (r5 < (((0 + (List.length r0)) : Nat) : Int))) then
        if (((0 : Int) ≤ r5) ∧ (r5 < (((0 + (List.length r0)) : Nat) : Int))) then
         Option.bind (Option.some (List.set ((List.drop 0 []) ++ r0) (0 + (Int.toNat r5)) ((List.getD ((List.drop 0 []) ++ r0) (0 + (Int.toNat r5)) ((0 : Int), (⟨Array.empty⟩ : ByteArray), (0 : Int), (0 : Int))).1, (List.getD ((List.drop 0 []) ++ r0) (0 + (Int.toNat r5)) ((0 : Int), (⟨Array.empty⟩ : ByteArray), (0 : Int), (0 : Int))).2.1, (List.getD ((List.drop 0 []) ++ r0) (0 + (Int.toNat r5)) ((0 : Int), (⟨Array.empty⟩ : ByteArray), (0 : Int), (0 : Int))).2.2.1, (if (r4 < (List.getD ((List.drop 0 []) ++ r0) (0 + (Int.toNat r5)) ((0 : Int), (⟨Array.empty⟩ : ByteArray), (0 : Int), (0 : Int))).2.2.2) then r4 else (List.getD ((List.drop 0 []) ++ r0) (0 + (Int.toNat r5)) ((0 : Int), (⟨Array.empty⟩ : ByteArray), (0 : Int), (0 : Int))).2.2.2)))) fun r7 =>
          some (List.take (0 + (List.length r0)) (List.drop 0 r7))
        else
         none
       else
        none
      else
       none
     else
      if (((0 : Int) ≤ r5) ∧ (r5 ≤ (((List.length r0) : Nat) : Int))) then
       if (((0 + 0) = (List.length ([] : List Unit))) ∧ (((0 + (List.length (List.take ((Int.toNat r5) - 0) (List.drop 0 r0)))) * 40) ≤ 140737488355328)) then
        if (((0 + (0 + (List.length (List.take ((Int.toNat r5) - 0) (List.drop 0 r0))))) = (List.length ((List.drop 0 []) ++ (List.take ((Int.toNat r5) - 0) (List.drop 0 r0))))) ∧ ((((0 + (List.length (List.take ((Int.toNat r5) - 0) (List.drop 0 r0)))) + (List.length (List.take 1 (List.drop 0 [(r1, r2, r3, r4)])))) * 40) ≤ 140737488355328)) then
         if (((0 : Int) ≤ r5) ∧ (r5 ≤ (((List.length r0) : Nat) : Int))) then
          if (((0 + ((0 + (List.length (List.take ((Int.toNat r5) - 0) (List.drop 0 r0)))) + (List.length (List.take 1 (List.drop 0 [(r1, r2, r3, r4)]))))) = (List.length ((List.drop 0 ((List.drop 0 []) ++ (List.take ((Int.toNat r5) - 0) (List.drop 0 r0)))) ++ (List.take 1 (List.drop 0 [(r1, r2, r3, r4)]))))) ∧ (((((0 + (List.length (List.take ((Int.toNat r5) - 0) (List.drop 0 r0)))) + (List.length (List.take 1 (List.drop 0 [(r1, r2, r3, r4)])))) + (List.length (List.take ((List.length r0) - (Int.toNat r5)) (List.drop (Int.toNat r5) r0)))) * 40) ≤ 140737488355328)) then
           some (List.take (((0 + (List.length (List.take ((Int.toNat r5) - 0) (List.drop 0 r0)))) + (List.length (List.take 1 (List.drop 0 [(r1, r2, r3, r4)])))) + (List.length (List.take ((List.length r0) - (Int.toNat r5)) (List.drop (Int.toNat r5) r0)))) (List.drop 0 ((List.drop 0 ((List.drop 0 ((List.drop 0 []) ++ (List.take ((Int.toNat r5) - 0) (List.drop 0 r0)))) ++ (List.take 1 (List.drop 0 [(r1, r2, r3, r4)])))) ++ (List.take ((List.length r0) - (Int.toNat r5)) (List.drop (Int.toNat r5) r0)))))
          else
           none
         else
          none
        else
         none
       else
        none
      else
       none
   else
    none
  else
   if (((0 : Int) ≤ r5) ∧ (r5 ≤ (((List.length r0) : Nat) : Int))) then
    if (((0 + 0) = (List.length ([] : List Unit))) ∧ (((0 + (List.length (List.take ((Int.toNat r5) - 0) (List.drop 0 r0)))) * 40) ≤ 140737488355328)) then
     if (((0 + (0 + (List.length (List.take ((Int.toNat r5) - 0) (List.drop 0 r0))))) = (List.length ((List.drop 0 []) ++ (List.take ((Int.toNat r5) - 0) (List.drop 0 r0))))) ∧ ((((0 + (List.length (List.take ((Int.toNat r5) - 0) (List.drop 0 r0)))) + (List.length (List.take 1 (List.drop 0 [(r1, r2, r3, r4)])))) * 40) ≤ 140737488355328)) then
      if (((0 : Int) ≤ r5) ∧ (r5 ≤ (((List.length r0) : Nat) : Int))) then
       if (((0 + ((0 + (List.length (List.take ((Int.toNat r5) - 0) (List.drop 0 r0)))) + (List.length (List.take 1 (List.drop 0 [(r1, r2, r3, r4)]))))) = (List.length ((List.drop 0 ((List.drop 0 []) ++ (List.take ((Int.toNat r5) - 0) (List.drop 0 r0)))) ++ (List.take 1 (List.drop 0 [(r1, r2, r3, r4)]))))) ∧ (((((0 + (List.length (List.take ((Int.toNat r5) - 0) (List.drop 0 r0)))) + (List.length (List.take 1 (List.drop 0 [(r1, r2, r3, r4)])))) + (List.length (List.take ((List.length r0) - (Int.toNat r5)) (List.drop (Int.toNat r5) r0)))) * 40) ≤ 140737488355328)) then
        some (List.take (((0 + (List.length (List.take ((Int.toNat r5) - 0) (List.drop 0 r0)))) + (List.length (List.take 1 (List.drop 0 [(r1, r2, r3, r4)])))) + (List.length (List.take ((List.length r0) - (Int.toNat r5)) (List.drop (Int.toNat r5) r0)))) (List.drop 0 ((List.drop 0 ((List.drop 0 ((List.drop 0 []) ++ (List.take ((Int.toNat r5) - 0) (List.drop 0 r0)))) ++ (List.take 1 (List.drop 0 [(r1, r2, r3, r4)])))) ++ (List.take ((List.length r0) - (Int.toNat r5)) (List.drop (Int.toNat r5) r0)))))
       else
        none
      else
       none
     else
      none
    else
     none
   else
    none
noncomputable def A76 : FnA := ⟨[.v (.sl (.pair (.int .i64) (.pair .str (.pair (.int .i64) (.int .i64))))), .v (.pair (.int .i64) (.pair .str (.pair (.int .i64) (.int .i64))))], true, [.sl (.pair (.int .i64) (.pair .str (.pair (.int .i64) (.int .i64))))], fun x => y3l x.1 x.2.1⟩
theorem z12 : fnF E76 L76_1 [.v (.sl (.pair (.int .i64) (.pair .str (.pair (.int .i64) (.int .i64))))), .v (.pair (.int .i64) (.pair .str (.pair (.int .i64) (.int .i64))))] true [.sl (.pair (.int .i64) (.pair .str (.pair (.int .i64) (.int .i64))))] f76.ntmps f76.results.toList (ya2 f76) = fun x => y3l x.1 x.2.1 := by kernel_rfl
theorem A76_ok : FnOk prog 76 A76 := fo z12 func76 E76_ok (yb4 (kx0 rfl) ya0)
/-! spec.l3Draw -/
noncomputable def E52 : Env := ⟨ty0, fun g => ifEq g 74 (some A74) (ifEq g 76 (some A76) (none)), fun g => ifEq g 50 (some A50) (ifEq g 75 (some A75) (ifEq g 73 (some A73) (ifEq g 30 (some A30) (none)))), fun _ => none, fun _ => none⟩
theorem kh4 : FnsOk prog E52 := (oF A74_ok func74 (oF A76_ok func76 (y7n z0r (by kernel_rfl) func50 (by kernel_rfl) (by kernel_rfl) (y7n A75_ok (by kernel_rfl) func75 (by kernel_rfl) (by kernel_rfl) (y7n A73_ok (by kernel_rfl) func73 (by kernel_rfl) (by kernel_rfl) (y7n kh1 (by kernel_rfl) func30 (by kernel_rfl) (by kernel_rfl) (yc1 _ _)))))))
noncomputable def L52_0 : Nat → Option LoopD := fun _ => none
def kh5 : List Fm := .box 200000 [.val (.sl (.int .u8)), .val (.int .i64)] :: d :: d :: d :: .box 100400 [.val (.int .i64), .own (.int .i64) 100402 false, .own (.int .i64) 100403 false, .own (.pair (.int .i64) (.pair .str (.pair (.int .i64) (.int .i64)))) 100404 false] :: d :: .cell (.val (.int .i64)) :: .box 100700 [.val (.int .i64), .own (.int .i64) 100702 false, .own (.int .i64) 100703 false, .own (.pair (.int .i64) (.pair .str (.pair (.int .i64) (.int .i64)))) 100704 false] :: D 30 (.cell (.val (.int .i64)) :: .cell (.val (.int .i64)) :: D 21 [])
def kh6 : List (Ex × List Fm) := [(.exit 0, [.box 200000 [.val (.sl (.int .u8)), .val (.int .i64)], d, d, d, .box 100400 [.val (.int .i64), .own (.int .i64) 100402 false, .own (.int .i64) 100403 false, .own (.pair (.int .i64) (.pair .str (.pair (.int .i64) (.int .i64)))) 100404 false], d, d, .box 100700 [.val (.int .i64), .own (.int .i64) 100702 false, .own (.int .i64) 100703 false, .own (.pair (.int .i64) (.pair .str (.pair (.int .i64) (.int .i64)))) 100704 false], d, d, d, d, d, d, d, d, d, d, d, d, d, d, d, d, d, d, d, d, d, d, d, d, d, d, d, d, d, d, d, d, d, d, d, d, d, d, d, d, d, d, d, d, d, d, d, d, d, d, d, d, d])]
noncomputable def yg6 : (((List Int) × Int × Unit) × (Int × (List Int) × (List Int) × (List (Int × (ByteArray × (Int × Int)))) × Unit) × Int × (Int × (List Int) × (List Int) × (List (Int × (ByteArray × (Int × Int)))) × Unit) × Int × Int × Unit) → Option ((((List Int) × Int × Unit) × (Int × (List Int) × (List Int) × (List (Int × (ByteArray × (Int × Int)))) × Unit) × Int × (Int × (List Int) × (List Int) × (List (Int × (ByteArray × (Int × Int)))) × Unit) × Int × Int × Unit) ⊕ ((((List Int) × Int × Unit) × (Int × (List Int) × (List Int) × (List (Int × (ByteArray × (Int × Int)))) × Unit) × (Int × (List Int) × (List Int) × (List (Int × (ByteArray × (Int × Int)))) × Unit) × Unit))) := fun ((v0_0, v0_1, _), (v4_0, v4_1, v4_2, v4_3, _), v6, (v7_0, v7_1, v7_2, v7_3, _), v38, v39, _) =>
 bif (decide (v39 < v38)) then
  Option.bind (yb8 (v0_0, v0_1) v6) fun (r0, (r1, r2), _) =>
   Option.bind (yt6 (r1, r2) (List.take 2 (List.drop 0 [(⟨#[(97 : UInt8)]⟩ : ByteArray), (⟨#[(98 : UInt8)]⟩ : ByteArray)]))) fun (r3, (r4, r5), _) =>
    Option.bind (yb8 (r4, r5) v6) fun (r6, (r7, r8), _) =>
     Option.bind (yh9 (r7, r8) (List.take 6 (List.drop 0 [(0 : Int), (1 : Int), (0 : Int), (1 : Int), (2 : Int), (0 : Int)]))) fun (r9, (r10, r11), _) =>
      Option.bind (y3l (List.take (List.length v7_3) (List.drop 0 v7_3)) (r0, r3, r6, r9)) fun r12 =>
       some (Sum.inl ((r10, r11, ()), (v4_0, (List.take (List.length v4_1) (List.drop 0 v4_1)), (List.take (List.length v4_2) (List.drop 0 v4_2)), (List.take (List.length v4_3) (List.drop 0 v4_3)), ()), v6, (v7_0, (List.take (List.length v7_1) (List.drop 0 v7_1)), (List.take (List.length v7_2) (List.drop 0 v7_2)), (List.take (List.length r12) (List.drop 0 r12)), ()), v38, (IntKind.wrap .i64 (v39 + (1 : Int))), ()))
 else
  some (Sum.inr ((v0_0, v0_1, ()), (v4_0, (List.take (List.length v4_1) (List.drop 0 v4_1)), (List.take (List.length v4_2) (List.drop 0 v4_2)), (List.take (List.length v4_3) (List.drop 0 v4_3)), ()), (v7_0, (List.take (List.length v7_1) (List.drop 0 v7_1)), (List.take (List.length v7_2) (List.drop 0 v7_2)), (List.take (List.length v7_3) (List.drop 0 v7_3)), ()), ()))
theorem zd1 : ya6 61 E52 L52_0 (ya1 f52 8) kh5 kh6 = yg6 := by kernel_rfl
theorem kx1 {L} (h : L 8 = some ⟨61, kh5, kh6, yg6⟩) : yc0 prog L (ya1 f52 8) := lo zd1 kh4 ya0 h
noncomputable def L52_1 : Nat → Option LoopD := fun n => ifEq n 8 (some ⟨61, kh5, kh6, yg6⟩) (L52_0 n)
noncomputable def y0d : ((List Int) × Int) → Int → Option (((Int × ((List Int) × ((List Int) × (List (Int × (ByteArray × (Int × Int)))))))) × (((List Int) × Int) × Unit)) := fun (a0_0, a0_1) a1 =>
 Option.bind (yb8 (a0_0, a0_1) (3 : Int)) fun (r0, (r1, r2), _) =>
  bif (r0 == (0 : Int)) then
   Option.bind (yb8 (r1, r2) (9 : Int)) fun (r3, (r4, r5), _) =>
    Option.bind (y0o r3) fun (r6, r7, r8, r9) =>
     bif (decide (r6 ≤ a1)) then
      some ((r6, (List.take (List.length r7) (List.drop 0 r7)), (List.take (List.length r8) (List.drop 0 r8)), (List.take (List.length r9) (List.drop 0 r9))), (r4, r5), ())
     else
      Option.bind (yb8 (r4, r5) a1) fun (r10, (r11, r12), _) =>
       Option.bind (yp2 (r11, r12) (IntKind.wrap .i64 ((1 : Int) + r10))) fun (r13, (r14, r15), _) =>
        Option.bind (yp2 (r14, r15) (IntKind.wrap .i64 ((1 : Int) + r10))) fun (r16, (r17, r18), _) =>
         Option.bind (yb8 (r17, r18) (IntKind.wrap .i64 ((IntKind.wrap .i64 ((2 : Int) * (IntKind.wrap .i64 ((1 : Int) + r10)))) + (1 : Int)))) fun (r19, (r20, r21), _) =>
          Option.bind (ya4 yg6 ((r20, r21, ()), ((0 : Int), [], [], [], ()), (IntKind.wrap .i64 ((1 : Int) + r10)), ((IntKind.wrap .i64 ((1 : Int) + r10)), (List.take (List.length r13) (List.drop 0 r13)), (List.take (List.length r16) (List.drop 0 r16)), (List.take 0 (List.drop 0 [])), ()), (IntKind.wrap .i64 ((1 : Int) + r19)), (0 : Int), ())) fun ((r22, r23, _), (r24, r25, r26, r27, _), (r28, r29, r30, r31, _), _) =>
           some ((r28, (List.take (List.length r29) (List.drop 0 r29)), (List.take (List.length r30) (List.drop 0 r30)), (List.take (List.length r31) (List.drop 0 r31))), (r22, r23), ())
  else
   Option.bind (yb8 (r1, r2) a1) fun (r32, (r33, r34), _) =>
    Option.bind (yp2 (r33, r34) (IntKind.wrap .i64 ((1 : Int) + r32))) fun (r35, (r36, r37), _) =>
     Option.bind (yp2 (r36, r37) (IntKind.wrap .i64 ((1 : Int) + r32))) fun (r38, (r39, r40), _) =>
      Option.bind (yb8 (r39, r40) (IntKind.wrap .i64 ((IntKind.wrap .i64 ((2 : Int) * (IntKind.wrap .i64 ((1 : Int) + r32)))) + (1 : Int)))) fun (r41, (r42, r43), _) =>
       Option.bind (ya4 yg6 ((r42, r43, ()), ((0 : Int), [], [], [], ()), (IntKind.wrap .i64 ((1 : Int) + r32)), ((IntKind.wrap .i64 ((1 : Int) + r32)), (List.take (List.length r35) (List.drop 0 r35)), (List.take (List.length r38) (List.drop 0 r38)), (List.take 0 (List.drop 0 [])), ()), (IntKind.wrap .i64 ((1 : Int) + r41)), (0 : Int), ())) fun ((r44, r45, _), (r46, r47, r48, r49, _), (r50, r51, r52, r53, _), _) =>
        some ((r50, (List.take (List.length r51) (List.drop 0 r51)), (List.take (List.length r52) (List.drop 0 r52)), (List.take (List.length r53) (List.drop 0 r53))), (r44, r45), ())
noncomputable def A52 : FnM := ⟨[.bx (.pair (.sl (.int .u8)) (.int .i64)), .v (.int .i64)], true, [.pair (.int .i64) (.pair (.sl (.int .i64)) (.pair (.sl (.int .i64)) (.sl (.pair (.int .i64) (.pair .str (.pair (.int .i64) (.int .i64)))))))], none, fun x => y0d x.1 x.2.1⟩
theorem zx7 : fnMF E52 L52_1 [.bx (.pair (.sl (.int .u8)) (.int .i64)), .v (.int .i64)] true [.pair (.int .i64) (.pair (.sl (.int .i64)) (.pair (.sl (.int .i64)) (.sl (.pair (.int .i64) (.pair .str (.pair (.int .i64) (.int .i64)))))))] f52.ntmps f52.results.toList (ya2 f52) = fun x => y0d x.1 x.2.1 := by kernel_rfl
theorem A52_ok : zw6 prog 52 A52 := by
 have h := ys9 (P := prog) (E := E52) (ya9 yd4) kh4 (L := L52_1) (ps := [.bx (.pair (.sl (.int .u8)) (.int .i64)), .v (.int .i64)]) (own := true) (outs := [.pair (.int .i64) (.pair (.sl (.int .i64)) (.pair (.sl (.int .i64)) (.sl (.pair (.int .i64) (.pair .str (.pair (.int .i64) (.int .i64)))))))]) func52 (c := ya2 f52) (by kernel_rfl) (yc6 (L := L52_1) (ya9 yd4) kh4 mixed (c := ya2 f52) (bs := [ya1 f52 8]) (by kernel_rfl) (yb4 (kx1 rfl) ya0) (by kernel_rfl)) (by kernel_rfl)
 rw [zx7] at h
 exact h
/-! spec.l3Bad -/
noncomputable def E51 : Env := ⟨ty0, fun _ => none, fun g => ifEq g 50 (some A50) (ifEq g 30 (some A30) (ifEq g 73 (some A73) (none))), fun _ => none, fun _ => none⟩
theorem E51_ok : FnsOk prog E51 := (y7n z0r (by kernel_rfl) func50 (by kernel_rfl) (by kernel_rfl) (y7n kh1 (by kernel_rfl) func30 (by kernel_rfl) (by kernel_rfl) (y7n A73_ok (by kernel_rfl) func73 (by kernel_rfl) (by kernel_rfl) (yc1 _ _))))
noncomputable def L51_0 : Nat → Option LoopD := fun _ => none
noncomputable def y1i : ((List Int) × Int) → (Int × ((List Int) × ((List Int) × (List (Int × (ByteArray × (Int × Int))))))) → Option (((Int × ((List Int) × ((List Int) × (List (Int × (ByteArray × (Int × Int)))))))) × (((List Int) × Int) × Unit)) := fun (a0_0, a0_1) (a1_0, a1_1, a1_2, a1_3) =>
 Option.bind (yb8 (a0_0, a0_1) (36 : Int)) fun (r0, (r1, r2), _) =>
  bif (r0 == (0 : Int)) then
   Option.bind (yh9 (r1, r2) (List.take 5 (List.drop 0 [(0 : Int), (5 : Int), (-1 : Int), (1 : Int), (9223372036854775807 : Int)]))) fun (r3, (r4, r5), _) =>
    some ((r3, a1_1, a1_2, a1_3), (r4, r5), ())
  else
   bif (r0 == (1 : Int)) then
    if (((0 + 0) = (List.length ([] : List Unit))) ∧ (((0 + (List.length a1_3)) * 40) ≤ 140737488355328)) then
     Option.bind (yb8 (r1, r2) (2 : Int)) fun (r6, (r7, r8), _) =>
      Option.bind (yt6 (r7, r8) (List.take 3 (List.drop 0 [(⟨#[(97 : UInt8)]⟩ : ByteArray), (⟨#[(99 : UInt8)]⟩ : ByteArray), (⟨#[]⟩ : ByteArray)]))) fun (r9, (r10, r11), _) =>
       Option.bind (yh9 (r10, r11) (List.take 3 (List.drop 0 [(0 : Int), (4 : Int), (-1 : Int)]))) fun (r12, (r13, r14), _) =>
        Option.bind (yh9 (r13, r14) (List.take 3 (List.drop 0 [(0 : Int), (4 : Int), (-1 : Int)]))) fun (r15, (r16, r17), _) =>
         if (((0 + (0 + (List.length a1_3))) = (List.length ((List.drop 0 []) ++ a1_3))) ∧ ((((0 + (List.length a1_3)) + (List.length (List.take 1 (List.drop 0 [(r6, r9, r12, r15)])))) * 40) ≤ 140737488355328)) then
          some ((a1_0, a1_1, a1_2, (List.take ((0 + (List.length a1_3)) + (List.length (List.take 1 (List.drop 0 [(r6, r9, r12, r15)])))) (List.drop 0 ((List.drop 0 ((List.drop 0 []) ++ a1_3)) ++ (List.take 1 (List.drop 0 [(r6, r9, r12, r15)])))))), (r16, r17), ())
         else
          none
    else
     none
   else
    bif (r0 == (2 : Int)) then
     if (((0 + 0) = (List.length ([] : List Unit))) ∧ (((0 + (List.length a1_1)) * 8) ≤ 140737488355328)) then
      Option.bind (yh9 (r1, r2) (List.take 3 (List.drop 0 [(0 : Int), (4 : Int), (-1 : Int)]))) fun (r18, (r19, r20), _) =>
       if (((0 + (0 + (List.length a1_1))) = (List.length ((List.drop 0 []) ++ a1_1))) ∧ ((((0 + (List.length a1_1)) + (List.length (List.take 1 (List.drop 0 [r18])))) * 8) ≤ 140737488355328)) then
        some ((a1_0, (List.take ((0 + (List.length a1_1)) + (List.length (List.take 1 (List.drop 0 [r18])))) (List.drop 0 ((List.drop 0 ((List.drop 0 []) ++ a1_1)) ++ (List.take 1 (List.drop 0 [r18]))))), a1_2, a1_3), (r19, r20), ())
       else
        none
     else
      none
    else
     some ((a1_0, a1_1, a1_2, a1_3), (r1, r2), ())
noncomputable def A51 : FnM := ⟨[.bx (.pair (.sl (.int .u8)) (.int .i64)), .v (.pair (.int .i64) (.pair (.sl (.int .i64)) (.pair (.sl (.int .i64)) (.sl (.pair (.int .i64) (.pair .str (.pair (.int .i64) (.int .i64))))))))], false, [.pair (.int .i64) (.pair (.sl (.int .i64)) (.pair (.sl (.int .i64)) (.sl (.pair (.int .i64) (.pair .str (.pair (.int .i64) (.int .i64)))))))], none, fun x => y1i x.1 x.2.1⟩
theorem z13 : fnMF E51 L51_0 [.bx (.pair (.sl (.int .u8)) (.int .i64)), .v (.pair (.int .i64) (.pair (.sl (.int .i64)) (.pair (.sl (.int .i64)) (.sl (.pair (.int .i64) (.pair .str (.pair (.int .i64) (.int .i64))))))))] false [.pair (.int .i64) (.pair (.sl (.int .i64)) (.pair (.sl (.int .i64)) (.sl (.pair (.int .i64) (.pair .str (.pair (.int .i64) (.int .i64)))))))] f51.ntmps f51.results.toList (ya2 f51) = fun x => y1i x.1 x.2.1 := by kernel_rfl
theorem A51_ok : zw6 prog 51 A51 := by
 have h := ys9 (P := prog) (E := E51) (ya9 yd4) E51_ok (L := L51_0) (ps := [.bx (.pair (.sl (.int .u8)) (.int .i64)), .v (.pair (.int .i64) (.pair (.sl (.int .i64)) (.pair (.sl (.int .i64)) (.sl (.pair (.int .i64) (.pair .str (.pair (.int .i64) (.int .i64))))))))]) (own := false) (outs := [.pair (.int .i64) (.pair (.sl (.int .i64)) (.pair (.sl (.int .i64)) (.sl (.pair (.int .i64) (.pair .str (.pair (.int .i64) (.int .i64)))))))]) func51 (c := ya2 f51) (by kernel_rfl) (yc6 (L := L51_0) (ya9 yd4) E51_ok mixed (c := ya2 f51) (bs := []) (by kernel_rfl) ya0 (by kernel_rfl)) (by kernel_rfl)
 rw [z13] at h
 exact h
/-! spec.l8Draw -/
noncomputable def E29 : Env := ⟨ty0, fun _ => none, fun g => ifEq g 50 (some A50) (ifEq g 52 (some A52) (ifEq g 51 (some A51) (none))), fun _ => none, fun _ => none⟩
theorem E29_ok : FnsOk prog E29 := (y7n z0r (by kernel_rfl) func50 (by kernel_rfl) (by kernel_rfl) (y7n A52_ok (by kernel_rfl) func52 (by kernel_rfl) (by kernel_rfl) (y7n A51_ok (by kernel_rfl) func51 (by kernel_rfl) (by kernel_rfl) (yc1 _ _))))
noncomputable def L29_0 : Nat → Option LoopD := fun _ => none
noncomputable def y12 : ((List Int) × Int) → Option (((Int × ((List Int) × ((List Int) × (List (Int × (ByteArray × (Int × Int)))))))) × (((List Int) × Int) × Unit)) := fun (a0_0, a0_1) =>
 Option.bind (yb8 (a0_0, a0_1) (3 : Int)) fun (r0, (r1, r2), _) =>
  bif (r0 == (0 : Int)) then
   Option.bind (y0d (r1, r2) (3 : Int)) fun ((r3, r4, r5, r6), (r7, r8), _) =>
    Option.bind (y1i (r7, r8) (r3, (List.take (List.length r4) (List.drop 0 r4)), (List.take (List.length r5) (List.drop 0 r5)), (List.take (List.length r6) (List.drop 0 r6)))) fun ((r9, r10, r11, r12), (r13, r14), _) =>
     some ((r9, r10, r11, r12), (r13, r14), ())
  else
   Option.bind (y0d (r1, r2) (2 : Int)) fun ((r15, r16, r17, r18), (r19, r20), _) =>
    Option.bind (y1i (r19, r20) (r15, (List.take (List.length r16) (List.drop 0 r16)), (List.take (List.length r17) (List.drop 0 r17)), (List.take (List.length r18) (List.drop 0 r18)))) fun ((r21, r22, r23, r24), (r25, r26), _) =>
     some ((r21, r22, r23, r24), (r25, r26), ())
noncomputable def A29 : FnM := ⟨[.bx (.pair (.sl (.int .u8)) (.int .i64))], false, [.pair (.int .i64) (.pair (.sl (.int .i64)) (.pair (.sl (.int .i64)) (.sl (.pair (.int .i64) (.pair .str (.pair (.int .i64) (.int .i64)))))))], none, fun x => y12 x.1⟩
theorem zx8 : fnMF E29 L29_0 [.bx (.pair (.sl (.int .u8)) (.int .i64))] false [.pair (.int .i64) (.pair (.sl (.int .i64)) (.pair (.sl (.int .i64)) (.sl (.pair (.int .i64) (.pair .str (.pair (.int .i64) (.int .i64)))))))] f29.ntmps f29.results.toList (ya2 f29) = fun x => y12 x.1 := by kernel_rfl
theorem A29_ok : zw6 prog 29 A29 := by
 have h := ys9 (P := prog) (E := E29) (ya9 yd4) E29_ok (L := L29_0) (ps := [.bx (.pair (.sl (.int .u8)) (.int .i64))]) (own := false) (outs := [.pair (.int .i64) (.pair (.sl (.int .i64)) (.pair (.sl (.int .i64)) (.sl (.pair (.int .i64) (.pair .str (.pair (.int .i64) (.int .i64)))))))]) func29 (c := ya2 f29) (by kernel_rfl) (yc6 (L := L29_0) (ya9 yd4) E29_ok mixed (c := ya2 f29) (bs := []) (by kernel_rfl) ya0 (by kernel_rfl)) (by kernel_rfl)
 rw [zx8] at h
 exact h
/-! spec.DrawWordOver -/
noncomputable def E11 : Env := ⟨ty0, fun _ => none, fun g => ifEq g 29 (some A29) (ifEq g 30 (some A30) (none)), fun g => ifEq g 28 (some A28) (none), fun _ => none⟩
theorem E11_ok : FnsOk prog E11 := (oneBs A28_ok func28 (by kernel_rfl) (by kernel_rfl) (y7n A29_ok (by kernel_rfl) func29 (by kernel_rfl) (by kernel_rfl) (y7n kh1 (by kernel_rfl) func30 (by kernel_rfl) (by kernel_rfl) (yc1 _ _))))
noncomputable def L11_0 : Nat → Option LoopD := fun _ => none
noncomputable def yp6 : (List Int) → Option ((Int × ((List Int) × ((List Int) × (List (Int × (ByteArray × (Int × Int))))))) × Int) := fun a0 =>
 Option.bind (y0n a0) fun (r0, r1) =>
  Option.bind (y12 (r0, r1)) fun ((r2, r3, r4, r5), (r6, r7), _) =>
   Option.bind (yh9 (r6, r7) (List.take 7 (List.drop 0 [(2 : Int), (1 : Int), (3 : Int), (0 : Int), (4 : Int), (-1 : Int), (900000 : Int)]))) fun (r8, (r9, r10), _) =>
    some ((r2, r3, r4, r5), r8)
noncomputable def A11 : FnA := ⟨[.v (.sl (.int .u8))], false, [.pair (.int .i64) (.pair (.sl (.int .i64)) (.pair (.sl (.int .i64)) (.sl (.pair (.int .i64) (.pair .str (.pair (.int .i64) (.int .i64))))))), .int .i64], fun x => yp6 x.1⟩
theorem y6m : fnF E11 L11_0 [.v (.sl (.int .u8))] false [.pair (.int .i64) (.pair (.sl (.int .i64)) (.pair (.sl (.int .i64)) (.sl (.pair (.int .i64) (.pair .str (.pair (.int .i64) (.int .i64))))))), .int .i64] f11.ntmps f11.results.toList (ya2 f11) = fun x => yp6 x.1 := by kernel_rfl
theorem A11_ok : FnOk prog 11 A11 := fo y6m func11 E11_ok ya0
/-! impl.statesOk -/
noncomputable def E55 : Env := ⟨ty0, fun _ => none, fun _ => none, fun _ => none, fun _ => none⟩
theorem E55_ok : FnsOk prog E55 := (yc1 _ _)
noncomputable def L55_0 : Nat → Option LoopD := fun _ => none
def kh7 : List Fm := .cell (.val (.sl (.int .i64))) :: .cell (.val (.int .i64)) :: D 5 (.cell (.val (.sl (.int .i64))) :: .cell (.val (.int .i64)) :: .cell (.val (.int .i64)) :: D 25 [])
def kh8 : List (Ex × List Fm) := [(.ret, (D 4 (.cell (.val .bool) :: D 30 []))), (.exit 0, (D 35 []))]
noncomputable def yl6 : ((List Int) × Int × (List Int) × Int × Int × Unit) → Option (((List Int) × Int × (List Int) × Int × Int × Unit) ⊕ ((Bool × Unit) ⊕ (Unit))) := fun (v0, v1, v7, v8, v9, _) =>
 bif (decide (v9 < v8)) then
  if (((0 : Int) ≤ v9) ∧ (v9 < (((List.length v7) : Nat) : Int))) then
   bif (decide ((List.getD v7 (Int.toNat v9) (0 : Int)) < (0 : Int))) then
    some (Sum.inr (Sum.inl (false, ())))
   else
    bif (decide ((List.getD v7 (Int.toNat v9) (0 : Int)) ≥ v1)) then
     some (Sum.inr (Sum.inl (false, ())))
    else
     bif (decide (v9 > (0 : Int))) then
      if (((0 : Int) ≤ (IntKind.wrap .i64 (v9 - (1 : Int)))) ∧ ((IntKind.wrap .i64 (v9 - (1 : Int))) < (((List.length v0) : Nat) : Int))) then
       bif (decide ((List.getD v0 (Int.toNat (IntKind.wrap .i64 (v9 - (1 : Int)))) (0 : Int)) ≥ (List.getD v7 (Int.toNat v9) (0 : Int)))) then
        some (Sum.inr (Sum.inl (false, ())))
       else
        some (Sum.inl (v0, v1, v7, v8, (IntKind.wrap .i64 (v9 + (1 : Int))), ()))
      else
       none
     else
      some (Sum.inl (v0, v1, v7, v8, (IntKind.wrap .i64 (v9 + (1 : Int))), ()))
  else
   none
 else
  some (Sum.inr (Sum.inr ()))
theorem y7p : ya6 35 E55 L55_0 (ya1 f55 2) kh7 kh8 = yl6 := by kernel_rfl
theorem kx2 {L} (h : L 2 = some ⟨35, kh7, kh8, yl6⟩) : yc0 prog L (ya1 f55 2) := lo y7p E55_ok ya0 h
noncomputable def L55_1 : Nat → Option LoopD := fun n => ifEq n 2 (some ⟨35, kh7, kh8, yl6⟩) (L55_0 n)
noncomputable def yt7 : (List Int) → Int → Option (Bool) := fun a0 a1 =>
 Option.bind (ya4 yl6 (a0, a1, a0, (((List.length a0) : Nat) : Int), (0 : Int), ())) fun r0 =>
  (match r0 with
  | .inl (d1, _) =>
    some d1
  | .inr _ =>
    some true)
noncomputable def A55 : FnA := ⟨[.v (.sl (.int .i64)), .v (.int .i64)], true, [.bool], fun x => yt7 x.1 x.2.1⟩
theorem zk0 : fnF E55 L55_1 [.v (.sl (.int .i64)), .v (.int .i64)] true [.bool] f55.ntmps f55.results.toList (ya2 f55) = fun x => yt7 x.1 x.2.1 := by kernel_rfl
theorem A55_ok : FnOk prog 55 A55 := fo zk0 func55 E55_ok (yb4 (kx2 rfl) ya0)
/-! cmp.isNaN[int] -/
noncomputable def E107 : Env := ⟨ty0, fun _ => none, fun _ => none, fun _ => none, fun _ => none⟩
theorem E107_ok : FnsOk prog E107 := (yc1 _ _)
noncomputable def L107_0 : Nat → Option LoopD := fun _ => none
noncomputable def y5i : Int → Option (Bool) := fun a0 =>
 some (a0 != a0)
noncomputable def A107 : FnA := ⟨[.v (.int .i64)], true, [.bool], fun x => y5i x.1⟩
theorem z3x : fnF E107 L107_0 [.v (.int .i64)] true [.bool] f107.ntmps f107.results.toList (ya2 f107) = fun x => y5i x.1 := by kernel_rfl
theorem A107_ok : FnOk prog 107 A107 := fo z3x func107 E107_ok ya0
/-! cmp.Compare[int] -/
noncomputable def E81 : Env := ⟨ty0, fun g => ifEq g 107 (some A107) (none), fun _ => none, fun _ => none, fun _ => none⟩
theorem E81_ok : FnsOk prog E81 := (oF A107_ok func107 (yc1 _ _))
noncomputable def L81_0 : Nat → Option LoopD := fun _ => none
noncomputable def y0e : Int → Int → Option (Int) := fun a0 a1 =>
 Option.bind (y5i a0) fun r0 =>
  Option.bind (y5i a1) fun r1 =>
   bif r0 then
    bif r1 then
     some (0 : Int)
    else
     some (-1 : Int)
   else
    bif r1 then
     some (1 : Int)
    else
     bif (decide (a0 < a1)) then
      some (-1 : Int)
     else
      bif (decide (a0 > a1)) then
       some (1 : Int)
      else
       some (0 : Int)
noncomputable def A81 : FnA := ⟨[.v (.int .i64), .v (.int .i64)], true, [.int .i64], fun x => y0e x.1 x.2.1⟩
theorem zx9 : fnF E81 L81_0 [.v (.int .i64), .v (.int .i64)] true [.int .i64] f81.ntmps f81.results.toList (ya2 f81) = fun x => y0e x.1 x.2.1 := by kernel_rfl
theorem A81_ok : FnOk prog 81 A81 := fo zx9 func81 E81_ok ya0
/-! cmp.Or[int] -/
noncomputable def E80 : Env := ⟨ty0, fun _ => none, fun _ => none, fun _ => none, fun _ => none⟩
theorem E80_ok : FnsOk prog E80 := (yc1 _ _)
noncomputable def L80_0 : Nat → Option LoopD := fun _ => none
def kh9 : List Fm := d :: d :: d :: .cell (.val (.int .i64)) :: d :: d :: .cell (.val (.sl (.int .i64))) :: .cell (.val (.int .i64)) :: .cell (.val (.int .i64)) :: D 9 []
def ki0 : List (Ex × List Fm) := [(.ret, (d :: d :: .cell (.val (.int .i64)) :: D 15 [])), (.exit 0, (d :: d :: d :: .cell (.val (.int .i64)) :: D 14 []))]
noncomputable def y0p : (Int × (List Int) × Int × Int × Unit) → Option ((Int × (List Int) × Int × Int × Unit) ⊕ ((Int × Unit) ⊕ (Int × Unit))) := fun (v3, v6, v7, v8, _) =>
 bif (decide (v8 < v7)) then
  if (((0 : Int) ≤ v8) ∧ (v8 < (((List.length v6) : Nat) : Int))) then
   bif ((List.getD v6 (Int.toNat v8) (0 : Int)) != v3) then
    some (Sum.inr (Sum.inl ((List.getD v6 (Int.toNat v8) (0 : Int)), ())))
   else
    some (Sum.inl (v3, v6, v7, (IntKind.wrap .i64 (v8 + (1 : Int))), ()))
  else
   none
 else
  some (Sum.inr (Sum.inr (v3, ())))
theorem z3y : ya6 18 E80 L80_0 (ya1 f80 3) kh9 ki0 = y0p := by kernel_rfl
theorem kx3 {L} (h : L 3 = some ⟨18, kh9, ki0, y0p⟩) : yc0 prog L (ya1 f80 3) := lo z3y E80_ok ya0 h
noncomputable def L80_1 : Nat → Option LoopD := fun n => ifEq n 3 (some ⟨18, kh9, ki0, y0p⟩) (L80_0 n)
noncomputable def z3z : (List Int) → Option (Int) := fun a0 =>
 Option.bind (ya4 y0p ((0 : Int), a0, (((List.length a0) : Nat) : Int), (0 : Int), ())) fun r0 =>
  (match r0 with
  | .inl (d1, _) =>
    some d1
  | .inr (d2, _) =>
    some d2)
noncomputable def A80 : FnA := ⟨[.v (.sl (.int .i64))], true, [.int .i64], fun x => z3z x.1⟩
theorem ki1 : fnF E80 L80_1 [.v (.sl (.int .i64))] true [.int .i64] f80.ntmps f80.results.toList (ya2 f80) = fun x => z3z x.1 := by kernel_rfl
theorem A80_ok : FnOk prog 80 A80 := fo ki1 func80 E80_ok (yb4 (kx3 rfl) ya0)
/-! impl.stepOrder -/
noncomputable def E56 : Env := ⟨ty0, fun g => ifEq g 81 (some A81) (ifEq g 82 (some A82) (ifEq g 80 (some A80) (none))), fun _ => none, fun _ => none, fun _ => none⟩
theorem E56_ok : FnsOk prog E56 := (oF A81_ok func81 (oF A82_ok func82 (oF A80_ok func80 (yc1 _ _))))
noncomputable def L56_0 : Nat → Option LoopD := fun _ => none
noncomputable def yr6 : (Int × (ByteArray × (Int × Int))) → (Int × (ByteArray × (Int × Int))) → Option (Int) := fun (a0_0, a0_1, a0_2, a0_3) (a1_0, a1_1, a1_2, a1_3) =>
 Option.bind (y0e a0_0 a1_0) fun r0 =>
  Option.bind (y10 a0_1 a1_1) fun r1 =>
   Option.bind (y0e a0_2 a1_2) fun r2 =>
    Option.bind (z3z (List.take 3 (List.drop 0 [r0, r1, r2]))) fun r3 =>
     some r3
noncomputable def A56 : FnA := ⟨[.v (.pair (.int .i64) (.pair .str (.pair (.int .i64) (.int .i64)))), .v (.pair (.int .i64) (.pair .str (.pair (.int .i64) (.int .i64))))], true, [.int .i64], fun x => yr6 x.1 x.2.1⟩
theorem zd2 : fnF E56 L56_0 [.v (.pair (.int .i64) (.pair .str (.pair (.int .i64) (.int .i64)))), .v (.pair (.int .i64) (.pair .str (.pair (.int .i64) (.int .i64))))] true [.int .i64] f56.ntmps f56.results.toList (ya2 f56) = fun x => yr6 x.1 x.2.1 := by kernel_rfl
theorem A56_ok : FnOk prog 56 A56 := fo zd2 func56 E56_ok ya0
/-! impl.AutomatonValid -/
noncomputable def E34 : Env := ⟨ty0, fun g => ifEq g 55 (some A55) (ifEq g 56 (some A56) (none)), fun _ => none, fun _ => none, fun _ => none⟩
theorem E34_ok : FnsOk prog E34 := (oF A55_ok func55 (oF A56_ok func56 (yc1 _ _)))
noncomputable def L34_0 : Nat → Option LoopD := fun _ => none
def ki2 : List Fm := d :: .box 100100 [.val (.int .i64), .val (.sl (.int .i64)), .val (.sl (.int .i64)), .val (.sl (.pair (.int .i64) (.pair .str (.pair (.int .i64) (.int .i64)))))] :: D 34 (.cell (.val (.sl (.pair (.int .i64) (.pair .str (.pair (.int .i64) (.int .i64)))))) :: .cell (.val (.int .i64)) :: .cell (.val (.int .i64)) :: D 62 [])
def ki3 : List (Ex × List Fm) := [(.ret, (d :: d :: .cell (.val .bool) :: D 98 [])), (.exit 0, (D 101 []))]
noncomputable def yf3 : ((Int × (List Int) × (List Int) × (List (Int × (ByteArray × (Int × Int)))) × Unit) × (List (Int × (ByteArray × (Int × Int)))) × Int × Int × Unit) → Option (((Int × (List Int) × (List Int) × (List (Int × (ByteArray × (Int × Int)))) × Unit) × (List (Int × (ByteArray × (Int × Int)))) × Int × Int × Unit) ⊕ ((Bool × Unit) ⊕ (Unit))) := fun ((v1_0, v1_1, v1_2, v1_3, _), v36, v37, v38, _) =>
 bif (decide (v38 < v37)) then
  if (((0 : Int) ≤ v38) ∧ (v38 < (((List.length v36) : Nat) : Int))) then
   bif (decide ((List.getD v36 (Int.toNat v38) ((0 : Int), (⟨Array.empty⟩ : ByteArray), (0 : Int), (0 : Int))).1 < (0 : Int))) then
    some (Sum.inr (Sum.inl (false, ())))
   else
    bif (decide ((List.getD v36 (Int.toNat v38) ((0 : Int), (⟨Array.empty⟩ : ByteArray), (0 : Int), (0 : Int))).1 ≥ v1_0)) then
     some (Sum.inr (Sum.inl (false, ())))
    else
     bif (decide ((List.getD v36 (Int.toNat v38) ((0 : Int), (⟨Array.empty⟩ : ByteArray), (0 : Int), (0 : Int))).2.2.1 < (0 : Int))) then
      some (Sum.inr (Sum.inl (false, ())))
     else
      bif (decide ((List.getD v36 (Int.toNat v38) ((0 : Int), (⟨Array.empty⟩ : ByteArray), (0 : Int), (0 : Int))).2.2.1 ≥ v1_0)) then
       some (Sum.inr (Sum.inl (false, ())))
      else
       bif (!((ByteArray.toList (List.getD v36 (Int.toNat v38) ((0 : Int), (⟨Array.empty⟩ : ByteArray), (0 : Int), (0 : Int))).2.1) == (ByteArray.toList (⟨#[(97 : UInt8)]⟩ : ByteArray)))) then
        bif (!((ByteArray.toList (List.getD v36 (Int.toNat v38) ((0 : Int), (⟨Array.empty⟩ : ByteArray), (0 : Int), (0 : Int))).2.1) == (ByteArray.toList (⟨#[(98 : UInt8)]⟩ : ByteArray)))) then
         some (Sum.inr (Sum.inl (false, ())))
        else
         bif (decide ((List.getD v36 (Int.toNat v38) ((0 : Int), (⟨Array.empty⟩ : ByteArray), (0 : Int), (0 : Int))).2.2.2 < (0 : Int))) then
          some (Sum.inr (Sum.inl (false, ())))
         else
          bif (decide ((List.getD v36 (Int.toNat v38) ((0 : Int), (⟨Array.empty⟩ : ByteArray), (0 : Int), (0 : Int))).2.2.2 > (3 : Int))) then
           some (Sum.inr (Sum.inl (false, ())))
          else
           bif (decide (v38 > (0 : Int))) then
            if (((0 : Int) ≤ (IntKind.wrap .i64 (v38 - (1 : Int)))) ∧ ((IntKind.wrap .i64 (v38 - (1 : Int))) < (((List.length v1_3) : Nat) : Int))) then
             Option.bind (yr6 (List.getD v1_3 (Int.toNat (IntKind.wrap .i64 (v38 - (1 : Int)))) ((0 : Int), (⟨Array.empty⟩ : ByteArray), (0 : Int), (0 : Int))) ((List.getD v36 (Int.toNat v38) ((0 : Int), (⟨Array.empty⟩ : ByteArray), (0 : Int), (0 : Int))).1, (List.getD v36 (Int.toNat v38) ((0 : Int), (⟨Array.empty⟩ : ByteArray), (0 : Int), (0 : Int))).2.1, (List.getD v36 (Int.toNat v38) ((0 : Int), (⟨Array.empty⟩ : ByteArray), (0 : Int), (0 : Int))).2.2.1, (List.getD v36 (Int.toNat v38) ((0 : Int), (⟨Array.empty⟩ : ByteArray), (0 : Int), (0 : Int))).2.2.2)) fun r0 =>
              bif (decide (r0 ≥ (0 : Int))) then
               some (Sum.inr (Sum.inl (false, ())))
              else
               some (Sum.inl ((v1_0, v1_1, v1_2, v1_3, ()), v36, v37, (IntKind.wrap .i64 (v38 + (1 : Int))), ()))
            else
             none
           else
            some (Sum.inl ((v1_0, v1_1, v1_2, v1_3, ()), v36, v37, (IntKind.wrap .i64 (v38 + (1 : Int))), ()))
       else
        bif (decide ((List.getD v36 (Int.toNat v38) ((0 : Int), (⟨Array.empty⟩ : ByteArray), (0 : Int), (0 : Int))).2.2.2 < (0 : Int))) then
         some (Sum.inr (Sum.inl (false, ())))
        else
         bif (decide ((List.getD v36 (Int.toNat v38) ((0 : Int), (⟨Array.empty⟩ : ByteArray), (0 : Int), (0 : Int))).2.2.2 > (3 : Int))) then
          some (Sum.inr (Sum.inl (false, ())))
         else
          bif (decide (v38 > (0 : Int))) then
           if (((0 : Int) ≤ (IntKind.wrap .i64 (v38 - (1 : Int)))) ∧ ((IntKind.wrap .i64 (v38 - (1 : Int))) < (((List.length v1_3) : Nat) : Int))) then
            Option.bind (yr6 (List.getD v1_3 (Int.toNat (IntKind.wrap .i64 (v38 - (1 : Int)))) ((0 : Int), (⟨Array.empty⟩ : ByteArray), (0 : Int), (0 : Int))) ((List.getD v36 (Int.toNat v38) ((0 : Int), (⟨Array.empty⟩ : ByteArray), (0 : Int), (0 : Int))).1, (List.getD v36 (Int.toNat v38) ((0 : Int), (⟨Array.empty⟩ : ByteArray), (0 : Int), (0 : Int))).2.1, (List.getD v36 (Int.toNat v38) ((0 : Int), (⟨Array.empty⟩ : ByteArray), (0 : Int), (0 : Int))).2.2.1, (List.getD v36 (Int.toNat v38) ((0 : Int), (⟨Array.empty⟩ : ByteArray), (0 : Int), (0 : Int))).2.2.2)) fun r1 =>
             bif (decide (r1 ≥ (0 : Int))) then
              some (Sum.inr (Sum.inl (false, ())))
             else
              some (Sum.inl ((v1_0, v1_1, v1_2, v1_3, ()), v36, v37, (IntKind.wrap .i64 (v38 + (1 : Int))), ()))
           else
            none
          else
           some (Sum.inl ((v1_0, v1_1, v1_2, v1_3, ()), v36, v37, (IntKind.wrap .i64 (v38 + (1 : Int))), ()))
  else
   none
 else
  some (Sum.inr (Sum.inr ()))
theorem y23 : ya6 101 E34 L34_0 (ya1 f34 4) ki2 ki3 = yf3 := by kernel_rfl
theorem kx4 {L} (h : L 4 = some ⟨101, ki2, ki3, yf3⟩) : yc0 prog L (ya1 f34 4) := lo y23 E34_ok ya0 h
noncomputable def L34_1 : Nat → Option LoopD := fun n => ifEq n 4 (some ⟨101, ki2, ki3, yf3⟩) (L34_0 n)
noncomputable def ye5 : (Int × ((List Int) × ((List Int) × (List (Int × (ByteArray × (Int × Int))))))) → Option (Bool) := fun (a0_0, a0_1, a0_2, a0_3) =>
 bif (decide (a0_0 < (1 : Int))) then
  some false
 else
  bif (decide (a0_0 > (4 : Int))) then
   some false
  else
   bif (decide ((((List.length a0_3) : Nat) : Int) > (24 : Int))) then
    some false
   else
    Option.bind (yt7 a0_1 a0_0) fun r0 =>
     bif (!r0) then
      some false
     else
      Option.bind (yt7 a0_2 a0_0) fun r1 =>
       bif (!r1) then
        some false
       else
        Option.bind (ya4 yf3 ((a0_0, a0_1, a0_2, a0_3, ()), a0_3, (((List.length a0_3) : Nat) : Int), (0 : Int), ())) fun r2 =>
         (match r2 with
         | .inl (d3, _) =>
           some d3
         | .inr _ =>
           some true)
noncomputable def A34 : FnA := ⟨[.v (.pair (.int .i64) (.pair (.sl (.int .i64)) (.pair (.sl (.int .i64)) (.sl (.pair (.int .i64) (.pair .str (.pair (.int .i64) (.int .i64))))))))], true, [.bool], fun x => ye5 x.1⟩
theorem y4t : fnF E34 L34_1 [.v (.pair (.int .i64) (.pair (.sl (.int .i64)) (.pair (.sl (.int .i64)) (.sl (.pair (.int .i64) (.pair .str (.pair (.int .i64) (.int .i64))))))))] true [.bool] f34.ntmps f34.results.toList (ya2 f34) = fun x => ye5 x.1 := by kernel_rfl
theorem y5j : FnOk prog 34 A34 := fo y4t func34 E34_ok (yb4 (kx4 rfl) ya0)
/-! internal/stringslite.HasPrefix -/
noncomputable def E111 : Env := ⟨ty0, fun _ => none, fun _ => none, fun _ => none, fun _ => none⟩
theorem E111_ok : FnsOk prog E111 := (yc1 _ _)
noncomputable def L111_0 : Nat → Option LoopD := fun _ => none
noncomputable def yg3 : ByteArray → ByteArray → Option (Bool) := fun a0 a1 =>
 bif (decide ((((ByteArray.size a0) : Nat) : Int) ≥ (((ByteArray.size a1) : Nat) : Int))) then
  if (((0 : Int) ≤ (((ByteArray.size a1) : Nat) : Int)) ∧ ((((ByteArray.size a1) : Nat) : Int) ≤ (((ByteArray.size a0) : Nat) : Int))) then
   some ((ByteArray.toList (ByteArray.extract a0 0 (Int.toNat (((ByteArray.size a1) : Nat) : Int)))) == (ByteArray.toList a1))
  else
   none
 else
  some false
noncomputable def A111 : FnA := ⟨[.v .str, .v .str], true, [.bool], fun x => yg3 x.1 x.2.1⟩
theorem yy1 : fnF E111 L111_0 [.v .str, .v .str] true [.bool] f111.ntmps f111.results.toList (ya2 f111) = fun x => yg3 x.1 x.2.1 := by kernel_rfl
theorem A111_ok : FnOk prog 111 A111 := fo yy1 func111 E111_ok ya0
/-! strings.HasPrefix -/
noncomputable def E84 : Env := ⟨ty0, fun g => ifEq g 111 (some A111) (none), fun _ => none, fun _ => none, fun _ => none⟩
theorem E84_ok : FnsOk prog E84 := (oF A111_ok func111 (yc1 _ _))
noncomputable def L84_0 : Nat → Option LoopD := fun _ => none
noncomputable def yn0 : ByteArray → ByteArray → Option (Bool) := fun a0 a1 =>
 Option.bind (yg3 a0 a1) fun r0 =>
  some r0
noncomputable def A84 : FnA := ⟨[.v .str, .v .str], true, [.bool], fun x => yn0 x.1 x.2.1⟩
theorem y6n : fnF E84 L84_0 [.v .str, .v .str] true [.bool] f84.ntmps f84.results.toList (ya2 f84) = fun x => yn0 x.1 x.2.1 := by kernel_rfl
theorem A84_ok : FnOk prog 84 A84 := fo y6n func84 E84_ok ya0
/-! impl.readParts -/
noncomputable def R58 (impl_readParts_rec : ByteArray → Option ((List (ByteArray × PT)) × ByteArray)) : FnA := ⟨[.v .str], true, [.sl (.pair .str .pt), .str], fun x => impl_readParts_rec x.1⟩
noncomputable def E58 (impl_readParts_rec : ByteArray → Option ((List (ByteArray × PT)) × ByteArray)) : Env := ⟨ty0, fun g => ifEq g 58 (some (R58 impl_readParts_rec)) (ifEq g 84 (some A84) (none)), fun _ => none, fun _ => none, fun _ => none⟩
theorem z7z (impl_readParts_rec : ByteArray → Option ((List (ByteArray × PT)) × ByteArray)) (hrec : FnOk prog 58 (R58 impl_readParts_rec)) : FnsOk prog (E58 impl_readParts_rec) := (oF hrec func58 (oF A84_ok func84 (yc1 _ _)))
noncomputable def L58_0 (impl_readParts_rec : ByteArray → Option ((List (ByteArray × PT)) × ByteArray)) : Nat → Option LoopD := fun _ => none
def ki4 : List Fm := .cell (.val .str) :: d :: d :: d :: .cell (.own (.pair .str .pt) 100400 false) :: D 44 []
def ki5 : List (Ex × List Fm) := [(.ret, (d :: d :: .cell (.own (.pair .str .pt) 100200 false) :: .cell (.val .str) :: D 45 [])), (.exit 0, (.cell (.val .str) :: d :: d :: d :: .cell (.own (.pair .str .pt) 100400 false) :: D 44 []))]
noncomputable def yb0 (impl_readParts_rec : ByteArray → Option ((List (ByteArray × PT)) × ByteArray)) : (ByteArray × (List (ByteArray × PT)) × Unit) → Option ((ByteArray × (List (ByteArray × PT)) × Unit) ⊕ (((List (ByteArray × PT)) × ByteArray × Unit) ⊕ (ByteArray × (List (ByteArray × PT)) × Unit))) := fun (v0, v4, _) =>
 bif (!((ByteArray.toList v0) == (ByteArray.toList (⟨#[]⟩ : ByteArray)))) then
  if (((0 : Int) ≤ (0 : Int)) ∧ ((0 : Int) < (((ByteArray.size v0) : Nat) : Int))) then
   bif ((((UInt8.toNat (Array.getD (ByteArray.data v0) (Int.toNat (0 : Int)) (0 : UInt8))) : Nat) : Int) == (97 : Int)) then
    bif ((((UInt8.toNat (Array.getD (ByteArray.data v0) (Int.toNat (0 : Int)) (0 : UInt8))) : Nat) : Int) == (97 : Int)) then
     if (((0 : Int) ≤ (1 : Int)) ∧ ((1 : Int) ≤ (((ByteArray.size v0) : Nat) : Int))) then
      if (((0 + (List.length v4)) = (List.length v4)) ∧ ((((List.length v4) + (List.length (List.take 1 (List.drop 0 [((ByteArray.extract v0 0 (Int.toNat (1 : Int))), (PT.mk []))])))) * 40) ≤ 140737488355328)) then
       if (((0 : Int) ≤ (1 : Int)) ∧ ((1 : Int) ≤ (((ByteArray.size v0) : Nat) : Int))) then
        some (Sum.inl ((ByteArray.extract v0 (Int.toNat (1 : Int)) (ByteArray.size v0)), (List.take ((List.length v4) + (List.length (List.take 1 (List.drop 0 [((ByteArray.extract v0 0 (Int.toNat (1 : Int))), (PT.mk []))])))) (List.drop 0 ((List.drop 0 v4) ++ (List.take 1 (List.drop 0 [((ByteArray.extract v0 0 (Int.toNat (1 : Int))), (PT.mk []))]))))), ()))
       else
        none
      else
       none
     else
      none
    else
     bif ((((UInt8.toNat (Array.getD (ByteArray.data v0) (Int.toNat (0 : Int)) (0 : UInt8))) : Nat) : Int) == (40 : Int)) then
      if (((0 : Int) ≤ (1 : Int)) ∧ ((1 : Int) ≤ (((ByteArray.size v0) : Nat) : Int))) then
       Option.bind (impl_readParts_rec (ByteArray.extract v0 (Int.toNat (1 : Int)) (ByteArray.size v0))) fun (r0, r1) =>
        bif (decide ((((List.length r0) : Nat) : Int) > (0 : Int))) then
         Option.bind (yn0 r1 (⟨#[(41 : UInt8), (35 : UInt8)]⟩ : ByteArray)) fun r2 =>
          bif r2 then
           if (((0 + (List.length v4)) = (List.length v4)) ∧ ((((List.length v4) + (List.length (List.take 1 (List.drop 0 [((⟨Array.empty⟩ : ByteArray), (PT.mk (List.take (List.length r0) (List.drop 0 r0))))])))) * 40) ≤ 140737488355328)) then
            if (((0 : Int) ≤ (2 : Int)) ∧ ((2 : Int) ≤ (((ByteArray.size r1) : Nat) : Int))) then
             some (Sum.inl ((ByteArray.extract r1 (Int.toNat (2 : Int)) (ByteArray.size r1)), (List.take ((List.length v4) + (List.length (List.take 1 (List.drop 0 [((⟨Array.empty⟩ : ByteArray), (PT.mk (List.take (List.length r0) (List.drop 0 r0))))])))) (List.drop 0 ((List.drop 0 v4) ++ (List.take 1 (List.drop 0 [((⟨Array.empty⟩ : ByteArray), (PT.mk (List.take (List.length r0) (List.drop 0 r0))))]))))), ()))
            else
             none
           else
            none
          else
           some (Sum.inr (Sum.inl ((List.take (List.length v4) (List.drop 0 v4)), v0, ())))
        else
         some (Sum.inr (Sum.inl ((List.take (List.length v4) (List.drop 0 v4)), v0, ())))
      else
       none
     else
      some (Sum.inr (Sum.inl ((List.take (List.length v4) (List.drop 0 v4)), v0, ())))
   else
    bif ((((UInt8.toNat (Array.getD (ByteArray.data v0) (Int.toNat (0 : Int)) (0 : UInt8))) : Nat) : Int) == (98 : Int)) then
     if (((0 : Int) ≤ (1 : Int)) ∧ ((1 : Int) ≤ (((ByteArray.size v0) : Nat) : Int))) then
      if (((0 + (List.length v4)) = (List.length v4)) ∧ ((((List.length v4) + (List.length (List.take 1 (List.drop 0 [((ByteArray.extract v0 0 (Int.toNat (1 : Int))), (PT.mk []))])))) * 40) ≤ 140737488355328)) then
       if (((0 : Int) ≤ (1 : Int)) ∧ ((1 : Int) ≤ (((ByteArray.size v0) : Nat) : Int))) then
        some (Sum.inl ((ByteArray.extract v0 (Int.toNat (1 : Int)) (ByteArray.size v0)), (List.take ((List.length v4) + (List.length (List.take 1 (List.drop 0 [((ByteArray.extract v0 0 (Int.toNat (1 : Int))), (PT.mk []))])))) (List.drop 0 ((List.drop 0 v4) ++ (List.take 1 (List.drop 0 [((ByteArray.extract v0 0 (Int.toNat (1 : Int))), (PT.mk []))]))))), ()))
       else
        none
      else
       none
     else
      none
    else
     bif ((((UInt8.toNat (Array.getD (ByteArray.data v0) (Int.toNat (0 : Int)) (0 : UInt8))) : Nat) : Int) == (40 : Int)) then
      if (((0 : Int) ≤ (1 : Int)) ∧ ((1 : Int) ≤ (((ByteArray.size v0) : Nat) : Int))) then
       Option.bind (impl_readParts_rec (ByteArray.extract v0 (Int.toNat (1 : Int)) (ByteArray.size v0))) fun (r3, r4) =>
        bif (decide ((((List.length r3) : Nat) : Int) > (0 : Int))) then
         Option.bind (yn0 r4 (⟨#[(41 : UInt8), (35 : UInt8)]⟩ : ByteArray)) fun r5 =>
          bif r5 then
           if (((0 + (List.length v4)) = (List.length v4)) ∧ ((((List.length v4) + (List.length (List.take 1 (List.drop 0 [((⟨Array.empty⟩ : ByteArray), (PT.mk (List.take (List.length r3) (List.drop 0 r3))))])))) * 40) ≤ 140737488355328)) then
            if (((0 : Int) ≤ (2 : Int)) ∧ ((2 : Int) ≤ (((ByteArray.size r4) : Nat) : Int))) then
             some (Sum.inl ((ByteArray.extract r4 (Int.toNat (2 : Int)) (ByteArray.size r4)), (List.take ((List.length v4) + (List.length (List.take 1 (List.drop 0 [((⟨Array.empty⟩ : ByteArray), (PT.mk (List.take (List.length r3) (List.drop 0 r3))))])))) (List.drop 0 ((List.drop 0 v4) ++ (List.take 1 (List.drop 0 [((⟨Array.empty⟩ : ByteArray), (PT.mk (List.take (List.length r3) (List.drop 0 r3))))]))))), ()))
            else
             none
           else
            none
          else
           some (Sum.inr (Sum.inl ((List.take (List.length v4) (List.drop 0 v4)), v0, ())))
        else
         some (Sum.inr (Sum.inl ((List.take (List.length v4) (List.drop 0 v4)), v0, ())))
      else
       none
     else
      some (Sum.inr (Sum.inl ((List.take (List.length v4) (List.drop 0 v4)), v0, ())))
  else
   none
 else
  some (Sum.inr (Sum.inr (v0, (List.take (List.length v4) (List.drop 0 v4)), ())))
theorem y6o (impl_readParts_rec : ByteArray → Option ((List (ByteArray × PT)) × ByteArray)) : ya6 49 (E58 impl_readParts_rec) (L58_0 impl_readParts_rec) (ya1 f58 2) ki4 ki5 = (yb0 impl_readParts_rec) := by kernel_rfl
theorem kx5 (impl_readParts_rec : ByteArray → Option ((List (ByteArray × PT)) × ByteArray)) (hrec : FnOk prog 58 (R58 impl_readParts_rec)) {L : Nat → Option LoopD} (h : L 2 = some ⟨49, ki4, ki5, (yb0 impl_readParts_rec)⟩) : yc0 prog L (ya1 f58 2) :=
 zp7 (ya9 yd4) (z7z impl_readParts_rec hrec) (yc6 (L := (L58_0 impl_readParts_rec)) (ya9 yd4) (z7z impl_readParts_rec hrec) mixed (c := ya1 f58 2) (bs := []) (by kernel_rfl) ya0 (by kernel_rfl)) (by kernel_rfl) (by kernel_rfl) (y6o impl_readParts_rec) (by rw [show yv9 (ya1 f58 2) = 2 from by kernel_rfl]; exact h)
noncomputable def L58_1 (impl_readParts_rec : ByteArray → Option ((List (ByteArray × PT)) × ByteArray)) : Nat → Option LoopD := fun n => ifEq n 2 (some ⟨49, ki4, ki5, (yb0 impl_readParts_rec)⟩) ((L58_0 impl_readParts_rec) n)
noncomputable def yh3 (impl_readParts_rec : ByteArray → Option ((List (ByteArray × PT)) × ByteArray)) : ByteArray → Option ((List (ByteArray × PT)) × ByteArray) := fun a0 =>
 Option.bind (ya4 (yb0 impl_readParts_rec) (a0, (List.take 0 (List.drop 0 [])), ())) fun r0 =>
  (match r0 with
  | .inl (d1, d2, _) =>
    some ((List.take (List.length d1) (List.drop 0 d1)), d2)
  | .inr (d3, d4, _) =>
    some ((List.take (List.length d4) (List.drop 0 d4)), d3))
theorem y4u (impl_readParts_rec : ByteArray → Option ((List (ByteArray × PT)) × ByteArray)) : fnF (E58 impl_readParts_rec) (L58_1 impl_readParts_rec) [.v .str] true [.sl (.pair .str .pt), .str] f58.ntmps f58.results.toList (ya2 f58) = fun x => (yh3 impl_readParts_rec) x.1 := by kernel_rfl
theorem y4v (impl_readParts_rec : ByteArray → Option ((List (ByteArray × PT)) × ByteArray)) (hrec : FnOk prog 58 (R58 impl_readParts_rec)) : FnOk prog 58 ⟨[.v .str], true, [.sl (.pair .str .pt), .str], fun x => (yh3 impl_readParts_rec) x.1⟩ := by
 have h := yz8 (P := prog) (E := (E58 impl_readParts_rec)) (ya9 yd4) (z7z impl_readParts_rec hrec) (L := (L58_1 impl_readParts_rec)) (ps := [.v .str]) (own := true) (outs := [.sl (.pair .str .pt), .str]) func58 (c := ya2 f58) (by kernel_rfl) (yc6 (L := (L58_1 impl_readParts_rec)) (ya9 yd4) (z7z impl_readParts_rec hrec) mixed (c := ya2 f58) (bs := [ya1 f58 2]) (by kernel_rfl) (yb4 (kx5 impl_readParts_rec hrec rfl) ya0) (by kernel_rfl))
 rw [(y4u impl_readParts_rec)] at h
 exact h
/-- so many calls within each other -/
noncomputable def ye6 : Nat → ByteArray → Option ((List (ByteArray × PT)) × ByteArray)
 | 0 => fun _ => none
 | n + 1 => yh3 (ye6 n)
theorem yz2 : ∀ n, FnOk prog 58 (R58 (ye6 n))
 | 0 => fun xs r h => by cases h
 | n + 1 => y4v (ye6 n) (yz2 n)
noncomputable def yu9 : ByteArray → Option ((List (ByteArray × PT)) × ByteArray) := ye6 200
noncomputable def A58 : FnA := R58 yu9
theorem A58_ok : FnOk prog 58 A58 := yz2 200
/-! impl.parts -/
noncomputable def E37 : Env := ⟨ty0, fun g => ifEq g 58 (some A58) (none), fun _ => none, fun _ => none, fun _ => none⟩
theorem E37_ok : FnsOk prog E37 := (oF A58_ok func58 (yc1 _ _))
noncomputable def L37_0 : Nat → Option LoopD := fun _ => none
noncomputable def yw8 : ByteArray → Option ((List (ByteArray × PT)) × Bool) := fun a0 =>
 bif (decide ((((ByteArray.size a0) : Nat) : Int) > (120 : Int))) then
  some ([], false)
 else
  Option.bind (yu9 a0) fun (r0, r1) =>
   bif (decide ((((List.length r0) : Nat) : Int) > (0 : Int))) then
    some ((List.take (List.length r0) (List.drop 0 r0)), ((ByteArray.toList r1) == (ByteArray.toList (⟨#[]⟩ : ByteArray))))
   else
    some ((List.take (List.length r0) (List.drop 0 r0)), false)
noncomputable def A37 : FnA := ⟨[.v .str], true, [.sl (.pair .str .pt), .bool], fun x => yw8 x.1⟩
theorem z14 : fnF E37 L37_0 [.v .str] true [.sl (.pair .str .pt), .bool] f37.ntmps f37.results.toList (ya2 f37) = fun x => yw8 x.1 := by kernel_rfl
theorem A37_ok : FnOk prog 37 A37 := fo z14 func37 E37_ok ya0
/-! impl.filled -/
noncomputable def E93 : Env := ⟨ty0, fun _ => none, fun _ => none, fun _ => none, fun _ => none⟩
theorem ki6 : FnsOk prog E93 := (yc1 _ _)
noncomputable def L93_0 : Nat → Option LoopD := fun _ => none
def ki7 : List Fm := .cell (.val (.int .i64)) :: .clo [.int .i64, .int .i64] (.int .i64) :: d :: d :: .box 100400 [.val (.int .i64), .own (.int .i64) 100402 false] :: .box 100500 [.val (.int .i64), .own (.int .i64) 100502 false] :: .cell (.val (.int .i64)) :: d :: d :: d :: .cell (.val (.int .i64)) :: .cell (.val (.int .i64)) :: d :: d :: .cell (.val (.int .i64)) :: .cell (.val (.int .i64)) :: D 14 []
def ki8 : List (Ex × List Fm) := [(.exit 2, [.cell (.val (.int .i64)), .clo [.int .i64, .int .i64] (.int .i64), d, d, .box 100400 [.val (.int .i64), .own (.int .i64) 100402 false], .box 100500 [.val (.int .i64), .own (.int .i64) 100502 false], d, d, d, d, .cell (.val (.int .i64)), .cell (.val (.int .i64)), d, d, d, d, d, d, d, d, d, d, d, d, d, d, d, d, d, d])]
noncomputable def ym4 : (Int × ((Int × Int × Unit) → Option (Int)) × (Int × (List Int) × Unit) × (Int × (List Int) × Unit) × Int × Int × Int × Int × Int × Unit) → Option ((Int × ((Int × Int × Unit) → Option (Int)) × (Int × (List Int) × Unit) × (Int × (List Int) × Unit) × Int × Int × Int × Int × Int × Unit) ⊕ ((Int × ((Int × Int × Unit) → Option (Int)) × (Int × (List Int) × Unit) × (Int × (List Int) × Unit) × Int × Int × Unit))) := fun (v0, v1, (v4_0, v4_1, _), (v5_0, v5_1, _), v6, v10, v11, v14, v15, _) =>
 bif (decide (v15 < v14)) then
  Option.bind (v1 (v6, v15, ())) fun r0 =>
   if (((0 + (List.length v5_1)) = (List.length v5_1)) ∧ ((((List.length v5_1) + (List.length (List.take 1 (List.drop 0 [r0])))) * 8) ≤ 140737488355328)) then
    some (Sum.inl (v0, v1, (v4_0, (List.take (List.length v4_1) (List.drop 0 v4_1)), ()), (v5_0, (List.take ((List.length v5_1) + (List.length (List.take 1 (List.drop 0 [r0])))) (List.drop 0 ((List.drop 0 v5_1) ++ (List.take 1 (List.drop 0 [r0]))))), ()), v6, v10, v11, v14, (IntKind.wrap .i64 (v15 + (1 : Int))), ()))
   else
    none
 else
  some (Sum.inr (v0, v1, (v4_0, (List.take (List.length v4_1) (List.drop 0 v4_1)), ()), (v5_0, (List.take (List.length v5_1) (List.drop 0 v5_1)), ()), v10, v11, ()))
theorem zd3 : ya6 30 E93 L93_0 (ya1 f93 6) ki7 ki8 = ym4 := by kernel_rfl
theorem kx6 {L} (h : L 6 = some ⟨30, ki7, ki8, ym4⟩) : yc0 prog L (ya1 f93 6) := lo zd3 ki6 ya0 h
noncomputable def L93_1 : Nat → Option LoopD := fun n => ifEq n 6 (some ⟨30, ki7, ki8, ym4⟩) (L93_0 n)
def ki9 : List Fm := .cell (.val (.int .i64)) :: .clo [.int .i64, .int .i64] (.int .i64) :: d :: d :: .box 100400 [.val (.int .i64), .own (.int .i64) 100402 false] :: .box 100500 [.val (.int .i64), .own (.int .i64) 100502 false] :: D 4 (.cell (.val (.int .i64)) :: .cell (.val (.int .i64)) :: D 18 [])
def kj0 : List (Ex × List Fm) := [(.exit 0, [d, d, d, d, .box 100400 [.val (.int .i64), .own (.int .i64) 100402 false], .box 100500 [.val (.int .i64), .own (.int .i64) 100502 false], d, d, d, d, d, d, d, d, d, d, d, d, d, d, d, d, d, d, d, d, d, d, d, d])]
noncomputable def ym5 : (Int × ((Int × Int × Unit) → Option (Int)) × (Int × (List Int) × Unit) × (Int × (List Int) × Unit) × Int × Int × Unit) → Option ((Int × ((Int × Int × Unit) → Option (Int)) × (Int × (List Int) × Unit) × (Int × (List Int) × Unit) × Int × Int × Unit) ⊕ (((Int × (List Int) × Unit) × (Int × (List Int) × Unit) × Unit))) := fun (v0, v1, (v4_0, v4_1, _), (v5_0, v5_1, _), v10, v11, _) =>
 bif (decide (v11 < v10)) then
  Option.bind (ya4 ym4 (v0, v1, (v4_0, (List.take (List.length v4_1) (List.drop 0 v4_1)), ()), (v5_0, (List.take (List.length v5_1) (List.drop 0 v5_1)), ()), v11, v10, v11, v0, (0 : Int), ())) fun (r0, r1, (r2, r3, _), (r4, r5, _), r6, r7, _) =>
   some (Sum.inl (r0, r1, (r2, (List.take (List.length r3) (List.drop 0 r3)), ()), (r4, (List.take (List.length r5) (List.drop 0 r5)), ()), r6, (IntKind.wrap .i64 (r7 + (1 : Int))), ()))
 else
  some (Sum.inr ((v4_0, (List.take (List.length v4_1) (List.drop 0 v4_1)), ()), (v5_0, (List.take (List.length v5_1) (List.drop 0 v5_1)), ()), ()))
theorem zd4 : ya6 30 E93 L93_1 (ya1 f93 3) ki9 kj0 = ym5 := by kernel_rfl
theorem kx7 {L} (h : L 3 = some ⟨30, ki9, kj0, ym5⟩) : yc0 prog L (ya1 f93 3) := lo zd4 ki6 (yb4 (kx6 rfl) ya0) h
noncomputable def L93_2 : Nat → Option LoopD := fun n => ifEq n 3 (some ⟨30, ki9, kj0, ym5⟩) (L93_1 n)
noncomputable def yp3 : Int → ((Int × Int × Unit) → Option (Int)) → Option ((Int × (List Int))) := fun a0 a1 =>
 Option.bind (ya4 ym5 (a0, a1, ((0 : Int), [], ()), (a0, [], ()), a0, (0 : Int), ())) fun ((r0, r1, _), (r2, r3, _), _) =>
  some (r2, (List.take (List.length r3) (List.drop 0 r3)))
noncomputable def A93 : FnA := ⟨[.v (.int .i64), .clo [.int .i64, .int .i64] (.int .i64)], true, [.pair (.int .i64) (.sl (.int .i64))], fun x => yp3 x.1 x.2.1⟩
theorem zy0 : fnF E93 L93_2 [.v (.int .i64), .clo [.int .i64, .int .i64] (.int .i64)] true [.pair (.int .i64) (.sl (.int .i64))] f93.ntmps f93.results.toList (ya2 f93) = fun x => yp3 x.1 x.2.1 := by kernel_rfl
theorem z71 : FnOk prog 93 A93 := fo zy0 func93 ki6 (yb4 (kx7 rfl) ya0)
/-! impl.StepMatrix$1 -/
noncomputable def E125 : Env := ⟨ty0, fun _ => none, fun _ => none, fun _ => none, fun _ => none⟩
theorem E125_ok : FnsOk prog E125 := (yc1 _ _)
noncomputable def L125_0 : Nat → Option LoopD := fun _ => none
noncomputable def yp7 : Int → Int → Option (Int) := fun a0 a1 =>
 some (1000000 : Int)
noncomputable def A125 : FnA := ⟨[.v (.int .i64), .v (.int .i64)], true, [.int .i64], fun x => yp7 x.1 x.2.1⟩
theorem y6p : fnF E125 L125_0 [.v (.int .i64), .v (.int .i64)] true [.int .i64] f125.ntmps f125.results.toList (ya2 f125) = fun x => yp7 x.1 x.2.1 := by kernel_rfl
theorem A125_ok : FnOk prog 125 A125 := fo y6p func125 E125_ok ya0
/-! impl.StepMatrix -/
noncomputable def E99 : Env := ⟨ty0, fun g => ifEq g 34 (some A34) (ifEq g 93 (some A93) (ifEq g 125 (some A125) (none))), fun _ => none, fun _ => none, fun _ => none⟩
theorem E99_ok : FnsOk prog E99 := (oF y5j func34 (oF z71 func93 (oF A125_ok func125 (yc1 _ _))))
noncomputable def L99_0 : Nat → Option LoopD := fun _ => none
def kj1 : List Fm := d :: .cell (.val .str) :: d :: d :: .box 100400 [.val (.int .i64), .own (.int .i64) 100402 false] :: d :: .box 100600 [.val (.int .i64), .own (.int .i64) 100602 false] :: D 18 (.cell (.val (.sl (.pair (.int .i64) (.pair .str (.pair (.int .i64) (.int .i64)))))) :: .cell (.val (.int .i64)) :: .cell (.val (.int .i64)) :: D 22 [])
def kj2 : List (Ex × List Fm) := [(.exit 0, [d, d, d, d, .box 100400 [.val (.int .i64), .own (.int .i64) 100402 false], d, .box 100600 [.val (.int .i64), .own (.int .i64) 100602 false], d, d, d, d, d, d, d, d, d, d, d, d, d, d, d, d, d, d, d, d, d, d, d, d, d, d, d, d, d, d, d, d, d, d, d, d, d, d, d, d, d, d, d])]
noncomputable def ye2 : (ByteArray × (Int × (List Int) × Unit) × (Int × (List Int) × Unit) × (List (Int × (ByteArray × (Int × Int)))) × Int × Int × Unit) → Option ((ByteArray × (Int × (List Int) × Unit) × (Int × (List Int) × Unit) × (List (Int × (ByteArray × (Int × Int)))) × Int × Int × Unit) ⊕ (((Int × (List Int) × Unit) × (Int × (List Int) × Unit) × Unit))) := fun (v1, (v4_0, v4_1, _), (v6_0, v6_1, _), v25, v26, v27, _) =>
 bif (decide (v27 < v26)) then
  if (((0 : Int) ≤ v27) ∧ (v27 < (((List.length v25) : Nat) : Int))) then
   bif ((ByteArray.toList (List.getD v25 (Int.toNat v27) ((0 : Int), (⟨Array.empty⟩ : ByteArray), (0 : Int), (0 : Int))).2.1) == (ByteArray.toList v1)) then
    if (((0 : Int) ≤ (IntKind.wrap .i64 ((IntKind.wrap .i64 ((List.getD v25 (Int.toNat v27) ((0 : Int), (⟨Array.empty⟩ : ByteArray), (0 : Int), (0 : Int))).1 * v6_0)) + (List.getD v25 (Int.toNat v27) ((0 : Int), (⟨Array.empty⟩ : ByteArray), (0 : Int), (0 : Int))).2.2.1))) ∧ ((IntKind.wrap .i64 ((IntKind.wrap .i64 ((List.getD v25 (Int.toNat v27) ((0 : Int), (⟨Array.empty⟩ : ByteArray), (0 : Int), (0 : Int))).1 * v6_0)) + (List.getD v25 (Int.toNat v27) ((0 : Int), (⟨Array.empty⟩ : ByteArray), (0 : Int), (0 : Int))).2.2.1)) < (((List.length v6_1) : Nat) : Int))) then
     some (Sum.inl (v1, (v4_0, (List.take (List.length v4_1) (List.drop 0 v4_1)), ()), (v6_0, (List.take (List.length v6_1) (List.drop 0 (List.set v6_1 (0 + (Int.toNat (IntKind.wrap .i64 ((IntKind.wrap .i64 ((List.getD v25 (Int.toNat v27) ((0 : Int), (⟨Array.empty⟩ : ByteArray), (0 : Int), (0 : Int))).1 * v6_0)) + (List.getD v25 (Int.toNat v27) ((0 : Int), (⟨Array.empty⟩ : ByteArray), (0 : Int), (0 : Int))).2.2.1)))) (List.getD v25 (Int.toNat v27) ((0 : Int), (⟨Array.empty⟩ : ByteArray), (0 : Int), (0 : Int))).2.2.2))), ()), v25, v26, (IntKind.wrap .i64 (v27 + (1 : Int))), ()))
    else
     none
   else
    some (Sum.inl (v1, (v4_0, (List.take (List.length v4_1) (List.drop 0 v4_1)), ()), (v6_0, (List.take (List.length v6_1) (List.drop 0 v6_1)), ()), v25, v26, (IntKind.wrap .i64 (v27 + (1 : Int))), ()))
  else
   none
 else
  some (Sum.inr ((v4_0, (List.take (List.length v4_1) (List.drop 0 v4_1)), ()), (v6_0, (List.take (List.length v6_1) (List.drop 0 v6_1)), ()), ()))
theorem y5k : ya6 50 E99 L99_0 (ya1 f99 5) kj1 kj2 = ye2 := by kernel_rfl
theorem kx8 {L} (h : L 5 = some ⟨50, kj1, kj2, ye2⟩) : yc0 prog L (ya1 f99 5) := lo y5k E99_ok ya0 h
noncomputable def L99_1 : Nat → Option LoopD := fun n => ifEq n 5 (some ⟨50, kj1, kj2, ye2⟩) (L99_0 n)
noncomputable def yt0 : (Int × ((List Int) × ((List Int) × (List (Int × (ByteArray × (Int × Int))))))) → ByteArray → Option ((Int × (List Int)) × Bool) := fun (a0_0, a0_1, a0_2, a0_3) a1 =>
 Option.bind (ye5 (a0_0, a0_1, a0_2, a0_3)) fun r0 =>
  bif (!r0) then
   some (((0 : Int), []), false)
  else
   bif (!((ByteArray.toList a1) == (ByteArray.toList (⟨#[(97 : UInt8)]⟩ : ByteArray)))) then
    bif (!((ByteArray.toList a1) == (ByteArray.toList (⟨#[(98 : UInt8)]⟩ : ByteArray)))) then
     some (((0 : Int), []), false)
    else
     Option.bind (yp3 a0_0 (fun y1 => (yp7 y1.1 y1.2.1))) fun (r2, r3) =>
      Option.bind (ya4 ye2 (a1, ((0 : Int), [], ()), (r2, (List.take (List.length r3) (List.drop 0 r3)), ()), a0_3, (((List.length a0_3) : Nat) : Int), (0 : Int), ())) fun ((r4, r5, _), (r6, r7, _), _) =>
       some ((r6, (List.take (List.length r7) (List.drop 0 r7))), true)
   else
    Option.bind (yp3 a0_0 (fun y8 => (yp7 y8.1 y8.2.1))) fun (r9, r10) =>
     Option.bind (ya4 ye2 (a1, ((0 : Int), [], ()), (r9, (List.take (List.length r10) (List.drop 0 r10)), ()), a0_3, (((List.length a0_3) : Nat) : Int), (0 : Int), ())) fun ((r11, r12, _), (r13, r14, _), _) =>
      some ((r13, (List.take (List.length r14) (List.drop 0 r14))), true)
noncomputable def A99 : FnA := ⟨[.v (.pair (.int .i64) (.pair (.sl (.int .i64)) (.pair (.sl (.int .i64)) (.sl (.pair (.int .i64) (.pair .str (.pair (.int .i64) (.int .i64)))))))), .v .str], true, [.pair (.int .i64) (.sl (.int .i64)), .bool], fun x => yt0 x.1 x.2.1⟩
theorem y9j : fnF E99 L99_1 [.v (.pair (.int .i64) (.pair (.sl (.int .i64)) (.pair (.sl (.int .i64)) (.sl (.pair (.int .i64) (.pair .str (.pair (.int .i64) (.int .i64)))))))), .v .str] true [.pair (.int .i64) (.sl (.int .i64)), .bool] f99.ntmps f99.results.toList (ya2 f99) = fun x => yt0 x.1 x.2.1 := by kernel_rfl
theorem A99_ok : FnOk prog 99 A99 := fo y9j func99 E99_ok (yb4 (kx8 rfl) ya0)
/-! slices.IndexFunc[[]int,int] -/
noncomputable def E106 : Env := ⟨ty0, fun _ => none, fun _ => none, fun _ => none, fun _ => none⟩
theorem kj3 : FnsOk prog E106 := (yc1 _ _)
noncomputable def L106_0 : Nat → Option LoopD := fun _ => none
def z5t : List Fm := .cell (.val (.sl (.int .i64))) :: .clo [.int .i64] .bool :: D 5 (.cell (.val (.int .i64)) :: .cell (.val (.int .i64)) :: D 10 [])
def z5u : List (Ex × List Fm) := [(.ret, (D 4 (.cell (.val (.int .i64)) :: D 14 []))), (.exit 0, (D 19 []))]
noncomputable def yf5 : ((List Int) × ((Int × Unit) → Option (Bool)) × Int × Int × Unit) → Option (((List Int) × ((Int × Unit) → Option (Bool)) × Int × Int × Unit) ⊕ ((Int × Unit) ⊕ (Unit))) := fun (v0, v1, v7, v8, _) =>
 bif (decide (v8 < v7)) then
  if (((0 : Int) ≤ v8) ∧ (v8 < (((List.length v0) : Nat) : Int))) then
   Option.bind (v1 ((List.getD v0 (Int.toNat v8) (0 : Int)), ())) fun r0 =>
    bif r0 then
     some (Sum.inr (Sum.inl (v8, ())))
    else
     some (Sum.inl (v0, v1, v7, (IntKind.wrap .i64 (v8 + (1 : Int))), ()))
  else
   none
 else
  some (Sum.inr (Sum.inr ()))
theorem y4w : ya6 19 E106 L106_0 (ya1 f106 2) z5t z5u = yf5 := by kernel_rfl
theorem kj4 {L} (h : L 2 = some ⟨19, z5t, z5u, yf5⟩) : yc0 prog L (ya1 f106 2) := lo y4w kj3 ya0 h
noncomputable def L106_1 : Nat → Option LoopD := fun n => ifEq n 2 (some ⟨19, z5t, z5u, yf5⟩) (L106_0 n)
noncomputable def yv4 : (List Int) → ((Int × Unit) → Option (Bool)) → Option (Int) := fun a0 a1 =>
 Option.bind (ya4 yf5 (a0, a1, (((List.length a0) : Nat) : Int), (0 : Int), ())) fun r0 =>
  (match r0 with
  | .inl (d1, _) =>
    some d1
  | .inr _ =>
    some (-1 : Int))
noncomputable def A106 : FnA := ⟨[.v (.sl (.int .i64)), .clo [.int .i64] .bool], true, [.int .i64], fun x => yv4 x.1 x.2.1⟩
theorem y7q : fnF E106 L106_1 [.v (.sl (.int .i64)), .clo [.int .i64] .bool] true [.int .i64] f106.ntmps f106.results.toList (ya2 f106) = fun x => yv4 x.1 x.2.1 := by kernel_rfl
theorem A106_ok : FnOk prog 106 A106 := fo y7q func106 kj3 (yb4 (kj4 rfl) ya0)
/-! slices.ContainsFunc[[]int,int] -/
noncomputable def E78 : Env := ⟨ty0, fun g => ifEq g 106 (some A106) (none), fun _ => none, fun _ => none, fun _ => none⟩
theorem E78_ok : FnsOk prog E78 := (oF A106_ok func106 (yc1 _ _))
noncomputable def L78_0 : Nat → Option LoopD := fun _ => none
noncomputable def yj6 : (List Int) → ((Int × Unit) → Option (Bool)) → Option (Bool) := fun a0 a1 =>
 Option.bind (yv4 a0 a1) fun r0 =>
  some (decide (r0 ≥ (0 : Int)))
noncomputable def A78 : FnA := ⟨[.v (.sl (.int .i64)), .clo [.int .i64] .bool], true, [.bool], fun x => yj6 x.1 x.2.1⟩
theorem y4x : fnF E78 L78_0 [.v (.sl (.int .i64)), .clo [.int .i64] .bool] true [.bool] f78.ntmps f78.results.toList (ya2 f78) = fun x => yj6 x.1 x.2.1 := by kernel_rfl
theorem A78_ok : FnOk prog 78 A78 := fo y4x func78 E78_ok ya0
/-! impl.CostValid -/
noncomputable def E105 : Env := ⟨ty0, fun _ => none, fun _ => none, fun _ => none, fun _ => none⟩
theorem E105_ok : FnsOk prog E105 := (yc1 _ _)
noncomputable def L105_0 : Nat → Option LoopD := fun _ => none
noncomputable def y0l : Int → Option (Bool) := fun a0 =>
 bif (decide (a0 ≥ (0 : Int))) then
  some (decide (a0 ≤ (1000000 : Int)))
 else
  some false
noncomputable def A105 : FnA := ⟨[.v (.int .i64)], true, [.bool], fun x => y0l x.1⟩
theorem zd5 : fnF E105 L105_0 [.v (.int .i64)] true [.bool] f105.ntmps f105.results.toList (ya2 f105) = fun x => y0l x.1 := by kernel_rfl
theorem A105_ok : FnOk prog 105 A105 := fo zd5 func105 E105_ok ya0
/-! impl.MatrixValid$1 -/
noncomputable def E104 : Env := ⟨ty0, fun g => ifEq g 105 (some A105) (none), fun _ => none, fun _ => none, fun _ => none⟩
theorem E104_ok : FnsOk prog E104 := (oF A105_ok func105 (yc1 _ _))
noncomputable def L104_0 : Nat → Option LoopD := fun _ => none
noncomputable def ys3 : Int → Option (Bool) := fun a0 =>
 Option.bind (y0l a0) fun r0 =>
  some (!r0)
noncomputable def A104 : FnA := ⟨[.v (.int .i64)], true, [.bool], fun x => ys3 x.1⟩
theorem y5l : fnF E104 L104_0 [.v (.int .i64)] true [.bool] f104.ntmps f104.results.toList (ya2 f104) = fun x => ys3 x.1 := by kernel_rfl
theorem A104_ok : FnOk prog 104 A104 := fo y5l func104 E104_ok ya0
/-! impl.MatrixValid -/
noncomputable def E77 : Env := ⟨ty0, fun g => ifEq g 78 (some A78) (ifEq g 104 (some A104) (none)), fun _ => none, fun _ => none, fun _ => none⟩
theorem E77_ok : FnsOk prog E77 := (oF A78_ok func78 (oF A104_ok func104 (yc1 _ _)))
noncomputable def L77_0 : Nat → Option LoopD := fun _ => none
noncomputable def yn9 : (Int × (List Int)) → Option (Bool) := fun (a0_0, a0_1) =>
 bif (decide (a0_0 < (1 : Int))) then
  some false
 else
  bif (decide (a0_0 > (4 : Int))) then
   some false
  else
   bif ((((List.length a0_1) : Nat) : Int) != (IntKind.wrap .i64 (a0_0 * a0_0))) then
    some false
   else
    Option.bind (yj6 a0_1 (fun y0 => (ys3 y0.1))) fun r1 =>
     some (!r1)
noncomputable def A77 : FnA := ⟨[.v (.pair (.int .i64) (.sl (.int .i64)))], true, [.bool], fun x => yn9 x.1⟩
theorem y7r : fnF E77 L77_0 [.v (.pair (.int .i64) (.sl (.int .i64)))] true [.bool] f77.ntmps f77.results.toList (ya2 f77) = fun x => yn9 x.1 := by kernel_rfl
theorem A77_ok : FnOk prog 77 A77 := fo y7r func77 E77_ok ya0
/-! (impl.Matrix).at -/
noncomputable def E54 : Env := ⟨ty0, fun _ => none, fun _ => none, fun _ => none, fun _ => none⟩
theorem E54_ok : FnsOk prog E54 := (yc1 _ _)
noncomputable def L54_0 : Nat → Option LoopD := fun _ => none
noncomputable def ye3 : (Int × (List Int)) → Int → Int → Option (Int) := fun (a0_0, a0_1) a1 a2 =>
 if (((0 : Int) ≤ (IntKind.wrap .i64 ((IntKind.wrap .i64 (a1 * a0_0)) + a2))) ∧ ((IntKind.wrap .i64 ((IntKind.wrap .i64 (a1 * a0_0)) + a2)) < (((List.length a0_1) : Nat) : Int))) then
  some (List.getD a0_1 (Int.toNat (IntKind.wrap .i64 ((IntKind.wrap .i64 (a1 * a0_0)) + a2))) (0 : Int))
 else
  none
noncomputable def A54 : FnA := ⟨[.v (.pair (.int .i64) (.sl (.int .i64))), .v (.int .i64), .v (.int .i64)], true, [.int .i64], fun x => ye3 x.1 x.2.1 x.2.2.1⟩
theorem zd6 : fnF E54 L54_0 [.v (.pair (.int .i64) (.sl (.int .i64))), .v (.int .i64), .v (.int .i64)] true [.int .i64] f54.ntmps f54.results.toList (ya2 f54) = fun x => ye3 x.1 x.2.1 x.2.2.1 := by kernel_rfl
theorem z73 : FnOk prog 54 A54 := fo zd6 func54 E54_ok ya0
/-! impl.GradesOf$1 -/
noncomputable def E126 : Env := ⟨ty0, fun g => ifEq g 54 (some A54) (none), fun _ => none, fun _ => none, fun _ => none⟩
theorem E126_ok : FnsOk prog E126 := (oF z73 func54 (yc1 _ _))
noncomputable def L126_0 : Nat → Option LoopD := fun _ => none
noncomputable def yy2 : Int → Int → (Int × (List Int)) → Option (Int) := fun a0 a1 (a2_0, a2_1) =>
 Option.bind (ye3 (a2_0, a2_1) a0 a1) fun r0 =>
  bif (r0 == (0 : Int)) then
   some (0 : Int)
  else
   bif (r0 == (1000000 : Int)) then
    some (3 : Int)
   else
    some (1 : Int)
noncomputable def A126 : FnA := ⟨[.v (.int .i64), .v (.int .i64), .cap (.pair (.int .i64) (.sl (.int .i64)))], true, [.int .i64], fun x => yy2 x.1 x.2.1 x.2.2.1⟩
theorem y9k : fnF E126 L126_0 [.v (.int .i64), .v (.int .i64), .cap (.pair (.int .i64) (.sl (.int .i64)))] true [.int .i64] f126.ntmps f126.results.toList (ya2 f126) = fun x => yy2 x.1 x.2.1 x.2.2.1 := by kernel_rfl
theorem A126_ok : FnOk prog 126 A126 := fo y9k func126 E126_ok ya0
/-! impl.GradesOf -/
noncomputable def E100 : Env := ⟨ty0, fun g => ifEq g 77 (some A77) (ifEq g 93 (some A93) (ifEq g 126 (some A126) (none))), fun _ => none, fun _ => none, fun _ => none⟩
theorem E100_ok : FnsOk prog E100 := (oF A77_ok func77 (oF z71 func93 (oF A126_ok func126 (yc1 _ _))))
noncomputable def L100_0 : Nat → Option LoopD := fun _ => none
noncomputable def yy3 : (Int × (List Int)) → Option ((Int × (List Int)) × Bool) := fun (a0_0, a0_1) =>
 Option.bind (yn9 (a0_0, a0_1)) fun r0 =>
  bif (!r0) then
   some (((0 : Int), []), false)
  else
   Option.bind (yp3 a0_0 (fun y1 => (yy2 y1.1 y1.2.1 (a0_0, a0_1)))) fun (r2, r3) =>
    some ((r2, (List.take (List.length r3) (List.drop 0 r3))), true)
noncomputable def A100 : FnA := ⟨[.v (.pair (.int .i64) (.sl (.int .i64)))], true, [.pair (.int .i64) (.sl (.int .i64)), .bool], fun x => yy3 x.1⟩
theorem zk1 : fnF E100 L100_0 [.v (.pair (.int .i64) (.sl (.int .i64)))] true [.pair (.int .i64) (.sl (.int .i64)), .bool] f100.ntmps f100.results.toList (ya2 f100) = fun x => yy3 x.1 := by kernel_rfl
theorem A100_ok : FnOk prog 100 A100 := fo zk1 func100 E100_ok ya0
/-! impl.GradesValid$1 -/
noncomputable def E79 : Env := ⟨ty0, fun _ => none, fun _ => none, fun _ => none, fun _ => none⟩
theorem E79_ok : FnsOk prog E79 := (yc1 _ _)
noncomputable def L79_0 : Nat → Option LoopD := fun _ => none
noncomputable def ys4 : Int → Option (Bool) := fun a0 =>
 some (decide (a0 > (3 : Int)))
noncomputable def A79 : FnA := ⟨[.v (.int .i64)], true, [.bool], fun x => ys4 x.1⟩
theorem y5m : fnF E79 L79_0 [.v (.int .i64)] true [.bool] f79.ntmps f79.results.toList (ya2 f79) = fun x => ys4 x.1 := by kernel_rfl
theorem A79_ok : FnOk prog 79 A79 := fo y5m func79 E79_ok ya0
/-! impl.GradesValid -/
noncomputable def E53 : Env := ⟨ty0, fun g => ifEq g 77 (some A77) (ifEq g 78 (some A78) (ifEq g 79 (some A79) (none))), fun _ => none, fun _ => none, fun _ => none⟩
theorem E53_ok : FnsOk prog E53 := (oF A77_ok func77 (oF A78_ok func78 (oF A79_ok func79 (yc1 _ _))))
noncomputable def L53_0 : Nat → Option LoopD := fun _ => none
noncomputable def yl7 : (Int × (List Int)) → Option (Bool) := fun (a0_0, a0_1) =>
 Option.bind (yn9 (a0_0, a0_1)) fun r0 =>
  bif r0 then
   Option.bind (yj6 a0_1 (fun y1 => (ys4 y1.1))) fun r2 =>
    some (!r2)
  else
   some false
noncomputable def A53 : FnA := ⟨[.v (.pair (.int .i64) (.sl (.int .i64)))], true, [.bool], fun x => yl7 x.1⟩
theorem y7s : fnF E53 L53_0 [.v (.pair (.int .i64) (.sl (.int .i64)))] true [.bool] f53.ntmps f53.results.toList (ya2 f53) = fun x => yl7 x.1 := by kernel_rfl
theorem A53_ok : FnOk prog 53 A53 := fo y7s func53 E53_ok ya0
/-! impl.MulGrades$1 -/
noncomputable def E98 : Env := ⟨ty0, fun g => ifEq g 54 (some A54) (none), fun _ => none, fun _ => none, fun _ => none⟩
theorem E98_ok : FnsOk prog E98 := (oF z73 func54 (yc1 _ _))
noncomputable def L98_0 : Nat → Option LoopD := fun _ => none
def kj5 : List Fm := .cell (.val (.int .i64)) :: .cell (.val (.int .i64)) :: .fp (.pair (.int .i64) (.sl (.int .i64))) :: .fp (.pair (.int .i64) (.sl (.int .i64))) :: d :: d :: d :: .cell (.val (.int .i64)) :: d :: d :: .cell (.val (.int .i64)) :: .cell (.val (.int .i64)) :: D 15 []
def kj6 : List (Ex × List Fm) := [(.exit 0, (D 7 (.cell (.val (.int .i64)) :: D 19 [])))]
noncomputable def yf6 : (Int × Int × (Int × (List Int)) × (Int × (List Int)) × Int × Int × Int × Unit) → Option ((Int × Int × (Int × (List Int)) × (Int × (List Int)) × Int × Int × Int × Unit) ⊕ ((Int × Unit))) := fun (v0, v1, (v2_0, v2_1), (v3_0, v3_1), v7, v10, v11, _) =>
 bif (decide (v11 < v10)) then
  Option.bind (ye3 (v2_0, v2_1) v0 v11) fun r0 =>
   Option.bind (ye3 (v3_0, v3_1) v11 v1) fun r1 =>
    some (Sum.inl (v0, v1, (v2_0, v2_1), (v3_0, v3_1), (if ((if (r1 > r0) then r1 else r0) < v7) then (if (r1 > r0) then r1 else r0) else v7), v10, (IntKind.wrap .i64 (v11 + (1 : Int))), ()))
 else
  some (Sum.inr (v7, ()))
theorem y4y : ya6 27 E98 L98_0 (ya1 f98 3) kj5 kj6 = yf6 := by kernel_rfl
theorem kx9 {L} (h : L 3 = some ⟨27, kj5, kj6, yf6⟩) : yc0 prog L (ya1 f98 3) := lo y4y E98_ok ya0 h
noncomputable def L98_1 : Nat → Option LoopD := fun n => ifEq n 3 (some ⟨27, kj5, kj6, yf6⟩) (L98_0 n)
noncomputable def yv5 : Int → Int → (Int × (List Int)) → (Int × (List Int)) → Option (Int) := fun a0 a1 (a2_0, a2_1) (a3_0, a3_1) =>
 Option.bind (ya4 yf6 (a0, a1, (a2_0, a2_1), (a3_0, a3_1), (3 : Int), a2_0, (0 : Int), ())) fun (r0, _) =>
  some r0
noncomputable def A98 : FnA := ⟨[.v (.int .i64), .v (.int .i64), .cap (.pair (.int .i64) (.sl (.int .i64))), .cap (.pair (.int .i64) (.sl (.int .i64)))], true, [.int .i64], fun x => yv5 x.1 x.2.1 x.2.2.1 x.2.2.2.1⟩
theorem y7t : fnF E98 L98_1 [.v (.int .i64), .v (.int .i64), .cap (.pair (.int .i64) (.sl (.int .i64))), .cap (.pair (.int .i64) (.sl (.int .i64)))] true [.int .i64] f98.ntmps f98.results.toList (ya2 f98) = fun x => yv5 x.1 x.2.1 x.2.2.1 x.2.2.2.1 := by kernel_rfl
theorem A98_ok : FnOk prog 98 A98 := fo y7t func98 E98_ok (yb4 (kx9 rfl) ya0)
/-! impl.MulGrades -/
noncomputable def E66 : Env := ⟨ty0, fun g => ifEq g 53 (some A53) (ifEq g 93 (some A93) (ifEq g 98 (some A98) (none))), fun _ => none, fun _ => none, fun _ => none⟩
theorem E66_ok : FnsOk prog E66 := (oF A53_ok func53 (oF z71 func93 (oF A98_ok func98 (yc1 _ _))))
noncomputable def L66_0 : Nat → Option LoopD := fun _ => none
noncomputable def yi0 : (Int × (List Int)) → (Int × (List Int)) → Option ((Int × (List Int)) × Bool) := fun (a0_0, a0_1) (a1_0, a1_1) =>
 Option.bind (yl7 (a0_0, a0_1)) fun r0 =>
  bif (!r0) then
   some (((0 : Int), []), false)
  else
   Option.bind (yl7 (a1_0, a1_1)) fun r1 =>
    bif (!r1) then
     some (((0 : Int), []), false)
    else
     bif (a0_0 != a1_0) then
      some (((0 : Int), []), false)
     else
      Option.bind (yp3 a0_0 (fun y2 => (yv5 y2.1 y2.2.1 (a0_0, a0_1) (a1_0, a1_1)))) fun (r3, r4) =>
       some ((r3, (List.take (List.length r4) (List.drop 0 r4))), true)
noncomputable def A66 : FnA := ⟨[.v (.pair (.int .i64) (.sl (.int .i64))), .v (.pair (.int .i64) (.sl (.int .i64)))], true, [.pair (.int .i64) (.sl (.int .i64)), .bool], fun x => yi0 x.1 x.2.1⟩
theorem zd7 : fnF E66 L66_0 [.v (.pair (.int .i64) (.sl (.int .i64))), .v (.pair (.int .i64) (.sl (.int .i64)))] true [.pair (.int .i64) (.sl (.int .i64)), .bool] f66.ntmps f66.results.toList (ya2 f66) = fun x => yi0 x.1 x.2.1 := by kernel_rfl
theorem y9l : FnOk prog 66 A66 := fo zd7 func66 E66_ok ya0
/-! slices.Equal[[]int,int] -/
noncomputable def E124 : Env := ⟨ty0, fun _ => none, fun _ => none, fun _ => none, fun _ => none⟩
theorem kj7 : FnsOk prog E124 := (yc1 _ _)
noncomputable def L124_0 : Nat → Option LoopD := fun _ => none
def z5v : List Fm := .cell (.val (.sl (.int .i64))) :: .cell (.val (.sl (.int .i64))) :: D 10 (.cell (.val (.int .i64)) :: .cell (.val (.int .i64)) :: D 12 [])
def z5w : List (Ex × List Fm) := [(.ret, (D 4 (.cell (.val .bool) :: D 21 []))), (.exit 0, (D 26 []))]
noncomputable def yk6 : ((List Int) × (List Int) × Int × Int × Unit) → Option (((List Int) × (List Int) × Int × Int × Unit) ⊕ ((Bool × Unit) ⊕ (Unit))) := fun (v0, v1, v12, v13, _) =>
 bif (decide (v13 < v12)) then
  if (((0 : Int) ≤ v13) ∧ (v13 < (((List.length v0) : Nat) : Int))) then
   if (((0 : Int) ≤ v13) ∧ (v13 < (((List.length v1) : Nat) : Int))) then
    bif ((List.getD v0 (Int.toNat v13) (0 : Int)) != (List.getD v1 (Int.toNat v13) (0 : Int))) then
     some (Sum.inr (Sum.inl (false, ())))
    else
     some (Sum.inl (v0, v1, v12, (IntKind.wrap .i64 (v13 + (1 : Int))), ()))
   else
    none
  else
   none
 else
  some (Sum.inr (Sum.inr ()))
theorem y9m : ya6 26 E124 L124_0 (ya1 f124 4) z5v z5w = yk6 := by kernel_rfl
theorem kj8 {L} (h : L 4 = some ⟨26, z5v, z5w, yk6⟩) : yc0 prog L (ya1 f124 4) := lo y9m kj7 ya0 h
noncomputable def L124_1 : Nat → Option LoopD := fun n => ifEq n 4 (some ⟨26, z5v, z5w, yk6⟩) (L124_0 n)
noncomputable def y0q : (List Int) → (List Int) → Option (Bool) := fun a0 a1 =>
 bif ((((List.length a0) : Nat) : Int) != (((List.length a1) : Nat) : Int)) then
  some false
 else
  Option.bind (ya4 yk6 (a0, a1, (((List.length a0) : Nat) : Int), (0 : Int), ())) fun r0 =>
   (match r0 with
   | .inl (d1, _) =>
     some d1
   | .inr _ =>
     some true)
noncomputable def A124 : FnA := ⟨[.v (.sl (.int .i64)), .v (.sl (.int .i64))], true, [.bool], fun x => y0q x.1 x.2.1⟩
theorem zs4 : fnF E124 L124_1 [.v (.sl (.int .i64)), .v (.sl (.int .i64))] true [.bool] f124.ntmps f124.results.toList (ya2 f124) = fun x => y0q x.1 x.2.1 := by kernel_rfl
theorem A124_ok : FnOk prog 124 A124 := fo zs4 func124 kj7 (yb4 (kj8 rfl) ya0)
/-! impl.SameMatrix -/
noncomputable def E97 : Env := ⟨ty0, fun g => ifEq g 124 (some A124) (none), fun _ => none, fun _ => none, fun _ => none⟩
theorem E97_ok : FnsOk prog E97 := (oF A124_ok func124 (yc1 _ _))
noncomputable def L97_0 : Nat → Option LoopD := fun _ => none
noncomputable def yp8 : (Int × (List Int)) → (Int × (List Int)) → Option (Bool) := fun (a0_0, a0_1) (a1_0, a1_1) =>
 bif (a0_0 == a1_0) then
  Option.bind (y0q a0_1 a1_1) fun r0 =>
   some r0
 else
  some false
noncomputable def A97 : FnA := ⟨[.v (.pair (.int .i64) (.sl (.int .i64))), .v (.pair (.int .i64) (.sl (.int .i64)))], true, [.bool], fun x => yp8 x.1 x.2.1⟩
theorem y9n : fnF E97 L97_0 [.v (.pair (.int .i64) (.sl (.int .i64))), .v (.pair (.int .i64) (.sl (.int .i64)))] true [.bool] f97.ntmps f97.results.toList (ya2 f97) = fun x => yp8 x.1 x.2.1 := by kernel_rfl
theorem A97_ok : FnOk prog 97 A97 := fo y9n func97 E97_ok ya0
/-! impl.IsIdempotent -/
noncomputable def E92 : Env := ⟨ty0, fun g => ifEq g 66 (some A66) (ifEq g 97 (some A97) (none)), fun _ => none, fun _ => none, fun _ => none⟩
theorem E92_ok : FnsOk prog E92 := (oF y9l func66 (oF A97_ok func97 (yc1 _ _)))
noncomputable def L92_0 : Nat → Option LoopD := fun _ => none
noncomputable def yp9 : (Int × (List Int)) → Option (Bool) := fun (a0_0, a0_1) =>
 Option.bind (yi0 (a0_0, a0_1) (a0_0, a0_1)) fun ((r0, r1), r2) =>
  bif r2 then
   Option.bind (yp8 (r0, (List.take (List.length r1) (List.drop 0 r1))) (a0_0, a0_1)) fun r3 =>
    some r3
  else
   some false
noncomputable def A92 : FnA := ⟨[.v (.pair (.int .i64) (.sl (.int .i64)))], true, [.bool], fun x => yp9 x.1⟩
theorem y6q : fnF E92 L92_0 [.v (.pair (.int .i64) (.sl (.int .i64)))] true [.bool] f92.ntmps f92.results.toList (ya2 f92) = fun x => yp9 x.1 := by kernel_rfl
theorem A92_ok : FnOk prog 92 A92 := fo y6q func92 E92_ok ya0
/-! impl.Stabilise$1 -/
noncomputable def E94 : Env := ⟨ty0, fun g => ifEq g 54 (some A54) (none), fun _ => none, fun _ => none, fun _ => none⟩
theorem E94_ok : FnsOk prog E94 := (oF z73 func54 (yc1 _ _))
noncomputable def L94_0 : Nat → Option LoopD := fun _ => none
def kj9 : List Fm := .cell (.val (.int .i64)) :: .cell (.val (.int .i64)) :: .fp (.pair (.int .i64) (.sl (.int .i64))) :: d :: d :: d :: .cell (.val (.int .i64)) :: d :: d :: d :: .cell (.val (.int .i64)) :: .cell (.val (.int .i64)) :: D 22 []
def kk0 : List (Ex × List Fm) := [(.exit 0, (D 6 (.cell (.val (.int .i64)) :: D 27 [])))]
noncomputable def yf7 : (Int × Int × (Int × (List Int)) × Int × Int × Int × Unit) → Option ((Int × Int × (Int × (List Int)) × Int × Int × Int × Unit) ⊕ ((Int × Unit))) := fun (v0, v1, (v2_0, v2_1), v6, v10, v11, _) =>
 bif (decide (v11 < v10)) then
  Option.bind (ye3 (v2_0, v2_1) v11 v11) fun r0 =>
   bif (r0 == (1 : Int)) then
    Option.bind (ye3 (v2_0, v2_1) v0 v11) fun r1 =>
     Option.bind (ye3 (v2_0, v2_1) v11 v1) fun r2 =>
      some (Sum.inl (v0, v1, (v2_0, v2_1), (if ((if (r2 > (if ((2 : Int) > r1) then (2 : Int) else r1)) then r2 else (if ((2 : Int) > r1) then (2 : Int) else r1)) < v6) then (if (r2 > (if ((2 : Int) > r1) then (2 : Int) else r1)) then r2 else (if ((2 : Int) > r1) then (2 : Int) else r1)) else v6), v10, (IntKind.wrap .i64 (v11 + (1 : Int))), ()))
   else
    Option.bind (ye3 (v2_0, v2_1) v0 v11) fun r3 =>
     Option.bind (ye3 (v2_0, v2_1) v11 v1) fun r4 =>
      some (Sum.inl (v0, v1, (v2_0, v2_1), (if ((if (r4 > (if (r0 > r3) then r0 else r3)) then r4 else (if (r0 > r3) then r0 else r3)) < v6) then (if (r4 > (if (r0 > r3) then r0 else r3)) then r4 else (if (r0 > r3) then r0 else r3)) else v6), v10, (IntKind.wrap .i64 (v11 + (1 : Int))), ()))
 else
  some (Sum.inr (v6, ()))
theorem y4z : ya6 34 E94 L94_0 (ya1 f94 3) kj9 kk0 = yf7 := by kernel_rfl
theorem ky0 {L} (h : L 3 = some ⟨34, kj9, kk0, yf7⟩) : yc0 prog L (ya1 f94 3) := lo y4z E94_ok ya0 h
noncomputable def L94_1 : Nat → Option LoopD := fun n => ifEq n 3 (some ⟨34, kj9, kk0, yf7⟩) (L94_0 n)
noncomputable def yv6 : Int → Int → (Int × (List Int)) → Option (Int) := fun a0 a1 (a2_0, a2_1) =>
 Option.bind (ya4 yf7 (a0, a1, (a2_0, a2_1), (3 : Int), a2_0, (0 : Int), ())) fun (r0, _) =>
  some r0
noncomputable def A94 : FnA := ⟨[.v (.int .i64), .v (.int .i64), .cap (.pair (.int .i64) (.sl (.int .i64)))], true, [.int .i64], fun x => yv6 x.1 x.2.1 x.2.2.1⟩
theorem y7u : fnF E94 L94_1 [.v (.int .i64), .v (.int .i64), .cap (.pair (.int .i64) (.sl (.int .i64)))] true [.int .i64] f94.ntmps f94.results.toList (ya2 f94) = fun x => yv6 x.1 x.2.1 x.2.2.1 := by kernel_rfl
theorem A94_ok : FnOk prog 94 A94 := fo y7u func94 E94_ok (yb4 (ky0 rfl) ya0)
/-! impl.Stabilise -/
noncomputable def E64 : Env := ⟨ty0, fun g => ifEq g 92 (some A92) (ifEq g 93 (some A93) (ifEq g 94 (some A94) (none))), fun _ => none, fun _ => none, fun _ => none⟩
theorem E64_ok : FnsOk prog E64 := (oF A92_ok func92 (oF z71 func93 (oF A94_ok func94 (yc1 _ _))))
noncomputable def L64_0 : Nat → Option LoopD := fun _ => none
noncomputable def yr7 : (Int × (List Int)) → Option ((Int × (List Int)) × Bool) := fun (a0_0, a0_1) =>
 Option.bind (yp9 (a0_0, a0_1)) fun r0 =>
  bif (!r0) then
   some (((0 : Int), []), false)
  else
   Option.bind (yp3 a0_0 (fun y1 => (yv6 y1.1 y1.2.1 (a0_0, a0_1)))) fun (r2, r3) =>
    some ((r2, (List.take (List.length r3) (List.drop 0 r3))), true)
noncomputable def A64 : FnA := ⟨[.v (.pair (.int .i64) (.sl (.int .i64)))], true, [.pair (.int .i64) (.sl (.int .i64)), .bool], fun x => yr7 x.1⟩
theorem zd8 : fnF E64 L64_0 [.v (.pair (.int .i64) (.sl (.int .i64)))] true [.pair (.int .i64) (.sl (.int .i64)), .bool] f64.ntmps f64.results.toList (ya2 f64) = fun x => yr7 x.1 := by kernel_rfl
theorem zi0 : FnOk prog 64 A64 := fo zd8 func64 E64_ok ya0
/-! impl.value -/
noncomputable def R67 (impl_value_rec : (Int × ((List Int) × ((List Int) × (List (Int × (ByteArray × (Int × Int))))))) → (List (ByteArray × PT)) → Option ((Int × (List Int)) × Bool)) : FnA := ⟨[.v (.pair (.int .i64) (.pair (.sl (.int .i64)) (.pair (.sl (.int .i64)) (.sl (.pair (.int .i64) (.pair .str (.pair (.int .i64) (.int .i64)))))))), .v (.sl (.pair .str .pt))], true, [.pair (.int .i64) (.sl (.int .i64)), .bool], fun x => impl_value_rec x.1 x.2.1⟩
noncomputable def E67 (impl_value_rec : (Int × ((List Int) × ((List Int) × (List (Int × (ByteArray × (Int × Int))))))) → (List (ByteArray × PT)) → Option ((Int × (List Int)) × Bool)) : Env := ⟨ty0, fun g => ifEq g 99 (some A99) (ifEq g 100 (some A100) (ifEq g 67 (some (R67 impl_value_rec)) (ifEq g 64 (some A64) (ifEq g 66 (some A66) (none))))), fun _ => none, fun _ => none, fun _ => none⟩
theorem z74 (impl_value_rec : (Int × ((List Int) × ((List Int) × (List (Int × (ByteArray × (Int × Int))))))) → (List (ByteArray × PT)) → Option ((Int × (List Int)) × Bool)) (hrec : FnOk prog 67 (R67 impl_value_rec)) : FnsOk prog (E67 impl_value_rec) := (oF A99_ok func99 (oF A100_ok func100 (oF hrec func67 (oF zi0 func64 (oF y9l func66 (yc1 _ _))))))
noncomputable def L67_0 (impl_value_rec : (Int × ((List Int) × ((List Int) × (List (Int × (ByteArray × (Int × Int))))))) → (List (ByteArray × PT)) → Option ((Int × (List Int)) × Bool)) : Nat → Option LoopD := fun _ => none
def kk1 : List Fm := d :: d :: .box 100200 [.val (.int .i64), .val (.sl (.int .i64)), .val (.sl (.int .i64)), .val (.sl (.pair (.int .i64) (.pair .str (.pair (.int .i64) (.int .i64)))))] :: d :: .box 100400 [.val (.int .i64), .own (.int .i64) 100402 false] :: d :: .box 100600 [.val (.int .i64), .own (.int .i64) 100602 false] :: D 6 (.cell (.val (.sl (.pair .str .pt))) :: .cell (.val (.int .i64)) :: .cell (.val (.int .i64)) :: D 46 [])
def kk2 : List (Ex × List Fm) := [(.ret, [d, d, d, d, .box 100400 [.val (.int .i64), .own (.int .i64) 100402 false], .cell (.val .bool), d, d, d, d, d, d, d, d, d, d, d, d, d, d, d, d, d, d, d, d, d, d, d, d, d, d, d, d, d, d, d, d, d, d, d, d, d, d, d, d, d, d, d, d, d, d, d, d, d, d, d, d, d, d, d, d]), (.exit 0, [d, d, d, d, .box 100400 [.val (.int .i64), .own (.int .i64) 100402 false], d, .box 100600 [.val (.int .i64), .own (.int .i64) 100602 false], d, d, d, d, d, d, d, d, d, d, d, d, d, d, d, d, d, d, d, d, d, d, d, d, d, d, d, d, d, d, d, d, d, d, d, d, d, d, d, d, d, d, d, d, d, d, d, d, d, d, d, d, d, d, d])]
noncomputable def yo4 (impl_value_rec : (Int × ((List Int) × ((List Int) × (List (Int × (ByteArray × (Int × Int))))))) → (List (ByteArray × PT)) → Option ((Int × (List Int)) × Bool)) : ((Int × (List Int) × (List Int) × (List (Int × (ByteArray × (Int × Int)))) × Unit) × (Int × (List Int) × Unit) × (Int × (List Int) × Unit) × (List (ByteArray × PT)) × Int × Int × Unit) → Option (((Int × (List Int) × (List Int) × (List (Int × (ByteArray × (Int × Int)))) × Unit) × (Int × (List Int) × Unit) × (Int × (List Int) × Unit) × (List (ByteArray × PT)) × Int × Int × Unit) ⊕ (((Int × (List Int) × Unit) × Bool × Unit) ⊕ ((Int × (List Int) × Unit) × (Int × (List Int) × Unit) × Unit))) := fun ((v2_0, v2_1, v2_2, v2_3, _), (v4_0, v4_1, _), (v6_0, v6_1, _), v13, v14, v15, _) =>
 bif (decide (v15 < v14)) then
  if (((0 : Int) ≤ v15) ∧ (v15 < (((List.length v13) : Nat) : Int))) then
   bif (!((ByteArray.toList (List.getD v13 (Int.toNat v15) ((⟨Array.empty⟩ : ByteArray), (PT.mk []))).1) == (ByteArray.toList (⟨#[]⟩ : ByteArray)))) then
    Option.bind (yt0 (v2_0, v2_1, v2_2, v2_3) (List.getD v13 (Int.toNat v15) ((⟨Array.empty⟩ : ByteArray), (PT.mk []))).1) fun ((r0, r1), r2) =>
     Option.bind (yy3 (r0, (List.take (List.length r1) (List.drop 0 r1)))) fun ((r3, r4), r5) =>
      bif (decide (v15 > (0 : Int))) then
       Option.bind (yi0 (v6_0, (List.take (List.length v6_1) (List.drop 0 v6_1))) (r3, (List.take (List.length r4) (List.drop 0 r4)))) fun ((r6, r7), r8) =>
        some (Sum.inl ((v2_0, v2_1, v2_2, v2_3, ()), (v4_0, (List.take (List.length v4_1) (List.drop 0 v4_1)), ()), (r6, (List.take (List.length r7) (List.drop 0 r7)), ()), v13, v14, (IntKind.wrap .i64 (v15 + (1 : Int))), ()))
      else
       some (Sum.inl ((v2_0, v2_1, v2_2, v2_3, ()), (v4_0, (List.take (List.length v4_1) (List.drop 0 v4_1)), ()), (r3, (List.take (List.length r4) (List.drop 0 r4)), ()), v13, v14, (IntKind.wrap .i64 (v15 + (1 : Int))), ()))
   else
    Option.bind (impl_value_rec (v2_0, v2_1, v2_2, v2_3) (PT.l (List.getD v13 (Int.toNat v15) ((⟨Array.empty⟩ : ByteArray), (PT.mk []))).2)) fun ((r9, r10), r11) =>
     bif r11 then
      Option.bind (yr7 (r9, (List.take (List.length r10) (List.drop 0 r10)))) fun ((r12, r13), r14) =>
       bif (!r14) then
        some (Sum.inr (Sum.inl (((0 : Int), [], ()), false, ())))
       else
        bif (decide (v15 > (0 : Int))) then
         Option.bind (yi0 (v6_0, (List.take (List.length v6_1) (List.drop 0 v6_1))) (r12, (List.take (List.length r13) (List.drop 0 r13)))) fun ((r15, r16), r17) =>
          some (Sum.inl ((v2_0, v2_1, v2_2, v2_3, ()), (v4_0, (List.take (List.length v4_1) (List.drop 0 v4_1)), ()), (r15, (List.take (List.length r16) (List.drop 0 r16)), ()), v13, v14, (IntKind.wrap .i64 (v15 + (1 : Int))), ()))
        else
         some (Sum.inl ((v2_0, v2_1, v2_2, v2_3, ()), (v4_0, (List.take (List.length v4_1) (List.drop 0 v4_1)), ()), (r12, (List.take (List.length r13) (List.drop 0 r13)), ()), v13, v14, (IntKind.wrap .i64 (v15 + (1 : Int))), ()))
     else
      bif (!r11) then
       some (Sum.inr (Sum.inl (((0 : Int), [], ()), false, ())))
      else
       bif (decide (v15 > (0 : Int))) then
        Option.bind (yi0 (v6_0, (List.take (List.length v6_1) (List.drop 0 v6_1))) (r9, (List.take (List.length r10) (List.drop 0 r10)))) fun ((r18, r19), r20) =>
         some (Sum.inl ((v2_0, v2_1, v2_2, v2_3, ()), (v4_0, (List.take (List.length v4_1) (List.drop 0 v4_1)), ()), (r18, (List.take (List.length r19) (List.drop 0 r19)), ()), v13, v14, (IntKind.wrap .i64 (v15 + (1 : Int))), ()))
       else
        some (Sum.inl ((v2_0, v2_1, v2_2, v2_3, ()), (v4_0, (List.take (List.length v4_1) (List.drop 0 v4_1)), ()), (r9, (List.take (List.length r10) (List.drop 0 r10)), ()), v13, v14, (IntKind.wrap .i64 (v15 + (1 : Int))), ()))
  else
   none
 else
  some (Sum.inr (Sum.inr ((v4_0, (List.take (List.length v4_1) (List.drop 0 v4_1)), ()), (v6_0, (List.take (List.length v6_1) (List.drop 0 v6_1)), ()), ())))
theorem zk2 (impl_value_rec : (Int × ((List Int) × ((List Int) × (List (Int × (ByteArray × (Int × Int))))))) → (List (ByteArray × PT)) → Option ((Int × (List Int)) × Bool)) : ya6 62 (E67 impl_value_rec) (L67_0 impl_value_rec) (ya1 f67 3) kk1 kk2 = (yo4 impl_value_rec) := by kernel_rfl
theorem ky1 (impl_value_rec : (Int × ((List Int) × ((List Int) × (List (Int × (ByteArray × (Int × Int))))))) → (List (ByteArray × PT)) → Option ((Int × (List Int)) × Bool)) (hrec : FnOk prog 67 (R67 impl_value_rec)) {L : Nat → Option LoopD} (h : L 3 = some ⟨62, kk1, kk2, (yo4 impl_value_rec)⟩) : yc0 prog L (ya1 f67 3) :=
 zp7 (ya9 yd4) (z74 impl_value_rec hrec) (yc6 (L := (L67_0 impl_value_rec)) (ya9 yd4) (z74 impl_value_rec hrec) mixed (c := ya1 f67 3) (bs := []) (by kernel_rfl) ya0 (by kernel_rfl)) (by kernel_rfl) (by kernel_rfl) (zk2 impl_value_rec) (by rw [show yv9 (ya1 f67 3) = 3 from by kernel_rfl]; exact h)
noncomputable def L67_1 (impl_value_rec : (Int × ((List Int) × ((List Int) × (List (Int × (ByteArray × (Int × Int))))))) → (List (ByteArray × PT)) → Option ((Int × (List Int)) × Bool)) : Nat → Option LoopD := fun n => ifEq n 3 (some ⟨62, kk1, kk2, (yo4 impl_value_rec)⟩) ((L67_0 impl_value_rec) n)
noncomputable def yt1 (impl_value_rec : (Int × ((List Int) × ((List Int) × (List (Int × (ByteArray × (Int × Int))))))) → (List (ByteArray × PT)) → Option ((Int × (List Int)) × Bool)) : (Int × ((List Int) × ((List Int) × (List (Int × (ByteArray × (Int × Int))))))) → (List (ByteArray × PT)) → Option ((Int × (List Int)) × Bool) := fun (a0_0, a0_1, a0_2, a0_3) a1 =>
 Option.bind (ya4 (yo4 impl_value_rec) ((a0_0, a0_1, a0_2, a0_3, ()), ((0 : Int), [], ()), ((0 : Int), [], ()), a1, (((List.length a1) : Nat) : Int), (0 : Int), ())) fun r0 =>
  (match r0 with
  | .inl ((d1, d2, _), d3, _) =>
    some ((d1, (List.take (List.length d2) (List.drop 0 d2))), d3)
  | .inr ((d4, d5, _), (d6, d7, _), _) =>
    some ((d6, (List.take (List.length d7) (List.drop 0 d7))), true))
theorem y9o (impl_value_rec : (Int × ((List Int) × ((List Int) × (List (Int × (ByteArray × (Int × Int))))))) → (List (ByteArray × PT)) → Option ((Int × (List Int)) × Bool)) : fnF (E67 impl_value_rec) (L67_1 impl_value_rec) [.v (.pair (.int .i64) (.pair (.sl (.int .i64)) (.pair (.sl (.int .i64)) (.sl (.pair (.int .i64) (.pair .str (.pair (.int .i64) (.int .i64)))))))), .v (.sl (.pair .str .pt))] true [.pair (.int .i64) (.sl (.int .i64)), .bool] f67.ntmps f67.results.toList (ya2 f67) = fun x => (yt1 impl_value_rec) x.1 x.2.1 := by kernel_rfl
theorem y9p (impl_value_rec : (Int × ((List Int) × ((List Int) × (List (Int × (ByteArray × (Int × Int))))))) → (List (ByteArray × PT)) → Option ((Int × (List Int)) × Bool)) (hrec : FnOk prog 67 (R67 impl_value_rec)) : FnOk prog 67 ⟨[.v (.pair (.int .i64) (.pair (.sl (.int .i64)) (.pair (.sl (.int .i64)) (.sl (.pair (.int .i64) (.pair .str (.pair (.int .i64) (.int .i64)))))))), .v (.sl (.pair .str .pt))], true, [.pair (.int .i64) (.sl (.int .i64)), .bool], fun x => (yt1 impl_value_rec) x.1 x.2.1⟩ := by
 have h := yz8 (P := prog) (E := (E67 impl_value_rec)) (ya9 yd4) (z74 impl_value_rec hrec) (L := (L67_1 impl_value_rec)) (ps := [.v (.pair (.int .i64) (.pair (.sl (.int .i64)) (.pair (.sl (.int .i64)) (.sl (.pair (.int .i64) (.pair .str (.pair (.int .i64) (.int .i64)))))))), .v (.sl (.pair .str .pt))]) (own := true) (outs := [.pair (.int .i64) (.sl (.int .i64)), .bool]) func67 (c := ya2 f67) (by kernel_rfl) (yc6 (L := (L67_1 impl_value_rec)) (ya9 yd4) (z74 impl_value_rec hrec) mixed (c := ya2 f67) (bs := [ya1 f67 3]) (by kernel_rfl) (yb4 (ky1 impl_value_rec hrec rfl) ya0) (by kernel_rfl))
 rw [(y9o impl_value_rec)] at h
 exact h
/-- so many calls within each other -/
noncomputable def yq0 : Nat → (Int × ((List Int) × ((List Int) × (List (Int × (ByteArray × (Int × Int))))))) → (List (ByteArray × PT)) → Option ((Int × (List Int)) × Bool)
 | 0 => fun _ _ => none
 | n + 1 => yt1 (yq0 n)
theorem y2t : ∀ n, FnOk prog 67 (R67 (yq0 n))
 | 0 => fun xs r h => by cases h
 | n + 1 => y9p (yq0 n) (y2t n)
noncomputable def zd9 : (Int × ((List Int) × ((List Int) × (List (Int × (ByteArray × (Int × Int))))))) → (List (ByteArray × PT)) → Option ((Int × (List Int)) × Bool) := yq0 200
noncomputable def A67 : FnA := R67 zd9
theorem A67_ok : FnOk prog 67 A67 := y2t 200
/-! impl.ValueOf -/
noncomputable def E42 : Env := ⟨ty0, fun g => ifEq g 37 (some A37) (ifEq g 34 (some A34) (ifEq g 67 (some A67) (none))), fun _ => none, fun _ => none, fun _ => none⟩
theorem E42_ok : FnsOk prog E42 := (oF A37_ok func37 (oF y5j func34 (oF A67_ok func67 (yc1 _ _))))
noncomputable def L42_0 : Nat → Option LoopD := fun _ => none
noncomputable def yw9 : (Int × ((List Int) × ((List Int) × (List (Int × (ByteArray × (Int × Int))))))) → ByteArray → Option ((Int × (List Int)) × Bool) := fun (a0_0, a0_1, a0_2, a0_3) a1 =>
 Option.bind (yw8 a1) fun (r0, r1) =>
  bif (!r1) then
   some (((0 : Int), []), false)
  else
   Option.bind (ye5 (a0_0, a0_1, a0_2, a0_3)) fun r2 =>
    bif (!r2) then
     some (((0 : Int), []), false)
    else
     Option.bind (zd9 (a0_0, a0_1, a0_2, a0_3) (List.take (List.length r0) (List.drop 0 r0))) fun ((r3, r4), r5) =>
      some ((r3, (List.take (List.length r4) (List.drop 0 r4))), r5)
noncomputable def A42 : FnA := ⟨[.v (.pair (.int .i64) (.pair (.sl (.int .i64)) (.pair (.sl (.int .i64)) (.sl (.pair (.int .i64) (.pair .str (.pair (.int .i64) (.int .i64)))))))), .v .str], true, [.pair (.int .i64) (.sl (.int .i64)), .bool], fun x => yw9 x.1 x.2.1⟩
theorem zs5 : fnF E42 L42_0 [.v (.pair (.int .i64) (.pair (.sl (.int .i64)) (.pair (.sl (.int .i64)) (.sl (.pair (.int .i64) (.pair .str (.pair (.int .i64) (.int .i64)))))))), .v .str] true [.pair (.int .i64) (.sl (.int .i64)), .bool] f42.ntmps f42.results.toList (ya2 f42) = fun x => yw9 x.1 x.2.1 := by kernel_rfl
theorem zs6 : FnOk prog 42 A42 := fo zs5 func42 E42_ok ya0
/-! slices.IndexFunc[[]impl.Element,impl.Element] -/
noncomputable def E123 : Env := ⟨ty0, fun _ => none, fun _ => none, fun _ => none, fun _ => none⟩
theorem kk3 : FnsOk prog E123 := (yc1 _ _)
noncomputable def L123_0 : Nat → Option LoopD := fun _ => none
def z5x : List Fm := .cell (.val (.sl (.pair (.pair (.int .i64) (.sl (.int .i64))) .str))) :: .clo [.pair (.pair (.int .i64) (.sl (.int .i64))) .str] .bool :: D 5 (.cell (.val (.int .i64)) :: .cell (.val (.int .i64)) :: D 10 [])
def z5y : List (Ex × List Fm) := [(.ret, (D 4 (.cell (.val (.int .i64)) :: D 14 []))), (.exit 0, (D 19 []))]
noncomputable def yc2 : ((List ((Int × (List Int)) × ByteArray)) × ((((Int × (List Int)) × ByteArray) × Unit) → Option (Bool)) × Int × Int × Unit) → Option (((List ((Int × (List Int)) × ByteArray)) × ((((Int × (List Int)) × ByteArray) × Unit) → Option (Bool)) × Int × Int × Unit) ⊕ ((Int × Unit) ⊕ (Unit))) := fun (v0, v1, v7, v8, _) =>
 bif (decide (v8 < v7)) then
  if (((0 : Int) ≤ v8) ∧ (v8 < (((List.length v0) : Nat) : Int))) then
   Option.bind (v1 ((List.getD v0 (Int.toNat v8) (((0 : Int), []), (⟨Array.empty⟩ : ByteArray))), ())) fun r0 =>
    bif r0 then
     some (Sum.inr (Sum.inl (v8, ())))
    else
     some (Sum.inl (v0, v1, v7, (IntKind.wrap .i64 (v8 + (1 : Int))), ()))
  else
   none
 else
  some (Sum.inr (Sum.inr ()))
theorem y0r : ya6 19 E123 L123_0 (ya1 f123 2) z5x z5y = yc2 := by kernel_rfl
theorem kk4 {L} (h : L 2 = some ⟨19, z5x, z5y, yc2⟩) : yc0 prog L (ya1 f123 2) := lo y0r kk3 ya0 h
noncomputable def L123_1 : Nat → Option LoopD := fun n => ifEq n 2 (some ⟨19, z5x, z5y, yc2⟩) (L123_0 n)
noncomputable def yl2 : (List ((Int × (List Int)) × ByteArray)) → ((((Int × (List Int)) × ByteArray) × Unit) → Option (Bool)) → Option (Int) := fun a0 a1 =>
 Option.bind (ya4 yc2 (a0, a1, (((List.length a0) : Nat) : Int), (0 : Int), ())) fun r0 =>
  (match r0 with
  | .inl (d1, _) =>
    some d1
  | .inr _ =>
    some (-1 : Int))
noncomputable def A123 : FnA := ⟨[.v (.sl (.pair (.pair (.int .i64) (.sl (.int .i64))) .str)), .clo [.pair (.pair (.int .i64) (.sl (.int .i64))) .str] .bool], true, [.int .i64], fun x => yl2 x.1 x.2.1⟩
theorem y13 : fnF E123 L123_1 [.v (.sl (.pair (.pair (.int .i64) (.sl (.int .i64))) .str)), .clo [.pair (.pair (.int .i64) (.sl (.int .i64))) .str] .bool] true [.int .i64] f123.ntmps f123.results.toList (ya2 f123) = fun x => yl2 x.1 x.2.1 := by kernel_rfl
theorem A123_ok : FnOk prog 123 A123 := fo y13 func123 kk3 (yb4 (kk4 rfl) ya0)
/-! slices.ContainsFunc[[]impl.Element,impl.Element] -/
noncomputable def E95 : Env := ⟨ty0, fun g => ifEq g 123 (some A123) (none), fun _ => none, fun _ => none, fun _ => none⟩
theorem E95_ok : FnsOk prog E95 := (oF A123_ok func123 (yc1 _ _))
noncomputable def L95_0 : Nat → Option LoopD := fun _ => none
noncomputable def yb9 : (List ((Int × (List Int)) × ByteArray)) → ((((Int × (List Int)) × ByteArray) × Unit) → Option (Bool)) → Option (Bool) := fun a0 a1 =>
 Option.bind (yl2 a0 a1) fun r0 =>
  some (decide (r0 ≥ (0 : Int)))
noncomputable def A95 : FnA := ⟨[.v (.sl (.pair (.pair (.int .i64) (.sl (.int .i64))) .str)), .clo [.pair (.pair (.int .i64) (.sl (.int .i64))) .str] .bool], true, [.bool], fun x => yb9 x.1 x.2.1⟩
theorem y0s : fnF E95 L95_0 [.v (.sl (.pair (.pair (.int .i64) (.sl (.int .i64))) .str)), .clo [.pair (.pair (.int .i64) (.sl (.int .i64))) .str] .bool] true [.bool] f95.ntmps f95.results.toList (ya2 f95) = fun x => yb9 x.1 x.2.1 := by kernel_rfl
theorem zs7 : FnOk prog 95 A95 := fo y0s func95 E95_ok ya0
/-! (*impl.found).put$1 -/
noncomputable def E96 : Env := ⟨ty0, fun g => ifEq g 97 (some A97) (none), fun _ => none, fun _ => none, fun _ => none⟩
theorem E96_ok : FnsOk prog E96 := (oF A97_ok func97 (yc1 _ _))
noncomputable def L96_0 : Nat → Option LoopD := fun _ => none
noncomputable def yh0 : ((Int × (List Int)) × ByteArray) → (Int × (List Int)) → Option (Bool) := fun ((a0_0, a0_1), a0_2) (a1_0, a1_1) =>
 Option.bind (yp8 (a0_0, a0_1) (a1_0, a1_1)) fun r0 =>
  some r0
noncomputable def A96 : FnA := ⟨[.v (.pair (.pair (.int .i64) (.sl (.int .i64))) .str), .cap (.pair (.int .i64) (.sl (.int .i64)))], true, [.bool], fun x => yh0 x.1 x.2.1⟩
theorem y7v : fnF E96 L96_0 [.v (.pair (.pair (.int .i64) (.sl (.int .i64))) .str), .cap (.pair (.int .i64) (.sl (.int .i64)))] true [.bool] f96.ntmps f96.results.toList (ya2 f96) = fun x => yh0 x.1 x.2.1 := by kernel_rfl
theorem zs8 : FnOk prog 96 A96 := fo y7v func96 E96_ok ya0
end Go.Proofs.YtfdhmmnffahhgaaGreat
