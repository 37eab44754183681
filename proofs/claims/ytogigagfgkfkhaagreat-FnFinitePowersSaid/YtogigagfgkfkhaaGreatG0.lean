/- What Go functions that the laws reach compute, and that they do: written by a program of this session. -/
import Derived.Test.YtogigagfgkfkhaaGreatCmp
import Derived.Test.YtogigagfgkfkhaaGreatRep
import Derived.KernelRfl
set_option linter.unusedVariables false
namespace Go.Proofs.YtogigagfgkfkhaaGreat
open Go Go.Proofs.YtogigagfgkfkhaaGreat.Am Go.Proofs.Tryz
set_option maxRecDepth 100000
noncomputable section
def tyl : List (Nat × TyD) := [(3, {kd := .int .i64}),
 (4, {kd := .bool}),
 (5, {kd := .int .u8}),
 (9, {kd := .str}),
 (22, {kd := .sl (.int .u8), elt := .int .u8, bytes := 1}),
 (23, {kd := .sl (.int .i64), elt := .int .i64, bytes := 8}),
 (24, {kd := .sl (.pair (.int .i64) (.pair .str (.pair (.int .i64) (.int .i64)))), elt := .pair (.int .i64) (.pair .str (.pair (.int .i64) (.int .i64))), bytes := 40}),
 (26, {kd := .pair (.int .i64) (.pair (.sl (.int .i64)) (.pair (.sl (.int .i64)) (.sl (.pair (.int .i64) (.pair .str (.pair (.int .i64) (.int .i64))))))), flds := [(0, .int .i64), (1, .sl (.int .i64)), (2, .sl (.int .i64)), (3, .sl (.pair (.int .i64) (.pair .str (.pair (.int .i64) (.int .i64)))))]}),
 (43, {kd := .pair (.int .i64) (.pair .str (.pair (.int .i64) (.int .i64))), flds := [(0, .int .i64), (1, .str), (2, .int .i64), (3, .int .i64)]}),
 (50, {kd := .sl (.pair (.pair (.int .i64) (.sl (.int .i64))) .str), elt := .pair (.pair (.int .i64) (.sl (.int .i64))) .str, bytes := 48}),
 (55, {kd := .pair (.int .i64) (.sl (.int .i64)), flds := [(0, .int .i64), (1, .sl (.int .i64))]}),
 (58, {kd := .sl (.pair .str .pt), elt := .pair .str .pt, bytes := 40}),
 (68, {kd := .pair (.sl (.int .u8)) (.int .i64), flds := [(0, .sl (.int .u8)), (1, .int .i64)]}),
 (73, {kd := .pair (.pair (.int .i64) (.sl (.int .i64))) .str, flds := [(0, .pair (.int .i64) (.sl (.int .i64))), (2, .str)]}),
 (86, {kd := .pair (.sl (.pair (.pair (.int .i64) (.sl (.int .i64))) .str)) .bool, flds := [(0, .sl (.pair (.pair (.int .i64) (.sl (.int .i64))) .str)), (1, .bool)]}),
 (95, {kd := .pair .str .pt, flds := [(0, .str), (1, .pt)]}),
 (100, {kd := .sl .str, elt := .str, bytes := 16}),
 (109, {kd := .int .u64}),
 (130, {kd := .sl (.sl (.int .i64)), elt := .sl (.int .i64), bytes := 24}),
 (149, {kd := .int .u64}),
 (170, {kd := .pair (.sl (.pair (.pair (.int .i64) (.sl (.int .i64))) .str)) .bool, flds := [(0, .sl (.pair (.pair (.int .i64) (.sl (.int .i64))) .str)), (1, .bool)]})]
def ty0 : Nat → Option TyD := yy8 tyl
theorem yg0 {sb : Bool} : zx8 (⟨prog, sb⟩ : Pg) tyl = true := by kernel_rfl
theorem mixed : prog.follows .mixedOrders = true := by kernel_rfl
def D : Nat → List Fm → List Fm
 | 0, l => l
 | n + 1, l => .cell .drop :: D n l
theorem oF {sb : Bool} {g : Nat} {f : FnA} {fn : Func} {ty : Nat → Option TyD} {rest : Nat → Option FnA} {ms : Nat → Option FnM} {bs : Nat → Option FnB} {il : Nat → Option (Nat × CallD)} (h : FnOk (⟨prog, sb⟩ : Pg) g f) (hf : prog.funcs[g]? = some fn) (hr : FnsOk (⟨prog, sb⟩ : Pg) ⟨ty, rest, ms, bs, il⟩)
  (h1 : (fn.name == "runtime.NumGoroutine") = false := by kernel_rfl) (h2 : fn.body.isSome = true := by kernel_rfl) : FnsOk (⟨prog, sb⟩ : Pg) ⟨ty, fun n => ifEq n g (some f) (rest n), ms, bs, il⟩ := oneFn h hf h1 h2 hr
theorem tyk {sb : Bool} {E : Env} (h : E.ty = ty0) : ym4 (⟨prog, sb⟩ : Pg) E := by
 obtain ⟨ty, fn, ms, bs, il⟩ := E
 obtain rfl : ty = ty0 := h
 exact yb8 yg0
theorem fo {sb : Bool} {E : Env} {L : Nat → Option LoopD} {g : Nat} {fn : Func} {ps : List Prm} {own : Bool} {outs : List Kd} {F : y4d ps → Option (yr5 outs)} {bs : List Code} (he : fnF E L ps own outs fn.ntmps fn.results.toList (yc4 fn) = F) (hf : prog.funcs[g]? = some fn) (hF : FnsOk (⟨prog, sb⟩ : Pg) E)
  (hs : ∀ b ∈ bs, yc0 (⟨prog, sb⟩ : Pg) L b) (hb : fn.body = some (yc4 fn) := by kernel_rfl) (hl : yz3 (yc4 fn) = bs := by kernel_rfl) (hd : zo0 E (yz4 (yc4 fn)) = true := by kernel_rfl) (hE : E.ty = ty0 := by rfl) : FnOk (⟨prog, sb⟩ : Pg) g ⟨ps, own, outs, F⟩ := by
 have h := yr9 (P := ⟨prog, sb⟩) (tyk hE) hF (L := L) (ps := ps) (own := own) (outs := outs) hf hb (ye8 (tyk hE) hF mixed hl hs hd)
 rw [he] at h
 exact h
theorem lo {sb : Bool} {E : Env} {L L' : Nat → Option LoopD} {n i : Nat} {b : Code} {bs : List Code} {sh : List Fm} {xs : List (Ex × List Fm)} {f : FmsT sh → Option (FmsT sh ⊕ XsT xs)} (he : y5j n E L' b sh xs = f) (hF : FnsOk (⟨prog, sb⟩ : Pg) E)
  (hs : ∀ b ∈ bs, yc0 (⟨prog, sb⟩ : Pg) L' b) (h : L i = some ⟨n, sh, xs, f⟩) (hl : yz3 b = bs := by kernel_rfl) (hd : zo0 E (yz4 b) = true := by kernel_rfl) (h1 : yv8 (yy9 sh) = true := by kernel_rfl) (h2 : okXs xs = true := by kernel_rfl) (hi : yz0 b = i := by kernel_rfl) (hE : E.ty = ty0 := by rfl) : yc0 (⟨prog, sb⟩ : Pg) L b :=
 zx7 (tyk hE) hF (ye8 (tyk hE) hF mixed hl hs hd) h1 h2 he (by rw [hi]; exact h)
def L0 : Nat → Option LoopD := fun _ => none
def E0 : Env := ⟨ty0, fun _ => none, fun _ => none, fun _ => none, fun _ => none⟩
theorem yh7 {sb : Bool} : FnsOk (⟨prog, sb⟩ : Pg) E0 := ye2 _ _
def ev (f : Nat → Option FnA) : Env := ⟨ty0, f, fun _ => none, fun _ => none, fun _ => none⟩
abbrev i6 : Kd := .int .i64
abbrev sI : Kd := .sl i6
abbrev kS : Kd := .pair i6 (.pair .str (.pair i6 i6))
abbrev sS : Kd := .sl kS
abbrev kA : Kd := .pair i6 (.pair sI (.pair sI sS))
abbrev kM : Kd := .pair i6 sI
abbrev kE : Kd := .pair kM .str
abbrev sE : Kd := .sl kE
abbrev kR : Kd := .pair (.sl (.int .u8)) i6
abbrev LI := List Int
abbrev TS := Int × (ByteArray × (Int × Int))
abbrev LS := List TS
abbrev TA := Int × (LI × (LI × LS))
abbrev TM := Int × LI
abbrev TE := TM × ByteArray
abbrev LE := List TE
theorem fm {sb : Bool} {E : Env} {L : Nat → Option LoopD} {g : Nat} {fn : Func} {ps : List Ar} {own : Bool} {outs : List Kd} {F : ArsT ps → Option (yr5 outs × IosT ps)} {bs : List Code} (he : fnMF E L ps own outs fn.ntmps fn.results.toList (yc4 fn) = F) (hf : prog.funcs[g]? = some fn) (hF : FnsOk (⟨prog, sb⟩ : Pg) E)
  (hs : ∀ b ∈ bs, yc0 (⟨prog, sb⟩ : Pg) L b) (hb : fn.body = some (yc4 fn) := by kernel_rfl) (hl : yz3 (yc4 fn) = bs := by kernel_rfl) (hd : zo0 E (yz4 (yc4 fn)) = true := by kernel_rfl) (hE : E.ty = ty0 := by rfl) (hnd : yv8 (y6h 12500 ps) = true := by kernel_rfl) : y69 (⟨prog, sb⟩ : Pg) g ⟨ps, own, outs, none, F⟩ := by
 have h := zx4 (P := ⟨prog, sb⟩) (tyk hE) hF (L := L) (ps := ps) (own := own) (outs := outs) hf hb (ye8 (tyk hE) hF mixed hl hs hd) hnd
 rw [he] at h
 exact h
abbrev d : Fm := .cell .drop
section
variable {sb : Bool}
def y3d : Int → Option (Bool) := fun a0 =>
 some (a0 != a0)
def A72 : FnA := ⟨[.v i6], true, [.bool], fun x => y3d x.1⟩
theorem zz6 : fnF E0 L0 [.v i6] true [.bool] f72.ntmps f72.results.toList (yc4 f72) = fun x => y3d x.1 := by kernel_rfl
theorem A72_ok : FnOk (⟨prog, sb⟩ : Pg) 72 A72 := by
 have h := yr9 (P := (⟨prog, sb⟩ : Pg)) (E := E0) (yb8 yg0) yh7 (L := L0) (ps := [.v i6]) (own := true) (outs := [.bool]) func72 (c := yc4 f72) (by kernel_rfl) (ye8 (L := L0) (yb8 yg0) yh7 mixed (c := yc4 f72) (bs := []) (by kernel_rfl) ya0 (by kernel_rfl))
 rw [zz6] at h
 exact h
end
section
variable {sb : Bool}
def E46 : Env := ev fun g => ifEq g 72 (some A72) (none)
theorem E46_ok : FnsOk (⟨prog, sb⟩ : Pg) E46 := (oF A72_ok func72 (ye2 _ _))
def ys1 : Int → Int → Option (Int) := fun a0 a1 =>
 Option.bind (y3d a0) fun r0 =>
  Option.bind (y3d a1) fun r1 =>
   bif r0 then
    bif r1 then
     some 0
    else
     some (-1)
   else
    bif r1 then
     some 1
    else
     bif (decide (a0 < a1)) then
      some (-1)
     else
      bif (decide (a0 > a1)) then
       some 1
      else
       some 0
def A46 : FnA := ⟨[.v i6, .v i6], true, [.int .i64], fun x => ys1 x.1 x.2.1⟩
theorem zl0 : fnF E46 L0 [.v i6, .v i6] true [.int .i64] f46.ntmps f46.results.toList (yc4 f46) = fun x => ys1 x.1 x.2.1 := by kernel_rfl
theorem A46_ok : FnOk (⟨prog, sb⟩ : Pg) 46 A46 := by
 have h := yr9 (P := (⟨prog, sb⟩ : Pg)) (E := E46) (yb8 yg0) E46_ok (L := L0) (ps := [.v i6, .v i6]) (own := true) (outs := [.int .i64]) func46 (c := yc4 f46) (by kernel_rfl) (ye8 (L := L0) (yb8 yg0) E46_ok mixed (c := yc4 f46) (bs := []) (by kernel_rfl) ya0 (by kernel_rfl))
 rw [zl0] at h
 exact h
end
section
variable {sb : Bool}
def z8e : List Fm := d :: d :: d :: .cell (.val i6) :: d :: d :: .cell (.val sI) :: .cell (.val i6) :: .cell (.val i6) :: D 9 []
def z8f : List (Ex × List Fm) := [(.ret, (d :: d :: .cell (.val i6) :: D 15 [])), (.exit 0, (d :: d :: d :: .cell (.val i6) :: D 14 []))]
def yq5 : (Int × LI × Int × Int × Unit) → Option ((Int × LI × Int × Int × Unit) ⊕ ((Int × Unit) ⊕ (Int × Unit))) := fun (v3, v6, v7, v8, _) =>
 bif (decide (v8 < v7)) then
  if (((0 : Int) ≤ v8) ∧ (v8 < (((List.length v6) : Nat) : Int))) then
   bif ((List.getD v6 (Int.toNat v8) 0) != v3) then
    some (Sum.inr (Sum.inl ((List.getD v6 (Int.toNat v8) 0), ())))
   else
    some (Sum.inl (v3, v6, v7, (IntKind.wrap .i64 (v8 + 1)), ()))
  else
   none
 else
  some (Sum.inr (Sum.inr (v3, ())))
theorem zz7 : y5j 18 E0 L0 (ya8 f45 3) z8e z8f = yq5 := by kernel_rfl
theorem kh7 {L : Nat → Option LoopD} (h : L 3 = some ⟨18, z8e, z8f, yq5⟩) : yc0 (⟨prog, sb⟩ : Pg) L (ya8 f45 3) :=
 zx7 (yb8 yg0) yh7 (ye8 (L := L0) (yb8 yg0) yh7 mixed (c := ya8 f45 3) (bs := []) (by kernel_rfl) ya0 (by kernel_rfl)) (by kernel_rfl) (by kernel_rfl) zz7 (by rw [show yz0 (ya8 f45 3) = 3 from by kernel_rfl]; exact h)
def L45_1 : Nat → Option LoopD := fun n => ifEq n 3 (some ⟨18, z8e, z8f, yq5⟩) (L0 n)
def zg5 : LI → Option (Int) := fun a0 =>
 Option.bind (ya2 yq5 ((0 : Int), a0, (((List.length a0) : Nat) : Int), 0, ())) fun r0 =>
  (match r0 with
  | .inl (d1, _) =>
    some d1
  | .inr (d2, _) =>
    some d2)
def A45 : FnA := ⟨[.v sI], true, [.int .i64], fun x => zg5 x.1⟩
theorem z8g : fnF E0 L45_1 [.v sI] true [.int .i64] f45.ntmps f45.results.toList (yc4 f45) = fun x => zg5 x.1 := by kernel_rfl
theorem A45_ok : FnOk (⟨prog, sb⟩ : Pg) 45 A45 := by
 have h := yr9 (P := (⟨prog, sb⟩ : Pg)) (E := E0) (yb8 yg0) yh7 (L := L45_1) (ps := [.v sI]) (own := true) (outs := [.int .i64]) func45 (c := yc4 f45) (by kernel_rfl) (ye8 (L := L45_1) (yb8 yg0) yh7 mixed (c := yc4 f45) (bs := [ya8 f45 3]) (by kernel_rfl) (ya9 (kh7 rfl) ya0) (by kernel_rfl))
 rw [z8g] at h
 exact h
end
section
variable {sb : Bool}
def E22 : Env := ev fun g => ifEq g 46 (some A46) (ifEq g 47 (some A47) (ifEq g 45 (some A45) (none)))
theorem E22_ok : FnsOk (⟨prog, sb⟩ : Pg) E22 := (oF A46_ok func46 (oF A47_ok func47 (oF A45_ok func45 (ye2 _ _))))
def yj3 : TS → TS → Option (Int) := fun (a0_0, a0_1, a0_2, a0_3) (a1_0, a1_1, a1_2, a1_3) =>
 Option.bind (ys1 a0_0 a1_0) fun r0 =>
  Option.bind (yx3 a0_1 a1_1) fun r1 =>
   Option.bind (ys1 a0_2 a1_2) fun r2 =>
    Option.bind (zg5 (List.take 3 (List.drop 0 [r0, r1, r2]))) fun r3 =>
     some r3
def A22 : FnA := ⟨[.v kS, .v kS], true, [.int .i64], fun x => yj3 x.1 x.2.1⟩
theorem y8z : fnF E22 L0 [.v kS, .v kS] true [.int .i64] f22.ntmps f22.results.toList (yc4 f22) = fun x => yj3 x.1 x.2.1 := by kernel_rfl
theorem z8h : FnOk (⟨prog, sb⟩ : Pg) 22 A22 := by
 have h := yr9 (P := (⟨prog, sb⟩ : Pg)) (E := E22) (yb8 yg0) E22_ok (L := L0) (ps := [.v kS, .v kS]) (own := true) (outs := [.int .i64]) func22 (c := yc4 f22) (by kernel_rfl) (ye8 (L := L0) (yb8 yg0) E22_ok mixed (c := yc4 f22) (bs := []) (by kernel_rfl) ya0 (by kernel_rfl))
 rw [y8z] at h
 exact h
end
end
end Go.Proofs.YtogigagfgkfkhaaGreat
