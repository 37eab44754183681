/- What Go functions that the laws reach compute, and that they do: written by a program of this session. -/
import Derived.Test.YtafognnoibjjeaaGreatDoorCmp
import Derived.Test.YtafognnoibjjeaaGreatDoorRep
import Derived.KernelRfl
set_option linter.unusedVariables false
namespace Go.Proofs.YtafognnoibjjeaaGreatDoor
open Go Go.Proofs.YtafognnoibjjeaaGreatDoor.Am Go.Proofs.Tryz
set_option maxRecDepth 100000
noncomputable section
def tyl:List (Nat×TyD):=[(3,{kd:=.int .i64}),
 (4,{kd:=.bool}),
 (5,{kd:=.int .u8}),
 (9,{kd:=.str}),
 (22,{kd:=.sl (.int .u8),elt:=.int .u8,bytes:=1}),
 (23,{kd:=.sl (.int .i64),elt:=.int .i64,bytes:=8}),
 (24,{kd:=.sl (.pair (.int .i64) (.pair .str (.pair (.int .i64) (.int .i64)))),elt:=.pair (.int .i64) (.pair .str (.pair (.int .i64) (.int .i64))),bytes:=40}),
 (26,{kd:=.pair (.int .i64) (.pair (.sl (.int .i64)) (.pair (.sl (.int .i64)) (.sl (.pair (.int .i64) (.pair .str (.pair (.int .i64) (.int .i64))))))),flds:=[(0,.int .i64),(1,.sl (.int .i64)),(2,.sl (.int .i64)),(3,.sl (.pair (.int .i64) (.pair .str (.pair (.int .i64) (.int .i64)))))]}),
 (34,{kd:=.sl (.pair (.pair (.int .i64) (.sl (.int .i64))) .str),elt:=.pair (.pair (.int .i64) (.sl (.int .i64))) .str,bytes:=48}),
 (38,{kd:=.pair (.int .i64) (.sl (.int .i64)),flds:=[(0,.int .i64),(1,.sl (.int .i64))]}),
 (40,{kd:=.pair (.pair (.int .i64) (.sl (.int .i64))) .str,flds:=[(0,.pair (.int .i64) (.sl (.int .i64))),(2,.str)]}),
 (63,{kd:=.pair (.sl (.pair (.pair (.int .i64) (.sl (.int .i64))) .str)) .bool,flds:=[(0,.sl (.pair (.pair (.int .i64) (.sl (.int .i64))) .str)),(1,.bool)]}),
 (72,{kd:=.sl .str,elt:=.str,bytes:=16}),
 (74,{kd:=.pair (.int .i64) (.pair .str (.pair (.int .i64) (.int .i64))),flds:=[(0,.int .i64),(1,.str),(2,.int .i64),(3,.int .i64)]}),
 (80,{kd:=.pair (.pair (.int .i64) (.pair (.sl (.int .i64)) (.pair (.sl (.int .i64)) (.sl (.pair (.int .i64) (.pair .str (.pair (.int .i64) (.int .i64)))))))) (.pair (.int .i64) (.pair (.sl (.int .i64)) (.pair (.sl (.int .i64)) (.sl (.pair (.int .i64) (.pair .str (.pair (.int .i64) (.int .i64)))))))),flds:=[(0,.pair (.int .i64) (.pair (.sl (.int .i64)) (.pair (.sl (.int .i64)) (.sl (.pair (.int .i64) (.pair .str (.pair (.int .i64) (.int .i64)))))))),(4,.pair (.int .i64) (.pair (.sl (.int .i64)) (.pair (.sl (.int .i64)) (.sl (.pair (.int .i64) (.pair .str (.pair (.int .i64) (.int .i64))))))))]}),
 (87,{kd:=.pair (.sl (.int .u8)) (.int .i64),flds:=[(0,.sl (.int .u8)),(1,.int .i64)]}),
 (95,{kd:=.sl (.sl (.int .i64)),elt:=.sl (.int .i64),bytes:=24}),
 (97,{kd:=.pair .bool (.pair .bool (.pair .bool .bool)),arr:=4,elt:=.bool}),
 (103,{kd:=.sl (.pair .str .pt),elt:=.pair .str .pt,bytes:=40}),
 (157,{kd:=.int .u64}),
 (165,{kd:=.pair .str .pt,flds:=[(0,.str),(1,.pt)]}),
 (206,{kd:=.int .u64}),
 (253,{kd:=.pair (.sl (.pair (.pair (.int .i64) (.sl (.int .i64))) .str)) .bool,flds:=[(0,.sl (.pair (.pair (.int .i64) (.sl (.int .i64))) .str)),(1,.bool)]})]
def ty0:Nat→Option TyD:=yz3 tyl
theorem yg1{sb:Bool}:z2m (⟨prog,sb⟩:Pg) tyl=true:=by kernel_rfl
theorem mixed:prog.follows .mixedOrders=true:=by kernel_rfl
def D:Nat→List Fm→List Fm
 |0,l=>l
 |n+1,l=>.cell .drop::D n l
theorem oF{sb:Bool}{g:Nat}{f:FnA}{fn:Func}{ty:Nat→Option TyD}{rest:Nat→Option FnA}{ms:Nat→Option FnM}{bs:Nat→Option FnB}{il:Nat→Option (Nat×CallD)}{sp:Nat→Nat}(h:FnOk (⟨prog,sb⟩:Pg) g f)(hf:prog.funcs[g]?=some fn)(hr:FnsOk (⟨prog,sb⟩:Pg) ⟨ty,rest,ms,bs,il,sp⟩)
  (h1:(fn.name== "runtime.NumGoroutine")=false:=by kernel_rfl) (h2:fn.body.isSome=true:=by kernel_rfl):FnsOk (⟨prog,sb⟩:Pg) ⟨ty,fun n=>ifEq n g (some f) (rest n),ms,bs,il,sp⟩:=oneFn h hf h1 h2 hr
theorem tyk{sb:Bool}{E:Env}(h:E.ty=ty0):ym1 (⟨prog,sb⟩:Pg) E:=by
 obtain⟨ty,fn,ms,bs,il,sp⟩:=E;obtain rfl:ty=ty0:=h;exact yb9 yg1
theorem fo{sb:Bool}{E:Env}{L:Nat→Option LoopD}{g:Nat}{fn:Func}{ps:List Prm}{own:Bool}{outs:List Kd}{F:y4r ps→Option (yu2 outs)}{bs:List Code}(he:fnF E L ps own outs fn.ntmps fn.results.toList (yc9 fn)=F)(hf:prog.funcs[g]?=some fn)(hF:FnsOk (⟨prog,sb⟩:Pg) E)
  (hs:∀b∈bs,yb7 (⟨prog,sb⟩:Pg) L b) (hb:fn.body=some (yc9 fn):=by kernel_rfl) (hl:y0w (yc9 fn)=bs:=by kernel_rfl) (hd:zw9 E (y0x (yc9 fn))=true:=by kernel_rfl) (hE:E.ty=ty0:=by rfl):FnOk (⟨prog,sb⟩:Pg) g ⟨ps,own,outs,F⟩:=by
 have h:=yu6 (P:=⟨prog,sb⟩) (tyk hE) hF (L:=L) (ps:=ps) (own:=own) (outs:=outs) hf hb (yf0 (tyk hE) hF mixed hl hs hd);rw[he] at h;exact h
theorem lo{sb:Bool}{E:Env}{L L':Nat→Option LoopD}{n i:Nat}{b:Code}{bs:List Code}{sh:List Fm}{xs:List (Ex×List Fm)}{f:FmsT sh→Option (FmsT sh⊕XsT xs)}(he:y63 n E L' b sh xs=f)(hF:FnsOk (⟨prog,sb⟩:Pg) E)
  (hs:∀b∈bs,yb7 (⟨prog,sb⟩:Pg) L' b) (h:L i=some ⟨n,sh,xs,f⟩) (hl:y0w b=bs:=by kernel_rfl) (hd:zw9 E (y0x b)=true:=by kernel_rfl) (h1:yt3 (yy6 sh)=true:=by kernel_rfl) (h2:okXs xs=true:=by kernel_rfl) (hi:y0t b=i:=by kernel_rfl) (hE:E.ty=ty0:=by rfl):yb7 (⟨prog,sb⟩:Pg) L b:=
 z2l (tyk hE) hF (yf0 (tyk hE) hF mixed hl hs hd) h1 h2 he (by rw[hi];exact h)
def L0:Nat→Option LoopD:=fun _=>none
def E0:Env:=⟨ty0,fun _=>none,fun _=>none,fun _=>none,fun _=>none,fun _=>0⟩
theorem yh3{sb:Bool}:FnsOk (⟨prog,sb⟩:Pg) E0:=yc7 _ _
def ev(f:Nat→Option FnA):Env:=⟨ty0,f,fun _=>none,fun _=>none,fun _=>none,fun _=>0⟩
abbrev i6:Kd:=.int .i64
abbrev sI:Kd:=.sl i6
abbrev kS:Kd:=.pair i6 (.pair .str (.pair i6 i6))
abbrev sS:Kd:=.sl kS
abbrev kA:Kd:=.pair i6 (.pair sI (.pair sI sS))
abbrev kM:Kd:=.pair i6 sI
abbrev kE:Kd:=.pair kM .str
abbrev sE:Kd:=.sl kE
abbrev kR:Kd:=.pair (.sl (.int .u8)) i6
abbrev LI:=List Int
abbrev TS:=Int×(ByteArray×(Int×Int))
abbrev LS:=List TS
abbrev TA:=Int×(LI×(LI×LS))
abbrev TM:=Int×LI
abbrev TE:=TM×ByteArray
abbrev LE:=List TE
theorem fm{sb:Bool}{E:Env}{L:Nat→Option LoopD}{g:Nat}{fn:Func}{ps:List Ar}{own:Bool}{outs:List Kd}{F:ArsT ps→Option (yu2 outs×IosT ps)}{bs:List Code}(he:fnMF E L ps own outs fn.ntmps fn.results.toList (yc9 fn)=F)(hf:prog.funcs[g]?=some fn)(hF:FnsOk (⟨prog,sb⟩:Pg) E)
  (hs:∀b∈bs,yb7 (⟨prog,sb⟩:Pg) L b) (hb:fn.body=some (yc9 fn):=by kernel_rfl) (hl:y0w (yc9 fn)=bs:=by kernel_rfl) (hd:zw9 E (y0x (yc9 fn))=true:=by kernel_rfl) (hE:E.ty=ty0:=by rfl) (hnd:yt3 (y77 12500 ps)=true:=by kernel_rfl):y5t (⟨prog,sb⟩:Pg) g ⟨ps,own,outs,none,F⟩:=by
 have h:=z2i (P:=⟨prog,sb⟩) (tyk hE) hF (L:=L) (ps:=ps) (own:=own) (outs:=outs) hf hb (yf0 (tyk hE) hF mixed hl hs hd) hnd;rw[he] at h;exact h
abbrev d:Fm:=.cell .drop
section
variable {sb : Bool}
def y4e:Int→Option (Bool):=fun a0=>
 some (a0 != a0)
def A201:FnA:=⟨[.v i6],true,[.bool],fun x=>y4e x.1⟩
theorem z3a:fnF E0 L0 [.v i6] true [.bool] f201.ntmps f201.results.toList (yc9 f201)=fun x=>y4e x.1:=by kernel_rfl
theorem A201_ok:FnOk (⟨prog,sb⟩:Pg) 201 A201:=by
 have h:=yu6 (P:=(⟨prog,sb⟩:Pg)) (E:=E0) (yb9 yg1) yh3 (L:=L0) (ps:=[.v i6]) (own:=true) (outs:=[.bool]) func201 (c:=yc9 f201) (by kernel_rfl) (yf0 (L:=L0) (yb9 yg1) yh3 mixed (c:=yc9 f201) (bs:=[]) (by kernel_rfl) ya0 (by kernel_rfl));rw[z3a] at h;exact h
end
section
variable {sb : Bool}
def E137:Env:=ev fun g=>ifEq g 201 (some A201) (none)
theorem ki4:FnsOk (⟨prog,sb⟩:Pg) E137:=(oF A201_ok func201 (yc7 _ _))
def yu7:Int→Int→Option (Int):=fun a0 a1=>
 Option.bind (y4e a0) fun r0=>
  Option.bind (y4e a1) fun r1=>
   bif r0 then
    bif r1 then
     some 0
    else
     some (-1)
   else
    bif r1 then
     some 1
    else
     bif (decide (a0<a1)) then
      some (-1)
     else
      bif (decide (a0>a1)) then
       some 1
      else
       some 0
def A137:FnA:=⟨[.v i6,.v i6],true,[.int .i64],fun x=>yu7 x.1 x.2.1⟩
theorem zt6:fnF E137 L0 [.v i6,.v i6] true [.int .i64] f137.ntmps f137.results.toList (yc9 f137)=fun x=>yu7 x.1 x.2.1:=by kernel_rfl
theorem A137_ok:FnOk (⟨prog,sb⟩:Pg) 137 A137:=by
 have h:=yu6 (P:=(⟨prog,sb⟩:Pg)) (E:=E137) (yb9 yg1) ki4 (L:=L0) (ps:=[.v i6,.v i6]) (own:=true) (outs:=[.int .i64]) func137 (c:=yc9 f137) (by kernel_rfl) (yf0 (L:=L0) (yb9 yg1) ki4 mixed (c:=yc9 f137) (bs:=[]) (by kernel_rfl) ya0 (by kernel_rfl));rw[zt6] at h;exact h
end
section
variable {sb : Bool}
def z5o:List Fm:=d::d::d::.cell (.val i6)::d::d::.cell (.val sI)::.cell (.val i6)::.cell (.val i6)::D 9 []
def z5p:List (Ex×List Fm):=[(.ret,(d::d::.cell (.val i6)::D 15 [])),(.exit 0,(d::d::d::.cell (.val i6)::D 14 []))]
def ys8:(Int×LI×Int×Int×Unit)→Option ((Int×LI×Int×Int×Unit)⊕((Int×Unit)⊕(Int×Unit))):=fun(v3,v6,v7,v8,_)=>
 bif (decide (v8<v7)) then
  if(((0:Int)≤v8)∧(v8<(((List.length v6):Nat):Int))) then
   bif ((List.getD v6 (Int.toNat v8) 0) != v3) then
    some (Sum.inr (Sum.inl ((List.getD v6 (Int.toNat v8) 0),())))
   else
    some (Sum.inl (v3,v6,v7,(IntKind.wrap .i64 (v8+1)),()))
  else
   none
 else
  some (Sum.inr (Sum.inr (v3,())))
theorem z3b:y63 18 E0 L0 (ya9 f136 3) z5o z5p=ys8:=by kernel_rfl
theorem ki5{L:Nat→Option LoopD}(h:L 3=some ⟨18,z5o,z5p,ys8⟩):yb7 (⟨prog,sb⟩:Pg) L (ya9 f136 3):=
 z2l (yb9 yg1) yh3 (yf0 (L:=L0) (yb9 yg1) yh3 mixed (c:=ya9 f136 3) (bs:=[]) (by kernel_rfl) ya0 (by kernel_rfl)) (by kernel_rfl) (by kernel_rfl) z3b (by rw[show y0t (ya9 f136 3)=3 from by kernel_rfl];exact h)
def ki6:Nat→Option LoopD:=fun n=>ifEq n 3 (some ⟨18,z5o,z5p,ys8⟩) (L0 n)
def zn5:LI→Option (Int):=fun a0=>
 Option.bind (ya2 ys8 ((0:Int),a0,(((List.length a0):Nat):Int),0,())) fun r0=>
  (match r0 with
  |.inl (d1,_)=>
    some d1
  |.inr (d2,_)=>
    some d2)
def A136:FnA:=⟨[.v sI],true,[.int .i64],fun x=>zn5 x.1⟩
theorem ki7:fnF E0 ki6 [.v sI] true [.int .i64] f136.ntmps f136.results.toList (yc9 f136)=fun x=>zn5 x.1:=by kernel_rfl
theorem A136_ok:FnOk (⟨prog,sb⟩:Pg) 136 A136:=by
 have h:=yu6 (P:=(⟨prog,sb⟩:Pg)) (E:=E0) (yb9 yg1) yh3 (L:=ki6) (ps:=[.v sI]) (own:=true) (outs:=[.int .i64]) func136 (c:=yc9 f136) (by kernel_rfl) (yf0 (L:=ki6) (yb9 yg1) yh3 mixed (c:=yc9 f136) (bs:=[ya9 f136 3]) (by kernel_rfl) (ya8 (ki5 rfl) ya0) (by kernel_rfl));rw[ki7] at h;exact h
end
section
variable {sb : Bool}
def E54:Env:=ev fun g=>ifEq g 137 (some A137) (ifEq g 138 (some A138) (ifEq g 136 (some A136) (none)))
theorem E54_ok:FnsOk (⟨prog,sb⟩:Pg) E54:=(oF A137_ok func137 (oF A138_ok func138 (oF A136_ok func136 (yc7 _ _))))
def yk1:TS→TS→Option (Int):=fun(a0_0,a0_1,a0_2,a0_3) (a1_0,a1_1,a1_2,a1_3)=>
 Option.bind (yu7 a0_0 a1_0) fun r0=>
  Option.bind (y0e a0_1 a1_1) fun r1=>
   Option.bind (yu7 a0_2 a1_2) fun r2=>
    Option.bind (zn5 (List.take 3 (List.drop 0 [r0,r1,r2]))) fun r3=>
     some r3
def A54:FnA:=⟨[.v kS,.v kS],true,[.int .i64],fun x=>yk1 x.1 x.2.1⟩
theorem zb4:fnF E54 L0 [.v kS,.v kS] true [.int .i64] f54.ntmps f54.results.toList (yc9 f54)=fun x=>yk1 x.1 x.2.1:=by kernel_rfl
theorem ki8:FnOk (⟨prog,sb⟩:Pg) 54 A54:=by
 have h:=yu6 (P:=(⟨prog,sb⟩:Pg)) (E:=E54) (yb9 yg1) E54_ok (L:=L0) (ps:=[.v kS,.v kS]) (own:=true) (outs:=[.int .i64]) func54 (c:=yc9 f54) (by kernel_rfl) (yf0 (L:=L0) (yb9 yg1) E54_ok mixed (c:=yc9 f54) (bs:=[]) (by kernel_rfl) ya0 (by kernel_rfl));rw[zb4] at h;exact h
end
end
end Go.Proofs.YtafognnoibjjeaaGreatDoor
