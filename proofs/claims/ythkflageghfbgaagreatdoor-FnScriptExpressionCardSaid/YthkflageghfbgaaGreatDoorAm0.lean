/- The abstract machine: values as data, rows by tokens; what its values stand for in the memory; value operations, boxes, new rows. -/
import Derived.Below
import Derived.Calls
import Derived.Deep.AppendSrc
import Derived.Deep.MidRow
import Derived.KernelRfl
import Derived.Laws.BytesArg
import Derived.Laws.Tables
import Derived.Lib.ItoaNum
import Derived.Lib.LaidTab
import Derived.Lib.Space
import Derived.WalkKit
import Derived.WalkLawsBesides
set_option linter.unusedVariables false
set_option linter.unusedSimpArgs false
/- The abstract machine: values as data, rows by tokens, and what an operation does with them. -/
namespace Go.Proofs.YthkflageghfbgaaGreatDoor.Am
open Go

/-! ### kinds of data -/
/-- a list of parts: a text each, and the parts within -/
inductive PT where
 |mk (l:List (ByteArray×PT))
def PT.l:PT→List (ByteArray×PT)
 |.mk l=>l
inductive Kd where
 |int (k:IntKind)|bool|str|err|unit
 |sl (k:Kd)|pair (a b:Kd)|pt
 deriving DecidableEq
@[reducible] def Kd.T:Kd→Type
 |.int _=>Int
 |.bool=>Bool
 |.str=>ByteArray
 |.err=>Bool
 |.unit=>Unit
 |.sl k=>List k.T
 |.pair a b=>a.T×b.T
 |.pt=>PT
/-- several values -/
@[reducible] def KsT:List Kd→Type
 |[]=>Unit
 |k::ks=>k.T×KsT ks
def Kd.dflt:(k:Kd)→k.T
 |.int _=>(0:Int)
 |.bool=>false
 |.str=>(ByteArray.empty)
 |.err=>true
 |.unit=>()
 |.sl _=>[]
 |.pair a b=>(a.dflt,b.dflt)
 |.pt=>.mk []
def Kd.size:Kd→Nat
 |.unit=>0
 |.pair a b=>a.size+b.size
 |_=>1

def Kd.isAgg:Kd→Bool
 |.pair _ _=>true
 |.unit=>true
 |_=>false

/-! ### values -/
inductive AVal where
 |undef
 |nil
 |v (k:Kd) (x:k.T)
 |agg (cs:List AVal)
 |ref (k:Kd) (t off len:Nat)
 |ptr (t c:Nat)
 |ep (t i c:Nat)
 /-- a place of an array in a box -/
 |pi (t n i:Nat)
 |fp (k:Kd) (x:k.T)
 |tup (vs:List AVal)
 |fn (g:Nat) (caps:List AVal)
 |clo (ki:List Kd) (ko:Kd) (φ:KsT ki→Option ko.T)
inductive Row where
 |dead
 |box (cs:List AVal)
 |arr (k:Kd) (xs:List k.T) (ao:Bool)
structure St where
 slots:List AVal
 heap:Nat→Option Row
 /-- what stands in the slots of those that called -/
 gh:List AVal:=[]
inductive Ex where
 |normal|ret|exit (id:Nat)

/-! ### small functions that a print unfolds -/
section small
variable {α : Type}
def ifT(b:Bool)(x y:α):α:=match b with|true=>x|false=>y
def ifEq(a b:Nat)(x y:α):α:=ifT (Nat.beq a b) x y
def setA:List α→Nat→α→List α
 |[],_,_=>[]
 |_::l,0,x=>x::l
 |y::l,n+1,x=>y::setA l n x
def getA(d:α):List α→Nat→α
 |[],_=>d
 |y::_,0=>y
 |_::l,n+1=>getA d l n
def dropA:Nat→List α→List α
 |0,l=>l
 |_+1,[]=>[]
 |n+1,_::l=>dropA n l
def takeA:Nat→List α→List α
 |0,_=>[]
 |_+1,[]=>[]
 |n+1,x::l=>x::takeA n l
def appA:List α→List α→List α
 |[],l=>l
 |x::k,l=>x::appA k l
def repA:Nat→α→List α
 |0,_=>[]
 |n+1,x=>x::repA n x
def lenA:List α→Nat
 |[]=>0
 |_::l=>lenA l+1
def mapA{β:Type}(f:α→β):List α→List β
 |[]=>[]
 |x::l=>f x::mapA f l
def assoc:List (Nat×α)→Nat→Option α
 |[],_=>none
 |x::r,n=>ifEq x.1 n (some x.2) (assoc r n)
end small

def castK{k k':Kd}(x:k.T):Option k'.T:=if h:k=k' then some (h▸x) else none
def St.put(S:St)(d:Option Nat)(x:AVal):St:=
 match d with
 |none=>S
 |some d=>{S with slots:=setA S.slots d x}
def St.setH(S:St)(t:Nat)(r:Row):St:={S with heap:=fun p=>ifEq p t (some r) (S.heap p)}
/-- tokens from here on have a name of their own -/
def named:Nat:=200000
def isFree(H:Nat→Option Row)(t:Nat):Bool:=match H t with|none=>Nat.blt t 200000|some _=>false
/-- a named token keeps its name -/
def nameB(t0 t:Nat):Bool:=ifT (Nat.blt t 200000) (Nat.blt t0 200000) (Nat.beq t0 t)
def ofValue:Value→AVal
 |.int k n=>.v (.int k) n
 |.bool b=>.v .bool b
 |.string s=>.v .str s
 |.slice none 0 0=>.nil
 |.nilIface=>.v .err true
 |_=>.undef
def St.eval(S:St):Operand→AVal
 |.tmp p=>getA .undef S.slots p
 |.const c=>ofValue c
 |.func f=>.fn f []
 |.global _=>.undef

/-! ### values as data, and back -/
def Kd.leaves:(k:Kd)→k.T→List AVal
 |.unit,_=>[]
 |.pair a b,x=>appA (a.leaves x.1) (b.leaves x.2)
 |k,x=>[.v k x]
def AVal.cells:AVal→List AVal
 |.agg cs=>cs
 |.v k x=>k.leaves x
 |x=>[x]
def aggV:AVal→Bool
 |.agg _=>true
 |.v k _=>k.isAgg
 |_=>false
/-- values whose cells are known -/
def okV:AVal→Bool
 |.undef=>false
 |.tup _=>false
 |_=>true
def leafV:AVal→Bool
 |.undef=>false
 |.tup _=>false
 |.agg _=>false
 |.v k _=>ifT k.isAgg false true
 |_=>true
def leafVs:List AVal→Bool
 |[]=>true
 |x::l=>ifT (leafV x) (leafVs l) false
def leafT0(st:Bool)(H:Nat→Option Row):(k:Kd)→AVal→Option k.T
 |.sl k,.v k' xs=>castK (k:=k') (k':=.sl k) xs
 |.sl _,.nil=>some []
 |.sl k,.ref _ t off len=>match H t with
  |some (.arr k' xs ao)=>ifT (ifT st ao true) (match castK (k:=.sl k') (k':=.sl k) xs with
   |some xs=>some ((List.drop (α:=k.T) off xs).take len)
   |none=>none) none
  |_=>none
 |k,.v k' x=>castK (k:=k') (k':=k) x
 |_,_=>none
/-- parts are told as a list too -/
def leafT(st:Bool)(H:Nat→Option Row):(k:Kd)→AVal→Option k.T
 |.pt,.v .pt x=>some x
 |.pt,x=>match leafT0 st H (.sl (.pair .str .pt)) x with|some xs=>some (PT.mk xs)|none=>none
 |.sl (.pair .str .pt),.v .pt x=>some (PT.l x)
 |k,x=>leafT0 st H k x
def toTs(st:Bool)(H:Nat→Option Row):(k:Kd)→List AVal→Option (k.T×List AVal)
 |.unit,cs=>some ((),cs)
 |.pair a b,cs=>match toTs st H a cs with
  |some r=>match toTs st H b r.2 with
   |some q=>some ((r.1,q.1),q.2)
   |none=>none
  |none=>none
 |k,c::cs=>match leafT st H k c with|some x=>some (x,cs)|none=>none
 |_,[]=>none
/-- a value as data: 'st': rows of one's own must be sealed -/
def toT(st:Bool)(H:Nat→Option Row)(k:Kd):AVal→Option k.T
 |.agg cs=>ifT k.isAgg (match toTs st H k cs with|some (x,[])=>some x|_=>none) none
 |x=>leafT st H k x
/-- the elements that an append or a copy takes -/
def srcT(H:Nat→Option Row)(k:Kd):AVal→Option (List k.T)
 |.nil=>some []
 |.v k' xs=>castK (k:=k') (k':=.sl k) xs
 |.ref _ t off len=>match H t with
  |some (.arr k' xs _)=>match castK (k:=.sl k') (k':=.sl k) xs with
   |some xs=>some ((List.drop (α:=k.T) off xs).take len)
   |none=>none
  |_=>none
 |_=>none
/-- rows that are handed into data are not stored into any more -/
def sealR(H:Nat→Option Row)(t:Nat):Nat→Option Row:=
 match H t with
 |some (.arr k xs false)=>fun p=>ifEq p t (some (.arr k xs true)) (H p)
 |_=>H
def sealL(H:Nat→Option Row):List AVal→Nat→Option Row
 |[]=>H
 |x::l=>match x with
  |.ref _ t _ _=>sealL (sealR H t) l
  |_=>sealL H l
def sealV(H:Nat→Option Row)(x:AVal):Nat→Option Row:=sealL H x.cells
def sealVs(H:Nat→Option Row):List AVal→Nat→Option Row
 |[]=>H
 |x::l=>sealVs (sealV H x) l
def Kd.flat:Kd→Bool
 |.sl _=>false
 |.pt=>false
 |.pair a b=>ifT a.flat b.flat false
 |_=>true
def Kd.flat1:Kd→Bool
 |.sl k=>k.flat
 |.pt=>false
 |.pair a b=>ifT a.flat1 b.flat1 false
 |_=>true
def flats:List Kd→Bool
 |[]=>true
 |k::ks=>ifT k.flat1 (flats ks) false
/-- the part of a kind that begins at a leaf and has a kind: how it is read and replaced -/
def Kd.at(k':Kd):(k:Kd)→Nat→Option ((k.T→k'.T)×(k.T→k'.T→k.T))
 |k,c=>if h:k=k'∧c=0 then some (fun x=>h.1▸x,fun _ y=>h.1▸y) else
  match k with
  |.pair a b=>ifT (Nat.blt c a.size)
   (match Kd.at k' a c with|some gs=>some (fun x=>gs.1 x.1,fun x y=>(gs.2 x.1 y,x.2))|none=>none)
   (match Kd.at k' b (c-a.size) with|some gs=>some (fun x=>gs.1 x.2,fun x y=>(x.1,gs.2 x.2 y))|none=>none)
  |_=>none

def Kd.zeros:Kd→List AVal
 |.unit=>[]
 |.pair a b=>appA a.zeros b.zeros
 |.sl _=>[.nil]
 |k=>[.v k k.dflt]

/-! ### types and functions of a program -/
structure TyD where
 kd:Kd
 flds:List (Nat×Kd):=[]
 elt:Kd:=.unit
 bytes:Nat:=0
 /-- how many an array has -/
 arr:Nat:=0
 /-- a struct of plain parts that is compared -/
 eq:Bool:=false
inductive Prm where
 |v (k:Kd)|clo (ki:List Kd) (ko:Kd)|cap (k:Kd)
@[reducible] def Prm.T:Prm→Type
 |.v k=>k.T
 |.cap k=>k.T
 |.clo ki ko=>KsT ki→Option ko.T
@[reducible] def PrmsT:List Prm→Type
 |[]=>Unit
 |p::ps=>p.T×PrmsT ps
@[reducible] def OutsT:List Kd→Type
 |[]=>Unit
 |[k]=>k.T
 |k::ks=>k.T×OutsT ks
structure FnA where
 ps:List Prm
 own:Bool
 outs:List Kd
 F:PrmsT ps→Option (OutsT outs)
/-- what is handed to a function that writes into it: data; data whose rows are lent; a box that is lent -/
inductive Ar where
 |v (k:Kd)|io (k:Kd)|bx (k:Kd)
@[reducible] def Ar.T:Ar→Type
 |.v k=>k.T
 |.io k=>k.T
 |.bx k=>k.T
@[reducible] def ArsT:List Ar→Type
 |[]=>Unit
 |p::ps=>p.T×ArsT ps
@[reducible] def IosT:List Ar→Type
 |[]=>Unit
 |.v _::ps=>IosT ps
 |.io k::ps=>k.T×IosT ps
 |.bx k::ps=>k.T×IosT ps
structure FnM where
 ps:List Ar
 own:Bool
 outs:List Kd
 /-- a function of the program that is handed in last -/
 fa:Option Nat:=none
 F:ArsT ps→Option (OutsT outs×IosT ps)
/-- a function that hands back a new box -/
structure FnB where
 ps:List Prm
 k:Kd
 F:PrmsT ps→Option k.T
/-! ### shapes -/
inductive Cf where
 |drop
 |val (k:Kd)
 |own (k:Kd) (t:Nat) (ao:Bool)
inductive Fm where
 |cell (c:Cf)
 |box (t:Nat) (cs:List Cf)
 |agg (cs:List Cf)
 |clo (ki:List Kd) (ko:Kd)
 |fp (k:Kd)
 /-- the box of another slot -/
 |ali (t p:Nat)
 /-- a function -/
 |fnv (g:Nat) (ts:List (Nat×Nat))
 |tup (cs:List Cf)
@[reducible] def Cf.T:Cf→Type
 |.drop=>Unit
 |.val k=>k.T
 |.own k _ _=>List k.T
@[reducible] def CfsT:List Cf→Type
 |[]=>Unit
 |.drop::cs=>CfsT cs
 |c::cs=>c.T×CfsT cs
@[reducible] def Fm.T:Fm→Type
 |.cell c=>c.T
 |.box _ cs=>CfsT cs
 |.agg cs=>CfsT cs
 |.tup cs=>CfsT cs
 |.clo ki ko=>KsT ki→Option ko.T
 |.fp k=>k.T
 |.ali _ _=>Unit
 |.fnv _ _=>Unit
@[reducible] def FmsT:List Fm→Type
 |[]=>Unit
 |.fnv _ _::fs=>FmsT fs
 |.cell .drop::fs=>FmsT fs
 |.ali _ _::fs=>FmsT fs
 |f::fs=>f.T×FmsT fs

/-- a call whose code is run in place: the shape it begins with, the shape behind it -/
structure CallD where
 n:Nat
 sh:List Fm
 ne:Nat
 xsh:List Fm
 f:FmsT sh→Option (FmsT xsh)
 /-- how many it is handed; 0: any number -/
 ar:Nat
structure Env where
 ty:Nat→Option TyD
 fn:Nat→Option FnA
 ms:Nat→Option FnM:=fun _=>none
 bs:Nat→Option FnB:=fun _=>none
 /-- code that is run in place: by the place of the call (where its result goes) and the function -/
 il:Nat→Option (Nat×CallD):=fun _=>none
 /-- types of a kind of their own: 1 where a function stands, 2 where boxes are never stored to -/
 sp:Nat→Nat:=fun _=>0
def okT(E:Env)(t:Nat)(k:Kd):Bool:=match E.ty t with|some d=>decide (d.kd=k)|none=>false
def kdOf(E:Env)(t:Nat):Option Kd:=match E.ty t with|some d=>some d.kd|none=>none
def fldOf(E:Env)(s f:Nat):Option (Nat×Kd):=match E.ty s with|some d=>getA none (mapA some d.flds) f|none=>none

/-- an array's type: how many, of which kind -/
def arrOf(E:Env)(t:Nat):Option (Nat×Kd):=match E.ty t with|some d=>ifEq d.arr 0 none (some (d.arr,d.elt))|none=>none
/-- the parts of a struct that is compared -/
def eqFs(E:Env)(t:Nat):Option (List (Nat×Kd)):=match E.ty t with|some d=>ifT d.eq (some d.flds) none|none=>none
def noArr(E:Env)(t:Nat):Bool:=match E.ty t with|some d=>Nat.beq d.arr 0|none=>false
/-- cells of one kind -/
def cellsT(k:Kd):List AVal→Option (List k.T)
 |[]=>some []
 |x::l=>match x with
  |.v k' y=>match castK (k:=k') (k':=k) y with
   |some y=>match cellsT k l with|some ys=>some (y::ys)|none=>none
   |none=>none
  |_=>none
def isAggV:AVal→Bool
 |.agg _=>true
 |.v k _=>k.isAgg
 |_=>false
/-- the same, where one of them is another one -/
def putAt(k:Kd)(y:k.T)(i:Nat):Nat→List k.T→List AVal
 |_,[]=>[]
 |j,x::l=>.v k (bif Nat.beq i j then y else x)::putAt k y i (j+1) l
/-! ### operations on values -/
def bitsOp(op:BinOp)(k:IntKind)(x y:Int):Int:=
 k.wrap (match op with
  |.and=>(BitVec.ofInt k.bits x&&& BitVec.ofInt k.bits y).toNat
  |.or=>(BitVec.ofInt k.bits x|||BitVec.ofInt k.bits y).toNat
  |.xor=>(BitVec.ofInt k.bits x^^^BitVec.ofInt k.bits y).toNat
  |_=>(BitVec.ofInt k.bits x&&& ~~~ BitVec.ofInt k.bits y).toNat)
section
variable {R : Type}
def binInt(op:BinOp)(k:IntKind)(a b:Int)(K:AVal→Option R):Option R:=
 match op with
 |.add=>K (.v (.int k) (k.wrap (a+b)))
 |.sub=>K (.v (.int k) (k.wrap (a-b)))
 |.mul=>K (.v (.int k) (k.wrap (a*b)))
 |.quo=>if b=0 then none else K (.v (.int k) (k.wrap (a.tdiv b)))
 |.rem=>if b=0 then none else K (.v (.int k) (a.tmod b))
 |.eql=>K (.v .bool (a==b))
 |.neq=>K (.v .bool (a != b))
 |.lss=>K (.v .bool (decide (a<b)))
 |.leq=>K (.v .bool (decide (a≤b)))
 |.gtr=>K (.v .bool (decide (a>b)))
 |.geq=>K (.v .bool (decide (a≥b)))
 |.shl=>if b<0 then none else K (.v (.int k) (k.wrap (a*2^min b.toNat k.bits)))
 |.shr=>if b<0 then none else K (.v (.int k) (a.fdiv (2^min b.toNat k.bits)))
 |op=>K (.v (.int k) (bitsOp op k a b))
def binStr(op:BinOp)(a b:ByteArray)(K:AVal→Option R):Option R:=
 match op with
 |.add=>if a.size+b.size≤9223372036854775807 then K (.v .str (a++b)) else none
 |.eql=>K (.v .bool (a.toList==b.toList))
 |.neq=>K (.v .bool (!(a.toList==b.toList)))
 |.lss=>K (.v .bool (Op.bytesLess a.toList b.toList))
 |.leq=>K (.v .bool (Op.bytesLess a.toList b.toList||a.toList==b.toList))
 |.gtr=>K (.v .bool (!(Op.bytesLess a.toList b.toList||a.toList==b.toList)))
 |.geq=>K (.v .bool (!Op.bytesLess a.toList b.toList))
 |_=>none
def kindsOk(op:BinOp)(k k':IntKind):Bool:=
 match op with
 |.shl=>true
 |.shr=>true
 |_=>decide (k=k')
def binAct(op:BinOp)(x y:AVal)(K:AVal→Option R):Option R:=
 match x,y with
 |.v (.int k) a,.v (.int k') b=>ifT (kindsOk op k k') (binInt op k a b K) none
 |.v .str a,.v .str b=>binStr op a b K
 |.v .bool a,.v .bool b=>match op with
  |.eql=>K (.v .bool (a==b))
  |.neq=>K (.v .bool (!(a==b)))
  |_=>none
 |_,_=>none
/-- two structs of plain parts, part by part -/
def eqAs:List (Nat×Kd)→List AVal→List AVal→Option Bool
 |[],[],[]=>some true
 |p::fs,x::xs,y::ys=>match eqAs fs xs ys with
  |none=>none
  |some r=>match p.2,x,y with
   |.int _,.v (.int k) a,.v (.int k') b=>ifT (decide (k=k')) (some ((a==b)&&r)) none
   |.str,.v .str a,.v .str b=>some ((a.toList==b.toList)&&r)
   |.bool,.v .bool a,.v .bool b=>some ((a==b)&&r)
   |_,_,_=>none
 |_,_,_=>none
def aggAct(fs:List (Nat×Kd))(op:BinOp)(cs ds:List AVal)(K:AVal→Option R):Option R:=
 match eqAs fs cs ds with
 |none=>none
 |some b=>match op with
  |.eql=>K (.v .bool b)
  |.neq=>K (.v .bool (!b))
  |_=>none
/-- an error against nil -/
def errAct(op:BinOp)(x:AVal)(K:AVal→Option R):Option R:=
 match x with
 |.v .err a=>match op with
  |.eql=>K (.v .bool a)
  |.neq=>K (.v .bool (!a))
  |_=>none
 |_=>none
/-- the bounds of a cut -/
def bounds(n:Nat)(l h:Option AVal)(K:Nat→Nat→Option R):Option R:=
 match l,h with
 |none,none=>K 0 n
 |some (.v (.int _) l),none=>if 0≤l∧l≤(n:Int) then K l.toNat n else none
 |none,some (.v (.int _) h)=>if 0≤h∧h≤(n:Int) then K 0 h.toNat else none
 |some (.v (.int _) l),some (.v (.int _) h)=>if 0≤l∧l≤h∧h≤(n:Int) then K l.toNat h.toNat else none
 |_,_=>none
/-- the parts of a struct that is built -/
def putParts(E:Env)(t:Nat):List (Nat×AVal)→List AVal→Option (List AVal)
 |[],cs=>some cs
 |p::ps,cs=>match fldOf E t p.1 with
  |none=>none
  |some ck=>ifT (okV p.2) (ifEq (lenA p.2.cells) ck.2.size (ifT (Nat.ble (ck.1+lenA p.2.cells) (lenA cs)) (putParts E t ps (appA (takeA ck.1 cs) (appA p.2.cells (dropA (ck.1+lenA p.2.cells) cs)))) none) none) none
/-- operations that look at no memory -/
def vact(E:Env)(op:Op)(ρ:Operand→AVal)(K:AVal→Option R):Option R:=
 match op with
 |.move x=>K (ρ x)
 |.assign x=>K (ρ x)
 |.build t ps=>match kdOf E t with
  |some (.pair p q)=>ifT (noArr E t) (match putParts E t (mapA (fun p=>(p.1,ρ p.2)) ps.toList) (Kd.pair p q).zeros with
   |some cs=>K (.agg cs)
   |none=>none) none
  |_=>none
 |.pick c a b=>match ρ c with
  |.v .bool t=>bif t then K (ρ a) else K (ρ b)
  |_=>none
 |.binOp op t x y _=>match y with
  |.const .nilIface=>ifT (okT E t .err) (errAct op (ρ x) K) none
  |_=>match aggV (ρ x) with
   |true=>match eqFs E t with
    |some fs=>ifT (aggV (ρ y)) (aggAct fs op (ρ x).cells (ρ y).cells K) none
    |none=>none
   |false=>match ρ x with
    |.v .bool _=>ifT (okT E t .bool) (binAct op (ρ x) (ρ y) K) none
    |_=>binAct op (ρ x) (ρ y) K
 |.unOp op _ x=>match op,ρ x with
  |.neg,.v (.int k) n=>K (.v (.int k) (k.wrap (0-n)))
  |.not,.v .bool b=>K (.v .bool (!b))
  |_,_=>none
 |.convert src dst x=>match kdOf E src,kdOf E dst,ρ x with
  |some _,some (.int k),.v (.int _) n=>K (.v (.int k) (k.wrap n))
  |_,_,_=>none
 |.extract x i=>match ρ x with
  |.tup vs=>match getA none (mapA some vs) i with|some y=>K y|none=>none
  |_=>none
 |.nilCheck x=>match ρ x with
  |.ptr t c=>K (.ptr t c)
  |.fp k x=>K (.fp k x)
  |_=>none
 |.fieldAddr s x f=>match fldOf E s f with
  |none=>none
  |some ck=>match ρ x with
   |.ptr t c=>K (.ptr t (c+ck.1))
   |.ep t i c=>K (.ep t i (c+ck.1))
   |.fp k y=>match Kd.at ck.2 k ck.1 with|some gs=>K (.fp ck.2 (gs.1 y))|none=>none
   |_=>none
 |.field s x f=>match fldOf E s f with
  |none=>none
  |some ck=>match ρ x with
   |.v k y=>ifT k.isAgg (match Kd.at ck.2 k ck.1 with|some gs=>K (.v ck.2 (gs.1 y))|none=>none) none
   |.agg cs=>match ck.2 with
    |.pair a b=>K (.agg (takeA (Kd.pair a b).size (dropA ck.1 cs)))
    |_=>match getA none (mapA some cs) ck.1 with|some y=>K y|none=>none
   |_=>none
 |.indexAddr ty x i=>match ρ x,ρ i with
  |.v (.sl k) xs,.v (.int _) i=>ifT (okT E ty (.sl k)) (if 0≤i∧i<(List.length (α:=k.T) xs:Int) then K (.fp k (List.getD (α:=k.T) xs i.toNat k.dflt)) else none) none
  |.ref k t off len,.v (.int _) i=>ifT (okT E ty (.sl k)) (if 0≤i∧i<(len:Int) then K (.ep t (off+i.toNat) 0) else none) none
  |.ptr t c,.v (.int _) i=>match arrOf E ty with
   |some nk=>ifEq c 0 (if 0≤i∧i<(nk.1:Int) then K (.pi t nk.1 i.toNat) else none) none
   |none=>none
  |_,_=>none
 |.index ty x i=>match okT E ty .str,ρ x,ρ i with
  |true,.v .str s,.v (.int _) i=>if 0≤i∧i<(s.size:Int) then K (.v (.int .u8) ((s.data.getD i.toNat 0).toNat:Int)) else none
  |false,x,.v (.int _) i=>match arrOf E ty with
   |some nk=>ifEq (lenA x.cells) nk.1 (ifT (isAggV x) (match cellsT nk.2 x.cells with
    |some xs=>if 0≤i∧i<(nk.1:Int) then K (.v nk.2 (List.getD (α:=nk.2.T) xs i.toNat nk.2.dflt)) else none
    |none=>none) none) none
   |none=>none
  |_,_,_=>none
 |.slice ty x lo hi none=>match ρ x with
  |.v .str s=>ifT (okT E ty .str) (bounds s.size (lo.map ρ) (hi.map ρ) fun l h=>K (.v .str (s.extract l h))) none
  |.v (.sl k) xs=>ifT (okT E ty (.sl k)) (bounds (List.length (α:=k.T) xs) (lo.map ρ) (hi.map ρ) fun l h=>K (.v (.sl k) ((List.drop (α:=k.T) l xs).take (h-l)))) none
  |.ref k t off len=>ifT (okT E ty (.sl k)) (bounds len (lo.map ρ) (hi.map ρ) fun l h=>K (.ref k t (off+l) (h-l))) none
  |_=>none
 |.slice ty x none (some hi) (some mx)=>match ρ x,ρ hi,ρ mx with
  |.ref k t off len,.v (.int _) h,.v (.int _) m=>ifT (okT E ty (.sl k)) (if 0≤h∧h≤(len:Int)∧m=h then K (.ref k t off h.toNat) else none) none
  |_,_,_=>none
 |.call {callee:=.builtin .len,args,argTypes}=>match args.toList,argTypes.toList with
  |[x],ty::_=>match ρ x with
   |.v .str s=>ifT (okT E ty .str) (K (.v (.int .i64) (s.size:Int))) none
   |.v (.sl k) xs=>ifT (okT E ty (.sl k)) (K (.v (.int .i64) (List.length (α:=k.T) xs:Int))) none
   |.ref k _ _ len=>ifT (okT E ty (.sl k)) (K (.v (.int .i64) (len:Int))) none
   |.nil=>match kdOf E ty with|some (.sl _)=>K (.v (.int .i64) (0:Int))|_=>none
   |_=>none
  |_,_=>none
 |.call {callee:=.builtin .min,args,..}=>match args.toList with
  |[x,y]=>match ρ x,ρ y with
   |.v (.int k) x,.v (.int _) y=>K (.v (.int k) (if y<x then y else x))
   |_,_=>none
  |[x,y,z]=>match ρ x,ρ y,ρ z with
   |.v (.int k) x,.v (.int _) y,.v (.int _) z=>K (.v (.int k) (if z<(if y<x then y else x) then z else(if y<x then y else x)))
   |_,_,_=>none
  |_=>none
 |.call {callee:=.builtin .max,args,..}=>match args.toList with
  |[x,y]=>match ρ x,ρ y with
   |.v (.int k) x,.v (.int _) y=>K (.v (.int k) (if y>x then y else x))
   |_,_=>none
  |[x,y,z]=>match ρ x,ρ y,ρ z with
   |.v (.int k) x,.v (.int _) y,.v (.int _) z=>K (.v (.int k) (if z>(if y>x then y else x) then z else(if y>x then y else x)))
   |_,_,_=>none
  |_=>none
 |_=>none

/-! ### results of calls -/
/-- a result's rows get tokens -/
def thawL(d:Nat):(k:Kd)→k.T→Nat→List AVal×List (Nat×Row)×Nat
 |.unit,_,j=>([],[],j)
 |.pair a b,x,j=>
  let r:=thawL d a x.1 j
  let q:=thawL d b x.2 r.2.2
  (appA r.1 q.1,appA r.2.1 q.2.1,q.2.2)
 |.sl k,xs,j=>([.ref k (d*16+j) 0 (List.length (α:=k.T) xs)],[(d*16+j,.arr k xs false)],j+1)
 |k,x,j=>([.v k x],[],j)
def thaw1(d:Nat)(k:Kd)(x:k.T)(j:Nat):AVal×List (Nat×Row)×Nat:=
 match k,x with
 |.pair a b,x=>let r:=thawL d (.pair a b) x j;(.agg r.1,r.2)
 |.sl k,xs=>(.ref k (d*16+j) 0 (List.length (α:=k.T) xs),[(d*16+j,.arr k xs false)],j+1)
 |k,x=>(.v k x,[],j)
def thaws(d:Nat):(ks:List Kd)→OutsT ks→Nat→List AVal×List (Nat×Row)
 |[],_,_=>([],[])
 |[k],x,j=>let r:=thaw1 d k x j;([r.1],r.2.1)
 |k::k'::ks,x,j=>
  let r:=thaw1 d k x.1 j
  let q:=thaws d (k'::ks) x.2 r.2.2
  (r.1::q.1,appA r.2.1 q.2)
def asIs:(ks:List Kd)→OutsT ks→List AVal
 |[],_=>[]
 |[k],x=>[.v k x]
 |k::k'::ks,x=>.v k x.1::asIs (k'::ks) x.2
def one:List AVal→AVal
 |[x]=>x
 |xs=>.tup xs
def St.setHs(S:St):List (Nat×Row)→St
 |[]=>S
 |x::l=>(S.setH x.1 x.2).setHs l
def allFree(H:Nat→Option Row):List (Nat×Row)→Bool
 |[]=>true
 |x::l=>ifT (isFree H x.1) (allFree H l) false
def St.got(S:St)(d:Option Nat)(own:Bool)(ks:List Kd)(x:OutsT ks)(K:St→Option R):Option R:=
 ifT own
  (match d with
  |some d'=>let r:=thaws d' ks x 0;ifT (allFree S.heap r.2) (K ((S.setHs r.2).put d (one r.1))) none
  |none=>K S)
  (K (S.put d (one (asIs ks x))))
def gather(st:Bool)(H:Nat→Option Row):(ps:List Prm)→List AVal→Option (PrmsT ps)
 |[],[]=>some ()
 |.v k::ps,a::rest=>match toT st H k a with
  |some x=>match gather st H ps rest with|some r=>some (x,r)|none=>none
  |none=>none
 |_,_=>none
/-- a new row -/
def St.new(S:St)(d:Option Nat)(r:Row)(f:Nat→AVal)(K:St→Option R):Option R:=
 match d with
 |some d'=>ifT (isFree S.heap (d'*16)) (K ((S.setH (d'*16) r).put d (f (d'*16)))) none
 |none=>none
def elems(H:Nat→Option Row)(k:Kd):List AVal→Option (List k.T)
 |[]=>some []
 |x::l=>match toT true H k x with
  |some y=>match elems H k l with|some ys=>some (y::ys)|none=>none
  |none=>none

def ksT(H:Nat→Option Row):(ks:List Kd)→List AVal→Option (KsT ks)
 |[],[]=>some ()
 |k::ks,a::rest=>match toT false H k a with
  |some x=>match ksT H ks rest with|some r=>some (x,r)|none=>none
  |none=>none
 |_,_=>none
/-- a function value itself, no cell where one stands -/
def direct:List Kd→Bool
 |.unit::_=>false
 |_=>true
def callV(d:Option Nat)(S:St)(a:AVal)(vs:List AVal)(K:St→Option R):Option R:=
 match a with
 |.clo ki ko φ=>ifT (ifT ko.flat1 (direct ki) false) (match ksT S.heap ki vs with
  |some xs=>(φ xs).bind fun r=>K (S.put d (.v ko r))
  |none=>none) none
 |_=>none
/-- a function value is loaded from its cell -/
def ldClo(E:Env)(t:Nat)(x:AVal):Option AVal:=
 match x with
 |.clo (.unit::ki) ko φ=>ifEq (E.sp t) 1 (ifT (direct ki) (some (.clo ki ko fun x=>φ ((),x))) none) none
 |_=>none
def inOrder:Nat→List (Nat×Operand)→Bool
 |_,[]=>true
 |n,p::l=>ifEq p.1 n (inOrder (n+1) l) false
/-- an operation -/
def step(E:Env)(o:Oper)(S:St)(K:St→Option R):Option R:=
 match o.op with
 |.box _ x=>ifT (okV (S.eval x)) (S.new o.dst (.box (S.eval x).cells) (.ptr · 0) K) none
 |.alloc t=>match kdOf E t with
  |some k=>S.new o.dst (.box k.zeros) (.ptr · 0) K
  |none=>none
 |.load t x=>match kdOf E t with
  |none=>match ldClo E t (S.eval x) with|some y=>K (S.put o.dst y)|none=>none
  |some k'=>match S.eval x with
   |.ptr t c=>match S.heap t with
    |some (.box cs)=>match k' with
     |.pair a b=>ifT (Nat.ble (c+(Kd.pair a b).size) (lenA cs)) (K (S.put o.dst (.agg (takeA (Kd.pair a b).size (dropA c cs))))) none
     |.unit=>none
     |_=>match getA none (mapA some cs) c with|some y=>K (S.put o.dst y)|none=>none
    |_=>none
   |.ep t i c=>match S.heap t with
    |some (.arr k xs _)=>match Kd.at k' k c with|some gs=>K (S.put o.dst (.v k' (gs.1 (List.getD (α:=k.T) xs i k.dflt))))|none=>none
    |_=>none
   |.pi t n i=>match S.heap t with
    |some (.box cs)=>ifT (ifT k'.isAgg false (Nat.ble n (lenA cs))) (match cellsT k' (takeA n cs) with
     |some xs=>K (S.put o.dst (.v k' (List.getD (α:=k'.T) xs i k'.dflt)))
     |none=>none) none
    |_=>none
   |.fp k y=>match Kd.at k' k 0 with|some gs=>K (S.put o.dst (.v k' (gs.1 y)))|none=>none
   |_=>none
 |.store t x y=>match kdOf E t with
  |none=>none
  |some k'=>match S.eval x with
   |.ptr t c=>match S.heap t with
    |some (.box cs)=>let ys:=(S.eval y).cells
     ifT (okV (S.eval y)) (ifT (leafVs ys) (ifEq (lenA ys) k'.size (ifT (Nat.ble (c+lenA ys) (lenA cs)) (K ((S.setH t (.box (appA (takeA c cs) (appA ys (dropA (c+lenA ys) cs))))).put o.dst .undef)) none) none) none) none
    |_=>none
   |.ep t i c=>match sealV S.heap (S.eval y) t with
    |some (.arr k xs false)=>match Kd.at k' k c,toT true (sealV S.heap (S.eval y)) k' (S.eval y) with
     |some gs,some y'=>K (({S with heap:=sealV S.heap (S.eval y)}.setH t (.arr k (List.set (α:=k.T) xs i (gs.2 (List.getD (α:=k.T) xs i k.dflt) y')) false)).put o.dst .undef)
     |_,_=>none
    |_=>none
   |.pi t n i=>match S.heap t with
    |some (.box cs)=>ifT (ifT k'.isAgg false (Nat.ble n (lenA cs))) (match S.eval y with
     |.v ky y0=>match castK (k:=ky) (k':=k') y0,cellsT k' (takeA n cs) with
      |some y',some xs=>K ((S.setH t (.box (appA (putAt k' y' i 0 xs) (dropA n cs)))).put o.dst .undef)
      |_,_=>none
     |_=>none) none
    |_=>none
   |_=>none
 |.makeSlice t l c=>match E.ty t,S.eval l,S.eval c with
  |some d,.v (.int _) l,.v (.int _) c=>
   ifT (okT E t (.sl d.elt)) (if 0≤l∧l=c∧c*d.bytes≤140737488355328 then S.new o.dst (.arr d.elt (List.replicate l.toNat d.elt.dflt) false) (.ref d.elt · 0 l.toNat) K else none) none
  |_,_,_=>none
 |.buildSlice t n parts=>match E.ty t with
  |some d=>let vs:=mapA (fun p=>S.eval p.2) parts.toList
   let H:=sealVs S.heap vs
   match elems H d.elt vs with
   |some xs=>ifT (okT E t (.sl d.elt)) (ifT (inOrder 0 parts.toList) (ifT (Nat.ble (n*d.elt.size) 1000) (ifEq (lenA xs) n ({S with heap:=H}.new o.dst (.arr d.elt xs false) (.ref d.elt · 0 n) K) none) none) none) none
   |none=>none
  |none=>none
 |.call {callee:=.builtin .append,args,argTypes}=>match args.toList,argTypes.toList with
  |[s,x],t::t2::_=>match E.ty t with
   |none=>none
   |some d=>ifT (ifT (okT E t (.sl d.elt)) (okT E t2 (.sl d.elt)) false) (match S.eval s,srcT S.heap d.elt (S.eval x) with
    |.nil,some ys=>if List.length (α:=d.elt.T) ys*d.bytes≤140737488355328 then
      S.new o.dst (.arr d.elt ys false) (.ref d.elt · 0 (List.length (α:=d.elt.T) ys)) K else none
    |.ref _ t off len,some ys=>match S.heap t with
     |some (.arr k xs ao)=>match castK (k:=.sl k) (k':=.sl d.elt) xs with
      |some xs=>
       if off+len=List.length (α:=d.elt.T) xs∧(len+List.length (α:=d.elt.T) ys)*d.bytes≤140737488355328 then
        (S.setH t .dead).new o.dst (.arr d.elt (List.drop (α:=d.elt.T) off xs++ys) ao) (.ref d.elt · 0 (len+List.length (α:=d.elt.T) ys)) K
       else none
      |none=>none
     |_=>none
    |_,_=>none) none
  |_,_=>none
 |.call {callee:=.builtin .copy,args,argTypes}=>match args.toList,argTypes.toList with
  |[s,x],t::t2::_=>match E.ty t with
   |none=>none
   |some d=>ifT (ifT (okT E t (.sl d.elt)) (ifT (okT E t2 (.sl d.elt)) (Nat.beq d.elt.size 1) false) false) (match S.eval s,srcT S.heap d.elt (S.eval x) with
    |.ref _ t off len,some ys=>match S.heap t with
     |some (.arr k xs false)=>match castK (k:=.sl k) (k':=.sl d.elt) xs with
      |some xs=>K ((S.setH t (.arr d.elt (List.take (α:=d.elt.T) off xs++(List.take (α:=d.elt.T) len ys++List.drop (α:=d.elt.T) (off+List.length (List.take (α:=d.elt.T) len ys)) xs)) false)).put o.dst (.v (.int .i64) (List.length (List.take (α:=d.elt.T) len ys):Int)))
      |none=>none
     |_=>none
    |_,_=>none) none
  |_,_=>none
 |.call {callee:=.value (.func g),args,..}=>match E.fn g with
  |none=>none
  |some f=>
   let vs:=mapA S.eval args.toList
   let loose:=ifT f.own (flats f.outs) false
   let H:=ifT loose S.heap (sealVs S.heap vs)
   match gather (ifT loose false true) H f.ps vs with
   |none=>none
   |some xs=>(f.F xs).bind fun r=>{S with heap:=H}.got o.dst f.own f.outs r K
 |.call {callee:=.value (.tmp p),args,..}=>callV o.dst S (S.eval (.tmp p)) (mapA S.eval args.toList) K
 |op=>vact E op S.eval fun x=>K (S.put o.dst x)

end
def memN(t:Nat):List Nat→Bool
 |[]=>false
 |u::l=>ifEq t u true (memN t l)
/-! ### calls that write into what is handed in -/
def ioBackL(H:Nat→Option Row)(d:Nat):(k:Kd)→k.T→Nat→Option (k.T×Nat)
 |.unit,_,j=>some ((),j)
 |.pair a b,x,j=>match ioBackL H d a x.1 j with
  |some r=>match ioBackL H d b x.2 r.2 with|some q=>some ((r.1,q.1),q.2)|none=>none
  |none=>none
 |.sl k,_,j=>match H (d*16+j) with
  |some (.arr k' xs false)=>match castK (k:=.sl k') (k':=.sl k) xs with|some xs=>some (xs,j+1)|none=>none
  |_=>none
 |_,x,j=>some (x,j)
def ioBack(H:Nat→Option Row):Nat→(ps:List Ar)→ArsT ps→Option (IosT ps)
 |_,[],_=>some ()
 |d,.v _::ps,x=>ioBack H (d+1) ps x.2
 |d,.io k::ps,x=>match ioBackL H d k x.1 0 with
  |some r=>match ioBack H (d+1) ps x.2 with|some q=>some (r.1,q)|none=>none
  |none=>none
 |d,.bx k::ps,x=>match H (d*16) with
  |some (.box cs)=>match toTs true H k cs with
   |some (y,[])=>match ioBack H (d+1) ps x.2 with|some q=>some (y,q)|none=>none
   |_=>none
  |_=>none
def mergeM:(ps:List Ar)→ArsT ps→IosT ps→ArsT ps
 |[],_,_=>()
 |.v _::ps,x,y=>(x.1,mergeM ps x.2 y)
 |.io _::ps,x,y=>(y.1,mergeM ps x.2 y.2)
 |.bx _::ps,x,y=>(y.1,mergeM ps x.2 y.2)
def initMV:Nat→(ps:List Ar)→ArsT ps→List AVal
 |_,[],_=>[]
 |d,.v k::ps,x=>.v k x.1::initMV (d+1) ps x.2
 |d,.io k::ps,x=>(thaw1 d k x.1 0).1::initMV (d+1) ps x.2
 |d,.bx _::ps,x=>.ptr (d*16) 0::initMV (d+1) ps x.2
def rowsM:Nat→(ps:List Ar)→ArsT ps→List (Nat×Row)
 |_,[],_=>[]
 |d,.v _::ps,x=>rowsM (d+1) ps x.2
 |d,.io k::ps,x=>appA (thaw1 d k x.1 0).2.1 (rowsM (d+1) ps x.2)
 |d,.bx k::ps,x=>(d*16,.box (k.leaves x.1))::rowsM (d+1) ps x.2
def initM(ps:List Ar)(xs:ArsT ps)(n:Nat):St:={slots:=appA (initMV 12500 ps xs) (repA (n-lenA ps) .undef),heap:=assoc (rowsM 12500 ps xs)}
def bxCells(H:Nat→Option Row):Nat→List Ar→List AVal
 |_,[]=>[]
 |d,.bx _::ps=>match H (d*16) with|some (.box cs)=>appA cs (bxCells H (d+1) ps)|_=>bxCells H (d+1) ps
 |d,_::ps=>bxCells H (d+1) ps
section
variable {R : Type}
/-- data whose rows are lent -/
def ioL(H:Nat→Option Row):(k:Kd)→List AVal→List Nat→(k.T→List AVal→List Nat→Option R)→Option R
 |.unit,cs,ts,K=>K () cs ts
 |.pair a b,cs,ts,K=>ioL H a cs ts fun x cs ts=>ioL H b cs ts fun y cs ts=>K (x,y) cs ts
 |.sl k,.ref _ t off len::cs,ts,K=>ifT (memN t ts) none (ifEq off 0 (match H t with
   |some (.arr k' xs false)=>match castK (k:=.sl k') (k':=.sl k) xs with
    |some xs=>if len=List.length (α:=k.T) xs then K xs cs (appA ts [t]) else none
    |none=>none
   |_=>none) none)
 |.sl _,_,_,_=>none
 |k,.v k' x::cs,ts,K=>match castK (k:=k') (k':=k) x with|some y=>K y cs ts|none=>none
 |_,_,_,_=>none
def gatherM(H:Nat→Option Row):(ps:List Ar)→List AVal→List Nat→(ArsT ps→List Nat→Option R)→Option R
 |[],[],ts,K=>K () ts
 |.v k::ps,a::rest,ts,K=>match toT true H k a with|some x=>gatherM H ps rest ts fun y ts=>K (x,y) ts|none=>none
 |.io k::ps,a::rest,ts,K=>match a with
  |.agg cs=>ifT k.isAgg (ioL H k cs ts fun x cs ts=>match cs with|[]=>gatherM H ps rest ts fun y ts=>K (x,y) ts|_=>none) none
  |a=>ifT k.isAgg none (ioL H k [a] ts fun x cs ts=>match cs with|[]=>gatherM H ps rest ts fun y ts=>K (x,y) ts|_=>none)
 |.bx k::ps,a::rest,ts,K=>match a with
  |.ptr t c=>ifEq c 0 (ifT (memN t ts) none (match H t with
   |some (.box cs)=>match toTs true H k cs with
    |some (x,[])=>gatherM H ps rest (appA ts [t]) fun y ts=>K (x,y) ts
    |_=>none
   |_=>none)) none
  |_=>none
 |_,_,_,_=>none
/-- what is frozen before such a call -/
def sealsM(H:Nat→Option Row):List Ar→List AVal→List AVal
 |.v _::ps,a::rest=>a::sealsM H ps rest
 |.io _::ps,_::rest=>sealsM H ps rest
 |.bx _::ps,a::rest=>match a with
  |.ptr t _=>match H t with|some (.box cs)=>appA cs (sealsM H ps rest)|_=>sealsM H ps rest
  |_=>sealsM H ps rest
 |_,_=>[]
def setRows(H:Nat→Option Row):List Nat→List (Nat×Row)→Nat→Option Row
 |t::ts,r::rs=>setRows (fun p=>ifEq p t (some r.2) (H p)) ts rs
 |_,_=>H
def callM(f:FnM)(d:Option Nat)(S:St)(vs:List AVal)(K:St→Option R):Option R:=
 let H:=sealVs S.heap (sealsM S.heap f.ps vs)
 gatherM H f.ps vs [] fun xs ts=>(f.F xs).bind fun r=>
  ({S with heap:=setRows H ts (rowsM 12500 f.ps (mergeM f.ps xs r.2))}:St).got d f.own f.outs r.1 K
/-- the function that is handed in last -/
def lastFn:List Operand→Option Nat
 |[]=>none
 |[.func h]=>some h
 |_::l=>lastFn l
def initA{α:Type}:List α→List α
 |[]=>[]
 |[_]=>[]
 |x::y::l=>x::initA (y::l)
def faOk(f:FnM)(args:List Operand):Option FnM:=
 match f.fa with
 |none=>some f
 |some h=>match lastFn args with
  |some h'=>ifEq h' h (some f) none
  |none=>none
def msOf(E:Env):Op→Option FnM
 |.call {callee:=.value (.func g),args,..}=>match E.ms g with
  |some f=>faOk f args.toList
  |none=>none
 |_=>none
def argsOf:Op→List Operand
 |.call {callee:=_,args,..}=>args.toList
 |_=>[]
def margsOf(f:FnM)(op:Op):List Operand:=
 match f.fa with
 |none=>argsOf op
 |some _=>initA (argsOf op)
/-- a call that hands back a new box -/
def bsOf(E:Env):Op→Option FnB
 |.call {callee:=.value (.func g),..}=>E.bs g
 |_=>none
def callN(f:FnB)(d:Option Nat)(S:St)(vs:List AVal)(K:St→Option R):Option R:=
 match gather true (sealVs S.heap vs) f.ps vs with
 |none=>none
 |some xs=>(f.F xs).bind fun x=>({S with heap:=sealVs S.heap vs}:St).new d (.box (f.k.leaves x)) (.ptr · 0) K
/-! ### function values -/
/-- what a captured variable holds -/
def capT(H:Nat→Option Row)(k:Kd):AVal→Option k.T
 |.ptr t c=>ifEq c 0 (match H t with
  |some (.box cs)=>match toTs false H k cs with|some (y,[])=>some y|_=>none
  |_=>none) none
 |.fp k' y=>castK (k:=k') (k':=k) y
 |_=>none
/-- a function's arguments out of those that are handed in and what is captured -/
def capsT(H:Nat→Option Row):(ps:List Prm)→(ki:List Kd)→List AVal→Option (KsT ki→PrmsT ps)
 |[],[],[]=>some fun _=>()
 |.v k::ps,k'::ki,caps=>if h:k'=k then(match capsT H ps ki caps with|some m=>some fun x=>(h▸x.1,m x.2)|none=>none) else none
 |.cap k::ps,[],c::caps=>match capT H k c with
  |some y=>match capsT H ps [] caps with|some m=>some fun x=>(y,m x)|none=>none
  |none=>none
 |.clo ki ko::ps,[],.clo ki' ko' φ::caps=>if h:ki'=ki∧ko'=ko then(match capsT H ps [] caps with|some m=>some fun x=>(h.1▸h.2▸φ,m x)|none=>none) else none
 |_,_,_=>none
def fnT(H:Nat→Option Row)(f:FnA)(ki:List Kd)(ko:Kd)(caps:List AVal):Option (KsT ki→Option ko.T):=
 match f with
 |⟨ps,_,[k],F⟩=>if h:k=ko then(match capsT H ps ki caps with|some m=>some fun x=>h▸F (m x)|none=>none) else none
 |_=>none
/-- a function value as data -/
def cloT(E:Env)(H:Nat→Option Row)(ki:List Kd)(ko:Kd):AVal→Option (KsT ki→Option ko.T)
 |.clo ki' ko' φ=>if h:ki'=ki∧ko'=ko then some (h.1▸h.2▸φ) else none
 |.fn g caps=>match E.fn g with
  |some f=>ifT (ifT (ifT ko.flat true (ifT f.own ko.flat1 false)) (direct ki) false) (fnT H f ki ko caps) none
  |none=>none
 |_=>none
def kisOf:List Prm→List Kd
 |.v k::ps=>k::kisOf ps
 |_=>[]
/-- what a function value that is made is: data, if what it captures is -/
def mkClo(E:Env)(g:Nat)(caps:List AVal):AVal:=
 match caps with
 |[]=>.fn g []
 |c::l=>match E.fn g with
  |some f=>match f.outs with
   |[k]=>match cloT E (fun _=>none) (kisOf f.ps) k (.fn g (c::l)) with|some φ=>.clo (kisOf f.ps) k φ|none=>.fn g (c::l)
   |_=>.fn g (c::l)
  |none=>.fn g (c::l)
def gatherC(E:Env)(H:Nat→Option Row):(ps:List Prm)→List AVal→Option (PrmsT ps)
 |[],[]=>some ()
 |.v k::ps,a::rest=>match toT false H k a with
  |some x=>match gatherC E H ps rest with|some r=>some (x,r)|none=>none
  |none=>none
 |.clo ki ko::ps,a::rest=>match cloT E H ki ko a with
  |some x=>match gatherC E H ps rest with|some r=>some (x,r)|none=>none
  |none=>none
 |_,_=>none
def hasClo:List Prm→Bool
 |[]=>false
 |.clo _ _::_=>true
 |_::ps=>hasClo ps
/-- a call of a function that takes function values -/
def cloOf(E:Env):Op→Option FnA
 |.call {callee:=.value (.func g),..}=>match E.fn g with
  |some f=>match hasClo f.ps with|true=>some f|false=>none
  |none=>none
 |_=>none
/-- a function value is made -/
def mkOf:Op→Option (Nat×List Operand)
 |.makeFunc (.func g) first caps=>match first.toList with|[]=>some (g,caps.toList)|_=>none
 |_=>none
def callC(E:Env)(f:FnA)(d:Option Nat)(S:St)(vs:List AVal)(K:St→Option R):Option R:=
 ifT (ifT f.own (flats f.outs) false) (match gatherC E S.heap f.ps vs with
  |none=>none
  |some xs=>(f.F xs).bind fun r=>S.got d f.own f.outs r K) none
/-- bytes that become a string -/
def convOf(E:Env):Op→Option Operand
 |.convert s d x=>match kdOf E s with
  |some (.sl (.int .u8))=>match kdOf E d with
   |some .str=>some x
   |_=>none
  |_=>none
 |_=>none
def nilE(b:Bool)(x y:Option R):Option R:=
 bif b then x else y
/-- where two ways lead to the same, that -/
noncomputable def ifSame(x y z:Option R):Option R:=@ite _ (x=y) (Classical.propDecidable _) x z
/-- a comparison with nil -/
def nilOf(E:Env):Op→Option Operand
 |.binOp .eql t x (.const (.slice none _ _)) _=>match kdOf E t with
  |some (.sl _)=>some x
  |_=>none
 |_=>none
noncomputable def nilK(S:St)(d:Option Nat)(x:AVal)(K:St→Option R):Option R:=
 match x with
 |.v (.sl k) xs=>ifSame (K (S.put d (.v .bool true))) (K (S.put d (.v .bool false))) (nilE (List.isEmpty (α:=k.T) xs) none (K (S.put d (.v .bool false))))
 |_=>none
/-- a value that is used more than once, told once -/
def shareB{α:Type}(b:Bool)(x:α)(K:α→Option R):Option R:=match b with|true=>(some x).bind K|false=>K x
/-- a store into a part of an element is told once -/
def storeS(E:Env)(o:Oper)(S:St)(K:St→Option R):Option R:=
 match o.op with
 |.store t x y=>match kdOf E t with
  |none=>none
  |some k'=>match S.eval x with
   |.ptr _ _=>step E o S K
   |.pi _ _ _=>step E o S K
   |.ep t i c=>match sealV S.heap (S.eval y) t with
    |some (.arr k xs false)=>match Kd.at k' k c,toT true (sealV S.heap (S.eval y)) k' (S.eval y) with
     |some gs,some y'=>shareB (!decide (k'=k)) (List.set (α:=k.T) xs i (gs.2 (List.getD (α:=k.T) xs i k.dflt) y')) fun ys=>K (({S with heap:=sealV S.heap (S.eval y)}.setH t (.arr k ys false)).put o.dst .undef)
     |_,_=>none
    |_=>none
   |_=>none
 |_=>step E o S K
end
/-! ### the state's data -/
def getC(H:Nat→Option Row)(used:List Nat):(c:Cf)→AVal→Option (c.T×List Nat)
 |.drop,_=>some ((),used)
 |.val k,x=>match toT true H k x with|some y=>some (y,used)|none=>none
 |.own k t ao,x=>match x with
  |.nil=>ifT (Nat.blt t 200000) (some ([],used)) none
  |.ref _ t0 off len=>ifT (memN t0 used) none (ifT (nameB t0 t) (match H t0 with
   |some (.arr k' xs ao')=>match castK (k:=.sl k') (k':=.sl k) xs with
    |some xs=>match ao,ao' with
     |false,false=>ifT (Nat.blt t 200000) (some ((List.drop (α:=k.T) off xs).take len,t0::used))
       (ifEq off 0 (if len=List.length (α:=k.T) xs then some (xs,t0::used) else none) none)
     |true,_=>ifT (Nat.blt t 200000) (if off+len=List.length (α:=k.T) xs then some (List.drop (α:=k.T) off xs,t0::used) else none) none
     |false,true=>none
    |none=>none
   |_=>none) none)
  |_=>none
def getCs(H:Nat→Option Row):(cs:List Cf)→List AVal→List Nat→Option (CfsT cs×List Nat)
 |[],[],used=>some ((),used)
 |.drop::cs,_::xs,used=>getCs H cs xs used
 |.val k::cs,x::xs,used=>match getC H used (.val k) x with
  |some p=>match getCs H cs xs p.2 with|some q=>some ((p.1,q.1),q.2)|none=>none
  |none=>none
 |.own k t ao::cs,x::xs,used=>match getC H used (.own k t ao) x with
  |some p=>match getCs H cs xs p.2 with|some q=>some ((p.1,q.1),q.2)|none=>none
  |none=>none
 |_,_,_=>none
def getF(H:Nat→Option Row)(used:List Nat):(f:Fm)→AVal→Option (f.T×List Nat)
 |.cell c,x=>getC H used c x
 |.box t cs,x=>match x with
  |.ptr t0 c0=>ifEq c0 0 (ifT (memN t0 used) none (ifT (nameB t0 t) (match H t0 with
   |some (.box xs)=>getCs H cs xs (t0::used)
   |_=>none) none)) none
  |_=>none
 |.agg cs,x=>match x with
  |.agg xs=>getCs H cs xs used
  |_=>none
 |.tup cs,x=>match x with
  |.tup xs=>getCs H cs xs used
  |_=>none
 |.clo ki ko,x=>match x with
  |.clo ki' ko' φ=>if h:ki'=ki∧ko'=ko then some (h.1▸h.2▸φ,used) else none
  |_=>none
 |.fp k,x=>match x with
  |.fp k' y=>match castK (k:=k') (k':=k) y with|some y=>some (y,used)|none=>none
  |_=>none
 |.ali _ _,_=>some ((),used)
 |.fnv _ _,_=>some ((),used)
def getFs(H:Nat→Option Row):(fs:List Fm)→List AVal→List Nat→Option (FmsT fs×List Nat)
 |[],[],used=>some ((),used)
 |.cell .drop::fs,_::xs,used=>getFs H fs xs used
 |.ali _ _::fs,_::xs,used=>getFs H fs xs used
 |.fnv _ _::fs,_::xs,used=>getFs H fs xs used
 |.cell (.val k)::fs,x::xs,used=>match getF H used (.cell (.val k)) x with
  |some p=>match getFs H fs xs p.2 with|some q=>some ((p.1,q.1),q.2)|none=>none
  |none=>none
 |.cell (.own k t ao)::fs,x::xs,used=>match getF H used (.cell (.own k t ao)) x with
  |some p=>match getFs H fs xs p.2 with|some q=>some ((p.1,q.1),q.2)|none=>none
  |none=>none
 |.box t cs::fs,x::xs,used=>match getF H used (.box t cs) x with
  |some p=>match getFs H fs xs p.2 with|some q=>some ((p.1,q.1),q.2)|none=>none
  |none=>none
 |.agg cs::fs,x::xs,used=>match getF H used (.agg cs) x with
  |some p=>match getFs H fs xs p.2 with|some q=>some ((p.1,q.1),q.2)|none=>none
  |none=>none
 |.tup cs::fs,x::xs,used=>match getF H used (.tup cs) x with
  |some p=>match getFs H fs xs p.2 with|some q=>some ((p.1,q.1),q.2)|none=>none
  |none=>none
 |.clo ki ko::fs,x::xs,used=>match getF H used (.clo ki ko) x with
  |some p=>match getFs H fs xs p.2 with|some q=>some ((p.1,q.1),q.2)|none=>none
  |none=>none
 |.fp k::fs,x::xs,used=>match getF H used (.fp k) x with
  |some p=>match getFs H fs xs p.2 with|some q=>some ((p.1,q.1),q.2)|none=>none
  |none=>none
 |_,_,_=>none
/-- what is frozen -/
def frozenC:List Cf→List AVal→List AVal
 |.val _::cs,x::xs=>x::frozenC cs xs
 |_::cs,_::xs=>frozenC cs xs
 |_,_=>[]
def frozenF(H:Nat→Option Row):List Fm→List AVal→List AVal
 |.cell (.val _)::fs,x::xs=>x::frozenF H fs xs
 |.box _ cs::fs,x::xs=>match x with
  |.ptr t0 _=>match H t0 with
   |some (.box ys)=>appA (frozenC cs ys) (frozenF H fs xs)
   |_=>frozenF H fs xs
  |_=>frozenF H fs xs
 |.agg cs::fs,x::xs=>match x with
  |.agg ys=>appA (frozenC cs ys) (frozenF H fs xs)
  |_=>frozenF H fs xs
 |.tup cs::fs,x::xs=>match x with
  |.tup ys=>appA (frozenC cs ys) (frozenF H fs xs)
  |_=>frozenF H fs xs
 |_::fs,_::xs=>frozenF H fs xs
 |_,_=>[]
/-- so many slots are one's own -/
def ownN(n:Nat)(S:St):Bool:=match S.gh with|[]=>Nat.ble (lenA S.slots) n|_=>Nat.beq (lenA S.slots) n
/-- a slot holds the box of another slot -/
def aliOne(fs:List Fm)(xs:List AVal)(t p:Nat)(x:AVal):Bool:=
 match x with
 |.ptr t0 c0=>match getA .undef xs p with
  |.ptr t1 c1=>match getA none (mapA some fs) p with
   |some (.box t' _)=>Nat.beq t0 t1&&(Nat.beq t t'&&(Nat.beq c0 0&&Nat.beq c1 0))
   |_=>false
  |_=>false
 |_=>false
def capsB(fs:List Fm)(xs:List AVal):List (Nat×Nat)→List AVal→Bool
 |[],[]=>true
 |q::ts,x::cs=>ifT (aliOne fs xs q.1 q.2 x) (capsB fs xs ts cs) false
 |_,_=>false
/-- a function value, its variables boxes of other slots -/
def fnvOne(fs:List Fm)(xs:List AVal)(g:Nat)(ts:List (Nat×Nat))(x:AVal):Bool:=match x with|.fn g' cs=>ifT (Nat.beq g' g) (capsB fs xs ts cs) false|_=>false
def aliB(fs0:List Fm)(xs0:List AVal):List Fm→List AVal→Bool
 |.ali t p::fs,x::xs=>ifT (aliOne fs0 xs0 t p x) (aliB fs0 xs0 fs xs) false
 |.fnv g ts::fs,x::xs=>ifT (fnvOne fs0 xs0 g ts x) (aliB fs0 xs0 fs xs) false
 |_::fs,_::xs=>aliB fs0 xs0 fs xs
 |_,_=>true
def getS(n:Nat)(fs:List Fm)(S:St):Option (FmsT fs):=
 ifT (ifT (ownN n S) (aliB fs (appA S.slots S.gh) fs (appA S.slots S.gh)) false) (match getFs (sealVs S.heap (frozenF S.heap fs (appA S.slots S.gh))) fs (appA S.slots S.gh) [] with
 |some q=>some q.1
 |none=>none) none
/-! ### the same, in passing -/
section
variable {R : Type}
def getCK(H:Nat→Option Row)(used:List Nat):(c:Cf)→AVal→(c.T→List Nat→Option R)→Option R
 |.drop,_,K=>K () used
 |.val k,x,K=>match toT true H k x with|some y=>K y used|none=>none
 |.own k t ao,x,K=>match x with
  |.nil=>ifT (Nat.blt t 200000) (K [] used) none
  |.ref _ t0 off len=>ifT (memN t0 used) none (ifT (nameB t0 t) (match H t0 with
   |some (.arr k' xs ao')=>match castK (k:=.sl k') (k':=.sl k) xs with
    |some xs=>match ao,ao' with
     |false,false=>ifT (Nat.blt t 200000) (K ((List.drop (α:=k.T) off xs).take len) (t0::used))
       (ifEq off 0 (if len=List.length (α:=k.T) xs then K xs (t0::used) else none) none)
     |true,_=>ifT (Nat.blt t 200000) (if off+len=List.length (α:=k.T) xs then K (List.drop (α:=k.T) off xs) (t0::used) else none) none
     |false,true=>none
    |none=>none
   |_=>none) none)
  |_=>none
def getCsK(H:Nat→Option Row):(cs:List Cf)→List AVal→List Nat→(CfsT cs→List Nat→Option R)→Option R
 |[],[],used,K=>K () used
 |.drop::cs,_::xs,used,K=>getCsK H cs xs used K
 |.val k::cs,x::xs,used,K=>getCK H used (.val k) x fun y u=>getCsK H cs xs u fun z u=>K (y,z) u
 |.own k t ao::cs,x::xs,used,K=>getCK H used (.own k t ao) x fun y u=>getCsK H cs xs u fun z u=>K (y,z) u
 |_,_,_,_=>none
def getFK(H:Nat→Option Row)(used:List Nat):(f:Fm)→AVal→(f.T→List Nat→Option R)→Option R
 |.cell c,x,K=>getCK H used c x K
 |.box t cs,x,K=>match x with
  |.ptr t0 c0=>ifEq c0 0 (ifT (memN t0 used) none (ifT (nameB t0 t) (match H t0 with
   |some (.box xs)=>getCsK H cs xs (t0::used) K
   |_=>none) none)) none
  |_=>none
 |.agg cs,x,K=>match x with
  |.agg xs=>getCsK H cs xs used K
  |_=>none
 |.tup cs,x,K=>match x with
  |.tup xs=>getCsK H cs xs used K
  |_=>none
 |.clo ki ko,x,K=>match x with
  |.clo ki' ko' φ=>if h:ki'=ki∧ko'=ko then K (h.1▸h.2▸φ) used else none
  |_=>none
 |.fp k,x,K=>match x with
  |.fp k' y=>match castK (k:=k') (k':=k) y with|some y=>K y used|none=>none
  |_=>none
 |.ali _ _,_,K=>K () used
 |.fnv _ _,_,K=>K () used
def getFsK(H:Nat→Option Row):(fs:List Fm)→List AVal→List Nat→(FmsT fs→List Nat→Option R)→Option R
 |[],[],used,K=>K () used
 |.cell .drop::fs,_::xs,used,K=>getFsK H fs xs used K
 |.ali _ _::fs,_::xs,used,K=>getFsK H fs xs used K
 |.fnv _ _::fs,_::xs,used,K=>getFsK H fs xs used K
 |.cell (.val k)::fs,x::xs,used,K=>getFK H used (.cell (.val k)) x fun y u=>getFsK H fs xs u fun z u=>K (y,z) u
 |.cell (.own k t ao)::fs,x::xs,used,K=>getFK H used (.cell (.own k t ao)) x fun y u=>getFsK H fs xs u fun z u=>K (y,z) u
 |.box t cs::fs,x::xs,used,K=>getFK H used (.box t cs) x fun y u=>getFsK H fs xs u fun z u=>K (y,z) u
 |.agg cs::fs,x::xs,used,K=>getFK H used (.agg cs) x fun y u=>getFsK H fs xs u fun z u=>K (y,z) u
 |.tup cs::fs,x::xs,used,K=>getFK H used (.tup cs) x fun y u=>getFsK H fs xs u fun z u=>K (y,z) u
 |.clo ki ko::fs,x::xs,used,K=>getFK H used (.clo ki ko) x fun y u=>getFsK H fs xs u fun z u=>K (y,z) u
 |.fp k::fs,x::xs,used,K=>getFK H used (.fp k) x fun y u=>getFsK H fs xs u fun z u=>K (y,z) u
 |_,_,_,_=>none
def getSK(n:Nat)(fs:List Fm)(S:St)(K:FmsT fs→Option R):Option R:=
 ifT (ifT (ownN n S) (aliB fs (appA S.slots S.gh) fs (appA S.slots S.gh)) false) (getFsK (sealVs S.heap (frozenF S.heap fs (appA S.slots S.gh))) fs (appA S.slots S.gh) [] fun y _=>K y) none
end
/-! ### and the state of data -/
def embC:(c:Cf)→c.T→AVal×List (Nat×Row)
 |.drop,_=>(.undef,[])
 |.val k,x=>(.v k x,[])
 |.own k t ao,xs=>(.ref k t 0 (List.length (α:=k.T) xs),[(t,.arr k xs ao)])
def embCs:(cs:List Cf)→CfsT cs→List AVal×List (Nat×Row)
 |[],_=>([],[])
 |.drop::cs,x=>let q:=embCs cs x;(.undef::q.1,q.2)
 |.val k::cs,x=>let p:=embC (.val k) x.1;let q:=embCs cs x.2;(p.1::q.1,appA p.2 q.2)
 |.own k t ao::cs,x=>let p:=embC (.own k t ao) x.1;let q:=embCs cs x.2;(p.1::q.1,appA p.2 q.2)
def embF:(f:Fm)→f.T→AVal×List (Nat×Row)
 |.cell c,x=>embC c x
 |.box t cs,x=>let q:=embCs cs x;(.ptr t 0,(t,.box q.1)::q.2)
 |.agg cs,x=>let q:=embCs cs x;(.agg q.1,q.2)
 |.tup cs,x=>let q:=embCs cs x;(.tup q.1,q.2)
 |.clo ki ko,φ=>(.clo ki ko φ,[])
 |.fp k,x=>(.fp k x,[])
 |.ali _ _,_=>(.undef,[])
 |.fnv _ _,_=>(.undef,[])
def embFs:(fs:List Fm)→FmsT fs→List AVal×List (Nat×Row)
 |[],_=>([],[])
 |.cell .drop::fs,x=>let q:=embFs fs x;(.undef::q.1,q.2)
 |.ali _ _::fs,x=>let q:=embFs fs x;(.undef::q.1,q.2)
 |.fnv _ _::fs,x=>let q:=embFs fs x;(.undef::q.1,q.2)
 |.cell (.val k)::fs,x=>let p:=embF (.cell (.val k)) x.1;let q:=embFs fs x.2;(p.1::q.1,appA p.2 q.2)
 |.cell (.own k t ao)::fs,x=>let p:=embF (.cell (.own k t ao)) x.1;let q:=embFs fs x.2;(p.1::q.1,appA p.2 q.2)
 |.box t cs::fs,x=>let p:=embF (.box t cs) x.1;let q:=embFs fs x.2;(p.1::q.1,appA p.2 q.2)
 |.agg cs::fs,x=>let p:=embF (.agg cs) x.1;let q:=embFs fs x.2;(p.1::q.1,appA p.2 q.2)
 |.tup cs::fs,x=>let p:=embF (.tup cs) x.1;let q:=embFs fs x.2;(p.1::q.1,appA p.2 q.2)
 |.clo ki ko::fs,x=>let p:=embF (.clo ki ko) x.1;let q:=embFs fs x.2;(p.1::q.1,appA p.2 q.2)
 |.fp k::fs,x=>let p:=embF (.fp k) x.1;let q:=embFs fs x.2;(p.1::q.1,appA p.2 q.2)
def aliS:List Fm→List AVal→List AVal
 |.ali t _::fs,_::xs=>.ptr t 0::aliS fs xs
 |.fnv g ts::fs,_::xs=>.fn g (mapA (fun q=>.ptr q.1 0) ts)::aliS fs xs
 |_::fs,x::xs=>x::aliS fs xs
 |_,xs=>xs
def embS(n:Nat)(fs:List Fm)(x:FmsT fs):St:=let q:=embFs fs x;let l:=aliS fs q.1;{slots:=takeA n l,heap:=assoc q.2,gh:=dropA n l}
section
variable {R : Type}
def resA(E:Env)(S:St):ResultVar→Option AVal
 |.tmp t=>some (getA .undef S.slots t)
 |.cell a t=>match kdOf E t with
  |none=>none
  |some k'=>match getA .undef S.slots a with
   |.ptr t' c=>match S.heap t' with
    |some (.box cs)=>match k' with
     |.pair p q=>ifT (Nat.ble (c+(Kd.pair p q).size) (lenA cs)) (some (.agg (takeA (Kd.pair p q).size (dropA c cs)))) none
     |.unit=>none
     |_=>getA none (mapA some cs) c
    |_=>none
   |_=>none
def resAs(E:Env)(S:St):List ResultVar→Option (List AVal)
 |[]=>some []
 |x::l=>match resA E S x with
  |some v=>match resAs E S l with|some vs=>some (v::vs)|none=>none
  |none=>none
/-- a call whose code is run in place -/
def ilOf(E:Env)(d:Option Nat):Option (Nat×CallD):=match d with|some d=>E.il d|none=>none
def inlOf(E:Env)(S:St)(d:Option Nat)(op:Op):Option (CallD×List AVal):=
 match ilOf E d with
 |none=>none
 |some gc=>match op with
  |.call {callee:=.value (.func g),args,..}=>match Nat.beq g gc.1 with|true=>some (gc.2,mapA S.eval args.toList)|false=>none
  |.call {callee:=.value (.tmp p),args,..}=>match S.eval (.tmp p) with
   |.fn g caps=>match Nat.beq g gc.1 with|true=>some (gc.2,appA (mapA S.eval args.toList) caps)|false=>none
   |_=>none
  |_=>none
/-- as many as it takes -/
def arOk(a n:Nat):Bool:=match a with|0=>true|a+1=>Nat.beq n (a+1)
def callI(c:CallD)(S:St)(vs:List AVal)(K:St→Option R):Option R:=
 ifT (arOk c.ar (lenA vs)) (ifEq (lenA S.slots) c.ne (getSK c.n c.sh {slots:=appA vs (repA (c.n-lenA vs) .undef),heap:=S.heap,gh:=appA S.slots S.gh} fun s=>(c.f s).bind fun y=>K (embS c.ne c.xsh y)) none) none
/-- boxes that are never stored to, cells where a function stands -/
inductive SpOp where
 |box (k:Kd) (x:Operand)
 |alloc
 |store (p:Nat) (y:Operand)
 |bytes (s d:TypeId) (x:Operand)
/-- a text's bytes -/
def numsOf(s:ByteArray):List Int:=List.map (fun b:UInt8=>(b.toNat:Int)) s.data.toList
def spOf(E:Env)(op:Op):Option SpOp:=
 match op with
 |.box t x=>match kdOf E t with
  |some k=>ifEq (E.sp t) 2 (some (.box k x)) none
  |none=>none
 |.alloc t=>ifEq (E.sp t) 1 (some .alloc) none
 |.store t (.tmp p) y=>ifEq (E.sp t) 1 (some (.store p y)) none
 |.convert s d x=>match kdOf E s with
  |some .str=>match kdOf E d with
   |some (.sl (.int .u8))=>some (.bytes s d x)
   |_=>none
  |_=>none
 |_=>none
def spStep(q:SpOp)(o:Oper)(S:St)(K:St→Option R):Option R:=
 match q with
 |.box k x=>match S.eval x with
  |.v k' y=>ifT k.isAgg (match castK (k:=k') (k':=k) y with|some y=>K (S.put o.dst (.fp k y))|none=>none) none
  |_=>none
 |.alloc=>S.new o.dst (.box [.undef]) (.ptr · 0) K
 |.bytes _ _ x=>match S.eval x with
  |.v .str s=>S.new o.dst (.arr (.int .u8) (numsOf s) false) (fun t=>.ref (.int .u8) t 0 (List.length (numsOf s))) K
  |_=>none
 |.store p y=>match o.dst with
  |some _=>none
  |none=>match S.eval (.tmp p),S.eval y with
   |.ptr t c,.clo ki ko φ=>ifEq c 0 (match S.heap t with
    |some (.box [_])=>ifT (direct ki) (K ((S.setH t .dead).put (some p) (.clo (.unit::ki) ko fun x=>φ x.2))) none
    |_=>none) none
   |_,_=>none
/-- an operation, calls that write among them -/
noncomputable def stepM0(E:Env)(o:Oper)(S:St)(K:St→Option R):Option R:=
 match msOf E o.op with
 |some f=>callM f o.dst S (mapA S.eval (margsOf f o.op)) K
 |none=>match bsOf E o.op with
 |some f=>callN f o.dst S (mapA S.eval (argsOf o.op)) K
 |none=>match cloOf E o.op with
  |some f=>callC E f o.dst S (mapA S.eval (argsOf o.op)) K
  |none=>match mkOf o.op with
    |some gc=>K (S.put o.dst (mkClo E gc.1 (mapA S.eval gc.2)))
    |none=>match nilOf E o.op with
    |some x=>nilK S o.dst (S.eval x) K
    |none=>match convOf E o.op with
     |some x=>match toT false S.heap (.sl (.int .u8)) (S.eval x) with
      |some xs=>K (S.put o.dst (.v .str (strOfNums xs)))
      |none=>none
     |none=>match spOf E o.op with
      |some q=>spStep q o S K
      |none=>storeS E o S K
noncomputable def stepM(E:Env)(o:Oper)(S:St)(K:St→Option R):Option R:=
 match inlOf E S o.dst o.op with
 |some iv=>callI iv.1 S iv.2 K
 |none=>stepM0 E o S K
/-- operations that stand in the plain machine -/
def plainB(E:Env)(d:Option Nat)(op:Op):Bool:=
 match ilOf E d with
 |some _=>false
 |none=>match msOf E op with
  |some _=>false
  |none=>match bsOf E op with
   |some _=>false
   |none=>match cloOf E op with
    |some _=>false
    |none=>match mkOf op with
     |some _=>false
     |none=>match convOf E op with
      |some _=>false
      |none=>match nilOf E op with
       |some _=>false
       |none=>match spOf E op with
        |some _=>false
        |none=>true
end
/-- the tokens of a shape -/
def toksC:List Cf→List Nat
 |[]=>[]
 |.own _ t _::cs=>t::toksC cs
 |_::cs=>toksC cs
def toksF:List Fm→List Nat
 |[]=>[]
 |.cell (.own _ t _)::fs=>t::toksF fs
 |.box t cs::fs=>t::appA (toksC cs) (toksF fs)
 |.agg cs::fs=>appA (toksC cs) (toksF fs)
 |.tup cs::fs=>appA (toksC cs) (toksF fs)
 |_::fs=>toksF fs
def nodupN:List Nat→Bool
 |[]=>true
 |t::l=>ifT (memN t l) false (nodupN l)

section iter
variable {σ ρ : Type}
def iter(f:σ→Option (σ⊕ρ)):Nat→σ→Option ρ
 |0,_=>none
 |n+1,s=>(f s).bind fun r=>match r with|.inl s'=>iter f n s'|.inr x=>some x
/-- what a loop ends with, if it ends -/
noncomputable def loopF(f:σ→Option (σ⊕ρ))(s:σ):Option ρ:=
 open Classical in if h:∃x n,iter f n s=some x then some (Classical.choose h) else none
end iter
/-! ### exits -/
def exEq:Ex→Ex→Bool
 |.normal,.normal=>true
 |.ret,.ret=>true
 |.exit a,.exit b=>Nat.beq a b
 |_,_=>false
@[reducible] def XsT:List (Ex×List Fm)→Type
 |[]=>Empty
 |[x]=>FmsT x.2
 |x::y::xs=>FmsT x.2⊕XsT (y::xs)
def getX(n:Nat):(xs:List (Ex×List Fm))→Ex→St→Option (XsT xs)
 |[],_,_=>none
 |[x],e,S=>ifT (exEq e x.1) (getS n x.2 S) none
 |x::y::xs,e,S=>ifT (exEq e x.1) (match getS n x.2 S with|some d=>some (.inl d)|none=>none)
  (match getX n (y::xs) e S with|some d=>some (.inr d)|none=>none)
def getXK{R:Type}(n:Nat):(xs:List (Ex×List Fm))→Ex→St→(XsT xs→Option R)→Option R
 |[],_,_,_=>none
 |[x],e,S,K=>ifT (exEq e x.1) (getSK n x.2 S K) none
 |x::y::xs,e,S,K=>ifT (exEq e x.1) (getSK n x.2 S fun d=>K (.inl d)) (getXK n (y::xs) e S fun d=>K (.inr d))
def withX{R:Type}(n:Nat):(xs:List (Ex×List Fm))→XsT xs→(Ex→St→Option R)→Option R
 |[],x,_=>x.elim
 |[x],d,K=>K x.1 (embS n x.2 d)
 |x::y::xs,d,K=>match d with
  |.inl d=>K x.1 (embS n x.2 d)
  |.inr d=>withX n (y::xs) d K
def okXs:List (Ex×List Fm)→Bool
 |[]=>true
 |x::xs=>ifT (nodupN (toksF x.2)) (okXs xs) false
/-- what is told of a loop: its shape, the shapes it ends with, a round -/
structure LoopD where
 n:Nat
 sh:List Fm
 xs:List (Ex×List Fm)
 f:FmsT sh→Option (FmsT sh⊕XsT xs)
section
variable {R : Type}
/-! ### code -/
def dstOf(ops:List Oper)(j:Nat):Option Nat:=match getA none (mapA some ops) j with|some o=>o.dst|none=>none
def guarded(ops:List Oper)(o:Oper)(S:St)(yes no:St→Option R):Option R:=
 match o.guard with
 |none=>yes S
 |some jw=>match dstOf ops jw.1 with
  |some d=>match getA .undef S.slots d with
   |.v .bool b=>bif b then ifT jw.2 yes no (S.put (some d) (.v .bool true)) else ifT jw.2 no yes (S.put (some d) (.v .bool false))
   |.tup []=>no S
   |_=>none
  |none=>none
noncomputable def runOps(E:Env)(ops:List Oper):List Oper→St→(St→Option R)→Option R
 |[],S,K=>K S
 |o::os,S,K=>guarded ops o S (fun S=>stepM E o S fun S'=>runOps E ops os S' K) (fun S=>runOps E ops os (S.put o.dst (.tup [])) K)
def firstId:Code→Nat
 |.region id _ _=>id
 |.seq a _=>firstId a
 |.cond _ a _=>firstId a
 |.block _ b=>firstId b
 |.loop b=>firstId b
 |_=>0
def hasGc:List Edge→Bool
 |[]=>false
 |e::l=>match e.ground with|.gcOnly _=>true|_=>hasGc l
def hasTx:List Edge→Bool
 |[]=>false
 |e::l=>match e.ground with|.textOnly _=>true|_=>hasTx l
/-- a load and a store whose order is left open: the load's address is no box, the store's is one -/
def lateAddr(E:Env)(o:Oper):Option (Bool×Operand):=
 match o.guard with
 |some _=>none
 |none=>match o.op with
  |.load t x=>match kdOf E t with
   |some (.pair _ _)=>ifT (hasGc o.after.toList) (some (true,x)) none
   |_=>none
  |.store t x _=>match kdOf E t with
   |some (.pair _ _)=>match o.dst with
    |none=>ifT (hasTx o.after.toList) (some (false,x)) none
    |some _=>none
   |_=>none
  |_=>none
def lateL(E:Env):List Oper→Bool
 |[]=>false
 |o::l=>match lateAddr E o with|some q=>ifT q.1 true (lateL E l)|none=>lateL E l
def lateS(E:Env):List Oper→Bool
 |[]=>false
 |o::l=>match lateAddr E o with|some q=>ifT q.1 (lateS E l) true|none=>lateS E l
def lateR(E:Env)(ops:List Oper):Bool:=ifT (lateL E ops) (lateS E ops) false
/-- where what is handed to a call that writes comes from -/
def movedFrom:List Oper→Nat→List Nat
 |[],p=>[p]
 |o::l,p=>match o.dst with
  |some d=>ifEq d p (match o.op with|.move (.tmp b)=>[b]|_=>[]) (movedFrom l p)
  |none=>movedFrom l p
def tmpsFrom(ops:List Oper):List Operand→List Nat
 |[]=>[]
 |.tmp p::l=>appA (movedFrom ops p) (tmpsFrom ops l)
 |_::l=>tmpsFrom ops l
def basesL(E:Env)(ops:List Oper):List Oper→List Nat
 |[]=>[]
 |o::l=>match msOf E o.op with
  |some f=>appA (tmpsFrom ops (margsOf f o.op)) (basesL E ops l)
  |none=>basesL E ops l
def slKd:Kd→Bool
 |.sl _=>true
 |_=>false
def slLoad(E:Env)(o:Oper):Option Operand:=
 match o.guard with
 |some _=>none
 |none=>match o.op with
  |.load t x=>match kdOf E t with
   |some (.sl _)=>some x
   |some (.int _)=>some x
   |_=>none
  |_=>none
/-- a row's reference is loaded -/
def rowLoad(E:Env)(o:Oper):Bool:=
 match slLoad E o with
 |some _=>match o.op with
  |.load t _=>match kdOf E t with
   |some k=>slKd k
   |none=>false
  |_=>false
 |none=>false
def hasSlLoad(E:Env):List Oper→Bool
 |[]=>false
 |o::l=>ifT (rowLoad E o) true (hasSlLoad E l)
/-- a row's reference is loaded after a call that writes -/
def lateRow(E:Env):Bool→List Oper→Bool
 |_,[]=>false
 |b,o::l=>ifT (rowLoad E o) (ifT b true (lateRow E b l)) (match msOf E o.op with|some _=>lateRow E true l|none=>lateRow E b l)
def hasApp:List Oper→Bool
 |[]=>false
 |o::l=>match o.op with|.call {callee:=.builtin .append,..}=>true|_=>hasApp l
/-- nothing here writes the place -/
def noDst(p:Nat):List Oper→Bool
 |[]=>true
 |o::l=>match o.dst with|some d=>ifEq d p false (noDst p l)|none=>noDst p l
/-- where the addresses of late stores stand, if all stood there before -/
def lateTo(E:Env)(ops:List Oper):List Oper→Option (List Nat)
 |[]=>some []
 |o::l=>match lateAddr E o with
  |some q=>ifT q.1 (lateTo E ops l) (match q.2 with
   |.tmp p=>ifT (noDst p ops) (match lateTo E ops l with|some c=>some (p::c)|none=>none) none
   |_=>none)
  |none=>lateTo E ops l
/-- places that are looked at: where what is handed to calls that write comes from, where late stores write to -/
structure Bas where
 b:List Nat
 s:Option (List Nat)
def basesOf(E:Env)(ops:List Oper):Bas:=⟨ifT (ifT (hasSlLoad E ops) (ifT (hasApp ops) true (lateRow E false ops)) false) (basesL E ops ops) [],lateTo E ops ops⟩
def tokB(S:St):List Nat→List Nat
 |[]=>[]
 |b::l=>match getA .undef S.slots b with|.ptr t _=>t::tokB S l|_=>tokB S l
def ptrIn(ts:List Nat):List AVal→Bool
 |[]=>true
 |.ptr t _::l=>ifT (memN t ts) (ptrIn ts l) false
 |_::l=>ptrIn ts l
def lateBad(E:Env)(C:Option (List Nat))(o:Oper)(S:St):Bool:=
 match lateAddr E o with
 |none=>false
 |some q=>match S.eval q.2 with
  |.ptr t _=>ifT q.1 (match C with|some c=>memN t (tokB S c)|none=>true) false
  |.pi _ _ _=>true
  |_=> !q.1
/-- a load of a row's reference beside a call that writes: not out of the boxes that the call is handed -/
def refBad(E:Env)(B:List Nat)(o:Oper)(S:St):Bool:=
 match B with
 |[]=>false
 |b::l=>match slLoad E o with
  |some x=>match S.eval x with
   |.ptr t _=>memN t (tokB S (b::l))
   |_=>true
  |none=>match msOf E o.op with
   |some f=>ifT (ptrIn (tokB S (b::l)) (mapA S.eval (margsOf f o.op))) false true
   |none=>false
def badB(E:Env)(B:Bas)(o:Oper)(S:St):Bool:=ifT (lateBad E B.s o S) true (refBad E B.b o S)
def someB:List Nat→Bool
 |[]=>false
 |_=>true
def openR(E:Env)(ops:List Oper):Bool:=ifT (lateR E ops) true (someB (basesOf E ops).b)
noncomputable def runOpsL(E:Env)(B:Bas)(ops:List Oper):List Oper→St→(St→Option R)→Option R
 |[],S,K=>K S
 |o::os,S,K=>ifT (badB E B o S) none (guarded ops o S (fun S=>stepM E o S fun S'=>runOpsL E B ops os S' K) (fun S=>runOpsL E B ops os (S.put o.dst (.tup [])) K))
noncomputable def regRun(E:Env)(ops:List Oper)(dr:Bool)(S:St)(K:St→Option R):Option R:=
 ifT (ifT dr (openR E ops) false) (runOpsL E (basesOf E ops) ops ops S K) (runOps E ops ops S K)
noncomputable def run(E:Env)(L:Nat→Option LoopD):Code→St→(Ex→St→Option R)→Option R
 |.skip,S,K=>K .normal S
 |.label _,S,K=>K .normal S
 |.region _ ops dr,S,K=>regRun E ops.toList dr S (K .normal)
 |.seq a b,S,K=>run E L a S fun e S'=>match e with|.normal=>run E L b S' K|e=>K e S'
 |.cond c a b,S,K=>match S.eval c with
  |.v .bool t=>bif t then run E L a S K else run E L b S K
  |_=>none
 |.block id b,S,K=>run E L b S fun e S'=>match e with|.exit j=>ifEq j id (K .normal S') (K (.exit j) S')|e=>K e S'
 |.loop b,S,K=>match L (firstId b) with
  |some d=>getSK d.n d.sh S fun s=>(loopF d.f s).bind fun x=>withX d.n d.xs x K
  |none=>none
 |.exit id,S,K=>K (.exit id) S
 |.ret,S,K=>K .ret S
 |_,_,_=>none
end
end Go.Proofs.YthkflageghfbgaaGreatDoor.Am
/- Shapes read in passing. -/
namespace Go.Proofs.YthkflageghfbgaaGreatDoor.Am
open Go
section
variable {R : Type} {H : Nat → Option Row}
theorem iT{α:Type}(x y:α):ifT true x y=x:=rfl
theorem iF{α:Type}(x y:α):ifT false x y=y:=rfl
theorem getCK_eq{used:List Nat}:∀{c:Cf} {x:AVal} {K:c.T→List Nat→Option R},getCK H used c x K=(getC H used c x).bind fun p=>K p.1 p.2
 |.drop,_,_=>rfl
 |.val k,x,K=>by
  simp only[getCK,getC];cases toT true H k x<;>rfl
 |.own k t ao,x,K=>by
  simp only[getCK,getC];cases x<;>try rfl
  case nil=>cases Nat.blt t 200000<;>rfl
  case ref k2 t0 off len=>
   dsimp only
   cases memN t0 used
   ·rw[iF,iF];cases nameB t0 t
    ·rfl
    ·rw[iT,iT];split
     ·split
      ·split
       ·cases Nat.blt t 200000
        ·rw[iF,iF];unfold ifEq;cases Nat.beq off 0
         ·rfl
         ·rw[iT,iT];split<;>rfl
        ·rfl
       ·cases Nat.blt t 200000
        ·rfl
        ·rw[iT,iT];split<;>rfl
       ·rfl
      ·rfl
     ·rfl
   ·rfl
theorem getCsK_eq:∀{cs:List Cf} {xs:List AVal} {used:List Nat} {K:CfsT cs→List Nat→Option R},getCsK H cs xs used K=(getCs H cs xs used).bind fun p=>K p.1 p.2
 |[],[],_,_=>rfl
 |[],_::_,_,_=>rfl
 |.drop::cs,[],_,_=>rfl
 |.val _::cs,[],_,_=>rfl
 |.own ..::cs,[],_,_=>rfl
 |.drop::cs,_::xs,used,K=>by
  simp only[getCsK,getCs];exact getCsK_eq
 |.val k::cs,x::xs,used,K=>by
  simp only[getCsK,getCs];rw[getCK_eq];cases getC H used (.val k) x with
  |none=>rfl
  |some p=>
   simp only[Option.bind_some];rw[getCsK_eq];cases getCs H cs xs p.2<;>rfl
 |.own k t ao::cs,x::xs,used,K=>by
  simp only[getCsK,getCs];rw[getCK_eq];cases getC H used (.own k t ao) x with
  |none=>rfl
  |some p=>
   simp only[Option.bind_some];rw[getCsK_eq];cases getCs H cs xs p.2<;>rfl
theorem getFK_eq{used:List Nat}:∀{f:Fm} {x:AVal} {K:f.T→List Nat→Option R},getFK H used f x K=(getF H used f x).bind fun p=>K p.1 p.2
 |.cell c,x,K=>by simp only[getFK,getF];exact getCK_eq
 |.box t cs,x,K=>by
  simp only[getFK,getF];cases x<;>try rfl
  rename_i t0 c0;dsimp only
  unfold ifEq;cases Nat.beq c0 0
  ·rfl
  ·rw[iT,iT];cases memN t0 used
   ·rw[iF,iF];cases nameB t0 t
    ·rfl
    ·rw[iT,iT];split
     ·exact getCsK_eq
     ·rfl
   ·rfl
 |.agg cs,x,K=>by
  simp only[getFK,getF];cases x<;>try rfl
  exact getCsK_eq
 |.tup cs,x,K=>by
  simp only[getFK,getF];cases x<;>try rfl
  exact getCsK_eq
 |.clo ki ko,x,K=>by
  simp only[getFK,getF];cases x<;>try rfl
  dsimp only
  split<;>rfl
 |.fp k,x,K=>by
  simp only[getFK,getF];cases x<;>try rfl
  dsimp only
  split<;>rfl
 |.ali _ _,x,K=>by simp only[getFK,getF];rfl
 |.fnv _ _,x,K=>by simp only[getFK,getF];rfl
theorem getFsK_eq:∀{fs:List Fm} {xs:List AVal} {used:List Nat} {K:FmsT fs→List Nat→Option R},getFsK H fs xs used K=(getFs H fs xs used).bind fun p=>K p.1 p.2
 |[],[],_,_=>rfl
 |[],_::_,_,_=>rfl
 |.cell .drop::fs,[],_,_=>rfl
 |.cell (.val _)::fs,[],_,_=>rfl
 |.cell (.own ..)::fs,[],_,_=>rfl
 |.box ..::fs,[],_,_=>rfl
 |.agg _::fs,[],_,_=>rfl
 |.tup _::fs,[],_,_=>rfl
 |.clo ..::fs,[],_,_=>rfl
 |.fp _::fs,[],_,_=>rfl
 |.ali _ _::fs,[],_,_=>rfl
 |.ali _ _::fs,_::xs,used,K=>by
  simp only[getFsK,getFs];exact getFsK_eq
 |.fnv _ _::fs,[],_,_=>rfl
 |.fnv _ _::fs,_::xs,used,K=>by
  simp only[getFsK,getFs];exact getFsK_eq
 |.cell .drop::fs,_::xs,used,K=>by
  simp only[getFsK,getFs];exact getFsK_eq
 |.cell (.val k)::fs,x::xs,used,K=>by
  simp only[getFsK,getFs];rw[getFK_eq];cases getF H used (.cell (.val k)) x with
  |none=>rfl
  |some p=>
   simp only[Option.bind_some];rw[getFsK_eq];cases getFs H fs xs p.2<;>rfl
 |.cell (.own k t ao)::fs,x::xs,used,K=>by
  simp only[getFsK,getFs];rw[getFK_eq];cases getF H used (.cell (.own k t ao)) x with
  |none=>rfl
  |some p=>
   simp only[Option.bind_some];rw[getFsK_eq];cases getFs H fs xs p.2<;>rfl
 |.box t cs::fs,x::xs,used,K=>by
  simp only[getFsK,getFs];rw[getFK_eq];cases getF H used (.box t cs) x with
  |none=>rfl
  |some p=>
   simp only[Option.bind_some];rw[getFsK_eq];cases getFs H fs xs p.2<;>rfl
 |.agg cs::fs,x::xs,used,K=>by
  simp only[getFsK,getFs];rw[getFK_eq];cases getF H used (.agg cs) x with
  |none=>rfl
  |some p=>
   simp only[Option.bind_some];rw[getFsK_eq];cases getFs H fs xs p.2<;>rfl
 |.tup cs::fs,x::xs,used,K=>by
  simp only[getFsK,getFs];rw[getFK_eq];cases getF H used (.tup cs) x with
  |none=>rfl
  |some p=>
   simp only[Option.bind_some];rw[getFsK_eq];cases getFs H fs xs p.2<;>rfl
 |.clo ki ko::fs,x::xs,used,K=>by
  simp only[getFsK,getFs];rw[getFK_eq];cases getF H used (.clo ki ko) x with
  |none=>rfl
  |some p=>
   simp only[Option.bind_some];rw[getFsK_eq];cases getFs H fs xs p.2<;>rfl
 |.fp k::fs,x::xs,used,K=>by
  simp only[getFsK,getFs];rw[getFK_eq];cases getF H used (.fp k) x with
  |none=>rfl
  |some p=>
   simp only[Option.bind_some];rw[getFsK_eq];cases getFs H fs xs p.2<;>rfl
theorem getSK_eq{n:Nat}{fs:List Fm}{S:St}{K:FmsT fs→Option R}:getSK n fs S K=(getS n fs S).bind K:=by
 unfold getSK getS;cases ifT (ownN n S) (aliB fs (appA S.slots S.gh) fs (appA S.slots S.gh)) false
 ·rfl
 simp only[ifT];rw[getFsK_eq];cases getFs (sealVs S.heap (frozenF S.heap fs (appA S.slots S.gh))) fs (appA S.slots S.gh) []<;>rfl
theorem getXK_eq{n:Nat}{e:Ex}{S:St}:∀{xs:List (Ex×List Fm)} {K:XsT xs→Option R},getXK n xs e S K=(getX n xs e S).bind K
 |[],_=>rfl
 |[x],K=>by
  simp only[getXK,getX];cases exEq e x.1
  ·rfl
  ·simp only[ifT];exact getSK_eq
 |x::y::xs,K=>by
  simp only[getXK,getX];cases exEq e x.1
  ·simp only[ifT];rw[getXK_eq];cases getX n (y::xs) e S<;>rfl
  ·simp only[ifT];rw[getSK_eq];cases getS n x.2 S<;>rfl
end
end Go.Proofs.YthkflageghfbgaaGreatDoor.Am
/- What the abstract machine's values stand for in the model's memory, and what keeps it so. -/
namespace Go.Proofs.YthkflageghfbgaaGreatDoor.Am
open Go Go.RowKit

/-- a program, and whether the draws are told of -/
structure Pg where
 p:Program
 s:Bool
instance:Coe Pg Program:=⟨Pg.p⟩
instance:Coe Program Pg:=⟨fun p=>⟨p,false⟩⟩
/-- how many draws there were before and are behind, where that is told -/
def DrLe(s:Bool)(w w':World):Prop:=s=true→w.drawn≤w'.drawn
section
variable {s : Bool}
theorem DrLe.refl(w:World):DrLe s w w:=fun _=>Nat.le_refl _
theorem DrLe.trans{a b c:World}(h:DrLe s a b)(k:DrLe s b c):DrLe s a c:=fun e=>Nat.le_trans (h e) (k e)
theorem DrLe.drew{a w:World}(h:DrLe s a w):DrLe s a w.drew:=fun e=>Nat.le_succ_of_le (h e)
theorem DrLe.eq{w w':World}(h:w'.drawn=w.drawn):DrLe s w w':=fun _=>Nat.le_of_eq h.symm
/-- what is below B stands as it stood; no draw is taken back -/
structure BelowD (s:Bool) (B:Nat) (w w':World):Prop where
 os:w'.os=w.os
 tape:w'.tape=w.tape
 output:w'.output=w.output
 size:w.heap.size≤w'.heap.size
 block:∀k,k<B→w'.heap[k]?=w.heap[k]?
 drawn:DrLe s w w'
theorem BelowD.to{B:Nat}{w w':World}(h:BelowD s B w w'):Below B w w':=⟨h.os,h.tape,h.output,h.size,h.block⟩
theorem BelowD.of{B:Nat}{w w':World}(h:Below B w w')(hd:DrLe s w w'):BelowD s B w w':=⟨h.os,h.tape,h.output,h.size,h.block,hd⟩
theorem BelowD.cell{B:Nat}{w w':World}(h:BelowD s B w w'){p:Addr}(hp:p.block<B):w'.cell? p=w.cell? p:=h.to.cell hp
theorem BelowD.refl(B:Nat)(w:World):BelowD s B w w:=.of (.refl B w) (.refl _)
theorem BelowD.trans{B:Nat}{a b c:World}(h:BelowD s B a b)(k:BelowD s B b c):BelowD s B a c:=.of (h.to.trans k.to) (h.drawn.trans k.drawn)
theorem BelowD.mono{B B':Nat}{w w':World}(h:BelowD s B w w')(hB:B'≤B):BelowD s B' w w':=.of (h.to.mono hB) h.drawn
theorem BelowD.drew{B:Nat}{a w:World}(h:BelowD s B a w):BelowD s B a w.drew:=.of h.to.drew h.drawn.drew
theorem BelowD.alloc{B:Nat}{a w:World}(h:BelowD s B a w)(hB:B≤w.heap.size)(o:Obj):BelowD s B a (w.alloc o):=.of (h.to.alloc hB o) h.drawn
end
/-- the table that stands in the program, where one is listed -/
def TabW(P:Pg)(w:World):Prop:=Lib.TabIs P w "internal/strconv.uint64pow10" .u64 Lib.pow10Tab∧Lib.TabIs P w "strings.asciiSpace" .u8 Lib.asciiSpaceTab∧∃g m,P.p.globalNamed "internal/bytealg.MaxLen" =some g∧w.cell? ⟨g,0,none⟩=some (.int .i64 m)
def TabB(P:Pg)(b:Nat):Prop:=P.p.globalNamed "internal/strconv.uint64pow10" =some b∨P.p.globalNamed "strings.asciiSpace" =some b∨P.p.globalNamed "internal/bytealg.MaxLen" =some b
theorem tabIs_keep{P:Program}{w w':World}{n:String}{k:IntKind}{t:List Int}(h:Lib.TabIs P w n k t)(hk:∀b,P.globalNamed n=some b→w'.heap[b]?=w.heap[b]?):Lib.TabIs P w' n k t:=by
 unfold Lib.TabIs World.var? at*
 cases hg:P.globalNamed n with
 |none=>simp[hg] at h
 |some g=>
  simp only[hg,Option.bind_some] at h⊢;rw[hk g hg];exact h
theorem tabIs_lt{P:Program}{w:World}{n:String}{k:IntKind}{t:List Int}{b:Nat}(h:Lib.TabIs P w n k t)(hb:P.globalNamed n=some b):b<w.heap.size:=by
 unfold Lib.TabIs World.var? at h;simp only[hb,Option.bind_some] at h
 rcases Nat.lt_or_ge b w.heap.size with h'|h'
 ·exact h'
 ·rw[Array.getElem?_eq_none h'] at h;simp at h
theorem TabW.keep{P:Pg}{w w':World}(h:TabW P w)(hk:∀b,TabB P b→w'.heap[b]?=w.heap[b]?):TabW P w':=by
 obtain⟨h1,h2,g,m,h3,h4⟩:=h;refine⟨tabIs_keep h1 fun b hb=>hk b (.inl hb),tabIs_keep h2 fun b hb=>hk b (.inr (.inl hb)),g,m,h3, ?_⟩;rw[←h4];exact World.cell?_of_block (w:=w) (hk g (.inr (.inr h3)))
theorem TabW.lt{P:Pg}{w:World}{b:Nat}(h:TabW P w)(hb:TabB P b):b<w.heap.size:=by
 obtain⟨h1,h2,g,m,h3,h4⟩:=h
 rcases hb with hb|hb|hb
 ·exact tabIs_lt h1 hb
 ·exact tabIs_lt h2 hb
 ·obtain rfl:g=b:=Option.some.inj (h3.symm.trans hb);exact World.block_lt_of_cell? w ⟨g,0,none⟩ h4
theorem TabW.below{P:Pg}{w w':World}(h:TabW P w){s:Bool}(hb:BelowD s w.heap.size w w'):TabW P w':=h.keep fun b g=>hb.block b (h.lt g)
abbrev WrP:=Nat→Nat→Prop
def noWr:WrP:=fun _ _=>False
def MemAt(w:World)(Wr:WrP)(b off:Nat)(cs:List Value):Prop:=
 ∀j (h:j<cs.length),w.cell? ⟨b,off+j,none⟩=some cs[j]∧¬Wr b (off+j)
/-- a list of parts in the memory -/
def RepPt(w:World)(Wr:WrP):Nat→List Value→PT→Prop
 |0,_,_=>False
 |n+1,cs,x=>∃A cap,cs=[.slice A x.l.length cap]∧x.l.length≤cap∧
   (x.l=[]∨∃b off,A=some ⟨b,off,none⟩∧∀i (h:i<x.l.length),∃c2,RepPt w Wr n c2 (x.l.get ⟨i,h⟩).2∧MemAt w Wr b (off+i*2) (.string (x.l.get ⟨i,h⟩).1::c2))
theorem RepPt.more{w:World}{Wr:WrP}:∀{n:Nat} {cs:List Value} {x:PT},RepPt w Wr n cs x→RepPt w Wr (n+1) cs x
 |0,_,_,h=>h.elim
 |n+1,cs,x,h=>by
  obtain⟨A,cap,h1,h2,h3⟩:=h;refine⟨A,cap,h1,h2,h3.imp id ?_⟩;rintro⟨b,off,h4,h5⟩;refine⟨b,off,h4,fun i hi=> ?_⟩;obtain⟨c2,h6,h7⟩:=h5 i hi;exact⟨c2,h6.more,h7⟩
theorem RepPt.le{w:World}{Wr:WrP}{n:Nat}{cs:List Value}{x:PT}(h:RepPt w Wr n cs x):∀m,n≤m→RepPt w Wr m cs x:=by
 intro m hm;obtain⟨d,rfl⟩:=Nat.le.dest hm;clear hm
 induction d with
 |zero=>exact h
 |succ d ih=>exact ih.more
theorem RepPt.len{w:World}{Wr:WrP}:∀{n:Nat} {cs:List Value} {x:PT},RepPt w Wr n cs x→∃A l cap,cs=[.slice A l cap]
 |0,_,_,h=>h.elim
 |_+1,_,_,⟨A,cap,h,_⟩=>⟨A,_,cap,h⟩
/-- leaves of data -/
def RepC(w:World)(Wr:WrP):(k:Kd)→List Value→k.T→Prop
 |.int ik,cs,x=>cs=[.int ik x]
 |.bool,cs,x=>cs=[.bool x]
 |.str,cs,x=>cs=[.string x]
 |.err,cs,x=>(x=true∧cs=[.nilIface])∨(x=false∧∃t u,cs=[.iface t u])
 |.unit,cs,_=>cs=[]
 |.pair a b,cs,x=>∃c1 c2,cs=c1++c2∧RepC w Wr a c1 x.1∧RepC w Wr b c2 x.2
 |.sl k,cs,xs=>∃A cap,cs=[.slice A (List.length (α:=k.T) xs) cap]∧List.length (α:=k.T) xs≤cap∧
   (xs=[]∨∃b off,A=some ⟨b,off,none⟩∧∀i (h:i<List.length (α:=k.T) xs),∃cs',RepC w Wr k cs' (List.get (α:=k.T) xs ⟨i,h⟩)∧MemAt w Wr b (off+i*k.size) cs')
 |.pt,cs,x=>∃n,RepPt w Wr n cs x
def mkV(k:Kd)(cs:List Value):Value:=if k.isAgg then .agg cs.toArray else cs.headD undef
def RepV(w:World)(Wr:WrP)(k:Kd)(x:k.T)(v:Value):Prop:=∃cs,RepC w Wr k cs x∧v=mkV k cs

structure Keep (w:World) (Wr:WrP) (w':World) (Wr':WrP):Prop where
 cell:∀b o v,w.cell? ⟨b,o,none⟩=some v→¬Wr b o→w'.cell? ⟨b,o,none⟩=some v∧¬Wr' b o
theorem Keep.refl(w:World)(Wr:WrP):Keep w Wr w Wr:=⟨fun _ _ _ h h'=>⟨h,h'⟩⟩
theorem Keep.no(w:World)(Wr:WrP):Keep w Wr w noWr:=⟨fun _ _ _ h _=>⟨h,id⟩⟩
theorem Keep.trans{w w' w'':World}{Wr Wr' Wr'':WrP}(h:Keep w Wr w' Wr')(k:Keep w' Wr' w'' Wr''):Keep w Wr w'' Wr'':=
 ⟨fun b o v hv hw=>let⟨a,b'⟩:=h.cell b o v hv hw;k.cell b o v a b'⟩

theorem RepC.length{w:World}{Wr:WrP}:∀{k:Kd} {cs:List Value} {x:k.T},RepC w Wr k cs x→cs.length=k.size
 |.int _,_,_,h=>by simp only[RepC] at h;subst h;rfl
 |.bool,_,_,h=>by simp only[RepC] at h;subst h;rfl
 |.str,_,_,h=>by simp only[RepC] at h;subst h;rfl
 |.err,_,_,h=>by
  simp only[RepC] at h
  rcases h with⟨_,rfl⟩|⟨_,t,u,rfl⟩<;>rfl
 |.unit,_,_,h=>by simp only[RepC] at h;subst h;rfl
 |.sl _,_,_,h=>by
  simp only[RepC] at h;obtain⟨A,cap,rfl,_⟩:=h;rfl
 |.pair a b,_,_,h=>by
  simp only[RepC] at h;obtain⟨c1,c2,rfl,h1,h2⟩:=h;rw[List.length_append,RepC.length h1,RepC.length h2];rfl
 |.pt,_,_,h=>by
  simp only[RepC] at h;obtain⟨n,h⟩:=h;obtain⟨A,l,cap,rfl⟩:=h.len;rfl
theorem MemAt.keep{w w':World}{Wr Wr':WrP}(hk:Keep w Wr w' Wr'){b off:Nat}{cs:List Value}(h:MemAt w Wr b off cs):MemAt w' Wr' b off cs:=
 fun j hj=>hk.cell _ _ _ (h j hj).1 (h j hj).2
theorem RepPt.keep{w w':World}{Wr Wr':WrP}(hk:Keep w Wr w' Wr'):∀{n:Nat} {cs:List Value} {x:PT},RepPt w Wr n cs x→RepPt w' Wr' n cs x
 |0,_,_,h=>h.elim
 |n+1,cs,x,h=>by
  obtain⟨A,cap,h1,h2,h3⟩:=h;refine⟨A,cap,h1,h2,h3.imp id ?_⟩;rintro⟨b,off,h4,h5⟩;refine⟨b,off,h4,fun i hi=> ?_⟩;obtain⟨c2,h6,h7⟩:=h5 i hi;exact⟨c2,RepPt.keep hk h6,h7.keep hk⟩
theorem RepC.keep{w w':World}{Wr Wr':WrP}(hk:Keep w Wr w' Wr'):∀{k:Kd} {cs:List Value} {x:k.T},RepC w Wr k cs x→RepC w' Wr' k cs x
 |.int _,_,_,h=>h
 |.bool,_,_,h=>h
 |.str,_,_,h=>h
 |.err,_,_,h=>h
 |.unit,_,_,h=>h
 |.pair a b,_,_,h=>by
  simp only[RepC] at h⊢;obtain⟨c1,c2,rfl,h1,h2⟩:=h;exact⟨c1,c2,rfl,RepC.keep hk h1,RepC.keep hk h2⟩
 |.sl k,_,xs,h=>by
  simp only[RepC] at h⊢;obtain⟨A,cap,rfl,hc,h⟩:=h;refine⟨A,cap,rfl,hc,h.imp id ?_⟩;rintro⟨b,off,hA,hq⟩;refine⟨b,off,hA,fun i hi=> ?_⟩;obtain⟨cs',h1,h2⟩:=hq i hi;exact⟨cs',RepC.keep hk h1,h2.keep hk⟩
 |.pt,_,_,h=>by
  simp only[RepC] at h⊢;obtain⟨n,h⟩:=h;exact⟨n,h.keep hk⟩
theorem many_ex{m:Nat}{Q:Nat→Nat→Prop}(mono:∀i n n',n≤n'→Q i n→Q i n')(h:∀i,i<m→∃n,Q i n):∃N,∀i,i<m→Q i N:=by
 induction m with
 |zero=>exact⟨0,fun i hi=>absurd hi (Nat.not_lt_zero _)⟩
 |succ m ih=>
  obtain⟨N,hN⟩:=ih fun i hi=>h i (Nat.lt_succ_of_lt hi);obtain⟨n,hn⟩:=h m (Nat.lt_succ_self m);refine⟨N+n,fun i hi=> ?_⟩
  rcases Nat.lt_succ_iff_lt_or_eq.1 hi with hi|rfl
  ·exact mono i N _ (Nat.le_add_right _ _) (hN i hi)
  ·exact mono _ n _ (Nat.le_add_left _ _) hn
theorem repPt_fold{w:World}{Wr:WrP}{cs:List Value}{l:List (ByteArray×PT)}(h:RepC w Wr (.sl (.pair .str .pt)) cs l):RepC w Wr .pt cs (PT.mk l):=by
 simp only[RepC] at h⊢;obtain⟨A,cap,rfl,hc,h⟩:=h
 rcases h with h|⟨b,off,hA,h⟩
 ·exact⟨1,A,cap,rfl,hc,.inl h⟩
 ·have key:∃N,∀i,i<l.length→∃(hi:i<l.length),∃c2,RepPt w Wr N c2 (l.get ⟨i,hi⟩).2∧MemAt w Wr b (off+i*2) (.string (l.get ⟨i,hi⟩).1::c2):=by
   refine many_ex (Q:=fun i N=>∃(hi:i<l.length),∃c2,RepPt w Wr N c2 (l.get ⟨i,hi⟩).2∧MemAt w Wr b (off+i*2) (.string (l.get ⟨i,hi⟩).1::c2)) ?_ ?_
   ·rintro i n n' hn ⟨hi,c2,h1,h2⟩;exact⟨hi,c2,h1.le _ hn,h2⟩
   ·intro i hi;obtain⟨cs',⟨c1,c2,rfl,rfl,n,h1⟩,h2⟩:=h i hi;exact⟨n,hi,c2,h1,h2⟩
  obtain⟨N,hN⟩:=key;refine⟨N+1,A,cap,rfl,hc,.inr ⟨b,off,hA,fun i hi=> ?_⟩⟩;obtain⟨_,c2,h1,h2⟩:=hN i hi;exact⟨c2,h1,h2⟩
theorem repPt_unfold{w:World}{Wr:WrP}{cs:List Value}{x:PT}(h:RepC w Wr .pt cs x):RepC w Wr (.sl (.pair .str .pt)) cs x.l:=by
 simp only[RepC] at h⊢;obtain⟨n,h⟩:=h;cases n with
 |zero=>exact h.elim
 |succ n=>
  obtain⟨A,cap,rfl,hc,h⟩:=h;refine⟨A,cap,rfl,hc,h.imp id ?_⟩;rintro⟨b,off,hA,h⟩;refine⟨b,off,hA,fun i hi=> ?_⟩;obtain⟨c2,h1,h2⟩:=h i hi;exact⟨_,⟨[_],c2,rfl,rfl,n,h1⟩,h2⟩
theorem RepV.keep{w w':World}{Wr Wr':WrP}(hk:Keep w Wr w' Wr'){k:Kd}{x:k.T}{v:Value}(h:RepV w Wr k x v):RepV w' Wr' k x v:=by
 obtain⟨cs,h1,h2⟩:=h;exact⟨cs,h1.keep hk,h2⟩

/-! ### tokens -/
inductive TokI where
 |box (b n:Nat)
 |arr (k:Kd) (n:Nat) (loc:Option (Nat×Nat)) (N:Nat)
abbrev Info:=Nat→Option TokI
def TokI.block:TokI→Option Nat
 |.box b _=>some b
 |.arr _ _ (some l) _=>some l.1
 |_=>none
def InfoLe(I I':Info):Prop:=∀t i,I t=some i→I' t=some i
theorem InfoLe.refl(I:Info):InfoLe I I:=fun _ _ h=>h
theorem InfoLe.trans{I J L:Info}(h:InfoLe I J)(k:InfoLe J L):InfoLe I L:=fun t i hi=>k t i (h t i hi)

/-- a function value that does what φ does, wherever what may not be written stands -/
def RepKs(w:World)(Wr:WrP):(ks:List Kd)→List Value→KsT ks→Prop
 |[],vs,_=>vs=[]
 |k::ks,vs,x=>∃v us,vs=v::us∧RepV w Wr k x.1 v∧RepKs w Wr ks us x.2
def Clo0(P:Pg)(w:World)(Wr:WrP)(ki:List Kd)(ko:Kd)(φ:KsT ki→Option ko.T)(u:Value):Prop:=
 ∃g caps,u=.func (.func g) #[] caps∧(∃fn,P.p.funcs[g]?=some fn∧(fn.name== "runtime.NumGoroutine")=false∧fn.body.isSome=true)∧∀w',Keep w Wr w' noWr→TabW P w'→∀x r,φ x=some r→∀vs,RepKs w' noWr ki vs x→
  Calls P g (vs.toArray++caps) w' fun e w''=>∃v,e=.returned v∧BelowD P.s w'.heap.size w' w''∧RepV w'' (fun b _=>b<w'.heap.size) ko r v
theorem Clo0.keep{P:Pg}{w w':World}{Wr Wr':WrP}(hk:Keep w Wr w' Wr'){ki:List Kd}{ko:Kd}{φ:KsT ki→Option ko.T}{u:Value}(h:Clo0 P w Wr ki ko φ u):Clo0 P w' Wr' ki ko φ u:=by
 obtain⟨g,caps,rfl,hf,h⟩:=h;exact⟨g,caps,rfl,hf,fun w'' hk'=>h w'' (hk.trans hk')⟩
/-- a function value, or (where the first argument is of no content) a cell in which one stands -/
def Clo(P:Pg)(w:World)(Wr:WrP):(ki:List Kd)→(ko:Kd)→(KsT ki→Option ko.T)→Value→Prop
 |.unit::ki,ko,φ,u=>∃b off v,u=.pointer (some ⟨b,off,none⟩)∧Clo0 P w Wr ki ko (fun x=>φ ((),x)) v∧MemAt w Wr b off [v]
 |ki,ko,φ,u=>Clo0 P w Wr ki ko φ u
theorem Clo.of{P:Pg}{w:World}{Wr:WrP}:∀{ki:List Kd} (_:direct ki=true) {ko:Kd} {φ:KsT ki→Option ko.T} {u:Value},Clo P w Wr ki ko φ u↔Clo0 P w Wr ki ko φ u
 |[],_,_,_,_=>Iff.rfl
 |k::ki,hd,ko,φ,u=>by cases k<;>first|exact Iff.rfl|cases hd
theorem Clo.keep{P:Pg}{w w':World}{Wr Wr':WrP}(hk:Keep w Wr w' Wr'){ki:List Kd}{ko:Kd}{φ:KsT ki→Option ko.T}{u:Value}(h:Clo P w Wr ki ko φ u):Clo P w' Wr' ki ko φ u:=by
 by_cases hd:direct ki=true
 ·exact(Clo.of hd).2 (((Clo.of hd).1 h).keep hk)
 ·match ki,hd with
  |.unit::ki,_=>
   obtain⟨b,off,v,h1,h2,h3⟩:=h;exact⟨b,off,v,h1,h2.keep hk,h3.keep hk⟩
  |[],hd=>exact absurd rfl hd
  |.int _::_,hd=>exact absurd rfl hd
  |.bool::_,hd=>exact absurd rfl hd
  |.str::_,hd=>exact absurd rfl hd
  |.err::_,hd=>exact absurd rfl hd
  |.pair _ _::_,hd=>exact absurd rfl hd
  |.sl _::_,hd=>exact absurd rfl hd
  |.pt::_,hd=>exact absurd rfl hd

theorem Clo.form{P:Pg}{w:World}{Wr:WrP}{ki:List Kd}{ko:Kd}{φ:KsT ki→Option ko.T}{u:Value}(h:Clo P w Wr ki ko φ u):(∃g caps,u=.func (.func g) #[] caps)∨∃b off,u=.pointer (some ⟨b,off,none⟩):=by
 by_cases hd:direct ki=true
 ·obtain⟨g,caps,h,_⟩:=(Clo.of hd).1 h;exact .inl ⟨g,caps,h⟩
 ·match ki,hd with
  |.unit::ki,_=>
   obtain⟨b,off,v,h1,_⟩:=h;exact .inr ⟨b,off,h1⟩
  |[],hd=>exact absurd rfl hd
  |.int _::_,hd=>exact absurd rfl hd
  |.bool::_,hd=>exact absurd rfl hd
  |.str::_,hd=>exact absurd rfl hd
  |.err::_,hd=>exact absurd rfl hd
  |.pair _ _::_,hd=>exact absurd rfl hd
  |.sl _::_,hd=>exact absurd rfl hd
  |.pt::_,hd=>exact absurd rfl hd
mutual
/-- what a value stands for -/
def Rep(P:Pg)(w:World)(Wr:WrP)(I:Info):AVal→Value→Prop
 |.undef,_=>True
 |.nil,v=>v=.slice none 0 0
 |.v k x,v=>RepV w Wr k x v
 |.agg cs,v=>∃vs:List Value,v=.agg vs.toArray∧RepL P w Wr I cs vs
 |.ref k' t off len,v=>match I t with
  |some (.arr k n loc N)=>k'=k∧off+len≤n∧∃A cap,v=.slice A len cap∧len≤cap∧
    ((len=0∧cap=0)∨∃b base,loc=some (b,base)∧A=some ⟨b,base+off*k.size,none⟩∧base+(off+cap)*k.size≤N)
  |_=>False
 |.ptr t c,v=>match I t with
  |some (.box b n)=>v=.pointer (some ⟨b,c,none⟩)
  |_=>False
 |.ep t i c,v=>match I t with
  |some (.arr k n loc N)=>i<n∧∃b base,loc=some (b,base)∧v=.pointer (some ⟨b,base+i*k.size+c,none⟩)
  |_=>False
 |.pi t n i,v=>match I t with
  |some (.box b m)=>i<n∧v=.pointer (some ⟨b,i,none⟩)
  |_=>False
 |.fp k x,v=>∃b off cs,v=.pointer (some ⟨b,off,none⟩)∧RepC w Wr k cs x∧MemAt w Wr b off cs
 |.tup cs,v=>∃vs:List Value,v=.tuple vs.toArray∧RepL P w Wr I cs vs
 |.fn g cs,v=>∃vs:List Value,v=.func (.func g) #[] vs.toArray∧RepL P w Wr I cs vs
 |.clo ki ko φ,v=>Clo P w Wr ki ko φ v
def RepL(P:Pg)(w:World)(Wr:WrP)(I:Info):List AVal→List Value→Prop
 |[],[]=>True
 |x::xs,v::vs=>Rep P w Wr I x v∧RepL P w Wr I xs vs
 |_,_=>False
end
mutual
theorem Rep.keep{P:Pg}{w w':World}{Wr Wr':WrP}{I I':Info}(hk:Keep w Wr w' Wr')(hI:InfoLe I I'):∀{x:AVal} {v:Value},Rep P w Wr I x v→Rep P w' Wr' I' x v
 |.undef,_,_=>by simp only[Rep]
 |.nil,_,h=>by simp only[Rep] at h⊢;exact h
 |.v k x,_,h=>by simp only[Rep] at h⊢;exact h.keep hk
 |.agg cs,_,h=>by
  simp only[Rep] at h⊢;obtain⟨vs,h1,h2⟩:=h;exact⟨vs,h1,RepL.keep hk hI h2⟩
 |.ref _ t off len,_,h=>by
  simp only[Rep] at h⊢;cases hi:I t with
  |none=>rw[hi] at h;exact h.elim
  |some i=>
   rw[hi] at h;rw[hI t i hi];cases i<;>first|exact h|exact h.elim
 |.ptr t c,_,h=>by
  simp only[Rep] at h⊢;cases hi:I t with
  |none=>rw[hi] at h;exact h.elim
  |some i=>
   rw[hi] at h;rw[hI t i hi];cases i<;>first|exact h|exact h.elim
 |.ep t i' c,_,h=>by
  simp only[Rep] at h⊢;cases hi:I t with
  |none=>rw[hi] at h;exact h.elim
  |some i=>
   rw[hi] at h;rw[hI t i hi];cases i<;>first|exact h|exact h.elim
 |.pi t n i',_,h=>by
  simp only[Rep] at h⊢;cases hi:I t with
  |none=>rw[hi] at h;exact h.elim
  |some i=>
   rw[hi] at h;rw[hI t i hi];cases i<;>first|exact h|exact h.elim
 |.fp k x,_,h=>by
  simp only[Rep] at h⊢;obtain⟨b,off,cs,h1,h2,h3⟩:=h;exact⟨b,off,cs,h1,h2.keep hk,h3.keep hk⟩
 |.tup cs,_,h=>by
  simp only[Rep] at h⊢;obtain⟨vs,h1,h2⟩:=h;exact⟨vs,h1,RepL.keep hk hI h2⟩
 |.fn g cs,_,h=>by
  simp only[Rep] at h⊢;obtain⟨vs,h1,h2⟩:=h;exact⟨vs,h1,RepL.keep hk hI h2⟩
 |.clo ki ko φ,_,h=>by simp only[Rep] at h⊢;exact h.keep hk
theorem RepL.keep{P:Pg}{w w':World}{Wr Wr':WrP}{I I':Info}(hk:Keep w Wr w' Wr')(hI:InfoLe I I'):∀{xs:List AVal} {vs:List Value},RepL P w Wr I xs vs→RepL P w' Wr' I' xs vs
 |[],[],_=>by simp only[RepL]
 |[],_::_,h=>by simp only[RepL] at h
 |_::_,[],h=>by simp only[RepL] at h
 |x::xs,v::vs,h=>by
  simp only[RepL] at h⊢;exact⟨Rep.keep hk hI h.1,RepL.keep hk hI h.2⟩
end
section lists
variable {P : Pg} {w : World} {Wr : WrP} {I : Info}
theorem RepL.length:∀{xs:List AVal} {vs:List Value},RepL P w Wr I xs vs→xs.length=vs.length
 |[],[],_=>rfl
 |[],_::_,h=>by simp only[RepL] at h
 |_::_,[],h=>by simp only[RepL] at h
 |x::xs,v::vs,h=>by simp only[RepL] at h;simp[RepL.length h.2]
theorem RepL.set{x:AVal}{v:Value}(hx:Rep P w Wr I x v):∀{xs:List AVal} {vs:List Value} (n:Nat),RepL P w Wr I xs vs→RepL P w Wr I (setA xs n x) (vs.set n v)
 |[],[],_,_=>by simp[setA,RepL]
 |[],_::_,_,h=>by simp only[RepL] at h
 |_::_,[],_,h=>by simp only[RepL] at h
 |y::xs,u::vs,0,h=>by simp only[RepL] at h;simp only[setA,List.set,RepL];exact⟨hx,h.2⟩
 |y::xs,u::vs,n+1,h=>by simp only[RepL] at h;simp only[setA,List.set,RepL];exact⟨h.1,h.2.set hx n⟩
theorem RepL.get:∀{xs:List AVal} {vs:List Value} (n:Nat),RepL P w Wr I xs vs→Rep P w Wr I (getA .undef xs n) (vs.getD n undef)
 |[],[],_,_=>by simp[getA,Rep]
 |[],_::_,_,h=>by simp only[RepL] at h
 |_::_,[],_,h=>by simp only[RepL] at h
 |y::xs,u::vs,0,h=>by simp only[RepL] at h;simpa[getA] using h.1
 |y::xs,u::vs,n+1,h=>by simp only[RepL] at h;simpa[getA] using h.2.get n
theorem RepL.app:∀{xs ys:List AVal} {vs us:List Value},RepL P w Wr I xs vs→RepL P w Wr I ys us→RepL P w Wr I (appA xs ys) (vs++us)
 |[],_,[],_,_,k=>by simpa[appA] using k
 |[],_,_::_,_,h,_=>by simp only[RepL] at h
 |_::_,_,[],_,h,_=>by simp only[RepL] at h
 |y::xs,_,u::vs,_,h,k=>by simp only[RepL] at h;simp only[appA,List.cons_append,RepL];exact⟨h.1,h.2.app k⟩
theorem RepL.drop:∀{xs:List AVal} {vs:List Value} (n:Nat),RepL P w Wr I xs vs→RepL P w Wr I (dropA n xs) (vs.drop n)
 |_,_,0,h=>by simpa[dropA] using h
 |[],[],n+1,_=>by simp[dropA,RepL]
 |[],_::_,_+1,h=>by simp only[RepL] at h
 |_::_,[],_+1,h=>by simp only[RepL] at h
 |y::xs,u::vs,n+1,h=>by simp only[RepL] at h;simpa[dropA] using h.2.drop n
theorem RepL.take:∀{xs:List AVal} {vs:List Value} (n:Nat),RepL P w Wr I xs vs→RepL P w Wr I (takeA n xs) (vs.take n)
 |_,_,0,_=>by simp[takeA,RepL]
 |[],[],n+1,_=>by simp[takeA,RepL]
 |[],_::_,_+1,h=>by simp only[RepL] at h
 |_::_,[],_+1,h=>by simp only[RepL] at h
 |y::xs,u::vs,n+1,h=>by simp only[RepL] at h;simp only[takeA,List.take,RepL];exact⟨h.1,h.2.take n⟩
theorem RepL.rep(x:AVal)(v:Value)(hx:Rep P w Wr I x v):∀n,RepL P w Wr I (repA n x) (List.replicate n v)
 |0=>by simp[repA,RepL]
 |n+1=>by simp only[repA,List.replicate,RepL];exact⟨hx,RepL.rep x v hx n⟩
theorem lenA_eq{α:Type}:∀xs:List α,lenA xs=xs.length
 |[]=>rfl
 |_::xs=>by simp[lenA,lenA_eq xs]
end lists
/-! ### rows and states -/
def NoFz(w:World)(b N lo:Nat):Prop:=∃arr elem fz,w.heap[b]?=some (.cells arr elem fz)∧arr.size=N∧∀o,lo≤o→o<N→¬(fz.1≤o∧o<fz.2)
def RowRep(P:Pg)(w:World)(Wr:WrP)(I:Info):Row→TokI→Prop
 |.dead,_=>True
 |.box cs,.box b n=>n=cs.length∧NoFz w b n 0∧∃vs:List Value,RepL P w Wr I cs vs∧∀j (h:j<vs.length),w.cell? ⟨b,j,none⟩=some vs[j]
 |.arr k xs _,.arr k' n loc N=>k'=k∧n=List.length (α:=k.T) xs∧(match loc with
  |none=>n=0
  |some l=>l.2+n*k.size≤N∧NoFz w l.1 N l.2∧∀i (h:i<List.length (α:=k.T) xs),∃cs,RepC w Wr k cs (List.get (α:=k.T) xs ⟨i,h⟩)∧∀j (hj:j<cs.length),w.cell? ⟨l.1,l.2+i*k.size+j,none⟩=some cs[j])
 |_,_=>False
/-- the cells that a row's owner may write -/
def Owns:Row→TokI→Nat→Nat→Prop
 |.box _,.box b' _,b,_=>b=b'
 |.arr k xs ao,.arr _ _ (some l) _,b,o=>b=l.1∧(ao=true→l.2+List.length (α:=k.T) xs*k.size≤o)
 |_,_,_,_=>False
/-- what stands around a run: the cells that others may write, the blocks that the run may write, tokens with names -/
structure Base where
 wr:WrP
 mine:Nat→Prop
 nm:Nat→Option TokI
 gh:List Value
def WrOf(Wr0:Base)(H:Nat→Option Row)(I:Info):WrP:=fun b o=>Wr0.wr b o∨∃t r i,H t=some r∧I t=some i∧Owns r i b o
/-- the blocks that are not the run's own are as they were -/
structure BelowM (s:Bool) (M:Nat→Prop) (w w':World):Prop where
 os:w'.os=w.os
 tape:w'.tape=w.tape
 output:w'.output=w.output
 size:w.heap.size≤w'.heap.size
 block:∀k,k<w.heap.size→¬M k→w'.heap[k]?=w.heap[k]?
 drawn:DrLe s w w'
theorem BelowM.refl{s:Bool}(M:Nat→Prop)(w:World):BelowM s M w w:=⟨rfl,rfl,rfl,Nat.le_refl _,fun _ _ _=>rfl,.refl _⟩
theorem BelowM.grow{s:Bool}{M:Nat→Prop}{w0 w w':World}(h:BelowM s M w0 w)(k:BelowD s w.heap.size w w'):BelowM s M w0 w':=
 ⟨k.os.trans h.os,k.tape.trans h.tape,k.output.trans h.output,Nat.le_trans h.size k.size,fun i hi hm=>(k.block i (Nat.lt_of_lt_of_le hi h.size)).trans (h.block i hi hm),h.drawn.trans k.drawn⟩
theorem BelowM.trans{s:Bool}{M M':Nat→Prop}{w0 w w':World}(h:BelowM s M w0 w)(k:BelowM s M' w w')(hm:∀b,b<w.heap.size→M' b→M b):BelowM s M w0 w':=
 ⟨k.os.trans h.os,k.tape.trans h.tape,k.output.trans h.output,Nat.le_trans h.size k.size,fun i hi hn=>(k.block i (Nat.lt_of_lt_of_le hi h.size) fun hk=>hn (hm i (Nat.lt_of_lt_of_le hi h.size) hk)).trans (h.block i hi hn),h.drawn.trans k.drawn⟩
theorem BelowM.below{s:Bool}{w w':World}(h:BelowM s (fun b=>w.heap.size≤b) w w'):BelowD s w.heap.size w w':=
 ⟨h.os,h.tape,h.output,h.size,fun k hk=>h.block k hk (by omega),h.drawn⟩
structure Sim (P:Pg) (Wr0:Base) (w0:World) (S:St) (I:Info) (a:Act) (w:World):Prop where
 defers:a.defers=[]
 slots:RepL P w (WrOf Wr0 S.heap I) I S.slots a.tmps.toList
 gh:RepL P w (WrOf Wr0 S.heap I) I S.gh Wr0.gh
 free:∀t,S.heap t=none→I t=none
 rows:∀t r,S.heap t=some r→∃i,I t=some i∧RowRep P w (WrOf Wr0 S.heap I) I r i
 inj:∀t t' r r' i i' b,S.heap t=some r→r≠ .dead→S.heap t'=some r'→r'≠ .dead→I t=some i→I t'=some i'→i.block=some b→i'.block=some b→t=t'
 fresh:∀t r i b,S.heap t=some r→r≠ .dead→I t=some i→i.block=some b→Wr0.mine b∧b<w.heap.size
 wr0:(∀b o,Wr0.wr b o→b<w0.heap.size∧¬Wr0.mine b)∧TabW P w0∧∀b,TabB P b→¬Wr0.mine b
 new:∀b,w0.heap.size≤b→Wr0.mine b
 nm:∀t i,Wr0.nm t=some i→S.heap t≠none→I t=some i
 nmt:∀t i,Wr0.nm t=some i→200000≤t
 below:BelowM P.s Wr0.mine w0 w
theorem Sim.tab{P:Pg}{Wr0:Base}{w0:World}{S:St}{I:Info}{a:Act}{w:World}(h:Sim P Wr0 w0 S I a w):TabW P w:=h.wr0.2.1.keep fun b hb=>h.below.block b (h.wr0.2.1.lt hb) (h.wr0.2.2 b hb)
theorem RowRep.keep{P:Pg}{w w':World}{Wr Wr':WrP}{I I':Info}(hk:Keep w Wr w' Wr')(hI:InfoLe I I')
  {r:Row} {i:TokI} (hh:r≠ .dead→∀b,i.block=some b→w'.heap[b]?=w.heap[b]?) (h:RowRep P w Wr I r i):RowRep P w' Wr' I' r i:=by
 cases r with
 |dead=>cases i<;>first|exact h|exact h.elim
 |box cs=>
  cases i with
  |box b n=>
   obtain⟨h1,h2,vs,h3,h4⟩:=h;have hb:=hh (by simp) b rfl;refine⟨h1, ?_,vs,h3.keep hk hI,fun j hj=> ?_⟩
   ·obtain⟨arr,elem,fz,e1,e2⟩:=h2;exact⟨arr,elem,fz,by rw[hb];exact e1,e2⟩
   ·rw[←h4 j hj];exact World.cell?_of_block (w:=w) hb
  |arr=>exact h.elim
 |arr k xs ao=>
  cases i with
  |box=>exact h.elim
  |arr k' n loc N=>
   obtain⟨rfl,rfl,h3⟩:=h;refine⟨rfl,rfl, ?_⟩;cases loc with
   |none=>exact h3
   |some l=>
    obtain⟨h4,h5,h6⟩:=h3;have hb:=hh (by simp) l.1 rfl;refine⟨h4, ?_,fun i hi=> ?_⟩
    ·obtain⟨arr,elem,fz,e1,e2⟩:=h5;exact⟨arr,elem,fz,by rw[hb];exact e1,e2⟩
    ·obtain⟨cs,h7,h8⟩:=h6 i hi;refine⟨cs,h7.keep hk,fun j hj=> ?_⟩;rw[←h8 j hj];exact World.cell?_of_block (w:=w) hb
end Go.Proofs.YthkflageghfbgaaGreatDoor.Am
/- Operations on values: what the abstract machine tells is what the model does. -/
namespace Go.Proofs.YthkflageghfbgaaGreatDoor.Am
open Go Go.RowKit

/-! ### types -/
def aggD:TypeDesc→Bool
 |.struct _=>true
 |.array _ _=>true
 |_=>false
def Kd.zc:Kd→List Value
 |.int ik=>[.int ik 0]
 |.bool=>[.bool false]
 |.str=>[.string ByteArray.empty]
 |.err=>[.nilIface]
 |.unit=>[]
 |.sl _=>[.slice none 0 0]
 |.pair a b=>a.zc++b.zc
 |.pt=>[.slice none 0 0]
structure VarOk (P:Pg) (t:TypeId) (k:Kd):Prop where
 info:∃i,P.p.info? t=some i∧i.size=k.size∧∃z,i.zero=some z∧z.cells.toList=k.zc∧(k.isAgg=false→z.cells=#[z])
 und:∃ut,P.p.underlying t=some ut∧aggD ut=k.isAgg
def UtOk(P:Pg)(d:TyD):TypeDesc→Prop
 |.int k=>d.flds=[]∧d.kd=.int k
 |.bool=>d.flds=[]∧d.kd=.bool
 |.string=>d.flds=[]∧d.kd=.str
 |.interface _=>d.flds=[]∧d.kd=.err
 |.slice e=>d.flds=[]∧d.kd=.sl d.elt∧VarOk P e d.elt∧(P.p.info? e).map (·.bytes)=some d.bytes∧0<d.elt.size∧0<d.bytes∧∀k,d.elt=.int k→P.p.underlying e=some (.int k)
 |.struct fs=>d.kd.isAgg=true∧fs.size=d.flds.length∧∀f ck,getA none (mapA some d.flds) f=some ck→∃fld,fs[f]?=some fld∧fld.offset=ck.1∧VarOk P fld.type ck.2∧0<ck.2.size
 |.array _ _=>d.flds=[]∧d.kd.isAgg=true∧Nat.beq d.arr 0=false
 |_=>False
/-- parts that can be compared -/
def EqF(P:Pg):Nat→List (Nat×Kd)→List Field→Prop
 |_,[],[]=>True
 |i,p::ps,f::fs=>(f.name≠ "_" ∧f.offset=i∧VarOk P f.type p.2∧p.2.isAgg=false∧∃u,P.p.underlying f.type=some u∧match p.2,u with
  |.int _,.int _=>True
  |.str,.string=>True
  |.bool,.bool=>True
  |_,_=>False)∧EqF P (i+1) ps fs
 |_,_,_=>False
structure TyOk (P:Pg) (t:TypeId) (d:TyD):Prop where
 var:VarOk P t d.kd
 ut:∃u,P.p.underlying t=some u∧UtOk P d u
 ar:d.arr≠0→∃e,P.p.underlying t=some (.array d.arr e)∧VarOk P e d.elt∧d.elt.isAgg=false∧d.elt.size=1
 eqf:d.eq=true→P.p.stoodInHeld t=false∧P.p.eqGuardType P.p.depth t=false∧∃fs,P.p.underlying t=some (.struct fs)∧EqF P 0 d.flds fs.toList
def TysOk(P:Pg)(E:Env):Prop:=∀t d,E.ty t=some d→TyOk P t d

theorem ifT_some{α:Type}{b:Bool}{x:Option α}{r:α}(h:ifT b x none=some r):b=true∧x=some r:=by
 cases b with
 |true=>exact⟨rfl,h⟩
 |false=>cases h
theorem okT_spec{E:Env}{t:Nat}{k:Kd}(h:okT E t k=true):∃d,E.ty t=some d∧d.kd=k:=by
 unfold okT at h;split at h
 ·rename_i d hd;exact⟨d,hd,of_decide_eq_true h⟩
 ·cases h
section
variable {P : Pg} {E : Env} (hE : TysOk P E) {t : Nat}
include hE
theorem und_str(h:okT E t .str=true):P.p.underlying t=some .string:=by
 obtain⟨d,hd,hk⟩:=okT_spec h;obtain⟨u,hu,ho⟩:=(hE t d hd).ut;rw[hu];cases u<;>simp_all [UtOk,Kd.isAgg]
theorem und_bool(h:okT E t .bool=true):P.p.underlying t=some .bool:=by
 obtain⟨d,hd,hk⟩:=okT_spec h;obtain⟨u,hu,ho⟩:=(hE t d hd).ut;rw[hu];cases u<;>simp_all [UtOk,Kd.isAgg]
theorem und_err(h:okT E t .err=true):∃ms,P.p.underlying t=some (.interface ms):=by
 obtain⟨d,hd,hk⟩:=okT_spec h;obtain⟨u,hu,ho⟩:=(hE t d hd).ut;rw[hu];cases u<;>simp_all [UtOk,Kd.isAgg]
theorem und_int{k:IntKind}(h:kdOf E t=some (.int k)):P.p.underlying t=some (.int k):=by
 unfold kdOf at h;split at h
 ·rename_i d hd;obtain⟨u,hu,ho⟩:=(hE t d hd).ut;rw[hu];have:=Option.some.inj h;cases u<;>simp_all [UtOk,Kd.isAgg]
 ·cases h
theorem und_some{k:Kd}(h:kdOf E t=some k):∃u,P.p.underlying t=some u:=by
 unfold kdOf at h;split at h
 ·rename_i d hd;obtain⟨u,hu,ho⟩:=(hE t d hd).ut;exact⟨u,hu⟩
 ·cases h
theorem und_sl{k:Kd}(h:okT E t (.sl k)=true):∃e i,P.p.underlying t=some (.slice e)∧P.p.info? e=some i∧i.size=k.size∧0<k.size:=by
 obtain⟨d,hd,hk⟩:=okT_spec h;obtain⟨u,hu,ho⟩:=(hE t d hd).ut;cases u with
 |slice e=>
  simp only[UtOk] at ho;obtain⟨_,h0,h1,h2,h3,h4⟩:=ho;rw[hk] at h0;injection h0 with h0;subst h0;obtain⟨i,h5,h6,_⟩:=h1.info;exact⟨e,i,hu,h5,h6,h3⟩
 |_=>simp_all [UtOk,Kd.isAgg]
theorem und_arr{nk:Nat×Kd}(h:arrOf E t=some nk):∃e,P.p.underlying t=some (.array nk.1 e)∧VarOk P e nk.2∧nk.2.isAgg=false∧nk.2.size=1:=by
 unfold arrOf at h;split at h
 ·rename_i d hd
  by_cases h0:d.arr=0
  ·rw[ifEq,show Nat.beq d.arr 0=true from by rw[h0];rfl] at h;cases h
  ·rw[ifEq,show Nat.beq d.arr 0=false from by cases hb:Nat.beq d.arr 0 with|false=>rfl|true=>exact absurd (Nat.eq_of_beq_eq_true hb) h0] at h;obtain rfl:=Option.some.inj h;exact(hE t d hd).ar h0
 ·cases h
theorem und_fld{s f c:Nat}{k:Kd}(h:fldOf E s f=some (c,k)):∃fs fld,P.p.underlying s=some (.struct fs)∧fs[f]?=some fld∧fld.offset=c∧VarOk P fld.type k∧0<k.size:=by
 unfold fldOf at h;split at h
 ·rename_i d hd;obtain⟨u,hu,ho⟩:=(hE s d hd).ut;have hv:=(hE s d hd).var;cases u with
  |struct fs=>
   simp only[UtOk] at ho;obtain⟨fld,h1,h2,h3,h4⟩:=ho.2.2 f _ h;exact⟨fs,fld,hu,h1,h2,h3,h4⟩
  |_=>simp_all [UtOk,Kd.isAgg,mapA,getA]
 ·cases h
end

/-! ### values and what stands for them -/
section
variable {P : Pg} {w : World} {Wr : WrP} {I : Info}
theorem rep_int{k:IntKind}{x:Int}{v:Value}:Rep P w Wr I (.v (.int k) x) v↔v=.int k x:=by
 simp only[Rep,RepV,RepC,mkV,Kd.isAgg];exact⟨fun⟨cs,h,k⟩=>by subst h;simpa using k,fun h=>⟨_,rfl,by simpa using h⟩⟩
theorem rep_bool{x:Bool}{v:Value}:Rep P w Wr I (.v .bool x) v↔v=.bool x:=by
 simp only[Rep,RepV,RepC,mkV,Kd.isAgg];exact⟨fun⟨cs,h,k⟩=>by subst h;simpa using k,fun h=>⟨_,rfl,by simpa using h⟩⟩
theorem rep_str{x:ByteArray}{v:Value}:Rep P w Wr I (.v .str x) v↔v=.string x:=by
 simp only[Rep,RepV,RepC,mkV,Kd.isAgg];exact⟨fun⟨cs,h,k⟩=>by subst h;simpa using k,fun h=>⟨_,rfl,by simpa using h⟩⟩
theorem rep_err{x:Bool}{v:Value}:Rep P w Wr I (.v .err x) v↔((x=true∧v=.nilIface)∨(x=false∧∃t u,v=.iface t u)):=by
 simp only[Rep,RepV,RepC,mkV,Kd.isAgg];constructor
 ·rintro⟨cs,h,hv⟩
  rcases h with⟨h,rfl⟩|⟨h,t,u,rfl⟩
  ·exact .inl ⟨h,by simpa using hv⟩
  ·exact .inr ⟨h,t,u,by simpa using hv⟩
 ·rintro(⟨h,rfl⟩|⟨h,t,u,rfl⟩)
  ·exact⟨_,.inl ⟨h,rfl⟩,by simp⟩
  ·exact⟨_,.inr ⟨h,t,u,rfl⟩,by simp⟩
theorem rep_sl{k:Kd}{xs:List k.T}{v:Value}:Rep P w Wr I (.v (.sl k) xs) v↔∃A cap,v=.slice A xs.length cap∧xs.length≤cap∧
   (xs=[]∨∃b off,A=some ⟨b,off,none⟩∧∀i (h:i<xs.length),∃cs',RepC w Wr k cs' (xs.get ⟨i,h⟩)∧MemAt w Wr b (off+i*k.size) cs'):=by
 simp only[Rep,RepV,RepC,mkV,Kd.isAgg];constructor
 ·rintro⟨cs,⟨A,cap,rfl,h⟩,hv⟩;exact⟨A,cap,by simpa using hv,h⟩
 ·rintro⟨A,cap,rfl,h⟩;exact⟨_,⟨A,cap,rfl,h⟩,by simp⟩
end
def VGood(P:Pg)(w:World)(Wr:WrP)(I:Info)(o:Oper)(ρ:Operand→Value)(x:AVal):Prop:=
 ∃v,(execOp ρ o).run P w=.ok (.value v) w∧Rep P w Wr I x v

section
variable {P : Pg} {E : Env} {w : World} {Wr : WrP} {I : Info} {ρa : Operand → AVal} {ρ : Operand → Value} {R : Type} {K : AVal → Option R} {r : R} {o : Oper}
theorem binInt_ok{op:BinOp}{k k':IntKind}{a b:Int}(hk:k=k'∨op=.shl∨op=.shr)(h:binInt op k a b K=some r)(t:TypeId):∃x,K x=some r∧∃v,(binOp op t (.int k a) (.int k' b)).run P w=.ok v w∧Rep P w Wr I x v:=by
 cases op<;>simp only[binInt] at h
 case shl=>
  split at h
  ·cases h
  ·rename_i hb;refine⟨_,h,_, ?_,rep_int.2 rfl⟩;simp[binOp,Op.shift,hb]
 case shr=>
  split at h
  ·cases h
  ·rename_i hb;refine⟨_,h,_, ?_,rep_int.2 rfl⟩;simp[binOp,Op.shift,hb]
 case quo=>
  obtain rfl:k=k':=by simpa using hk
  split at h
  ·cases h
  ·rename_i hb;refine⟨_,h,_, ?_,rep_int.2 rfl⟩;simp[binOp,Op.intDiv,hb]
 case rem=>
  obtain rfl:k=k':=by simpa using hk
  split at h
  ·cases h
  ·rename_i hb;refine⟨_,h,_, ?_,rep_int.2 rfl⟩;simp[binOp,Op.intDiv,hb]
 all_goals obtain rfl:k=k':=by simpa using hk
 all_goals first
  |(refine⟨_,h,_, ?_,rep_int.2 rfl⟩;simp[binOp,Op.intArith,Op.intBits,bitsOp];done)
  |(refine⟨_,h,_, ?_,rep_bool.2 rfl⟩;simp[binOp,Op.intCmp];done)
theorem binStr_ok{op:BinOp}{a b:ByteArray}(h:binStr op a b K=some r)(t:TypeId):∃x,K x=some r∧∃v,(binOp op t (.string a) (.string b)).run P w=.ok v w∧Rep P w Wr I x v:=by
 cases op<;>simp only[binStr] at h
 case add=>
  split at h
  ·rename_i hb;refine⟨_,h,_, ?_,rep_str.2 rfl⟩;have:¬(((a.size+b.size:Nat):Int)>IntKind.i64.max):=by
    have hm:IntKind.i64.max=9223372036854775807:=by decide
    rw[hm];omega
   simp only[binOp,Op.stringOp];rw[if_neg this];rfl
  ·cases h
 all_goals first
  |(cases h;done)
  |(refine⟨_,h,_, ?_,rep_bool.2 rfl⟩;simp[binOp,Op.stringOp];done)
theorem kindsOk_spec{op:BinOp}{k k':IntKind}(h:kindsOk op k k'=true):k=k'∨op=.shl∨op=.shr:=by
 cases op<;>simp_all [kindsOk]
/-- the two operands of an operation are told apart -/
theorem binAct_ok{op:BinOp}{x y:AVal}{u v:Value}(hx:Rep P w Wr I x u)(hy:Rep P w Wr I y v){t:TypeId}(ht:∀b,x=.v .bool b→P.p.underlying t=some .bool)(h:binAct op x y K=some r):
  (∃x,K x=some r∧∃z,(binOp op t u v).run P w=.ok z w∧Rep P w Wr I x z)∧∀(p q:Operand),(eqGuard op t p q u v).run P w=.ok () w:=by
 unfold binAct at h;split at h
 ·obtain⟨h0,h⟩:=ifT_some h;rw[rep_int] at hx hy;subst hx hy;exact⟨binInt_ok (kindsOk_spec h0) h t,fun p q=>by unfold eqGuard;split<;>rfl⟩
 ·rw[rep_str] at hx hy;subst hx hy;exact⟨binStr_ok h t,fun p q=>by unfold eqGuard;split<;>rfl⟩
 ·rename_i a b;change Bool at a;change Bool at b;rw[rep_bool] at hx hy;subst hx hy;have hu:=ht _ rfl;refine⟨?_,fun p q=>by unfold eqGuard;split<;>rfl⟩;split at h
  ·refine⟨_,h,_, ?_,rep_bool.2 rfl⟩;have e:=run_equalIn_bool w 9999 t a b hu;show((do pure (.bool (←Op.equalIn (9999+1) t (.bool a) (.bool b))):Sem Value)).run P w=_;rw[Sem.run_bind,e];rfl
  ·refine⟨_,h,_, ?_,rep_bool.2 rfl⟩;have e:=run_equalIn_bool w 9999 t a b hu;show((do pure (.bool (!(←Op.equalIn (9999+1) t (.bool a) (.bool b)))):Sem Value)).run P w=_;rw[Sem.run_bind,e];rfl
  ·cases h
 ·cases h
theorem bounds_ok{n m:Nat}(hm:n≤m){l h:Option AVal}{lv hv:Option Value}(hl:∀x,l=some x→∃v,lv=some v∧Rep P w Wr I x v)(hl0:l=none→lv=none)(hh:∀x,h=some x→∃v,hv=some v∧Rep P w Wr I x v)(hh0:h=none→hv=none)
  (isSlice:Bool) {K:Nat→Nat→Option R} (hb:bounds n l h K=some r):∃a b,a≤b∧b≤n∧K a b=some r∧(Instr.sliceBounds isSlice n m lv hv none).run P w=.ok (a,b,m) w:=by
 unfold bounds at hb;split at hb
 ·rw[hl0 rfl,hh0 rfl];exact⟨0,n,Nat.zero_le _,Nat.le_refl _,hb,by simp[Instr.sliceBounds]⟩
 ·rename_i k0 a;change Int at a;obtain⟨v,e,hv⟩:=hl _ rfl;rw[rep_int] at hv;subst hv;rw[e,hh0 rfl];split at hb
  ·rename_i hc';have hc:(0:Int)≤a∧a≤(n:Int):=hc';refine⟨a.toNat,n,by omega,Nat.le_refl _,hb, ?_⟩;simp[Instr.sliceBounds,Instr.sliceBound,asIntOf,hc]
  ·cases hb
 ·rename_i k0 a;change Int at a;obtain⟨v,e,hv⟩:=hh _ rfl;rw[rep_int] at hv;subst hv;rw[e,hl0 rfl];split at hb
  ·rename_i hc';have hc:(0:Int)≤a∧a≤(n:Int):=hc';refine⟨0,a.toNat,Nat.zero_le _,by omega,hb, ?_⟩;have h2:a≤(m:Int):=Int.le_trans hc.2 (Int.ofNat_le.2 hm);simp[Instr.sliceBounds,Instr.sliceBound,asIntOf,hc,h2]
  ·cases hb
 ·rename_i k0 a k1 b;change Int at a;change Int at b;obtain⟨v,e,hv⟩:=hl _ rfl;obtain⟨v',e',hv'⟩:=hh _ rfl;rw[rep_int] at hv hv';subst hv hv';rw[e,e'];split at hb
  ·rename_i hc';have hc:(0:Int)≤a∧a≤b∧b≤(n:Int):=hc';refine⟨a.toNat,b.toNat,by omega,by omega,hb, ?_⟩;have h2:b≤(m:Int):=Int.le_trans hc.2.2 (Int.ofNat_le.2 hm);have h0:=Int.le_trans hc.1 hc.2.1;simp[Instr.sliceBounds,Instr.sliceBound,asIntOf,hc,h2,h0,Int.toNat_of_nonneg];intro h9;exfalso;omega
  ·cases hb
 ·cases hb
end
/-! ### parts of data -/
theorem not_lt_of_blt{a b:Nat}(h:Nat.blt a b=false):¬a<b:=fun hl=>by
 have e:Nat.ble (a+1) b=true:=Nat.ble_eq_true_of_le hl;unfold Nat.blt at h;rw[e] at h;cases h
theorem at_len{k':Kd}:∀{k:Kd} {c:Nat} {gs},Kd.at k' k c=some gs→c+k'.size≤k.size:=by
 intro k
 induction k with
 |pair a b iha ihb=>
  intro c gs h;unfold Kd.at at h;split at h
  ·rename_i h0;obtain⟨rfl,rfl⟩:=h0;simp
  ·simp only at h;unfold ifT at h;split at h
   ·split at h
    ·rename_i g hg;have:=iha hg;simp only[Kd.size];omega
    ·cases h
   ·rename_i hb;split at h
    ·rename_i g hg;have:=ihb hg;simp only[Kd.size];have hb':¬c<a.size:=not_lt_of_blt hb;omega
    ·cases h
 |_=>
  intro c gs h;unfold Kd.at at h;split at h
  ·rename_i h0;obtain⟨rfl,rfl⟩:=h0;simp
  ·cases h
theorem at_rep{w:World}{Wr:WrP}{k':Kd}:∀{k:Kd} {c:Nat} {gs} {cs:List Value} {x:k.T},Kd.at k' k c=some gs→RepC w Wr k cs x→RepC w Wr k' ((cs.drop c).take k'.size) (gs.1 x):=by
 intro k
 induction k with
 |pair a b iha ihb=>
  intro c gs cs x h hr;have hlen:=hr.length;unfold Kd.at at h;split at h
  ·rename_i h0;obtain⟨rfl,rfl⟩:=h0;injection h with h;subst h;rw[List.drop_zero,List.take_of_length_le (by omega)];exact hr
  ·simp only at h;simp only[RepC] at hr;obtain⟨c1,c2,rfl,h1,h2⟩:=hr;have l1:=h1.length;have l2:=h2.length;unfold ifT at h;split at h
   ·split at h
    ·rename_i g hg;injection h with h;subst h;have:=iha hg h1;have hl:=at_len hg;rw[List.drop_append_of_le_length (by omega),List.take_append_of_le_length (by rw[List.length_drop];omega)];exact this
    ·cases h
   ·rename_i hb;have hb':¬c<a.size:=not_lt_of_blt hb;split at h
    ·rename_i g hg;injection h with h;subst h;have:=ihb hg h2;rw[List.drop_append,List.drop_eq_nil_of_le (by omega),List.nil_append,l1];exact this
    ·cases h
 |_=>
  intro c gs cs x h hr;have hlen:=hr.length;unfold Kd.at at h;split at h
  ·rename_i h0;obtain⟨rfl,rfl⟩:=h0;injection h with h;subst h;rw[List.drop_zero,List.take_of_length_le (by omega)];exact hr
  ·cases h
theorem at_set{w:World}{Wr:WrP}{k':Kd}:∀{k:Kd} {c:Nat} {gs} {cs ys:List Value} {x:k.T} {y:k'.T},Kd.at k' k c=some gs→RepC w Wr k cs x→RepC w Wr k' ys y→RepC w Wr k (cs.take c++ys++cs.drop (c+k'.size)) (gs.2 x y):=by
 intro k
 induction k with
 |pair a b iha ihb=>
  intro c gs cs ys x y h hr hy;have hlen:=hr.length;unfold Kd.at at h;split at h
  ·rename_i h0;obtain⟨rfl,rfl⟩:=h0;injection h with h;subst h;rw[List.take_zero,List.nil_append,List.drop_eq_nil_of_le (by omega),List.append_nil];exact hy
  ·simp only at h;simp only[RepC] at hr⊢;obtain⟨c1,c2,rfl,h1,h2⟩:=hr;have l1:=h1.length;have l2:=h2.length;unfold ifT at h;split at h
   ·split at h
    ·rename_i g hg;injection h with h;subst h;have hl:=at_len hg;refine⟨_,c2, ?_,iha hg h1 hy,h2⟩;rw[List.take_append_of_le_length (by omega),List.drop_append_of_le_length (by omega),List.append_assoc,List.append_assoc,List.append_assoc]
    ·cases h
   ·rename_i hb;have hb':¬c<a.size:=not_lt_of_blt hb;split at h
    ·rename_i g hg;injection h with h;subst h;refine⟨c1,_, ?_,h1,ihb hg h2 hy⟩;rw[List.take_append,List.take_of_length_le (by omega:c1.length≤c),List.drop_append,List.drop_eq_nil_of_le (by omega:c1.length≤c+k'.size),List.nil_append,l1,
      show c+k'.size-a.size=c-a.size+k'.size by omega]
     simp only[List.append_assoc]
    ·cases h
 |_=>
  intro c gs cs ys x y h hr hy;have hlen:=hr.length;unfold Kd.at at h;split at h
  ·rename_i h0;obtain⟨rfl,rfl⟩:=h0;injection h with h;subst h;rw[List.take_zero,List.nil_append,List.drop_eq_nil_of_le (by omega),List.append_nil];exact hy
  ·cases h
end Go.Proofs.YthkflageghfbgaaGreatDoor.Am
/- An operation that looks at no memory. -/
namespace Go.Proofs.YthkflageghfbgaaGreatDoor.Am
open Go Go.RowKit

theorem dropA_eq{α:Type}(l:List α)(n:Nat):dropA n l=l.drop n:=by
 induction n generalizing l with
 |zero=>simp[dropA]
 |succ n ih=>cases l with
  |nil=>simp[dropA]
  |cons x l=>simpa[dropA] using ih l
theorem takeA_eq{α:Type}(l:List α)(n:Nat):takeA n l=l.take n:=by
 induction n generalizing l with
 |zero=>simp[takeA]
 |succ n ih=>cases l with
  |nil=>simp[takeA]
  |cons x l=>simpa[takeA] using ih l

section
variable {P : Pg} {E : Env} {w : World} {Wr : WrP} {I : Info} {ρa : Operand → AVal} {ρ : Operand → Value} {R : Type} {K : AVal → Option R} {r : R} {o : Oper}
theorem VGood.of{x:AVal}{v:Value}(h:(execOp ρ o).run P w=.ok (.value v) w)(hr:Rep P w Wr I x v):VGood P w Wr I o ρ x:=⟨v,h,hr⟩
theorem RepC.one{k:Kd}(hk:k.isAgg=false){x:k.T}{v:Value}:RepV w Wr k x v↔RepC w Wr k [v] x:=by
 constructor
 ·rintro⟨cs,h,hv⟩;have hl:=h.length;have:k.size=1:=by cases k<;>first|rfl|cases hk
  rw[this] at hl
  match cs,hl with
  |[c],_=>simp only[mkV,hk] at hv;simp at hv;subst hv;exact h
 ·intro h;exact⟨_,h,by simp[mkV,hk]⟩
theorem RepV.ofAgg{k:Kd}(hk:k.isAgg=true){x:k.T}{v:Value}:RepV w Wr k x v↔∃cs:List Value,v=.agg cs.toArray∧RepC w Wr k cs x:=by
 constructor
 ·rintro⟨cs,h,hv⟩;exact⟨cs,by simpa[mkV,hk] using hv,h⟩
 ·rintro⟨cs,h,hr⟩;exact⟨cs,hr,by simpa[mkV,hk] using h⟩
theorem run_sizeOf_of{t:TypeId}{i:TypeInfo}(h:P.p.info? t=some i):(sizeOf t).run P w=.ok i.size w:=by
 simp[sizeOf,typeInfo,program,h,Sem.run,go_sem]
theorem run_isAgg_of{t:TypeId}{u:TypeDesc}(h:P.p.underlying t=some u):(isAgg t).run P w=.ok (aggD u) w:=by
 unfold isAgg;rw[Sem.run_bind,run_underlying h];cases u<;>rfl
theorem add_none(b off n:Nat):(⟨b,off,none⟩:Addr).add n=⟨b,off+n,none⟩:=by
 unfold Addr.add;split
 ·rename_i h;subst h;rfl
 ·rfl
/-- a part of a struct -/
theorem run_part{t:TypeId}{k:Kd}(hv:VarOk P t k){cs:List Value}{c:Nat}{x:k.T}(hr:RepC w Wr k ((cs.drop c).take k.size) x):
  ∃v,(part t cs.toArray c).run P w=.ok v w∧RepV w Wr k x v:=by
 obtain⟨i,hi,hs,_⟩:=hv.info;obtain⟨u,hu,ha⟩:=hv.und;unfold part;rw[Sem.run_bind,run_isAgg_of hu,ha];simp only[Result.andThen_ok];have hl:=hr.length;cases hk:k.isAgg with
 |true=>
  simp only[if_true];rw[Sem.run_bind,run_sizeOf_of hi];refine⟨_,rfl,(RepV.ofAgg hk).2 ⟨_, ?_,hr⟩⟩;rw[hs];congr 1;apply Array.ext';simp[List.extract_eq_drop_take']
 |false=>
  have h1:k.size=1:=by cases k<;>first|rfl|cases hk
  rw[h1] at hr hl;have hc:c<cs.length:=by
   rw[List.length_take,List.length_drop] at hl;omega
  have hd:(cs.drop c).take 1=[cs[c]]:=by rw[List.drop_eq_getElem_cons hc];rfl
  rw[hd] at hr;refine⟨cs[c], ?_,(RepC.one hk).2 hr⟩;simp[hc]
theorem run_part_agg{t:TypeId}{k:Kd}(hv:VarOk P t k)(hk:k.isAgg=true)(cs:List Value)(c:Nat):
  (part t cs.toArray c).run P w=.ok (.agg ((cs.drop c).take k.size).toArray) w:=by
 obtain⟨i,hi,hs,_⟩:=hv.info;obtain⟨u,hu,ha⟩:=hv.und;unfold part;rw[Sem.run_bind,run_isAgg_of hu,ha,hk];simp only[Result.andThen_ok,if_true];rw[Sem.run_bind,run_sizeOf_of hi,hs];simp only[Result.andThen_ok,Sem.run_pure];congr 2;apply Array.ext';simp[List.extract_eq_drop_take']
theorem run_part_leaf{t:TypeId}{k:Kd}(hv:VarOk P t k)(hk:k.isAgg=false){cs:List Value}{c:Nat}{v:Value}(hc:cs[c]?=some v):
  (part t cs.toArray c).run P w=.ok v w:=by
 obtain⟨u,hu,ha⟩:=hv.und;unfold part;rw[Sem.run_bind,run_isAgg_of hu,ha,hk];simp[hc]
theorem fieldPlace_run{fld:Field}{k:Kd}(hv:VarOk P fld.type k)(hp:0<k.size)(b off:Nat):
  (fieldPlace ⟨b,off,none⟩ fld).run P w=.ok ⟨b,off+fld.offset,none⟩ w:=by
 obtain⟨i,hi,hs,_⟩:=hv.info;unfold fieldPlace;rw[Sem.run_bind,run_sizeOf_of hi];simp only[Result.andThen_ok];rw[if_neg (by omega),add_none];rfl
theorem fieldAt_run(hE:TysOk P E){s f c:Nat}{k:Kd}(h:fldOf E s f=some (c,k))(b off:Nat):
  (Instr.fieldAt s (.pointer (some ⟨b,off,none⟩)) f).run P w=.ok (.pointer (some ⟨b,off+c,none⟩)) w:=by
 obtain⟨fs,fld,h1,h2,h3,h4,h5⟩:=und_fld hE h;unfold Instr.fieldAt;rw[Sem.run_bind,run_underlying h1];simp only[Result.andThen_ok,h2,Instr.sureAddr];rw[Sem.run_bind];simp only[Sem.run_pure,Result.andThen_ok];rw[Sem.run_bind,fieldPlace_run h4 h5,h3];rfl
/-- what a pointer to data that stays leads to, field by field -/
theorem fp_field{k k':Kd}{c:Nat}{gs}(hg:Kd.at k' k c=some gs){x:k.T}{b off:Nat}{cs:List Value}(hr:RepC w Wr k cs x)(hm:MemAt w Wr b off cs):
  RepC w Wr k' ((cs.drop c).take k'.size) (gs.1 x)∧MemAt w Wr b (off+c) ((cs.drop c).take k'.size):=by
 refine⟨at_rep hg hr,fun j hj=> ?_⟩;have hj':j<k'.size∧c+j<cs.length:=by
  rw[List.length_take,List.length_drop] at hj;omega
 have:=hm (c+j) hj'.2;rw[←Nat.add_assoc] at this;simpa using this

theorem RepL.at:∀{xs:List AVal} {vs:List Value} {n:Nat} {y:AVal},RepL P w Wr I xs vs→getA none (mapA some xs) n=some y→∃u,vs[n]?=some u∧Rep P w Wr I y u
 |[],_,_,_,_,h=>by simp[mapA,getA] at h
 |_::_,[],_,_,h,_=>by simp only[RepL] at h
 |x::xs,v::vs,0,y,h,hy=>by
  simp only[RepL] at h;simp only[mapA,getA,Option.some.injEq] at hy;subst hy;exact⟨v,by simp,h.1⟩
 |x::xs,v::vs,n+1,y,h,hy=>by
  simp only[RepL] at h;simp only[mapA,getA] at hy;obtain⟨u,h1,h2⟩:=h.2.at hy;exact⟨u,by simpa using h1,h2⟩
theorem eq_err{t:TypeId}{ms}(hm:P.p.underlying t=some (.interface ms)){z:Bool}{v:Value}(hx:(z=true∧v=.nilIface)∨(z=false∧∃t u,v=.iface t u))(d:Nat):
  (Op.equalIn (d+1) t v .nilIface).run P w=.ok z w:=by
 rcases hx with⟨rfl,rfl⟩|⟨rfl,t1,u1,rfl⟩
 ·simp[Op.equalIn,run_underlying hm,Sem.run_bind]
 ·simp[Op.equalIn,run_underlying hm,Sem.run_bind]
theorem binOp_err{t:TypeId}{ms}(hm:P.p.underlying t=some (.interface ms)){z:Bool}{v:Value}(hx:(z=true∧v=.nilIface)∨(z=false∧∃t u,v=.iface t u)):
  (binOp .eql t v .nilIface).run P w=.ok (.bool z) w∧(binOp .neq t v .nilIface).run P w=.ok (.bool (!z)) w:=by
 have e:=eq_err (w:=w) hm hx 9999;constructor
 ·have:(binOp .eql t v .nilIface)=(do pure (.bool (←Op.equalIn (9999+1) t v .nilIface)):Sem Value):=by
   rcases hx with⟨rfl,rfl⟩|⟨rfl,t1,u1,rfl⟩<;>rfl
  rw[this,Sem.run_bind,e];rfl
 ·have:(binOp .neq t v .nilIface)=(do pure (.bool (!(←Op.equalIn (9999+1) t v .nilIface))):Sem Value):=by
   rcases hx with⟨rfl,rfl⟩|⟨rfl,t1,u1,rfl⟩<;>rfl
  rw[this,Sem.run_bind,e];rfl
theorem guard_err{op:BinOp}{t:TypeId}{z:Bool}{v:Value}(hx:(z=true∧v=.nilIface)∨(z=false∧∃t u,v=.iface t u))(x:Operand):
  (eqGuard op t x (.const .nilIface) v .nilIface).run P w=.ok () w:=by
 rcases hx with⟨rfl,rfl⟩|⟨rfl,t1,u1,rfl⟩
 ·cases op<;>simp[eqGuard]
 ·cases op<;>simp[eqGuard]

theorem okT_of{t:Nat}{k:Kd}(hk:kdOf E t=some k):okT E t k=true:=by
 unfold kdOf at hk;unfold okT;cases hd:E.ty t with
 |none=>rw[hd] at hk;cases hk
 |some d=>
  rw[hd] at hk;exact decide_eq_true (Option.some.inj hk)
theorem leaves_rep{Wr:WrP}:∀{k:Kd} {x:k.T} {cs:List Value},RepC w Wr k cs x→RepL P w Wr I (k.leaves x) cs
 |.unit,_,_,h=>by simp only[RepC] at h;subst h;simp[Kd.leaves,RepL]
 |.pair p q,x,_,h=>by
  simp only[RepC] at h;obtain⟨c1,c2,rfl,h1,h2⟩:=h;simp only[Kd.leaves];exact(leaves_rep h1).app (leaves_rep h2)
 |.int ik,x,_,h=>by simp only[RepC] at h;subst h;simp only[Kd.leaves,RepL];exact⟨rep_int.2 rfl,trivial⟩
 |.bool,x,_,h=>by simp only[RepC] at h;subst h;simp only[Kd.leaves,RepL];exact⟨rep_bool.2 rfl,trivial⟩
 |.str,x,_,h=>by simp only[RepC] at h;subst h;simp only[Kd.leaves,RepL];exact⟨rep_str.2 rfl,trivial⟩
 |.err,x,cs,h=>by
  have h':=h;simp only[RepC] at h
  rcases h with⟨rfl,rfl⟩|⟨rfl,t,u,rfl⟩
  ·simp only[Kd.leaves,RepL];exact⟨rep_err.2 (.inl ⟨rfl,rfl⟩),trivial⟩
  ·simp only[Kd.leaves,RepL];exact⟨rep_err.2 (.inr ⟨rfl,t,u,rfl⟩),trivial⟩
 |.sl k,x,cs,h=>by
  have h':=h;simp only[RepC] at h;obtain⟨A,cap,rfl,_⟩:=h;simp only[Kd.leaves,RepL];exact⟨by simp only[Rep];exact(RepC.one (k:=.sl k) rfl).2 h',trivial⟩
 |.pt,x,cs,h=>by
  have h':=h;simp only[RepC] at h;obtain⟨n,h⟩:=h;obtain⟨A,l,cap,rfl⟩:=h.len;simp only[Kd.leaves,RepL];exact⟨by simp only[Rep];exact(RepC.one (k:=.pt) rfl).2 h',trivial⟩
theorem cellsT_map{k:Kd}:∀{cs:List AVal} {xs:List k.T},cellsT k cs=some xs→cs=xs.map fun x=>.v k x
 |[],_,h=>by obtain rfl:=Option.some.inj h;rfl
 |c::cs,xs,h=>by
  simp only[cellsT] at h;split at h
  ·rename_i k' y;split at h
   ·rename_i y' hy;split at h
    ·rename_i ys hys;obtain rfl:=Option.some.inj h;unfold castK at hy;split at hy
     ·rename_i e;subst e;obtain rfl:=Option.some.inj hy;rw[List.map_cons,←cellsT_map hys]
     ·cases hy
    ·cases h
   ·cases h
  ·cases h
theorem getA_vals{k:Kd}(d:k.T):∀{xs:List k.T} {i:Nat},i<xs.length→getA none (mapA some (xs.map fun x=>AVal.v k x)) i=some (.v k (xs.getD i d))
 |[],_,h=>absurd h (Nat.not_lt_zero _)
 |x::xs,0,_=>rfl
 |x::xs,i+1,h=>by
  have:=getA_vals d (xs:=xs) (i:=i) (Nat.lt_of_succ_lt_succ h);simpa[mapA,getA] using this
theorem cells_rep{Wr:WrP}{x:AVal}{v:Value}(hk:okV x=true)(h:Rep P w Wr I x v):RepL P w Wr I x.cells v.cells.toList:=by
 have single:∀{y:AVal},Rep P w Wr I y v→v.cells=#[v]→RepL P w Wr I [y] v.cells.toList:=by
  intro y h1 h2;rw[h2];simp only[RepL];exact⟨h1,trivial⟩
 have h0:=h;cases x<;>simp only[Rep] at h<;>simp only[AVal.cells]
 case undef=>cases hk
 case tup=>cases hk
 case nil=>exact single h0 (by rw[h];rfl)
 case v k x=>
  by_cases hg:k.isAgg=true
  ·obtain⟨cs,rfl,h1⟩:=(RepV.ofAgg hg).1 h;exact leaves_rep h1
  ·have hg':k.isAgg=false:=by simpa using hg
   have h1:=(RepC.one hg').1 h;have hv:v.cells=#[v]:=by
    cases k<;>simp only[RepC] at h1<;>first
     |(cases hg';done)
     |(have:=(List.cons.inj h1).1;subst this;rfl)
     |skip
    ·rcases h1 with⟨_,h1⟩|⟨_,t,u,h1⟩<;>(have:=(List.cons.inj h1).1;subst this;rfl)
    ·obtain⟨A,cap,h1,_⟩:=h1;have:=(List.cons.inj h1).1;subst this;rfl
    ·obtain⟨n,h1⟩:=h1;obtain⟨A,l,cap,h1⟩:=h1.len;have:=(List.cons.inj h1).1;subst this;rfl
   rw[hv];exact leaves_rep h1
 case agg cs=>
  obtain⟨vs,rfl,h1⟩:=h;exact h1
 case ref k t off len=>
  split at h
  ·obtain⟨_,_,A,cap,h,_⟩:=h;exact single h0 (by rw[h];rfl)
  ·exact h.elim
 case ptr=>
  split at h
  ·exact single h0 (by rw[h];rfl)
  ·exact h.elim
 case ep=>
  split at h
  ·obtain⟨_,b,base,_,h⟩:=h;exact single h0 (by rw[h];rfl)
  ·exact h.elim
 case pi=>
  split at h
  ·exact single h0 (by rw[h.2];rfl)
  ·exact h.elim
 case fp=>
  obtain⟨b,off,cs,h,_⟩:=h;exact single h0 (by rw[h];rfl)
 case fn=>
  obtain⟨vs,h,_⟩:=h;exact single h0 (by rw[h];rfl)
 case clo=>
  rcases Clo.form h with⟨g,caps,h⟩|⟨b,off,h⟩
  ·exact single h0 (by rw[h];rfl)
  ·exact single h0 (by rw[h];rfl)
theorem zeros_rep{Wr:WrP}:∀(k:Kd),RepL P w Wr I k.zeros k.zc
 |.unit=>by simp[Kd.zeros,Kd.zc,RepL]
 |.pair p q=>by simp only[Kd.zeros,Kd.zc];exact(zeros_rep p).app (zeros_rep q)
 |.int ik=>by simp only[Kd.zeros,Kd.zc,RepL,Kd.dflt];exact⟨rep_int.2 rfl,trivial⟩
 |.bool=>by simp only[Kd.zeros,Kd.zc,RepL,Kd.dflt];exact⟨rep_bool.2 rfl,trivial⟩
 |.str=>by simp only[Kd.zeros,Kd.zc,RepL,Kd.dflt];exact⟨rep_str.2 rfl,trivial⟩
 |.err=>by simp only[Kd.zeros,Kd.zc,RepL,Kd.dflt];exact⟨rep_err.2 (.inl ⟨rfl,rfl⟩),trivial⟩
 |.sl k=>by simp only[Kd.zeros,Kd.zc,RepL,Rep];trivial
 |.pt=>by simp only[Kd.zeros,Kd.zc,RepL,Kd.dflt,Rep];exact⟨(RepC.one (k:=.pt) rfl).2 ⟨1,none,0,rfl,Nat.zero_le _,.inl rfl⟩,trivial⟩
theorem List.take_set_succ_{l:List Value}{n:Nat}{v:Value}(h:n<l.length):(l.set n v).take (n+1)=l.take n++[v]:=by
 rw[List.take_succ_eq_append_getElem (by simpa using h)];simp[List.take_set_of_le]
theorem foldSet:∀(vs:List Value) (s:Nat) (off:Nat) (cs:Array Value),off+s+vs.length≤cs.size→
  ((vs.zipIdx s).foldl (fun cs p=>cs.setIfInBounds (off+p.2) p.1) cs).toList=cs.toList.take (off+s)++vs++cs.toList.drop (off+s+vs.length)
 |[],s,off,cs,h=>by simp
 |v::vs,s,off,cs,h=>by
  rw[List.zipIdx_cons,List.foldl_cons];simp only
  rw[foldSet vs (s+1) off _ (by simp at h⊢;omega)];simp only[Array.toList_setIfInBounds,List.length_cons] at h⊢;have hlt:off+s<cs.toList.length:=by rw[Array.length_toList];omega
  rw[show off+(s+1)=off+s+1 by omega,List.take_set_succ_ hlt,List.drop_set_of_lt (by omega)];simp[Nat.add_assoc,Nat.add_comm,Nat.add_left_comm]
theorem zipIdx_foldl_toList(v:Array Value)(off:Nat)(cs:Array Value):
  v.zipIdx.foldl (fun cs p=>cs.setIfInBounds (off+p.2) p.1) cs=(v.toList.zipIdx 0).foldl (fun cs p=>cs.setIfInBounds (off+p.2) p.1) cs:=by
 rw[←Array.foldl_toList,Array.toList_zipIdx]
theorem ifEq_eq{α:Type}{a b:Nat}{x:Option α}{y:α}(h:ifEq a b x none=some y):a=b∧x=some y:=by
 unfold ifEq at h;obtain⟨h1,h2⟩:=ifT_some h;exact⟨Nat.eq_of_beq_eq_true h1,h2⟩
theorem getA_len{α:Type}:∀{l:List α} {f:Nat},f<l.length→∃x,getA none (mapA some l) f=some x
 |x::l,0,_=>⟨x,rfl⟩
 |x::l,f+1,h=>by simp only[mapA,getA];exact getA_len (by simpa using h)
theorem places_ok(hE:TysOk P E){t:Nat}{d:TyD}(hd:E.ty t=some d){fs:Array Field}(hu:P.p.underlying t=some (.struct fs)):
  ∃places,fs.toList.mapM (fun f=>(P.p.info? f.type).map fun i=>(f.offset,i.size))=some places∧∀f ck,fldOf E t f=some ck→places[f]?=some (ck.1,ck.2.size):=by
 obtain⟨u,hu',ho⟩:=(hE t d hd).ut;rw[hu] at hu';obtain rfl:=Option.some.inj hu';simp only[UtOk] at ho;obtain⟨_,hlen,hf⟩:=ho;have key:∀(l:List Field) (n:Nat),(∀j fld,l[j]?=some fld→∃ck,getA none (mapA some d.flds) (n+j)=some ck∧fld.offset=ck.1∧∃i,P.p.info? fld.type=some i∧i.size=ck.2.size)→
   ∃places,l.mapM (fun f=>(P.p.info? f.type).map fun i=>(f.offset,i.size))=some places∧∀j ck,j<l.length→getA none (mapA some d.flds) (n+j)=some ck→places[j]?=some (ck.1,ck.2.size):=by
  intro l
  induction l with
  |nil=>intro n _;exact⟨[],rfl,fun j ck hj=>by simp at hj⟩
  |cons x l ih=>
   intro n h;obtain⟨ck,h1,h2,i,h3,h4⟩:=h 0 x rfl;obtain⟨places,h5,h6⟩:=ih (n+1) (fun j fld hj=>by have:=h (j+1) fld (by simpa using hj);rwa [←Nat.add_assoc,Nat.add_right_comm] at this);refine⟨(x.offset,i.size)::places,by simp[List.mapM_cons,h3,h5], ?_⟩;intro j ck' hj hck;cases j with
   |zero=>
    rw[Nat.add_zero] at h1 hck;rw[h1] at hck;obtain rfl:=Option.some.inj hck;simp[h2,h4]
   |succ j=>
    have:=h6 j ck' (by simpa using hj) (by rwa [←Nat.add_assoc,Nat.add_right_comm] at hck);simpa using this
 obtain⟨places,h1,h2⟩:=key fs.toList 0 (fun j fld hj=>by
  have hjl:j<d.flds.length:=by
   obtain⟨hl,_⟩:=List.getElem?_eq_some_iff.1 hj;rw[Array.length_toList] at hl;omega
  obtain⟨ck,hck⟩:=getA_len hjl;obtain⟨fld',g1,g2,g3,_⟩:=hf j ck hck;rw[Array.getElem?_toList,g1] at hj;obtain rfl:=Option.some.inj hj;obtain⟨i,g4,g5,_⟩:=g3.info;exact⟨ck,by rw[Nat.zero_add];exact hck,g2,i,g4,g5⟩)
 refine⟨places,h1,fun f ck hck=> ?_⟩;unfold fldOf at hck;rw[hd] at hck;simp only at hck;obtain⟨fld,g1,_⟩:=hf f ck hck;exact h2 f ck (by rw[Array.length_toList];exact(Array.getElem?_eq_some_iff.1 g1).1) (by rw[Nat.zero_add];exact hck)
theorem putParts_ok{t:Nat}{places:List (Nat×Nat)}(hp:∀f ck,fldOf E t f=some ck→places[f]?=some (ck.1,ck.2.size)):∀(ps:List (Nat×AVal)) (vs:List (Nat×Value)) (cs:List AVal) (zs:Array Value) {out:List AVal},
  putParts E t ps cs=some out→RepL P w Wr I cs zs.toList→ps.map (·.1)=vs.map (·.1)→RepL P w Wr I (ps.map (·.2)) (vs.map (·.2))→∃us,Instr.fill (places[·]?) zs vs=some us∧RepL P w Wr I out us.toList
 |[],[],cs,zs,out,h,hL,_,_=>by
  simp only[putParts] at h;obtain rfl:=Option.some.inj h;exact⟨zs,rfl,hL⟩
 |[],_::_,_,_,_,_,_,h,_=>by simp at h
 |_::_,[],_,_,_,_,_,h,_=>by simp at h
 |(f,x)::ps,(f',v)::vs,cs,zs,out,h,hL,hk,hv=>by
  simp only[List.map_cons,List.cons.injEq] at hk;obtain⟨rfl,hk⟩:=hk;simp only[List.map_cons,RepL] at hv;simp only[putParts] at h;split at h
  ·cases h
  ·rename_i ck hck;obtain⟨h1,h⟩:=ifT_some h;obtain⟨h2,h⟩:=ifEq_eq h;obtain⟨h3,h⟩:=ifT_some h;have hc:=cells_rep h1 hv.1;have hcl:x.cells.length=v.cells.size:=by rw[hc.length];exact Array.length_toList
   have hcl':v.cells.toList.length=v.cells.size:=Array.length_toList;have hzl:zs.toList.length=zs.size:=Array.length_toList;have hLl:=hL.length;simp only[lenA_eq] at h2 h3 h;have h3:=Nat.le_of_ble_eq_true h3;simp only[Instr.fill,hp _ _ hck];rw[if_neg (by simp;omega)];have hset:=foldSet v.cells.toList 0 ck.1 zs (by omega);rw[←zipIdx_foldl_toList] at hset;simp only[Nat.add_zero,hcl'] at hset;refine putParts_ok hp ps vs _ _ h ?_ hk hv.2;rw[hset,hcl,List.append_assoc];exact(hL.take _).app (hc.app (hL.drop _))
theorem aggV_rep{Wr:WrP}{x:AVal}{v:Value}(hk:aggV x=true)(h:Rep P w Wr I x v):∃vs:List Value,v=.agg vs.toArray∧RepL P w Wr I x.cells vs:=by
 cases x<;>simp only[aggV] at hk<;>first|(cases hk;done)|skip
 case v k y=>
  simp only[Rep] at h;obtain⟨cs,h3,h4⟩:=(RepV.ofAgg hk).1 h;exact⟨cs,h3,leaves_rep h4⟩
 case agg cs=>
  simp only[Rep] at h;exact h
theorem eqF_run(d:Nat){vs us:List Value}:∀{fs:List (Nat×Kd)} {fl:List Field} {xs ys:List AVal} {i:Nat} {b:Bool},EqF P i fs fl→eqAs fs xs ys=some b→RepL P w Wr I xs (vs.drop i)→RepL P w Wr I ys (us.drop i)→
  (Op.eqFields (d+1) vs.toArray us.toArray fl).run P w=.ok b w
 |[],[],[],[],i,b,_,he,_,_=>by
  simp only[eqAs,Option.some.injEq] at he;subst he;rfl
 |p::fs,f::fl,x::xs,y::ys,i,b,hf,he,hx,hy=>by
  simp only[EqF] at hf;obtain⟨⟨h1,h2,h3,h4,u,h5,h6⟩,h7⟩:=hf;obtain⟨v,hv,hxv⟩:∃v,vs[i]?=some v∧Rep P w Wr I x v∧RepL P w Wr I xs (vs.drop (i+1)):=by
   cases hd:vs.drop i with
   |nil=>rw[hd] at hx;simp only[RepL] at hx
   |cons v l=>
    rw[hd] at hx;simp only[RepL] at hx;have e1:vs[i]?=some v:=by rw[←Nat.add_zero i,←List.getElem?_drop,hd];rfl
    have e2:vs.drop (i+1)=l:=by rw[←List.drop_drop,hd];rfl
    rw[e2];exact⟨v,e1,hx⟩
  obtain⟨v2,hv2,hyv⟩:∃v,us[i]?=some v∧Rep P w Wr I y v∧RepL P w Wr I ys (us.drop (i+1)):=by
   cases hd:us.drop i with
   |nil=>rw[hd] at hy;simp only[RepL] at hy
   |cons v l=>
    rw[hd] at hy;simp only[RepL] at hy;have e1:us[i]?=some v:=by rw[←Nat.add_zero i,←List.getElem?_drop,hd];rfl
    have e2:us.drop (i+1)=l:=by rw[←List.drop_drop,hd];rfl
    rw[e2];exact⟨v,e1,hy⟩
  have p1:=run_part_leaf (P:=P) (w:=w) h3 h4 hv;have p2:=run_part_leaf (P:=P) (w:=w) h3 h4 hv2;simp only[eqAs] at he;split at he
  ·cases he
  ·rename_i r hr;have ih:=eqF_run d h7 hr hxv.2 hyv.2;simp only[Op.eqFields];rw[if_pos h1,h2,Sem.run_bind,p1];simp only[Result.andThen_ok];rw[Sem.run_bind,p2];simp only[Result.andThen_ok];have fin:∀c:Bool,(Op.equalIn (d+1) f.type v v2).run P w=.ok c w→(do let q←Op.equalIn (d+1) f.type v v2;if(!q)=true then pure false else Op.eqFields (d+1) vs.toArray us.toArray fl:Sem Bool).run P w=.ok (c&&r) w:=by
    intro c hc;rw[Sem.run_bind,hc];simp only[Result.andThen_ok];cases c
    ·rfl
    ·simp only[Bool.not_true,Bool.false_eq_true,if_false,Bool.true_and];exact ih
   split at he
   ·rename_i q k a k' b' e1;obtain⟨hk,he⟩:=ifT_some he;obtain rfl:=Option.some.inj he;have hk:=of_decide_eq_true hk;subst hk;rw[e1] at h6;cases u<;>simp only at h6
    have g1:=rep_int.1 hxv.1;have g2:=rep_int.1 hyv.1;subst g1 g2;exact fin _ (run_equalIn_int w d f.type k _ a b' h5)
   ·rename_i a b' e1;obtain rfl:=Option.some.inj he;rw[e1] at h6;cases u<;>simp only at h6
    have g1:=rep_str.1 hxv.1;have g2:=rep_str.1 hyv.1;subst g1 g2;exact fin _ (run_equalIn_string w d f.type a b' h5)
   ·rename_i a b' e1;obtain rfl:=Option.some.inj he;rw[e1] at h6;cases u<;>simp only at h6
    have g1:=rep_bool.1 hxv.1;have g2:=rep_bool.1 hyv.1;subst g1 g2;exact fin _ (run_equalIn_bool' w d f.type a b' h5)
   ·cases he
 |[],_::_,_,_,_,_,hf,_,_,_=>by simp only[EqF] at hf
 |_::_,[],_,_,_,_,hf,_,_,_=>by simp only[EqF] at hf
 |[],[],_::_,_,_,_,_,he,_,_=>by simp only[eqAs] at he;cases he
 |[],[],[],_::_,_,_,_,he,_,_=>by simp only[eqAs] at he;cases he
 |_::_,_::_,[],_,_,_,_,he,_,_=>by simp only[eqAs] at he;cases he
 |_::_,_::_,_::_,[],_,_,_,he,_,_=>by simp only[eqAs] at he;cases he
theorem vact_ok(hE:TysOk P E)(hρ:∀x,Rep P w Wr I (ρa x) (ρ x))(hc:∀c,ρ (.const c)=c)(h:vact E o.op ρa K=some r):
  ∃x,K x=some r∧VGood P w Wr I o ρ x:=by
 generalize hop:o.op=op at h;cases op<;>simp only[vact] at h
 case move x=>exact⟨_,h,_,by simp[execOp,hop],hρ x⟩
 case assign x=>exact⟨_,h,_,by simp[execOp,hop],hρ x⟩
 case build t ps=>
  split at h
  ·rename_i p q hk;unfold kdOf at hk;split at hk
   ·rename_i d hd;have hkd:=Option.some.inj hk;obtain⟨hna,h⟩:=ifT_some h;have hna:Nat.beq d.arr 0=true:=by
     unfold noArr at hna;rw[hd] at hna;exact hna
    split at h
    ·rename_i cs hcs;obtain⟨i,hi,_,z,hz,hzc,_⟩:=(hE t d hd).var.info;obtain⟨ut,hu,hag⟩:=(hE t d hd).var.und;obtain⟨u,hu',ho⟩:=(hE t d hd).ut;rw[hu] at hu';obtain rfl:=Option.some.inj hu';have hst:∃fs,ut=.struct fs:=by
      rw[hkd] at hag;cases ut<;>simp_all [UtOk,Kd.isAgg,aggD]
     obtain⟨fs,rfl⟩:=hst;obtain⟨places,h1,h2⟩:=places_ok hE hd hu;have hz2:RepL P w Wr I (Kd.pair p q).zeros z.cells.toList:=by rw[hzc,hkd];exact zeros_rep _
     have hps:∀l:List (Nat×Operand),RepL P w Wr I ((mapA (fun p:Nat×Operand=>(p.1,ρa p.2)) l).map (·.2)) ((l.map fun p=>(p.1,ρ p.2)).map (·.2))∧(mapA (fun p:Nat×Operand=>(p.1,ρa p.2)) l).map (·.1)=(l.map fun p=>(p.1,ρ p.2)).map (·.1):=by
      intro l
      induction l with
      |nil=>exact⟨by simp[mapA,RepL],rfl⟩
      |cons x l ih=>exact⟨by simp only[mapA,List.map_cons,RepL];exact⟨hρ x.2,ih.1⟩,by simp only[mapA,List.map_cons];rw[ih.2]⟩
     obtain⟨us,h3,h4⟩:=putParts_ok h2 _ _ _ _ hcs hz2 (hps ps.toList).2 (hps ps.toList).1;have hb:P.p.built t (ps.map fun p=>(p.1,ρ p.2)).toList=some us:=by
      unfold Program.built;simp only[hi,hu,hz,h1];rw[Array.toList_map];simpa using h3
     refine⟨_,h,.agg us, ?_,by simp only[Rep];exact⟨us.toList,by simp,h4⟩⟩;have:=run_build w t _ us hb;simp only[execOp,hop];rw[Sem.run_bind,this];rfl
    ·cases h
   ·cases hk
  ·cases h
 case pick c a b=>
  split at h
  ·rename_i t ht;have h1:=hρ c;rw[ht,rep_bool] at h1;cases t with
   |true=>exact⟨_,h,_,by simp[execOp,hop,h1,asBool],hρ a⟩
   |false=>exact⟨_,h,_,by simp[execOp,hop,h1,asBool],hρ b⟩
  ·cases h
 case binOp op t x y t'=>
  have main:∀(hb:∀b,ρa x=.v .bool b→P.p.underlying t=some .bool),binAct op (ρa x) (ρa y) K=some r→∃x,K x=some r∧VGood P w Wr I o ρ x:=by
   intro hb h;obtain⟨⟨z,h1,v,h2,h3⟩,h4⟩:=binAct_ok (hρ x) (hρ y) hb h;refine⟨z,h1,v, ?_,h3⟩;simp only[execOp,hop];rw[Sem.run_bind,Sem.run_bind,h4 x y];simp only[Result.andThen_ok];rw[h2];rfl
  split at h
  ·obtain⟨h0,h⟩:=ifT_some h;obtain⟨ms,hm⟩:=und_err hE h0;unfold errAct at h;split at h
   ·rename_i a ha;change Bool at a;have hx:=hρ x;rw[ha,rep_err] at hx;have hy:=hc .nilIface;split at h
    ·refine⟨_,h,_, ?_,rep_bool.2 rfl⟩;simp only[execOp,hop];rw[hy,Sem.run_bind,Sem.run_bind,guard_err hx];simp only[Result.andThen_ok];rw[(binOp_err hm hx).1];rfl
    ·refine⟨_,h,_, ?_,rep_bool.2 rfl⟩;simp only[execOp,hop];rw[hy,Sem.run_bind,Sem.run_bind,guard_err hx];simp only[Result.andThen_ok];rw[(binOp_err hm hx).2];rfl
    ·cases h
   ·cases h
  ·split at h
   ·rename_i hax;split at h
    ·rename_i fs hfs;obtain⟨hay,h⟩:=ifT_some h;unfold eqFs at hfs;split at hfs
     ·rename_i d hd;obtain⟨heq,hfs⟩:=ifT_some hfs;obtain rfl:=Option.some.inj hfs;obtain⟨e1,e2,fl,e3,e4⟩:=(hE t d hd).eqf heq;obtain⟨vs,hx,hx2⟩:=aggV_rep hax (hρ x);obtain⟨us,hy,hy2⟩:=aggV_rep hay (hρ y);unfold aggAct at h;split at h
      ·cases h
      ·rename_i b hb;have hr:=eqF_run (P:=P) (w:=w) 9998 (vs:=vs) (us:=us) e4 hb (by rw[List.drop_zero];exact hx2) (by rw[List.drop_zero];exact hy2);have hfo:P.p.fieldsOf t=fl:=by simp[Program.fieldsOf,e3]
       have hq:(Op.equalIn 10000 t (.agg vs.toArray) (.agg us.toArray)).run P w=.ok b w:=by
        rw[show(10000:Nat)=9999+1 from rfl,run_equalIn_struct w 9999 t _ _ (by rw[hfo];exact e3) e1,hfo];exact hr
       split at h
       ·refine⟨_,h,_, ?_,rep_bool.2 rfl⟩;simp only[execOp,hop];rw[hx,hy,Sem.run_bind,Sem.run_bind,run_eqGuard_agg w _ t x y _ _ e2];simp only[Result.andThen_ok];rw[run_eql_struct,hq];rfl
       ·refine⟨_,h,_, ?_,rep_bool.2 rfl⟩;simp only[execOp,hop];rw[hx,hy,Sem.run_bind,Sem.run_bind,run_eqGuard_agg w _ t x y _ _ e2];simp only[Result.andThen_ok];rw[run_neq_struct,hq];rfl
       ·cases h
     ·cases hfs
    ·cases h
   ·split at h
    ·obtain⟨h0,h⟩:=ifT_some h;exact main (fun b _=>und_bool hE h0) h
    ·rename_i hn;exact main (fun b hb=>absurd hb (hn b)) h
 case unOp op t x=>
  split at h
  ·rename_i k n hx;have h1:=hρ x;rw[hx,rep_int] at h1;exact⟨_,h,_,by simp[execOp,hop,h1,Op.unary,Op.intArith],rep_int.2 rfl⟩
  ·rename_i b hx;have h1:=hρ x;rw[hx,rep_bool] at h1;exact⟨_,h,_,by simp[execOp,hop,h1,Op.unary],rep_bool.2 rfl⟩
  ·cases h
 case convert src dst x=>
  split at h
  ·rename_i k0 k k1 n h0 h1 hx;have h2:=hρ x;rw[hx,rep_int] at h2;obtain⟨u,hu⟩:=und_some hE h0;have hd:=und_int hE h1;refine⟨_,h,_, ?_,rep_int.2 rfl⟩;simp only[execOp,hop,h2,convert];simp[run_underlying hu,run_underlying hd,Sem.run_bind,Conv.intToInt]
  ·cases h
 case extract x i=>
  split at h
  ·rename_i vs hx;have h1:=hρ x;rw[hx] at h1;simp only[Rep] at h1;obtain⟨us,h2,h3⟩:=h1;split at h
   ·rename_i y hy;obtain⟨u,hu,hr⟩:=h3.at hy;exact⟨_,h,u,by simp[execOp,hop,h2,Instr.extract,hu],hr⟩
   ·cases h
  ·cases h
 case nilCheck x=>
  have h1:=hρ x;split at h
  ·rename_i t c hx;rw[hx] at h1;have h2:=h1;simp only[Rep] at h2;split at h2
   ·exact⟨_,h,_,by simp[execOp,hop,h2],h1⟩
   ·exact h2.elim
  ·rename_i k y hx;rw[hx] at h1;have h2:=h1;simp only[Rep] at h2;obtain⟨b,off,cs,h2,_⟩:=h2;exact⟨_,h,_,by simp[execOp,hop,h2],h1⟩
  ·cases h
 case fieldAddr s x f=>
  split at h
  ·cases h
  ·rename_i ck hf;have h1:=hρ x;split at h
   ·rename_i t c hx;rw[hx] at h1;simp only[Rep] at h1;split at h1
    ·rename_i b n hi;refine⟨_,h,.pointer (some ⟨b,c+ck.1,none⟩), ?_, ?_⟩
     ·simp only[execOp,hop,h1];rw[Sem.run_bind,fieldAt_run hE hf];rfl
     ·simp only[Rep,hi]
    ·exact h1.elim
   ·rename_i t i c hx;rw[hx] at h1;simp only[Rep] at h1;split at h1
    ·rename_i k n loc N hi;obtain⟨hlt,b,base,hl,h1⟩:=h1;refine⟨_,h,.pointer (some ⟨b,base+i*k.size+c+ck.1,none⟩), ?_, ?_⟩
     ·simp only[execOp,hop,h1];rw[Sem.run_bind,fieldAt_run hE hf];rfl
     ·simp only[Rep,hi];exact⟨hlt,b,base,hl,by rw[Nat.add_assoc]⟩
    ·exact h1.elim
   ·rename_i k y hx;rw[hx] at h1;simp only[Rep] at h1;obtain⟨b,off,cs,h1,h2,h3⟩:=h1;split at h
    ·rename_i gs hg;have h4:=fp_field hg h2 h3;refine⟨_,h,.pointer (some ⟨b,off+ck.1,none⟩), ?_, ?_⟩
     ·simp only[execOp,hop,h1];rw[Sem.run_bind,fieldAt_run hE hf];rfl
     ·simp only[Rep];exact⟨b,off+ck.1,_,rfl,h4.1,h4.2⟩
    ·cases h
   ·cases h
 case field s x f=>
  split at h
  ·cases h
  ·rename_i ck hf;obtain⟨fs,fld,f1,f2,f3,f4,f5⟩:=und_fld hE hf;have h1:=hρ x;split at h
   ·rename_i k y hx;rw[hx] at h1;obtain⟨hagg,h⟩:=ifT_some h;split at h
    ·rename_i gs hg;simp only[Rep] at h1;obtain⟨cs,h2,h3⟩:=(RepV.ofAgg hagg).1 h1;have h4:=at_rep hg h3;rw[←f3] at h4;obtain⟨v,h5,h6⟩:=run_part f4 h4;refine⟨_,h,v, ?_,by simp only[Rep];exact h6⟩;simp only[execOp,hop,h2,Instr.field];simp only[Sem.run_bind,run_underlying f1,Result.andThen_ok,f2,asAgg,Sem.run_pure];rw[h5];rfl
    ·cases h
   ·rename_i cs hx;rw[hx] at h1;simp only[Rep] at h1;obtain⟨vs,h2,h3⟩:=h1;have run:∀v,(part fld.type vs.toArray fld.offset).run P w=.ok v w→(execOp ρ o).run P w=.ok (.value v) w:=by
     intro v hv;simp only[execOp,hop,h2,Instr.field];simp only[Sem.run_bind,run_underlying f1,Result.andThen_ok,f2,asAgg,Sem.run_pure];rw[hv];rfl
    split at h
    ·rename_i a b hk;rw[hk] at f4;refine⟨_,h,_,run _ (run_part_agg f4 rfl vs fld.offset), ?_⟩;simp only[Rep];refine⟨_,rfl, ?_⟩;rw[f3];exact(h3.drop ck.1).take _
    ·rename_i hk;split at h
     ·rename_i y hy;obtain⟨u,hu,hr⟩:=h3.at hy;have hna:ck.2.isAgg=false:=by
       cases hck:ck.2 with
       |pair a b=>exact absurd hck (hk a b)
       |unit=>rw[hck] at f5;simp[Kd.size] at f5
       |_=>rfl
      exact⟨_,h,u,run _ (run_part_leaf f4 hna (by rw[f3];exact hu)),hr⟩
     ·cases h
   ·cases h
 case indexAddr ty x i=>
  have h1:=hρ x;have h2:=hρ i;split at h
  ·rename_i k xs k1 n hx hi;change Int at n;obtain⟨h0,h⟩:=ifT_some h;obtain⟨e,inf,u1,u2,u3,u4⟩:=und_sl hE h0;rw[hx,rep_sl] at h1;rw[hi,rep_int] at h2;split at h
   ·rename_i hc';have hc:(0:Int)≤n∧n<(List.length (α:=k.T) xs:Int):=hc';obtain⟨A,cap,hv,hcap,hm⟩:=h1;have hlt:n.toNat<List.length (α:=k.T) xs:=by omega
    rcases hm with hm|⟨b,off,rfl,hm⟩
    ·rw[hm] at hlt;simp at hlt
    ·obtain⟨cs,hm1,hm2⟩:=hm n.toNat hlt;refine⟨_,h,.pointer (some ⟨b,off+n.toNat*inf.size,none⟩), ?_, ?_⟩
     ·simp only[execOp,hop,hv,h2,Instr.indexAt];simp[Sem.run_bind,asIntOf,run_underlying u1,hc,run_sizeOf_of u2,add_none]
     ·simp only[Rep];refine⟨b,_,cs,rfl, ?_,by rw[u3];exact hm2⟩;have e:List.getD (α:=k.T) xs n.toNat k.dflt=List.get (α:=k.T) xs ⟨n.toNat,hlt⟩:=by simp[List.getD,hlt]
      rw[e];exact hm1
   ·cases h
  ·rename_i k t off len k1 n hx hi;change Int at n;obtain⟨h0,h⟩:=ifT_some h;obtain⟨e,inf,u1,u2,u3,u4⟩:=und_sl hE h0;rw[hx] at h1;rw[hi,rep_int] at h2;split at h
   ·rename_i hc';have hc:(0:Int)≤n∧n<(len:Int):=hc';simp only[Rep] at h1;split at h1
    ·rename_i k2 n2 loc N hI;obtain⟨rfl,hle,A,cap,hv,hcap,hm⟩:=h1
     rcases hm with⟨hm,_⟩|⟨b,base,hl,rfl,hN⟩
     ·omega
     ·refine⟨_,h,.pointer (some ⟨b,base+off*k.size+n.toNat*inf.size,none⟩), ?_, ?_⟩
      ·simp only[execOp,hop,hv,h2,Instr.indexAt];simp[Sem.run_bind,asIntOf,run_underlying u1,hc,run_sizeOf_of u2,add_none]
      ·simp only[Rep,hI];refine⟨by omega,b,base,hl, ?_⟩;rw[u3,Nat.add_mul,Nat.add_zero,Nat.add_assoc]
    ·exact h1.elim
   ·cases h
  ·rename_i t c k1 n hx hi;change Int at n;rw[hx] at h1;rw[hi,rep_int] at h2;split at h
   ·rename_i nk hn;obtain⟨e,u1,u2,u3,u4⟩:=und_arr hE hn;obtain⟨inf,i1,i2,_⟩:=u2.info;cases hc0:Nat.beq c 0 with
    |false=>simp only[ifEq,hc0,ifT] at h;cases h
    |true=>
     simp only[ifEq,hc0,ifT] at h;obtain rfl:=Nat.eq_of_beq_eq_true hc0;split at h
     ·rename_i hc';have hc:(0:Int)≤n∧n<(nk.1:Int):=hc';simp only[Rep] at h1;split at h1
      ·rename_i b m hI;refine⟨_,h,.pointer (some ⟨b,0+n.toNat*inf.size,none⟩), ?_, ?_⟩
       ·simp only[execOp,hop,h1,h2,Instr.indexAt];simp[Sem.run_bind,asIntOf,run_underlying u1,Instr.sureAddr,hc,run_sizeOf_of i1,add_none]
       ·simp only[Rep,hI];refine⟨by omega, ?_⟩;rw[i2,u4,Nat.mul_one,Nat.zero_add]
      ·exact h1.elim
     ·cases h
   ·cases h
  ·cases h
 case index ty x i=>
  have h1:=hρ x;have h2:=hρ i;split at h
  ·rename_i s k1 n h0 hx hi;change Int at n;change ByteArray at s;have hu:=und_str hE h0;rw[hx,rep_str] at h1;rw[hi,rep_int] at h2;split at h
   ·rename_i hc';have hc:(0:Int)≤n∧n<(s.size:Int):=hc';have hlt:n.toNat<s.size:=by omega
    refine⟨_,h,_, ?_,rep_int.2 rfl⟩;have e1:s[n.toNat]?=some s[n.toNat]:=getElem?_pos s n.toNat hlt;have e2:s.data.getD n.toNat 0=s[n.toNat]:=by
     rw[Array.getD_eq_getD_getElem?,Array.getElem?_eq_getElem (by exact hlt)];rfl
    simp only[execOp,hop,h1,h2,Instr.index];simp[Sem.run_bind,asIntOf,run_underlying hu,hc.1,e1,e2]
   ·cases h
  ·rename_i x' n h0 hi;change Int at n;rw[hi,rep_int] at h2;split at h
   ·rename_i nk hn;obtain⟨e,u1,u2,u3,u4⟩:=und_arr hE hn;obtain⟨inf,i1,i2,_⟩:=u2.info;cases hcn:Nat.beq (lenA (ρa x).cells) nk.1 with
    |false=>simp only[ifEq,hcn,ifT] at h;cases h
    |true=>
     simp only[ifEq,hcn] at h;have hcn:=Nat.eq_of_beq_eq_true hcn;rw[lenA_eq] at hcn;obtain⟨_,h⟩:=ifT_some (b:=true) h;obtain⟨hg,h⟩:=ifT_some h;split at h
     ·rename_i xs hxs;split at h
      ·rename_i hc';have hc:(0:Int)≤n∧n<(nk.1:Int):=hc';have hmap:=cellsT_map hxs;have hlen:nk.1=xs.length:=by rw[←hcn,hmap,List.length_map]
       have agg:∃vs:List Value,ρ x=.agg vs.toArray∧RepL P w Wr I (ρa x).cells vs:=by
        generalize ρa x=y at h1 hg;cases y<;>simp only[isAggV] at hg<;>try cases hg
        case v k y=>
         simp only[Rep] at h1;obtain⟨cs,h3,h4⟩:=(RepV.ofAgg hg).1 h1;exact⟨cs,h3,leaves_rep h4⟩
        case agg cs=>
         simp only[Rep] at h1;exact h1
       obtain⟨vs,hv,hr⟩:=agg;rw[hmap] at hr;obtain⟨u,hu,hru⟩:=hr.at (getA_vals nk.2.dflt (by omega:n.toNat<xs.length));refine⟨_,h,u, ?_,hru⟩;simp only[execOp,hop,hv,h2,Instr.index];have hp:=run_part_leaf (P:=P) (w:=w) u2 u3 hu;simp[Sem.run_bind,asIntOf,run_underlying u1,hc,run_sizeOf_of i1,i2,u4,hp]
      ·cases h
     ·cases h
   ·cases h
  ·cases h
 case slice ty x lo hi mx=>
  cases mx with
  |some m=>
   cases lo with
   |some l=>simp only[vact] at h;cases h
   |none=>
   cases hi with
   |none=>simp only[vact] at h;cases h
   |some hi=>
    simp only[vact] at h;have h1:=hρ x;have h2:=hρ hi;have h3:=hρ m;split at h
    ·rename_i k t off len k1 n k2 n2 hx hh hm;change Int at n;change Int at n2;obtain⟨h0,h⟩:=ifT_some h;obtain⟨e,inf,u1,u2,u3,u4⟩:=und_sl hE h0;rw[hx] at h1;rw[hh,rep_int] at h2;rw[hm,rep_int] at h3;split at h
     ·rename_i hc';obtain⟨c1,c2,c3⟩:(0:Int)≤n∧n≤(len:Int)∧n2=n:=hc';subst c3;simp only[Rep] at h1;split at h1
      ·rename_i k3 n3 loc N hI;obtain⟨rfl,hle,A,cap,hv,hcap,hm⟩:=h1;refine⟨_,h,.slice (if n2.toNat=0 then A else A.map (·.add (0*inf.size))) (n2.toNat-0) (n2.toNat-0), ?_, ?_⟩
       ·simp only[execOp,hop,hv,h2,h3,Instr.sliceAt,Option.map_none,Option.map_some];have e1:n2≤(cap:Int):=by omega
        simp[Sem.run_bind,run_underlying u1,Instr.slice,Instr.sliceBounds,Instr.sliceBound,asIntOf,run_sizeOf_of u2,h2,h3,c1,e1];exact fun hlt=>absurd hlt (by omega)
       ·have ea:(if n2.toNat=0 then A else A.map (·.add (0*inf.size)))=A:=by
         split
         ·rfl
         ·cases A with
          |none=>rfl
          |some a=>
           rcases hm with⟨g1,g2⟩|⟨b,base,_,g2,_⟩
           ·omega
           ·have g2:=Option.some.inj g2;subst g2;simp[add_none]
        rw[ea];simp only[Rep,hI];refine⟨trivial,by omega,A,_,rfl,Nat.le_refl _, ?_⟩
        rcases hm with⟨g1,g2⟩|⟨b,base,g1,g2,g3⟩
        ·left;omega
        ·right;refine⟨b,base,g1,g2, ?_⟩;have:(off+(n2.toNat-0))*k.size≤(off+cap)*k.size:=Nat.mul_le_mul_right _ (by omega);omega
      ·exact h1.elim
     ·cases h
    ·cases h
  |none=>
  simp only[vact] at h;have h1:=hρ x;have hl:∀y,lo.map ρa=some y→∃v,lo.map ρ=some v∧Rep P w Wr I y v:=by
   intro y hy;cases lo with
   |none=>cases hy
   |some q=>injection hy with hy;subst hy;exact⟨_,rfl,hρ q⟩
  have hl0:lo.map ρa=none→lo.map ρ=none:=by cases lo<;>simp
  have hh:∀y,hi.map ρa=some y→∃v,hi.map ρ=some v∧Rep P w Wr I y v:=by
   intro y hy;cases hi with
   |none=>cases hy
   |some q=>injection hy with hy;subst hy;exact⟨_,rfl,hρ q⟩
  have hh0:hi.map ρa=none→hi.map ρ=none:=by cases hi<;>simp
  split at h
  ·rename_i s hx;change ByteArray at s;obtain⟨h0,h⟩:=ifT_some h;have hu:=und_str hE h0;rw[hx,rep_str] at h1;obtain⟨a,b,hab,hb,hK,hr⟩:=bounds_ok (w:=w) (P:=P) (Nat.le_refl _) hl hl0 hh hh0 false h;refine⟨_,hK,_, ?_,rep_str.2 rfl⟩;simp only[execOp,hop,h1,Instr.sliceAt,Option.map_none];simp[Sem.run_bind,run_underlying hu,Instr.slice,hr]
  ·rename_i k xs hx;obtain⟨h0,h⟩:=ifT_some h;obtain⟨e,inf,u1,u2,u3,u4⟩:=und_sl hE h0;rw[hx,rep_sl] at h1;obtain⟨A,cap,hv,hcap,hm⟩:=h1;obtain⟨a,b,hab,hb,hK,hr⟩:=bounds_ok (w:=w) (P:=P) hcap hl hl0 hh hh0 true h;have hlen:((List.drop (α:=k.T) a xs).take (b-a)).length=b-a:=by
    rw[List.length_take,List.length_drop];omega
   refine⟨_,hK,.slice (if cap=a then A else A.map (·.add (a*inf.size))) (b-a) (cap-a), ?_, ?_⟩
   ·simp only[execOp,hop,hv,Instr.sliceAt,Option.map_none];simp[Sem.run_bind,run_underlying u1,Instr.slice,hr,run_sizeOf_of u2]
   ·rw[rep_sl];refine⟨_,cap-a,by rw[hlen],by rw[hlen];omega, ?_⟩
    by_cases hz:b-a=0
    ·left;exact List.length_eq_zero_iff.1 (by rw[hlen];exact hz)
    ·right;have hne:cap≠a:=by omega
     rcases hm with hm|⟨bb,off,rfl,hm⟩
     ·rw[hm] at hb;simp at hb;omega
     ·refine⟨bb,off+a*k.size, ?_,fun i hi=> ?_⟩
      ·rw[if_neg hne,u3];simp[add_none]
      ·rw[hlen] at hi;obtain⟨cs,c1,c2⟩:=hm (a+i) (by omega);refine⟨cs, ?_, ?_⟩
       ·have e2:((List.drop (α:=k.T) a xs).take (b-a)).get ⟨i,by rw[hlen];exact hi⟩=xs.get ⟨a+i,by omega⟩:=by simp
        rw[e2];exact c1
       ·rw[Nat.add_mul] at c2;rw[Nat.add_assoc];exact c2
  ·rename_i k t off len hx;obtain⟨h0,h⟩:=ifT_some h;obtain⟨e,inf,u1,u2,u3,u4⟩:=und_sl hE h0;rw[hx] at h1;simp only[Rep] at h1;split at h1
   ·rename_i k2 n2 loc N hI;obtain⟨rfl,hle,A,cap,hv,hcap,hm⟩:=h1;obtain⟨a,b,hab,hb,hK,hr⟩:=bounds_ok (w:=w) (P:=P) hcap hl hl0 hh hh0 true h;refine⟨_,hK,.slice (if cap=a then A else A.map (·.add (a*inf.size))) (b-a) (cap-a), ?_, ?_⟩
    ·simp only[execOp,hop,hv,Instr.sliceAt,Option.map_none];simp[Sem.run_bind,run_underlying u1,Instr.slice,hr,run_sizeOf_of u2]
    ·simp only[Rep,hI];refine⟨trivial,by omega,_,cap-a,rfl,by omega, ?_⟩
     by_cases hz:cap=a
     ·left;omega
     ·right
      rcases hm with⟨_,hm⟩|⟨bb,base,hl,rfl,hN⟩
      ·omega
      ·refine⟨bb,base,hl, ?_, ?_⟩
       ·rw[if_neg hz,u3];simp[add_none,Nat.add_mul,Nat.add_assoc]
       ·rw[show off+a+(cap-a)=off+cap by omega];exact hN
   ·exact h1.elim
  ·cases h
 case call c=>
  obtain⟨cal,args,tys⟩:=c;cases cal with
  |value f=>simp only[vact] at h;cases h
  |invoke a b=>simp only[vact] at h;cases h
  |builtin b=>
  have run:∀{v:Value},(Go.builtin b tys o.type (args.map fun|.const _=>true|_=>false) (args.map ρ)).run P w=.ok (.value v) w→(execOp ρ o).run P w=.ok (.value v) w:=by
   intro v hv;simp only[execOp,hop,resolve,invoke];rw[Sem.run_bind];simp only[Sem.run_pure,Result.andThen_ok];exact hv
  cases b<;>simp only[vact] at h<;>first|(cases h;done)|skip
  case len=>
   split at h
   ·rename_i x ty tl ha ht;have ea:args.map ρ=#[ρ x]:=by
     have:args=#[x]:=Array.ext' (by simpa using ha);rw[this];simp
    have et:tys[0]?=some ty:=by
     rw[←Array.getElem?_toList,ht];rfl
    have h1:=hρ x;split at h
    ·rename_i s hx;obtain⟨h0,h⟩:=ifT_some h;rw[hx,rep_str] at h1;refine⟨_,h,_,run ?_,rep_int.2 rfl⟩;simp only[Go.builtin,ea,h1];simp[Builtin.len_,et,Sem.run_bind,run_underlying (und_str hE h0)];rfl
    ·rename_i k xs hx;obtain⟨h0,h⟩:=ifT_some h;obtain⟨e,inf,u1,u2,u3,u4⟩:=und_sl hE h0;rw[hx,rep_sl] at h1;obtain⟨A,cap,hv,_⟩:=h1;refine⟨_,h,_,run ?_,rep_int.2 rfl⟩;simp only[Go.builtin,ea,hv];simp[Builtin.len_,et,Sem.run_bind,run_underlying u1];rfl
    ·rename_i k t off len hx;obtain⟨h0,h⟩:=ifT_some h;obtain⟨e,inf,u1,u2,u3,u4⟩:=und_sl hE h0;rw[hx] at h1;simp only[Rep] at h1;split at h1
     ·obtain⟨rfl,hle,A,cap,hv,hcap,hm⟩:=h1;refine⟨_,h,_,run ?_,rep_int.2 rfl⟩;simp only[Go.builtin,ea,hv];simp[Builtin.len_,et,Sem.run_bind,run_underlying u1];rfl
     ·exact h1.elim
    ·rename_i hx;split at h
     ·rename_i k hk;have h0:okT E ty (.sl k)=true:=by
       exact okT_of hk
      obtain⟨e,inf,u1,u2,u3,u4⟩:=und_sl hE h0;rw[hx] at h1;simp only[Rep] at h1;refine⟨_,h,_,run ?_,rep_int.2 rfl⟩;simp only[Go.builtin,ea,h1];simp[Builtin.len_,et,Sem.run_bind,run_underlying u1];rfl
     ·cases h
    ·cases h
   ·cases h
  case min=>
   split at h
   ·rename_i x y ha;have ea:args.map ρ=#[ρ x,ρ y]:=by
     have:args=#[x,y]:=Array.ext' (by simpa using ha);rw[this];simp
    have h1:=hρ x;have h2:=hρ y;split at h
    ·rename_i k a k1 b hx hy;rw[hx,rep_int] at h1;rw[hy,rep_int] at h2;refine⟨_,h,_,run ?_,rep_int.2 rfl⟩;simp only[Go.builtin,ea,h1,h2];simp[Builtin.min_,Builtin.min2,Sem.run_bind]
    ·cases h
   ·rename_i x y z ha;have ea:args.map ρ=#[ρ x,ρ y,ρ z]:=by
     have:args=#[x,y,z]:=Array.ext' (by simpa using ha);rw[this];simp
    have h1:=hρ x;have h2:=hρ y;have h3:=hρ z;split at h
    ·rename_i k a k1 b k2 c hx hy hz;rw[hx,rep_int] at h1;rw[hy,rep_int] at h2;rw[hz,rep_int] at h3;refine⟨_,h,_,run ?_,rep_int.2 rfl⟩;simp only[Go.builtin,ea,h1,h2,h3];simp[Builtin.min_,Builtin.min2,Sem.run_bind]
    ·cases h
   ·cases h
  case max=>
   split at h
   ·rename_i x y ha;have ea:args.map ρ=#[ρ x,ρ y]:=by
     have:args=#[x,y]:=Array.ext' (by simpa using ha);rw[this];simp
    have h1:=hρ x;have h2:=hρ y;split at h
    ·rename_i k a k1 b hx hy;rw[hx,rep_int] at h1;rw[hy,rep_int] at h2;refine⟨_,h,_,run ?_,rep_int.2 rfl⟩;simp only[Go.builtin,ea,h1,h2];simp[Builtin.max_,Builtin.max2,Sem.run_bind]
    ·cases h
   ·rename_i x y z ha;have ea:args.map ρ=#[ρ x,ρ y,ρ z]:=by
     have:args=#[x,y,z]:=Array.ext' (by simpa using ha);rw[this];simp
    have h1:=hρ x;have h2:=hρ y;have h3:=hρ z;split at h
    ·rename_i k a k1 b k2 c hx hy hz;rw[hx,rep_int] at h1;rw[hy,rep_int] at h2;rw[hz,rep_int] at h3;refine⟨_,h,_,run ?_,rep_int.2 rfl⟩;simp only[Go.builtin,ea,h1,h2,h3];simp[Builtin.max_,Builtin.max2,Sem.run_bind]
    ·cases h
   ·cases h
 all_goals cases h
end
end Go.Proofs.YthkflageghfbgaaGreatDoor.Am
/- How a state changes. -/
namespace Go.Proofs.YthkflageghfbgaaGreatDoor.Am
open Go Go.RowKit

theorem ifEq_pos{α:Type}{a b:Nat}(h:a=b)(x y:α):ifEq a b x y=x:=by subst h;simp[ifEq,ifT]
theorem ifEq_neg{α:Type}{a b:Nat}(h:a≠b)(x y:α):ifEq a b x y=y:=by
 have:Nat.beq a b=false:=by
  cases e:Nat.beq a b with
  |false=>rfl
  |true=>exact absurd (Nat.eq_of_beq_eq_true e) h
 simp[ifEq,ifT,this]
section
variable {P : Pg} {Wr0 : Base} {w0 : World} {S : St} {I : Info} {a : Act} {w : World}

theorem ifEq_yes{α:Type}{m n:Nat}{x:Option α}{y:α}(h:ifEq m n x none=some y):m=n∧x=some y:=by
 by_cases e:m=n
 ·rw[ifEq_pos e] at h;exact⟨e,h⟩
 ·rw[ifEq_neg e] at h;cases h
theorem act_put_list(a:Act)(d:Option Nat)(v:Value):(a.put d v).tmps.toList=(match d with|some d=>a.tmps.toList.set d v|none=>a.tmps.toList):=by
 cases d with
 |none=>rfl
 |some d=>simp[Act.put,Array.toList_setIfInBounds]
theorem act_put_defers(a:Act)(d:Option Nat)(v:Value):(a.put d v).defers=a.defers:=by cases d<;>rfl
theorem put_heap(S:St)(d:Option Nat)(x:AVal):(S.put d x).heap=S.heap:=by cases d<;>rfl
theorem Sim.put(h:Sim P Wr0 w0 S I a w){x:AVal}{v:Value}(hx:Rep P w (WrOf Wr0 S.heap I) I x v)(d:Option Nat):Sim P Wr0 w0 (S.put d x) I (a.put d v) w:=by
 refine⟨by rw[act_put_defers];exact h.defers, ?_,by rw[put_heap];cases d<;>exact h.gh,by rw[put_heap];exact h.free,by rw[put_heap];exact h.rows,by rw[put_heap];exact h.inj,by rw[put_heap];exact h.fresh,h.wr0,h.new,by rw[put_heap];exact h.nm,h.nmt,h.below⟩;rw[put_heap,act_put_list];cases d with
 |none=>exact h.slots
 |some d=>exact h.slots.set hx d
theorem Sim.eval(h:Sim P Wr0 w0 S I a w)(x:Operand):Rep P w (WrOf Wr0 S.heap I) I (S.eval x) (a.eval x):=by
 cases x with
 |tmp p=>
  simp only[St.eval,Act.eval];have:=h.slots.get p;rw[Array.getD_eq_getD_getElem?,←Array.getElem?_toList];simpa[List.getD] using this
 |const c=>
  simp only[St.eval,Act.eval];cases c<;>first
   |exact rep_int.2 rfl
   |exact rep_bool.2 rfl
   |exact rep_str.2 rfl
   |(simp only[ofValue,Rep];done)
   |skip
  case slice ad n c=>
   match ad,n,c with
   |none,0,0=>simp only[ofValue,Rep]
   |none,0,_+1=>simp only[ofValue,Rep]
   |none,_+1,_=>simp only[ofValue,Rep]
   |some ad,_,_=>simp only[ofValue,Rep]
  case nilIface=>exact rep_err.2 (.inl ⟨rfl,rfl⟩)
 |global g=>simp only[St.eval,Rep]
 |func f=>
  simp only[St.eval,Act.eval,Rep];exact⟨[],rfl,by simp[RepL]⟩

/-! ### sealing -/
theorem sealR_cases(H:Nat→Option Row)(t:Nat):sealR H t=H∨∃k xs,H t=some (.arr k xs false)∧sealR H t=fun p=>ifEq p t (some (.arr k xs true)) (H p):=by
 unfold sealR;split
 ·rename_i k xs h;exact .inr ⟨k,xs,h,rfl⟩
 ·exact .inl rfl
theorem Owns.opened{k:Kd}{xs:List k.T}{i:TokI}{b o:Nat}(h:Owns (.arr k xs true) i b o):Owns (.arr k xs false) i b o:=by
 cases i with
 |box=>exact h.elim
 |arr k' n loc N=>
  cases loc with
  |none=>exact h.elim
  |some l=>exact⟨h.1,fun e=>by cases e⟩
theorem Sim.ofHeap(h:Sim P Wr0 w0 S I a w){H:Nat→Option Row}
  (hw:∀b o,WrOf Wr0 H I b o→WrOf Wr0 S.heap I b o)
  (hn:∀t,H t=none→S.heap t=none)
  (hr:∀t r',H t=some r'→∃r,S.heap t=some r∧(r'=r∨∃k xs,r=.arr k xs false∧r'=.arr k xs true)):Sim P Wr0 w0 {S with heap:=H} I a w:=by
 have hk:Keep w (WrOf Wr0 S.heap I) w (WrOf Wr0 H I):=⟨fun b o v h1 h2=>⟨h1,fun h3=>h2 (hw _ _ h3)⟩⟩;have back:∀t r',H t=some r'→r'≠ .dead→∃r,S.heap t=some r∧r≠ .dead:=by
  intro t r' h1 h2;obtain⟨r,h3,h4⟩:=hr t r' h1
  rcases h4 with rfl|⟨k,xs,rfl,rfl⟩
  ·exact⟨_,h3,h2⟩
  ·exact⟨_,h3,by simp⟩
 refine⟨h.defers,h.slots.keep hk (InfoLe.refl I),h.gh.keep hk (InfoLe.refl I),fun t ht=>h.free t (hn t ht), ?_, ?_, ?_,h.wr0,h.new,fun t i hi hne=>h.nm t i hi (fun hz=> ?_),h.nmt,h.below⟩
 rotate_left 3
 ·cases hq:H t with
  |none=>exact hne hq
  |some r'=>
   obtain⟨r,h3,_⟩:=hr t r' hq;rw[hz] at h3;cases h3
 ·intro t r' h1;obtain⟨r,h3,h4⟩:=hr t r' h1;obtain⟨i,h5,h6⟩:=h.rows t r h3;refine⟨i,h5, ?_⟩;have h7:=h6.keep hk (InfoLe.refl I) (fun _ _ _=>rfl)
  rcases h4 with rfl|⟨k,xs,rfl,rfl⟩
  ·exact h7
  ·cases i with
   |box=>exact h7.elim
   |arr=>exact h7
 ·intro t t' r r' i i' b h1 h2 h3 h4 h5 h6 h7 h8;obtain⟨q,q1,q2⟩:=back t r h1 h2;obtain⟨q',q1',q2'⟩:=back t' r' h3 h4;exact h.inj t t' q q' i i' b q1 q2 q1' q2' h5 h6 h7 h8
 ·intro t r i b h1 h2 h3 h4;obtain⟨q,q1,q2⟩:=back t r h1 h2;exact h.fresh t q i b q1 q2 h3 h4
theorem Sim.sealR(h:Sim P Wr0 w0 S I a w)(t:Nat):Sim P Wr0 w0 {S with heap:=Am.sealR S.heap t} I a w:=by
 rcases sealR_cases S.heap t with e|⟨k,xs,e1,e2⟩
 ·rw[e];exact h
 ·rw[e2];refine h.ofHeap ?_ ?_ ?_
  ·rintro b o (h1|⟨t',r,i,h1,h2,h3⟩)
   ·exact .inl h1
   ·by_cases ht:t'=t
    ·subst ht;replace h1:=(ifEq_pos rfl _ _).symm.trans h1;injection h1 with h1;subst h1;exact .inr ⟨t',_,i,e1,h2,h3.opened⟩
    ·replace h1:=(ifEq_neg ht _ _).symm.trans h1;exact .inr ⟨t',r,i,h1,h2,h3⟩
  ·intro t' h1
   by_cases ht:t'=t
   ·replace h1:=(ifEq_pos ht _ _).symm.trans h1;cases h1
   ·exact(ifEq_neg ht _ _).symm.trans h1
  ·intro t' r' h1
   by_cases ht:t'=t
   ·subst ht;replace h1:=(ifEq_pos rfl _ _).symm.trans h1;injection h1 with h1;exact⟨_,e1,.inr ⟨k,xs,rfl,h1.symm⟩⟩
   ·exact⟨r',(ifEq_neg ht _ _).symm.trans h1,.inl rfl⟩
theorem Sim.sealL(l:List AVal):∀{S:St},Sim P Wr0 w0 S I a w→Sim P Wr0 w0 {S with heap:=Am.sealL S.heap l} I a w:=by
 induction l with
 |nil=>intro S h;exact h
 |cons x l ih=>
  intro S h;unfold Am.sealL;split
  ·exact ih (h.sealR _)
  ·exact ih h
theorem Sim.sealVs(l:List AVal):∀{S:St},Sim P Wr0 w0 S I a w→Sim P Wr0 w0 {S with heap:=Am.sealVs S.heap l} I a w:=by
 induction l with
 |nil=>intro S h;exact h
 |cons x l ih=>
  intro S h;unfold Am.sealVs;exact ih (h.sealL x.cells)
theorem Sim.sealV(h:Sim P Wr0 w0 S I a w)(x:AVal):Sim P Wr0 w0 {S with heap:=Am.sealV S.heap x} I a w:=h.sealL _

theorem Owns.block{r:Row}{i:TokI}{b o:Nat}(ho:Owns r i b o):i.block=some b:=by
 cases r<;>cases i<;>first|exact ho.elim|skip
 ·simp only[Owns] at ho;subst ho;rfl
 ·rename_i loc N;cases loc with
  |none=>exact ho.elim
  |some l=>simp only[TokI.block];rw[ho.1]
theorem Owns.alive{r:Row}{i:TokI}{b o:Nat}(ho:Owns r i b o):r≠ .dead:=by
 rintro rfl;exact ho.elim
/-! ### a new row; a world that has grown -/
def Info.set(I:Info)(t:Nat)(i:TokI):Info:=fun p=>if p=t then some i else I p
theorem Info.set_le{t:Nat}{i:TokI}(h:I t=none):InfoLe I (I.set t i):=by
 intro p j hj;unfold Info.set;split
 ·rename_i e;subst e;rw[h] at hj;cases hj
 ·exact hj
theorem below_keepW{w w':World}(hb:BelowD P.s w.heap.size w w'){Wr Wr':WrP}(hw:∀b o,b<w.heap.size→Wr' b o→Wr b o):Keep w Wr w' Wr':=by
 refine⟨fun b o v h1 h2=> ?_⟩;have hlt:b<w.heap.size:=World.block_lt_of_cell? w ⟨b,o,none⟩ h1;exact⟨by rw[←h1];exact hb.cell (p:=⟨b,o,none⟩) hlt,fun h3=>h2 (hw b o hlt h3)⟩
theorem Sim.grow(h:Sim P Wr0 w0 S I a w){w':World}(hb:BelowD P.s w.heap.size w w'):Sim P Wr0 w0 S I a w':=by
 have hk:Keep w (WrOf Wr0 S.heap I) w' (WrOf Wr0 S.heap I):=below_keepW hb fun _ _ _ h=>h;refine⟨h.defers,h.slots.keep hk (InfoLe.refl I),h.gh.keep hk (InfoLe.refl I),h.free, ?_,h.inj, ?_,h.wr0,h.new,h.nm,h.nmt,h.below.grow hb⟩
 ·intro t r hr;obtain⟨i,h1,h2⟩:=h.rows t r hr;exact⟨i,h1,h2.keep hk (InfoLe.refl I) fun hd b hib=>hb.block b (h.fresh t r i b hr hd h1 hib).2⟩
 ·intro t r i b h1 h2 h3 h4;have:=h.fresh t r i b h1 h2 h3 h4;exact⟨this.1,Nat.lt_of_lt_of_le this.2 hb.size⟩
theorem Sim.newKeep(h:Sim P Wr0 w0 S I a w){w':World}(hb:BelowD P.s w.heap.size w w'){t:Nat}(ht:S.heap t=none){i:TokI}
  (hi:∀b,i.block=some b→w.heap.size≤b∧b<w'.heap.size) (r:Row):Keep w (WrOf Wr0 S.heap I) w' (WrOf Wr0 (S.setH t r).heap (I.set t i)):=by
 refine below_keepW hb fun b o hlt h1=> ?_
 rcases h1 with h1|⟨t',r',i',h1,h2,h3⟩
 ·exact .inl h1
 ·by_cases e:t'=t
  ·subst e;have e2:i'=i:=by simp only[Info.set,if_true] at h2;exact(Option.some.inj h2).symm
   subst e2;have:=hi b h3.block;omega
  ·simp only[St.setH,ifEq_neg e] at h1;simp only[Info.set,if_neg e] at h2;exact .inr ⟨t',r',i',h1,h2,h3⟩
theorem Sim.fit(h:Sim P Wr0 w0 S I a w){b:Nat}(hb:w.heap.size≤b):Wr0.mine b:=h.new b (Nat.le_trans h.below.size hb)
theorem Sim.add(h:Sim P Wr0 w0 S I a w){w':World}(hb:BelowD P.s w.heap.size w w'){t:Nat}(ht:S.heap t=none)(hlt:t<200000){r:Row}{i:TokI}
  (hi:∀b,i.block=some b→w.heap.size≤b∧b<w'.heap.size)
  (hr:RowRep P w' (WrOf Wr0 (S.setH t r).heap (I.set t i)) (I.set t i) r i):Sim P Wr0 w0 (S.setH t r) (I.set t i) a w'∧Keep w (WrOf Wr0 S.heap I) w' (WrOf Wr0 (S.setH t r).heap (I.set t i)):=by
 have hI:I t=none:=h.free t ht;have hle:InfoLe I (I.set t i):=Info.set_le hI;have hk:=h.newKeep hb ht hi r;have hcase:∀{p:Nat} {q:Row},(S.setH t r).heap p=some q→(p=t∧q=r)∨(p≠t∧S.heap p=some q):=by
  intro p q hq
  by_cases e:p=t
  ·subst e;simp only[St.setH,ifEq_pos rfl] at hq;exact .inl ⟨rfl,(Option.some.inj hq).symm⟩
  ·simp only[St.setH,ifEq_neg e] at hq;exact .inr ⟨e,hq⟩
 have hset:∀{p:Nat},p≠t→(I.set t i) p=I p:=fun e=>by simp only[Info.set,if_neg e]
 have hsett:(I.set t i) t=some i:=by simp only[Info.set,if_true]
 refine⟨⟨h.defers,h.slots.keep hk hle,h.gh.keep hk hle, ?_, ?_, ?_, ?_,h.wr0,h.new,fun p j hp hne=> ?_,h.nmt,h.below.grow hb⟩,hk⟩
 rotate_left 4
 ·have e:p≠t:=by
   rintro rfl;have:=h.nmt p j hp;omega
  rw[hset e];refine h.nm p j hp fun hz=>hne ?_;simp only[St.setH,ifEq_neg e];exact hz
 ·intro p hp
  by_cases e:p=t
  ·subst e;simp only[St.setH,ifEq_pos rfl] at hp;cases hp
  ·simp only[St.setH,ifEq_neg e] at hp;rw[hset e];exact h.free p hp
 ·intro p q hq
  rcases hcase hq with⟨rfl,rfl⟩|⟨e,hq⟩
  ·exact⟨i,hsett,hr⟩
  ·obtain⟨j,h1,h2⟩:=h.rows p q hq;exact⟨j,by rw[hset e];exact h1,h2.keep hk hle fun hd b hib=>hb.block b (h.fresh p q j b hq hd h1 hib).2⟩
 ·intro p p' q q' j j' b h1 h2 h3 h4 h5 h6 h7 h8
  rcases hcase h1 with⟨ep,eq1⟩|⟨e,g1⟩
  ·rcases hcase h3 with⟨ep',_⟩|⟨e',g3⟩
   ·rw[ep,ep']
   ·rw[ep,hsett] at h5;obtain rfl:=Option.some.inj h5;rw[hset e'] at h6;have:=h.fresh p' q' j' b g3 h4 h6 h8;have:=hi b h7;omega
  ·rw[hset e] at h5
   rcases hcase h3 with⟨ep',_⟩|⟨e',g3⟩
   ·rw[ep',hsett] at h6;obtain rfl:=Option.some.inj h6;have:=h.fresh p q j b g1 h2 h5 h7;have:=hi b h8;omega
   ·rw[hset e'] at h6;exact h.inj p p' q q' j j' b g1 h2 g3 h4 h5 h6 h7 h8
 ·intro p q j b h1 h2 h3 h4
  rcases hcase h1 with⟨ep,_⟩|⟨e,g1⟩
  ·rw[ep,hsett] at h3;obtain rfl:=Option.some.inj h3;have:=hi b h4;exact⟨h.fit this.1,this.2⟩
  ·rw[hset e] at h3;have:=h.fresh p q j b g1 h2 h3 h4;exact⟨this.1,Nat.lt_of_lt_of_le this.2 hb.size⟩
/-- what a write leaves -/
structure Wrote (w w':World) (b:Nat):Prop where
 os:w'.os=w.os
 tape:w'.tape=w.tape
 output:w'.output=w.output
 size:w'.heap.size=w.heap.size
 block:∀k,k≠b→w'.heap[k]?=w.heap[k]?
 drawn:w'.drawn=w.drawn
theorem Wrote.below{w w':World}{b B:Nat}(h:Wrote w w' b)(hB:B≤b):BelowD P.s B w w':=
 ⟨h.os,h.tape,h.output,Nat.le_of_eq h.size.symm,fun k hk=>h.block k (by omega),.eq h.drawn⟩
theorem BelowM.wrote{M:Nat→Prop}{w0 w w':World}{b:Nat}(h:BelowM P.s M w0 w)(k:Wrote w w' b)(hM:M b):BelowM P.s M w0 w':=
 ⟨k.os.trans h.os,k.tape.trans h.tape,k.output.trans h.output,Nat.le_trans h.size (Nat.le_of_eq k.size.symm),fun i hi hm=>(k.block i (by rintro rfl;exact hm hM)).trans (h.block i hi hm),h.drawn.trans (.eq k.drawn)⟩
theorem Sim.update(h:Sim P Wr0 w0 S I a w){t:Nat}{r r':Row}{i:TokI}{b:Nat}(ht:S.heap t=some r)(hd:r≠ .dead)(hi:I t=some i)(hb:i.block=some b)
  (hd':r'≠ .dead) (ho:∀b o,Owns r' i b o→Owns r i b o) {w':World} (hw:Wrote w w' b) (hk:Keep w (WrOf Wr0 S.heap I) w' (WrOf Wr0 S.heap I))
  (hr:RowRep P w' (WrOf Wr0 (S.setH t r').heap I) I r' i):Sim P Wr0 w0 (S.setH t r') I a w':=by
 have hcase:∀{p:Nat} {q:Row},(S.setH t r').heap p=some q→(p=t∧q=r')∨(p≠t∧S.heap p=some q):=by
  intro p q hq
  by_cases e:p=t
  ·subst e;simp only[St.setH,ifEq_pos rfl] at hq;exact .inl ⟨rfl,(Option.some.inj hq).symm⟩
  ·simp only[St.setH,ifEq_neg e] at hq;exact .inr ⟨e,hq⟩
 have hwr:∀b o,WrOf Wr0 (S.setH t r').heap I b o→WrOf Wr0 S.heap I b o:=by
  rintro b o (h1|⟨p,q,j,h1,h2,h3⟩)
  ·exact .inl h1
  ·rcases hcase h1 with⟨rfl,rfl⟩|⟨e,h1⟩
   ·rw[hi] at h2;obtain rfl:=Option.some.inj h2;exact .inr ⟨p,r,i,ht,hi,ho b o h3⟩
   ·exact .inr ⟨p,q,j,h1,h2,h3⟩
 have hk':Keep w (WrOf Wr0 S.heap I) w' (WrOf Wr0 (S.setH t r').heap I):=
  ⟨fun b o v h1 h2=>⟨(hk.cell b o v h1 h2).1,fun h3=>h2 (hwr _ _ h3)⟩⟩
 have hfr:=h.fresh t r i b ht hd hi hb;refine⟨h.defers,h.slots.keep hk' (InfoLe.refl I),h.gh.keep hk' (InfoLe.refl I), ?_, ?_, ?_, ?_,h.wr0,h.new,fun p j hp hne=>h.nm p j hp (fun hz=> ?_),h.nmt,h.below.wrote hw hfr.1⟩
 rotate_left 4
 ·refine hne ?_;have e:p≠t:=by rintro rfl;rw[ht] at hz;cases hz
  simp only[St.setH,ifEq_neg e];exact hz
 ·intro p hp
  by_cases e:p=t
  ·subst e;simp only[St.setH,ifEq_pos rfl] at hp;cases hp
  ·simp only[St.setH,ifEq_neg e] at hp;exact h.free p hp
 ·intro p q hq
  rcases hcase hq with⟨rfl,rfl⟩|⟨e,hq⟩
  ·exact⟨i,hi,hr⟩
  ·obtain⟨j,h1,h2⟩:=h.rows p q hq;refine⟨j,h1,h2.keep hk' (InfoLe.refl I) fun hdq b' hb'=>hw.block b' ?_⟩;rintro rfl;exact e (h.inj p t q r j i b' hq hdq ht hd h1 hi hb' hb)
 ·intro p p' q q' j j' b h1 h2 h3 h4 h5 h6 h7 h8;have g1:∃q,S.heap p=some q∧q≠ .dead:=by
   rcases hcase h1 with⟨rfl,_⟩|⟨_,g⟩
   ·exact⟨r,ht,hd⟩
   ·exact⟨q,g,h2⟩
  have g2:∃q,S.heap p'=some q∧q≠ .dead:=by
   rcases hcase h3 with⟨rfl,_⟩|⟨_,g⟩
   ·exact⟨r,ht,hd⟩
   ·exact⟨q',g,h4⟩
  obtain⟨x,x1,x2⟩:=g1;obtain⟨y,y1,y2⟩:=g2;exact h.inj p p' x y j j' b x1 x2 y1 y2 h5 h6 h7 h8
 ·intro p q j b h1 h2 h3 h4;rw[hw.size]
  rcases hcase h1 with⟨rfl,_⟩|⟨_,g⟩
  ·exact h.fresh p r j b ht hd h3 h4
  ·exact h.fresh p q j b g h2 h3 h4
/-- a row becomes another one, in its own block -/
theorem Sim.move(h:Sim P Wr0 w0 S I a w){t d:Nat}{r rn:Row}{i j:TokI}{b:Nat}(ht:S.heap t=some r)(hd:r≠ .dead)(hi:I t=some i)(hb:i.block=some b)
  (hia:RowRep P w (WrOf Wr0 S.heap I) I .dead i) (hf:S.heap d=none) (hdlt:d<200000) (hj:j.block=some b) (ho:∀b o,Owns rn j b o→Owns r i b o) {w':World} (hw:Wrote w w' b) (hk:Keep w (WrOf Wr0 S.heap I) w' (WrOf Wr0 S.heap I))
  (hr:Keep w (WrOf Wr0 S.heap I) w' (WrOf Wr0 ((S.setH t .dead).setH d rn).heap (I.set d j))→RowRep P w' (WrOf Wr0 ((S.setH t .dead).setH d rn).heap (I.set d j)) (I.set d j) rn j):
  Sim P Wr0 w0 ((S.setH t .dead).setH d rn) (I.set d j) a w'∧InfoLe I (I.set d j)∧Keep w (WrOf Wr0 S.heap I) w' (WrOf Wr0 ((S.setH t .dead).setH d rn).heap (I.set d j)):=by
 have hI:I d=none:=h.free d hf;have hle:InfoLe I (I.set d j):=Info.set_le hI;have htd:t≠d:=by rintro rfl;rw[ht] at hf;cases hf
 have hcase:∀{p:Nat} {q:Row},((S.setH t .dead).setH d rn).heap p=some q→(p=d∧q=rn)∨(p≠d∧p=t∧q=.dead)∨(p≠d∧p≠t∧S.heap p=some q):=by
  intro p q hq
  by_cases e:p=d
  ·subst e;simp only[St.setH,ifEq_pos rfl] at hq;exact .inl ⟨rfl,(Option.some.inj hq).symm⟩
  ·simp only[St.setH,ifEq_neg e] at hq
   by_cases e2:p=t
   ·subst e2;simp only[ifEq_pos rfl] at hq;exact .inr (.inl ⟨e,rfl,(Option.some.inj hq).symm⟩)
   ·simp only[ifEq_neg e2] at hq;exact .inr (.inr ⟨e,e2,hq⟩)
 have hset:∀{p:Nat},p≠d→(I.set d j) p=I p:=fun e=>by simp only[Info.set,if_neg e]
 have hsett:(I.set d j) d=some j:=by simp only[Info.set,if_true]
 have hwr:∀b o,WrOf Wr0 ((S.setH t .dead).setH d rn).heap (I.set d j) b o→WrOf Wr0 S.heap I b o:=by
  rintro b o (h1|⟨p,q,x,h1,h2,h3⟩)
  ·exact .inl h1
  ·rcases hcase h1 with⟨ep,eq⟩|⟨e,ep,eq⟩|⟨e,e2,h1⟩
   ·subst ep eq;rw[hsett] at h2;obtain rfl:=Option.some.inj h2;exact .inr ⟨t,r,i,ht,hi,ho b o h3⟩
   ·exact absurd eq h3.alive
   ·rw[hset e] at h2;exact .inr ⟨p,q,x,h1,h2,h3⟩
 have hk':Keep w (WrOf Wr0 S.heap I) w' (WrOf Wr0 ((S.setH t .dead).setH d rn).heap (I.set d j)):=
  ⟨fun b o v h1 h2=>⟨(hk.cell b o v h1 h2).1,fun h3=>h2 (hwr _ _ h3)⟩⟩
 have hfr:=h.fresh t r i b ht hd hi hb;refine⟨⟨h.defers,h.slots.keep hk' hle,h.gh.keep hk' hle, ?_, ?_, ?_, ?_,h.wr0,h.new,fun p x hp hne=> ?_,h.nmt,h.below.wrote hw hfr.1⟩,hle,hk'⟩
 rotate_left 4
 ·have e:p≠d:=by
   rintro rfl;have:=h.nmt p x hp;omega
  rw[hset e];refine h.nm p x hp fun hz=>hne ?_;have e2:p≠t:=by rintro rfl;rw[ht] at hz;cases hz
  simp only[St.setH,ifEq_neg e,ifEq_neg e2];exact hz
 ·intro p hp
  by_cases e:p=d
  ·subst e;simp only[St.setH,ifEq_pos rfl] at hp;cases hp
  ·rw[hset e];simp only[St.setH,ifEq_neg e] at hp
   by_cases e2:p=t
   ·subst e2;simp only[ifEq_pos rfl] at hp;cases hp
   ·simp only[ifEq_neg e2] at hp;exact h.free p hp
 ·intro p q hq
  rcases hcase hq with⟨ep,eq⟩|⟨e,ep,eq⟩|⟨e,e2,hq⟩
  ·subst ep eq;exact⟨j,hsett,hr hk'⟩
  ·subst ep eq;refine⟨i,by rw[hset e];exact hi, ?_⟩;cases i<;>first|exact hia|exact hia.elim
  ·obtain⟨x,h1,h2⟩:=h.rows p q hq;refine⟨x,by rw[hset e];exact h1,h2.keep hk' hle fun hdq b' hb'=>hw.block b' ?_⟩;rintro rfl;exact e2 (h.inj p t q r x i b' hq hdq ht hd h1 hi hb' hb)
 ·intro p p' q q' x x' b' h1 h2 h3 h4 h5 h6 h7 h8
  rcases hcase h1 with⟨ep,eq⟩|⟨e,ep,eq⟩|⟨e,e2,g1⟩
  ·rcases hcase h3 with⟨ep',eq'⟩|⟨e',ep',eq'⟩|⟨e',e2',g3⟩
   ·rw[ep,ep']
   ·exact absurd eq' h4
   ·rw[ep,hsett] at h5;obtain rfl:=Option.some.inj h5;rw[hset e'] at h6;rw[hj] at h7;obtain rfl:=Option.some.inj h7;exact absurd (h.inj p' t q' r x' i b g3 h4 ht hd h6 hi h8 hb) e2'
  ·exact absurd eq h2
  ·rw[hset e] at h5
   rcases hcase h3 with⟨ep',eq'⟩|⟨e',ep',eq'⟩|⟨e',e2',g3⟩
   ·rw[ep',hsett] at h6;obtain rfl:=Option.some.inj h6;rw[hj] at h8;obtain rfl:=Option.some.inj h8;exact absurd (h.inj p t q r x i b g1 h2 ht hd h5 hi h7 hb) e2
   ·exact absurd eq' h4
   ·rw[hset e'] at h6;exact h.inj p p' q q' x x' b' g1 h2 g3 h4 h5 h6 h7 h8
 ·intro p q x b' h1 h2 h3 h4;rw[hw.size]
  rcases hcase h1 with⟨ep,eq⟩|⟨e,ep,eq⟩|⟨e,e2,g⟩
  ·rw[ep,hsett] at h3;obtain rfl:=Option.some.inj h3;rw[hj] at h4;obtain rfl:=Option.some.inj h4;exact hfr
  ·exact absurd eq h2
  ·rw[hset e] at h3;exact h.fresh p q x b' g h2 h3 h4
end
end Go.Proofs.YthkflageghfbgaaGreatDoor.Am
/- Values as data. -/
namespace Go.Proofs.YthkflageghfbgaaGreatDoor.Am
open Go Go.RowKit

theorem castK_some{k k':Kd}{x:k.T}{y:k'.T}(h:castK x=some y):∃e:k=k',e▸x=y:=by
 unfold castK at h;split at h
 ·rename_i e;exact⟨e,Option.some.inj h⟩
 ·cases h
def stWr(st:Bool)(Wr:WrP):WrP:=if st then Wr else noWr
theorem Keep.st(w:World)(Wr:WrP)(st:Bool):Keep w Wr w (stWr st Wr):=by
 cases st with
 |true=>exact Keep.refl _ _
 |false=>exact Keep.no _ _
section
variable {P : Pg} {Wr0 : Base} {w0 : World} {S : St} {I : Info} {a : Act} {w : World}

/-- whoever may write a cell of a row's block is the row -/
theorem Sim.owner(h:Sim P Wr0 w0 S I a w){t:Nat}{r:Row}{i:TokI}{b o:Nat}(hr:S.heap t=some r)(hd:r≠ .dead)(hi:I t=some i)(hb:i.block=some b)
  (hw:WrOf Wr0 S.heap I b o):Owns r i b o:=by
 rcases hw with hw|⟨t',r',i',h1,h2,h3⟩
 ·exact absurd (h.fresh t r i b hr hd hi hb).1 (h.wr0.1 b o hw).2
 ·have e:=h.inj t' t r' r i' i b h1 h3.alive hr hd h2 hi h3.block hb;subst e;rw[hr] at h1;rw[hi] at h2;obtain rfl:=Option.some.inj h1;obtain rfl:=Option.some.inj h2;exact h3
/-- a row of one's own, read -/
theorem Sim.ref(h:Sim P Wr0 w0 S I a w){k' k:Kd}{t off len:Nat}{xs:List k.T}{ao:Bool}{v:Value}(hv:Rep P w (WrOf Wr0 S.heap I) I (.ref k' t off len) v)
  (hH:S.heap t=some (.arr k xs ao)):k'=k∧off+len≤xs.length∧∃A cap,v=.slice A len cap∧len≤cap∧
   (len=0∨∃b o,A=some ⟨b,o,none⟩∧∀i (hi:off+i<xs.length),i<len→∃cs,RepC w (WrOf Wr0 S.heap I) k cs (xs.get ⟨off+i,hi⟩)∧
    ∀j (hj:j<cs.length),w.cell? ⟨b,o+i*k.size+j,none⟩=some cs[j]∧(ao=true→¬WrOf Wr0 S.heap I b (o+i*k.size+j))):=by
 obtain⟨i,hi,hr⟩:=h.rows t _ hH;simp only[Rep,hi] at hv;cases i with
 |box=>exact hr.elim
 |arr k2 n loc N=>
  obtain⟨rfl,rfl,hr⟩:=hr;obtain⟨rfl,hle,A,cap,hv,hcap,hm⟩:=hv;refine⟨rfl,hle,A,cap,hv,hcap, ?_⟩
  rcases hm with⟨hm,_⟩|⟨b,base,hl,hA,hN⟩
  ·exact .inl hm
  ·right;subst hl;obtain⟨h1,h2,h3⟩:=hr;refine⟨b,base+off*k'.size,hA,fun i hi2 hlt=> ?_⟩;obtain⟨cs,h4,h5⟩:=h3 (off+i) hi2;refine⟨cs,h4,fun j hj=>⟨?_,fun hao hw=> ?_⟩⟩
   ·have:=h5 j hj;rw[Nat.add_mul] at this;rw[show base+off*k'.size+i*k'.size+j=base+(off*k'.size+i*k'.size)+j by omega];exact this
   ·have:=h.owner hH (by simp) hi rfl hw;simp only[Owns] at this;have h6:=this.2 hao;have hjs:j<k'.size:=by rw[←h4.length];exact hj
    have:(off+i+1)*k'.size≤xs.length*k'.size:=Nat.mul_le_mul_right _ (by omega);rw[Nat.add_mul,Nat.add_mul] at this;omega
theorem RepV.st{k:Kd}{x:k.T}{v:Value}{Wr:WrP}(st:Bool)(h:RepV w Wr k x v):RepV w (stWr st Wr) k x v:=h.keep (Keep.st w Wr st)
theorem get_drop_take{α:Type}(xs:List α)(off len i:Nat)(h:i<((xs.drop off).take len).length)(h':off+i<xs.length):((xs.drop off).take len).get ⟨i,h⟩=xs.get ⟨off+i,h'⟩:=by simp
theorem Sim.leafT0(h:Sim P Wr0 w0 S I a w){st:Bool}{k:Kd}{x:AVal}{y:k.T}{v:Value}(hT:Am.leafT0 st S.heap k x=some y)(hx:Rep P w (WrOf Wr0 S.heap I) I x v):
  RepV w (stWr st (WrOf Wr0 S.heap I)) k y v:=by
 unfold Am.leafT0 at hT;split at hT
 ·obtain⟨rfl,rfl⟩:=castK_some hT;simp only[Rep] at hx;exact hx.st st
 ·simp only[Rep] at hx;obtain rfl:=Option.some.inj hT;subst hx;exact(RepC.one (k:=.sl _) rfl).2 ⟨none,0,rfl,Nat.zero_le _,.inl rfl⟩
 ·rename_i k k' t off len;split at hT
  ·rename_i k2 xs ao hH;obtain⟨hao,hT⟩:=ifT_some hT;split at hT
   ·rename_i xs' hc;obtain⟨e,e2⟩:=castK_some hc;injection e with e;subst e;have e2:xs=xs':=e2;subst e2;obtain rfl:=Option.some.inj hT;obtain⟨rfl,hle,A,cap,rfl,hcap,hm⟩:=h.ref hx hH;have hlen:((List.drop off xs).take len).length=len:=by rw[List.length_take,List.length_drop];omega
    refine(RepC.one (k:=.sl _) rfl).2 ?_;simp only[RepC];refine⟨A,cap,by rw[hlen],by rw[hlen];exact hcap, ?_⟩
    rcases hm with hm|⟨b,o,hA,hm⟩
    ·left;exact List.length_eq_zero_iff.1 (by rw[hlen];exact hm)
    ·right;refine⟨b,o,hA,fun i hi=> ?_⟩;have hi':i<len:=by rw[hlen] at hi;exact hi
     obtain⟨cs,h1,h2⟩:=hm i (by omega) hi';refine⟨cs, ?_,fun j hj=>⟨(h2 j hj).1, ?_⟩⟩
     ·rw[get_drop_take _ _ _ _ _ (by omega)];exact h1.keep (Keep.st w _ st)
     ·cases st with
      |false=>exact id
      |true=>exact(h2 j hj).2 (by simpa[ifT] using hao)
   ·cases hT
  ·cases hT
 ·obtain⟨rfl,rfl⟩:=castK_some hT;simp only[Rep] at hx;exact hx.st st
 ·cases hT
theorem Sim.leafT(h:Sim P Wr0 w0 S I a w){st:Bool}{k:Kd}{x:AVal}{y:k.T}{v:Value}(hT:Am.leafT st S.heap k x=some y)(hx:Rep P w (WrOf Wr0 S.heap I) I x v):
  RepV w (stWr st (WrOf Wr0 S.heap I)) k y v:=by
 unfold Am.leafT at hT;split at hT
 ·obtain rfl:=Option.some.inj hT;simp only[Rep] at hx;exact hx.st st
 ·split at hT
  ·rename_i xs hxs;obtain rfl:=Option.some.inj hT;have:=h.leafT0 hxs hx;exact(RepC.one (k:=.pt) rfl).2 (repPt_fold ((RepC.one (k:=.sl _) rfl).1 this))
  ·cases hT
 ·obtain rfl:=Option.some.inj hT;simp only[Rep] at hx;exact RepV.st st ((RepC.one (k:=.sl _) rfl).2 (repPt_unfold ((RepC.one (k:=.pt) rfl).1 hx)))
 ·exact h.leafT0 hT hx
theorem Sim.toTs(h:Sim P Wr0 w0 S I a w){st:Bool}:∀{k:Kd} {cs:List AVal} {y:k.T} {rest:List AVal} {vs:List Value},Am.toTs st S.heap k cs=some (y,rest)→RepL P w (WrOf Wr0 S.heap I) I cs vs→
  ∃v1 v2,vs=v1++v2∧RepC w (stWr st (WrOf Wr0 S.heap I)) k v1 y∧RepL P w (WrOf Wr0 S.heap I) I rest v2:=by
 have leaf:∀{k:Kd} (hk:k.isAgg=false) {c:AVal} {cs:List AVal} {y:k.T} {rest:List AVal} {vs:List Value},(match Am.leafT st S.heap k c with|some x=>some (x,cs)|none=>none)=some (y,rest)→RepL P w (WrOf Wr0 S.heap I) I (c::cs) vs→
   ∃v1 v2,vs=v1++v2∧RepC w (stWr st (WrOf Wr0 S.heap I)) k v1 y∧RepL P w (WrOf Wr0 S.heap I) I rest v2:=by
  intro k hk c cs y rest vs hT hL;split at hT
  ·rename_i x hx;obtain⟨rfl,rfl⟩:=Prod.mk.inj (Option.some.inj hT);cases vs with
   |nil=>simp only[RepL] at hL
   |cons v vs=>
    simp only[RepL] at hL;exact⟨[v],vs,rfl,(RepC.one hk).1 (h.leafT hx hL.1),hL.2⟩
  ·cases hT
 intro k
 induction k with
 |unit=>
  intro cs y rest vs hT hL;simp only[Am.toTs] at hT;obtain⟨rfl,rfl⟩:=Prod.mk.inj (Option.some.inj hT);exact⟨[],vs,rfl,rfl,hL⟩
 |pair p q ihp ihq=>
  intro cs y rest vs hT hL;simp only[Am.toTs] at hT;split at hT
  ·rename_i r hr;split at hT
   ·rename_i r' hr';obtain⟨rfl,rfl⟩:=Prod.mk.inj (Option.some.inj hT);obtain⟨v1,v2,rfl,h1,h2⟩:=ihp (y:=r.1) (rest:=r.2) hr hL;obtain⟨v3,v4,rfl,h3,h4⟩:=ihq (y:=r'.1) (rest:=r'.2) hr' h2;exact⟨v1++v3,v4,by rw[List.append_assoc],⟨v1,v3,rfl,h1,h3⟩,h4⟩
   ·cases hT
  ·cases hT
 |_=>
  intro cs y rest vs hT hL;cases cs with
  |nil=>simp only[Am.toTs] at hT;cases hT
  |cons c cs=>
   simp only[Am.toTs] at hT;exact leaf rfl hT hL
theorem Sim.toT(h:Sim P Wr0 w0 S I a w){st:Bool}{k:Kd}{x:AVal}{y:k.T}{v:Value}(hT:Am.toT st S.heap k x=some y)(hx:Rep P w (WrOf Wr0 S.heap I) I x v):
  RepV w (stWr st (WrOf Wr0 S.heap I)) k y v:=by
 unfold Am.toT at hT;split at hT
 ·rename_i cs;obtain⟨hk,hT⟩:=ifT_some hT;split at hT
  ·rename_i z hz;obtain rfl:=Option.some.inj hT;simp only[Rep] at hx;obtain⟨vs,rfl,hL⟩:=hx;obtain⟨v1,v2,rfl,h1,h2⟩:=h.toTs hz hL;have:v2=[]:=by
    cases v2 with
    |nil=>rfl
    |cons=>simp only[RepL] at h2
   subst this;rw[List.append_nil];exact(RepV.ofAgg hk).2 ⟨v1,rfl,h1⟩
  ·cases hT
 ·exact h.leafT hT hx
end
end Go.Proofs.YthkflageghfbgaaGreatDoor.Am
/- Operations on memory: what the abstract machine tells is what the model does. -/
namespace Go.Proofs.YthkflageghfbgaaGreatDoor.Am
open Go Go.RowKit

section
variable {P : Pg} {Wr0 : Base} {w0 : World} {S S' : St} {I : Info} {a : Act} {w : World} {E : Env} {o : Oper} {R : Type} {K : St → Option R} {r : R} {x : Operand}

def StepSim(P:Pg)(Wr0:Base)(w0:World)(o:Oper)(S:St)(K:St→Option R)(r:R):Prop:=
 ∀I a w,Sim P Wr0 w0 S I a w→∃S',K S'=some r∧∀(next:Act→World→Prop) (Q:Exit→Act→World→Prop),(∀I' a' w',Sim P Wr0 w0 S' I' a' w'→next a' w')→o.wp P a w next Q
theorem wp_value{v:Value}{w':World}{next:Act→World→Prop}{Q:Exit→Act→World→Prop}(h:(execOp a.eval o).run P w=.ok (.value v) w')(hn:next (a.put o.dst v) w'):o.wp P a w next Q:=by
 unfold Oper.wp;rw[h];exact hn
theorem wp_skipped{w':World}{next:Act→World→Prop}{Q:Exit→Act→World→Prop}(h:(execOp a.eval o).run P w=.ok .skip w')(hn:next (a.put o.dst undef) w'):o.wp P a w next Q:=by
 unfold Oper.wp;rw[h];exact hn
theorem vact_step(hE:TysOk P E)(h:vact E o.op S.eval (fun x=>K (S.put o.dst x))=some r):StepSim P Wr0 w0 o S K r:=by
 intro I a w hS;obtain⟨x,h1,v,h2,h3⟩:=vact_ok hE hS.eval (fun _=>rfl) h;exact⟨_,h1,fun next Q hn=>wp_value h2 (hn _ _ _ (hS.put h3 _))⟩

theorem new_block(w:World)(c:Array Value)(e:TypeId):(w.alloc (.cells c e)).heap[w.heap.size]?=some (.cells c e (0,0)):=by
 show(w.heap.push _)[w.heap.size]?=_;simp
theorem new_cell(w:World)(c:Array Value)(e:TypeId)(j:Nat):(w.alloc (.cells c e)).cell? ⟨w.heap.size,j,none⟩=c[j]?:=by
 unfold World.cell?;show(match(w.alloc (.cells c e)).heap[w.heap.size]? with|some (.cells c _ _)=>if(none:Option Nat).isSome then none else c[j]?|_=>none)=_;rw[new_block];rfl
theorem new_nofz(w:World)(c:Array Value)(e:TypeId)(lo:Nat):NoFz (w.alloc (.cells c e)) w.heap.size c.size lo:=
 ⟨c,e,(0,0),new_block w c e,rfl,fun o _ _ h=>by omega⟩
theorem run_newRow_(e:TypeId)(c:Array Value):(newRow e c).run P w=.ok ⟨w.heap.size,0,none⟩ (w.alloc (.cells c e)):=rfl
theorem below_new(w:World)(o:Obj):BelowD P.s w.heap.size w (w.alloc o):=(BelowD.refl _ _).alloc (Nat.le_refl _) o
theorem size_new(w:World)(o:Obj):(w.alloc o).heap.size=w.heap.size+1:=by
 show(w.heap.push o).size=_;simp
theorem isFree_spec{H:Nat→Option Row}{t:Nat}(h:isFree H t=true):H t=none:=by
 unfold isFree at h;split at h
 ·assumption
 ·cases h
theorem isFree_lt{H:Nat→Option Row}{t:Nat}(h:isFree H t=true):t<200000:=by
 unfold isFree at h;split at h
 ·rw[Nat.blt_eq] at h;exact h
 ·cases h
/-- an operation that lays a block -/
theorem St.new_spec{d:Option Nat}{rw_:Row}{f:Nat→AVal}(h:S.new d rw_ f K=some r):∃d',d=some d'∧(S.heap (d'*16)=none∧d'*16<200000)∧K ((S.setH (d'*16) rw_).put d (f (d'*16)))=some r:=by
 unfold St.new at h;split at h
 ·rename_i d';obtain⟨h1,h2⟩:=ifT_some h;exact⟨d',rfl,⟨isFree_spec h1,isFree_lt h1⟩,h2⟩
 ·cases h
theorem new_step(hS:Sim P Wr0 w0 S I a w){d:Option Nat}{rw_:Row}{f:Nat→AVal}(h:S.new d rw_ f K=some r)(hd:o.dst=d){w':World}(hb:BelowD P.s w.heap.size w w'){i:TokI}{v:Value}
  (hi:∀b,i.block=some b→w.heap.size≤b∧b<w'.heap.size) (hx:(execOp a.eval o).run P w=.ok (.value v) w')
  (hr:∀t,S.heap t=none→Keep w (WrOf Wr0 S.heap I) w' (WrOf Wr0 (S.setH t rw_).heap (I.set t i))→RowRep P w' (WrOf Wr0 (S.setH t rw_).heap (I.set t i)) (I.set t i) rw_ i∧Rep P w' (WrOf Wr0 (S.setH t rw_).heap (I.set t i)) (I.set t i) (f t) v):
  ∃S',K S'=some r∧∀(next:Act→World→Prop) (Q:Exit→Act→World→Prop),(∀I' a' w',Sim P Wr0 w0 S' I' a' w'→next a' w')→o.wp P a w next Q:=by
 obtain⟨d',rfl,⟨h1,hlt⟩,h2⟩:=St.new_spec h;have hk:=hS.newKeep hb h1 hi rw_;obtain⟨h3,h4⟩:=hr _ h1 hk;have h5:=(hS.add hb h1 hlt hi h3).1;refine⟨_,h2,fun next Q hn=>wp_value hx ?_⟩;rw[hd];exact hn _ _ _ (h5.put h4 (some d'))
theorem box_step(h:ifT (okV (S.eval x)) (S.new o.dst (.box (S.eval x).cells) (.ptr · 0) K) none=some r){t:TypeId}(ho:o.op=.box t x):StepSim P Wr0 w0 o S K r:=by
 intro I a w hS;obtain⟨hk,h⟩:=ifT_some h;have hv:=hS.eval x;have hc:=cells_rep hk hv;refine new_step hS h rfl (below_new w (.cells (a.eval x).cells t)) (i:=.box w.heap.size (S.eval x).cells.length) (v:=.pointer (some ⟨w.heap.size,0,none⟩)) ?_ ?_ ?_
 ·intro b hb;obtain rfl:=Option.some.inj hb;rw[size_new];omega
 ·simp only[execOp,ho,Instr.box,newVar];rw[Sem.run_bind,Sem.run_bind,run_newRow_];rfl
 ·intro p hp hkeep;refine⟨⟨rfl, ?_,(a.eval x).cells.toList,hc.keep hkeep (Info.set_le (hS.free p hp)), ?_⟩, ?_⟩
  ·have:=new_nofz w (a.eval x).cells t 0
   rwa [show(S.eval x).cells.length=(a.eval x).cells.size by rw[hc.length,Array.length_toList]]
  ·intro j hj;rw[new_cell];simp at hj;simp[hj]
  ·simp only[Rep,Info.set,if_true]
theorem kdOf_spec{t:Nat}{k:Kd}(h:kdOf E t=some k):∃d,E.ty t=some d∧d.kd=k:=by
 unfold kdOf at h;cases hd:E.ty t with
 |none=>rw[hd] at h;cases h
 |some d=>
  rw[hd] at h;exact⟨d,rfl,Option.some.inj h⟩
theorem run_zeroValue_of{t:TypeId}{i:TypeInfo}{z:Value}(h:P.p.info? t=some i)(hz:i.zero=some z):(zeroValue t).run P w=.ok z w:=by
 simp[zeroValue,typeInfo,program,h,hz,Sem.run,go_sem]
theorem alloc_step(hE:TysOk P E){t:TypeId}{k:Kd}(hk:kdOf E t=some k)(h:S.new o.dst (.box k.zeros) (.ptr · 0) K=some r)(ho:o.op=.alloc t):StepSim P Wr0 w0 o S K r:=by
 intro I a w hS;obtain⟨d,hd,rfl⟩:=kdOf_spec hk;obtain⟨i,hi,hs,z,hz,hzc,_⟩:=(hE t d hd).var.info;have hc:RepL P w (WrOf Wr0 S.heap I) I d.kd.zeros z.cells.toList:=by rw[hzc];exact zeros_rep _
 refine new_step hS h rfl (below_new w (.cells z.cells t)) (i:=.box w.heap.size d.kd.zeros.length) (v:=.pointer (some ⟨w.heap.size,0,none⟩)) ?_ ?_ ?_
 ·intro b hb;obtain rfl:=Option.some.inj hb;rw[size_new];omega
 ·simp only[execOp,ho,Instr.alloc,newVar];rw[Sem.run_bind,Sem.run_bind,run_zeroValue_of hi hz];simp only[Result.andThen_ok];rw[Sem.run_bind,run_newRow_];rfl
 ·intro p hp hkeep;refine⟨⟨rfl, ?_,z.cells.toList,hc.keep hkeep (Info.set_le (hS.free p hp)), ?_⟩, ?_⟩
  ·have:=new_nofz w z.cells t 0
   rwa [show d.kd.zeros.length=z.cells.size by rw[hc.length,Array.length_toList]]
  ·intro j hj;rw[new_cell];simp at hj;simp[hj]
  ·simp only[Rep,Info.set,if_true]
/-- elements laid out one behind the other -/
def flatC:List (List Value)→List Value
 |[]=>[]
 |c::cs=>c++flatC cs
theorem flatC_get{m:Nat}:∀{cs:List (List Value)} (_:∀c∈cs,c.length=m) (i:Nat) (hi:i<cs.length) (j:Nat) (hj:j<m),(flatC cs)[i*m+j]?=cs[i][j]?
 |c::cs,hc,0,_,j,hj=>by
  have:=hc c (by simp);simp only[flatC,Nat.zero_mul,Nat.zero_add,List.getElem_cons_zero];rw[List.getElem?_append_left (by omega)]
 |c::cs,hc,i+1,hi,j,hj=>by
  have h1:=hc c (by simp);simp only[flatC,List.getElem_cons_succ];rw[List.getElem?_append_right (by rw[h1,Nat.add_mul];omega),h1,Nat.add_mul,Nat.one_mul,
   show i*m+m+j-m=i*m+j by omega]
  exact flatC_get (fun x hx=>hc x (by simp[hx])) i (by simpa using hi) j hj
theorem flatC_length{m:Nat}:∀{cs:List (List Value)} (_:∀c∈cs,c.length=m),(flatC cs).length=cs.length*m
 |[],_=>by simp[flatC]
 |c::cs,hc=>by
  simp only[flatC,List.length_append,List.length_cons];rw[hc c (by simp),flatC_length (fun x hx=>hc x (by simp[hx])),Nat.add_mul];omega
/-- elements as data, one by one -/
def RepEs(w:World)(Wr:WrP)(k:Kd):List (List Value)→List k.T→Prop
 |[],[]=>True
 |c::cs,x::xs=>RepC w Wr k c x∧RepEs w Wr k cs xs
 |_,_=>False
theorem RepEs.length{Wr:WrP}{k:Kd}:∀{cs:List (List Value)} {xs:List k.T},RepEs w Wr k cs xs→cs.length=xs.length
 |[],[],_=>rfl
 |[],_::_,h=>h.elim
 |_::_,[],h=>h.elim
 |c::cs,x::xs,h=>by simp[RepEs.length h.2]
theorem RepEs.all{Wr:WrP}{k:Kd}:∀{cs:List (List Value)} {xs:List k.T},RepEs w Wr k cs xs→∀c∈cs,c.length=k.size
 |[],[],_,c,hc=>by cases hc
 |[],_::_,h,_,_=>h.elim
 |_::_,[],h,_,_=>h.elim
 |c::cs,x::xs,h,y,hy=>by
  rcases List.mem_cons.1 hy with rfl|hy
  ·exact h.1.length
  ·exact RepEs.all h.2 y hy
theorem RepEs.get{Wr:WrP}{k:Kd}:∀{cs:List (List Value)} {xs:List k.T},RepEs w Wr k cs xs→∀(i:Nat) (hi:i<cs.length) (hx:i<xs.length),RepC w Wr k cs[i] (xs.get ⟨i,hx⟩)
 |c::cs,x::xs,h,0,_,_=>h.1
 |c::cs,x::xs,h,i+1,hi,hx=>RepEs.get h.2 i (by simpa using hi) (by simpa using hx)
 |[],_::_,h,_,hi,_=>by simp at hi
 |_::_,[],h,_,_,hx=>by simp at hx
theorem RepEs.keep{w':World}{Wr Wr':WrP}(hk:Keep w Wr w' Wr'){k:Kd}:∀{cs:List (List Value)} {xs:List k.T},RepEs w Wr k cs xs→RepEs w' Wr' k cs xs
 |[],[],_=>trivial
 |[],_::_,h=>h.elim
 |_::_,[],h=>h.elim
 |c::cs,x::xs,h=>⟨h.1.keep hk,RepEs.keep hk h.2⟩
theorem RepEs.app{Wr:WrP}{k:Kd}:∀{cs ds:List (List Value)} {xs ys:List k.T},RepEs w Wr k cs xs→RepEs w Wr k ds ys→RepEs w Wr k (cs++ds) (xs++ys)
 |[],_,[],_,_,h=>h
 |[],_,_::_,_,h,_=>h.elim
 |_::_,_,[],_,h,_=>h.elim
 |c::cs,_,x::xs,_,h,h'=>⟨h.1,RepEs.app h.2 h'⟩
theorem flatC_app:∀(cs ds:List (List Value)),flatC (cs++ds)=flatC cs++flatC ds
 |[],_=>rfl
 |c::cs,ds=>by simp[flatC,flatC_app cs ds]
/-- a new row of elements -/
theorem rowRep_new{Wr:WrP}{I:Info}{k:Kd}{cs:List (List Value)}{xs:List k.T}{ao:Bool}{b N:Nat}(h:RepEs w Wr k cs xs)(hb:NoFz w b N 0)(hN:xs.length*k.size≤N)
  (hc:∀j (hj:j<(flatC cs).length),w.cell? ⟨b,j,none⟩=some (flatC cs)[j]):RowRep P w Wr I (.arr k xs ao) (.arr k xs.length (some (b,0)) N):=by
 refine⟨rfl,rfl,by simpa using hN,hb,fun i hi=> ?_⟩;have hl:=h.length;have hi':i<cs.length:=by omega
 refine⟨cs[i],h.get i hi' hi,fun j hj=> ?_⟩;have hj':j<k.size:=by rw[←h.all _ (List.getElem_mem hi')];exact hj
 have hlt:i*k.size+j<(flatC cs).length:=by
  rw[flatC_length h.all];have:(i+1)*k.size≤cs.length*k.size:=Nat.mul_le_mul_right _ (by omega);rw[Nat.add_mul] at this;omega
 have:=hc _ hlt;rw[Nat.zero_add,this];have e:=flatC_get h.all i hi' j hj';rw[List.getElem?_eq_getElem hlt,List.getElem?_eq_getElem hj] at e;exact e
theorem zc_rep{Wr:WrP}:∀(k:Kd),RepC w Wr k k.zc k.dflt
 |.unit=>rfl
 |.pair p q=>⟨p.zc,q.zc,rfl,zc_rep p,zc_rep q⟩
 |.int ik=>rfl
 |.bool=>rfl
 |.str=>rfl
 |.err=>.inl ⟨rfl,rfl⟩
 |.sl k=>⟨none,0,rfl,Nat.zero_le _,.inl rfl⟩
 |.pt=>⟨1,none,0,rfl,Nat.zero_le _,.inl rfl⟩
theorem RepEs.rep{Wr:WrP}{k:Kd}{c:List Value}{x:k.T}(h:RepC w Wr k c x):∀n,RepEs w Wr k (List.replicate n c) (List.replicate n x)
 |0=>trivial
 |n+1=>⟨h,RepEs.rep h n⟩
theorem flatC_rep(c:List Value)(hc:0<c.length):∀n j,j<n*c.length→(flatC (List.replicate n c))[j]?=c[j%c.length]?
 |0,j,h=>by omega
 |n+1,j,h=>by
  simp only[List.replicate,flatC]
  by_cases hj:j<c.length
  ·rw[List.getElem?_append_left hj,Nat.mod_eq_of_lt hj]
  ·rw[List.getElem?_append_right (by omega),flatC_rep c hc n (j-c.length) (by rw[Nat.add_mul] at h;omega),Nat.mod_eq_sub_mod (by omega:c.length≤j)]
theorem elt_ok(hE:TysOk P E){t:Nat}{d:TyD}(hd:E.ty t=some d){e:TypeId}(hu:P.p.underlying t=some (.slice e)):
  d.kd=.sl d.elt∧∃i z,P.p.info? e=some i∧i.size=d.elt.size∧i.bytes=d.bytes∧i.zero=some z∧z.cells.toList=d.elt.zc∧0<d.elt.size∧0<d.bytes:=by
 obtain⟨u,hu',ho⟩:=(hE t d hd).ut;rw[hu] at hu';obtain rfl:=Option.some.inj hu';obtain⟨_,h1,h2,h3,h4,h5⟩:=ho;obtain⟨i,hi,hs,z,hz,hzc,_⟩:=h2.info;rw[hi] at h3;exact⟨h1,i,z,hi,hs,Option.some.inj h3,hz,hzc,h4,h5.1⟩
theorem makeSlice_step(hE:TysOk P E){t:TypeId}{y:Operand}{d:TyD}{k1 k2:IntKind}{l c:Int}(hd:E.ty t=some d)(hx:S.eval x=.v (.int k1) l)(hy:S.eval y=.v (.int k2) c)
  (h:ifT (okT E t (.sl d.elt)) (if 0≤l∧l=c∧c*d.bytes≤140737488355328 then S.new o.dst (.arr d.elt (List.replicate l.toNat d.elt.dflt) false) (.ref d.elt · 0 l.toNat) K else none) none=some r)
  (ho:o.op=.makeSlice t x y):StepSim P Wr0 w0 o S K r:=by
 intro I a w hS;obtain⟨hok,h'⟩:=ifT_some h;clear h;obtain⟨e,_,hu,_⟩:=und_sl hE hok;obtain⟨hk,i,z,hi,hs,hby,hz,hzc,hp,hbp⟩:=elt_ok hE hd hu;split at h'
 ·rename_i hc;obtain⟨h0,rfl,hb⟩:=hc;have hvx:=hS.eval x;have hvy:=hS.eval y;rw[hx,rep_int] at hvx;rw[hy,rep_int] at hvy;have hl63:l≤140737488355328:=by
   have:l*1≤l*d.bytes:=Int.mul_le_mul_of_nonneg_left (by omega) h0;omega
  have hrun:=run_make (P:=P) w t e i z hu hi hz k1 k2 l l h0 (Int.le_refl _) (by rw[hby,Int.mul_comm];omega) (by omega);have hzl:z.cells.size=d.elt.size:=by rw[←Array.length_toList,hzc];exact(zc_rep (w:=w) (Wr:=noWr) d.elt).length
  have hE':RepEs w (WrOf Wr0 S.heap I) d.elt (List.replicate l.toNat d.elt.zc) (List.replicate l.toNat d.elt.dflt):=RepEs.rep (zc_rep d.elt) _;have hfl:=flatC_length hE'.all;rw[List.length_replicate] at hfl;refine new_step hS h' rfl (below_new w (.cells (madeCells z.cells (l.toNat*i.size)) e)) (i:=.arr d.elt l.toNat (some (w.heap.size,0)) (l.toNat*i.size)) (v:=.slice (some ⟨w.heap.size,0,none⟩) l.toNat l.toNat) ?_ ?_ ?_
  ·intro b hb;obtain rfl:=Option.some.inj hb;rw[size_new];exact⟨Nat.le_refl _,Nat.lt_succ_self _⟩
  ·simp only[execOp,ho,hvx,hvy];rw[Sem.run_bind,hrun];rfl
  ·intro p hp' hkeep;refine⟨?_, ?_⟩
   ·have hn:=new_nofz w (madeCells z.cells (l.toNat*i.size)) e 0;rw[size_madeCells] at hn;have:=rowRep_new (P:=P) (I:=I.set p (.arr d.elt l.toNat (some (w.heap.size,0)) (l.toNat*i.size))) (ao:=false) (hE'.keep hkeep) hn (by rw[List.length_replicate,hs];exact Nat.le_refl _) ?_
    ·rw[List.length_replicate] at this;exact this
    ·intro j hj;rw[new_cell];rw[hfl,←hs] at hj;have hzp:0<z.cells.size:=by omega
     have h1:(madeCells z.cells (l.toNat*i.size))[j]?=some (z.cells[j%z.cells.size]!):=by
      unfold madeCells;rw[Array.getElem?_map,Array.getElem?_range];simp[hj]
     rw[h1];have hzcl:d.elt.zc.length=z.cells.size:=by rw[←hzc,Array.length_toList]
     have h2:=flatC_rep d.elt.zc (by omega) l.toNat j (by rw[hzcl,hzl,←hs];exact hj);rw[hzcl] at h2;have hm:j%z.cells.size<z.cells.size:=Nat.mod_lt _ hzp;have h4:some (z.cells[j%z.cells.size]!)=z.cells.toList[j%z.cells.size]?:=by
      rw[Array.getElem?_toList,Array.getElem?_eq_getElem hm];simp[hm]
     rw[h4,hzc,←h2];exact List.getElem?_eq_getElem _
   ·simp only[Rep,Info.set,if_true];refine⟨trivial,by omega,_,_,rfl,Nat.le_refl _,.inr ⟨_,_,rfl,by simp, ?_⟩⟩;rw[hs];simp
 ·cases h'
/-! ### buildSlice -/
theorem fill_ok(m:Nat):∀(vs:List Value) (s:Nat) (cs:Array Value) (n:Nat),(∀v∈vs,v.cells.size=m)→cs.size=n*m→s+vs.length≤n→
  ∃out,Instr.fill (fun i=>some (i*m,m)) cs ((vs.zipIdx s).map fun p=>(p.2,p.1))=some out∧out.size=cs.size∧out.toList=cs.toList.take (s*m)++flatC (vs.map (·.cells.toList))++cs.toList.drop ((s+vs.length)*m)
 |[],s,cs,n,_,_,_=>⟨cs,rfl,rfl,by simp[flatC]⟩
 |v::vs,s,cs,n,hv,hn,hl=>by
  have hvm:=hv v (by simp);simp only[List.length_cons] at hl;have hb:s*m+m≤cs.size:=by
   rw[hn];have:(s+1)*m≤n*m:=Nat.mul_le_mul_right _ (by omega);rw[Nat.add_mul] at this;omega
  rw[List.zipIdx_cons,List.map_cons];simp only[Instr.fill];rw[if_neg (by simp[hvm];omega)];have hset:=foldSet v.cells.toList 0 (s*m) cs (by rw[Array.length_toList,hvm];omega);rw[←zipIdx_foldl_toList] at hset;simp only[Nat.add_zero,Array.length_toList,hvm] at hset;generalize hg:v.cells.zipIdx.foldl (fun cs p=>cs.setIfInBounds (s*m+p.2) p.1) cs=cs' at hset;have hsz:cs'.size=cs.size:=by
   rw[←Array.length_toList,hset];simp only[List.length_append,List.length_take,List.length_drop,Array.length_toList,hvm];omega
  obtain⟨out,h1,h2,h3⟩:=fill_ok m vs (s+1) cs' n (fun u hu=>hv u (by simp[hu])) (by omega) (by omega);refine⟨out,h1,by omega, ?_⟩;rw[h3,hset];have hcl:v.cells.toList.length=m:=by rw[Array.length_toList,hvm]
  have hL:cs.toList.length=cs.size:=Array.length_toList;have e1:(s+1+vs.length)*m=s*m+m+vs.length*m:=by rw[Nat.add_mul,Nat.add_mul,Nat.one_mul]
  have e2:(s+1)*m=s*m+m:=by rw[Nat.add_mul,Nat.one_mul]
  have e3:(s+(vs.length+1))*m=s*m+m+vs.length*m:=by rw[Nat.add_mul,Nat.add_mul,Nat.one_mul];omega
  have hlen:(cs.toList.take (s*m)++v.cells.toList).length=s*m+m:=by
   simp only[List.length_append,List.length_take,hcl,hL];omega
  simp only[List.map_cons,flatC,List.length_cons];rw[e1,e2,e3,List.take_append_of_le_length (by rw[hlen];omega),List.take_of_length_le (by rw[hlen];omega)];rw[List.drop_append,List.drop_eq_nil_of_le (by rw[hlen];omega),List.nil_append,List.drop_drop,hlen];simp only[List.append_assoc];congr 4;omega
theorem RepV.cells{Wr:WrP}{k:Kd}{x:k.T}{v:Value}(h:RepV w Wr k x v):RepC w Wr k v.cells.toList x:=by
 by_cases hg:k.isAgg=true
 ·obtain⟨cs,rfl,h1⟩:=(RepV.ofAgg hg).1 h;exact h1
 ·have hg':k.isAgg=false:=by simpa using hg
  have h1:=(RepC.one hg').1 h;have hv:v.cells=#[v]:=by
   cases k<;>simp only[RepC] at h1<;>first
    |(cases hg';done)
    |(have:=(List.cons.inj h1).1;subst this;rfl)
    |skip
   ·rcases h1 with⟨_,h1⟩|⟨_,t,u,h1⟩<;>(have:=(List.cons.inj h1).1;subst this;rfl)
   ·obtain⟨A,cap,h1,_⟩:=h1;have:=(List.cons.inj h1).1;subst this;rfl
   ·obtain⟨n,h1⟩:=h1;obtain⟨A,l,cap,h1⟩:=h1.len;have:=(List.cons.inj h1).1;subst this;rfl
  rw[hv];exact h1
theorem Sim.elems(h:Sim P Wr0 w0 S I a w){k:Kd}:∀{vs:List AVal} {us:List Value} {xs:List k.T},Am.elems S.heap k vs=some xs→RepL P w (WrOf Wr0 S.heap I) I vs us→
  RepEs w (WrOf Wr0 S.heap I) k (us.map (·.cells.toList)) xs
 |[],[],xs,hT,_=>by
  simp only[Am.elems] at hT;obtain rfl:=Option.some.inj hT;trivial
 |[],_::_,_,_,hL=>by simp only[RepL] at hL
 |_::_,[],_,_,hL=>by simp only[RepL] at hL
 |v::vs,u::us,xs,hT,hL=>by
  simp only[RepL] at hL;simp only[Am.elems] at hT;split at hT
  ·rename_i y hy;split at hT
   ·rename_i ys hys;obtain rfl:=Option.some.inj hT;exact⟨(h.toT hy hL.1).cells,h.elems hys hL.2⟩
   ·cases hT
  ·cases hT
theorem Sim.evals(h:Sim P Wr0 w0 S I a w){α:Type}(f:α→Operand):∀l:List α,RepL P w (WrOf Wr0 S.heap I) I (mapA (fun p=>S.eval (f p)) l) (l.map fun p=>a.eval (f p))
 |[]=>by simp[mapA,RepL]
 |x::l=>by simp only[mapA,List.map_cons,RepL];exact⟨h.eval _,h.evals f l⟩
theorem inOrder_spec(f:Operand→Value):∀(l:List (Nat×Operand)) (n:Nat),inOrder n l=true→(l.map fun p=>(p.1,f p.2))=(((l.map fun p=>f p.2).zipIdx n).map fun p=>(p.2,p.1))
 |[],_,_=>rfl
 |p::l,n,h=>by
  simp only[inOrder] at h;have e:p.1=n∧inOrder (n+1) l=true:=by
   by_cases e:p.1=n
   ·rw[ifEq_pos e] at h;exact⟨e,h⟩
   ·rw[ifEq_neg e] at h;cases h
  simp only[List.map_cons,List.zipIdx_cons];rw[inOrder_spec f l (n+1) e.2,e.1]
theorem ifEq_some{α:Type}{m n:Nat}{x:Option α}{r:α}(h:ifEq m n x none=some r):m=n∧x=some r:=by
 by_cases e:m=n
 ·rw[ifEq_pos e] at h;exact⟨e,h⟩
 ·rw[ifEq_neg e] at h;cases h
theorem buildSlice_step(hE:TysOk P E){t n:Nat}{parts:Array (Nat×Operand)}{d:TyD}(hd:E.ty t=some d)
  (h:(match Am.elems (Am.sealVs S.heap (mapA (fun p=>S.eval p.2) parts.toList)) d.elt (mapA (fun p=>S.eval p.2) parts.toList) with
   |some xs=>ifT (okT E t (.sl d.elt)) (ifT (inOrder 0 parts.toList) (ifT (Nat.ble (n*d.elt.size) 1000) (ifEq (lenA xs) n (({S with heap:=Am.sealVs S.heap (mapA (fun p=>S.eval p.2) parts.toList)}:St).new o.dst (.arr d.elt xs false) (.ref d.elt · 0 n) K) none) none) none) none
   |none=>none)=some r)
  (ho:o.op=.buildSlice t n parts):StepSim P Wr0 w0 o S K r:=by
 intro I a w hS0;split at h
 ·rename_i xs hxs;obtain⟨hok,h1⟩:=ifT_some h;obtain⟨hord,h2⟩:=ifT_some h1;obtain⟨hsz,h3⟩:=ifT_some h2;obtain⟨hlen,h4⟩:=ifEq_some h3;rw[lenA_eq] at hlen;have hsz':n*d.elt.size≤1000:=Nat.le_of_ble_eq_true hsz;obtain⟨e,_,hu,_⟩:=und_sl hE hok;obtain⟨hk,i,z,hi,hs,hby,hz,hzc,hp,hbp⟩:=elt_ok hE hd hu;have hS:=hS0.sealVs (mapA (fun p=>S.eval p.2) parts.toList);have hL:=hS0.evals (fun p:Nat×Operand=>p.2) parts.toList;have hL':RepL P w (WrOf Wr0 (Am.sealVs S.heap (mapA (fun p=>S.eval p.2) parts.toList)) I) I (mapA (fun p=>S.eval p.2) parts.toList) (parts.toList.map fun p=>a.eval p.2):=
   hS.evals (S:={S with heap:=Am.sealVs S.heap (mapA (fun p=>S.eval p.2) parts.toList)}) (fun p:Nat×Operand=>p.2) parts.toList
  have hEs:=hS.elems hxs hL';generalize hus:(parts.toList.map fun p=>a.eval p.2)=us at hEs hL';have hul:us.length=n:=by
   have:=hEs.length;rw[List.length_map] at this;omega
  have hzl:z.cells.size=d.elt.size:=by rw[←Array.length_toList,hzc];exact(zc_rep (w:=w) (Wr:=noWr) d.elt).length
  have hall:∀v∈us,v.cells.size=i.size:=by
   intro v hv;have:=hEs.all _ (List.mem_map_of_mem (f:=fun v:Value=>v.cells.toList) hv);rw[Array.length_toList] at this;rw[this,hs]
  generalize hzr:(Array.range (n*i.size)).map (z.cells[·%z.cells.size]!)=zs;have hzs:zs.size=n*i.size:=by rw[←hzr];simp
  obtain⟨out,ho1,ho2,ho3⟩:=fill_ok i.size us 0 zs n hall hzs (by omega);have hout:out.toList=flatC (us.map (·.cells.toList)):=by
   rw[ho3,Nat.zero_mul,List.take_zero,List.nil_append,Nat.zero_add,hul,List.drop_eq_nil_of_le (by rw[Array.length_toList,hzs];exact Nat.le_refl _),List.append_nil]
  have hparts:(parts.map fun(p:Nat×Operand)=>(p.1,a.eval p.2)).toList=(us.zipIdx 0).map fun p=>(p.2,p.1):=by
   rw[Array.toList_map,←hus];exact inOrder_spec a.eval parts.toList 0 hord
  have hrun:(Instr.buildSlice t n (parts.map fun(p:Nat×Operand)=>(p.1,a.eval p.2))).run P w=.ok (.slice (some ⟨w.heap.size,0,none⟩) n n) (w.alloc (.cells out e)):=by
   unfold Instr.buildSlice;rw[Sem.run_bind,run_underlying hu];simp only[Result.andThen_ok];rw[Sem.run_bind,run_sizeOf_of hi];simp only[Result.andThen_ok];rw[if_neg (by rw[hs];omega),hparts]
   by_cases hn0:n*i.size=0
   ·have hzs0:zs=(Array.range (n*i.size)).map ((#[]:Array Value)[·%(#[]:Array Value).size]!):=by
     apply Array.ext
     ·rw[hzs];simp
     ·intro j h1 h2;rw[hzs] at h1;omega
    simp only[hn0,if_true];rw[hn0] at hzs0;simp only[Sem.run_bind,Sem.run_pure,Result.andThen_ok];rw[←hzs0,ho1];rfl
   ·simp only[hn0,if_false];simp only[Sem.run_bind,run_zeroValue_of hi hz,Sem.run_pure,Result.andThen_ok];rw[hzr,ho1];rfl
  have hfl:=flatC_length hEs.all;rw[List.length_map,hul] at hfl;have hosz:out.size=n*d.elt.size:=by rw[ho2,hzs,hs]
  refine new_step (S:={S with heap:=Am.sealVs S.heap (mapA (fun p=>S.eval p.2) parts.toList)}) hS h4 rfl (below_new w (.cells out e)) (i:=.arr d.elt n (some (w.heap.size,0)) (n*d.elt.size)) (v:=.slice (some ⟨w.heap.size,0,none⟩) n n) ?_ ?_ ?_
  ·intro b hb;obtain rfl:=Option.some.inj hb;rw[size_new];exact⟨Nat.le_refl _,Nat.lt_succ_self _⟩
  ·simp only[execOp,ho];rw[Sem.run_bind,hrun];rfl
  ·intro p hp' hkeep;refine⟨?_, ?_⟩
   ·have hn:=new_nofz w out e 0;rw[hosz] at hn;have:=rowRep_new (P:=P) (I:=I.set p (.arr d.elt n (some (w.heap.size,0)) (n*d.elt.size))) (ao:=false) (hEs.keep hkeep) hn (by rw[hlen];exact Nat.le_refl _) ?_
    ·rw[hlen] at this;exact this
    ·intro j hj;rw[new_cell,←Array.getElem?_toList,hout];exact List.getElem?_eq_getElem hj
   ·simp only[Rep,Info.set,if_true];refine⟨trivial,by omega,_,_,rfl,Nat.le_refl _,.inr ⟨_,_,rfl,by simp,by simp⟩⟩
 ·cases h
end
end Go.Proofs.YthkflageghfbgaaGreatDoor.Am
