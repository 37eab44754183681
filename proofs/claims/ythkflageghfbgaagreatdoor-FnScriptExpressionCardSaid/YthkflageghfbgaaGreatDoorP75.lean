/- What an expansion of an expression costs: at least as often as repeated parts stand, divided by one more than the states. -/
import Derived.Test.YthkflageghfbgaaGreatDoorP69
import Derived.Test.YthkflageghfbgaaGreatDoorP71
set_option linter.unusedVariables false
set_option linter.unusedSimpArgs false
namespace Go.Proofs.YthkflageghfbgaaGreatDoor
open Go Go.Proofs.YthkflageghfbgaaGreatDoor.Am
/-- a word so many times -/
def rep(m:Nat)(w:List UInt8):List UInt8:=(List.replicate m w).flatten
theorem rep_succ(m:Nat)(w:List UInt8):rep (m+1) w=w++rep m w:=by simp[rep,List.replicate_succ]
theorem rep_len(m:Nat)(w:List UInt8):(rep m w).length=m*w.length:=by
 induction m with
 |zero=>simp[rep]
 |succ m ih=>rw[rep_succ,List.length_append,ih,Nat.succ_mul,Nat.add_comm]
def In(n:Nat)(i:Int):Prop:=0≤i∧i≤(n:Int)-1
def en(n:Nat)(A:List Int)(i k:Int):Int:=A.getD (i.toNat*n+k.toNat) 0
section
variable {n : Nat} {l : List Stp} (hl : ∀ s ∈ l, StepIs (n : Int) s)
include hl
omit hl in
end
section
variable {n : Nat} {E : List Int} (hE : gmul n E E = E) {z : Int} (hz : z ≤ 2)
include hE hz
end
/-- what grades tell of the runs of a word, by the least cost that many times tell -/
structure GX (n:Nat) (l:List Stp) (Q:Int) (w:List UInt8) (A:List Int):Prop where
 ok:GOk n A
 p0:∀i k c,In n i→In n k→Run l w i k c→c≤0→en n A i k≤0
 p1:∀i k c,In n i→In n k→Run l w i k c→c<Q→en n A i k≤1
 p2:∀i k c,In n i→In n k→Run l w i k c→True→en n A i k≤2
 ex:∀i k,In n i→In n k→en n A i k≤2→∃c,Run l w i k c
section
variable {n : Nat} {l : List Stp} (hl : ∀ s ∈ l, StepIs (n : Int) s) {Q : Int}
include hl
end
end Go.Proofs.YthkflageghfbgaaGreatDoor
