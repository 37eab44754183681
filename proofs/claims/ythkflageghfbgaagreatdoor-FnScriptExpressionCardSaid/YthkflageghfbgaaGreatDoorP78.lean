/- What a growing expression is, and its expansions. -/
import Derived.Test.YthkflageghfbgaaGreatDoorP77
import Derived.Test.YthkflageghfbgaaGreatDoorP37
set_option linter.unusedVariables false
set_option linter.unusedSimpArgs false
namespace Go.Proofs.YthkflageghfbgaaGreatDoor
open Go Go.Proofs.YthkflageghfbgaaGreatDoor.Am
/-- a growing expression -/
structure Grows (a:Aut) (e:ByteArray) (n:Nat) (t:List UInt8) (l:Pts) (A:List Int):Prop where
 v:autOk a=true
 ha:AutIs a n
 e:e=B t
 vo:Vo n a.2.2.2 t l A
 len:t.length≤120
 btw:btw n A a.2.1 a.2.2.1=2
 ok:GOk n A
section
variable {a : Aut} {e : ByteArray} {n : Nat} {t : List UInt8} {l : Pts} {A : List Int} (h : Grows a e n t l A)
include h
theorem Grows.ne:l≠[]:=(h.vo.ok h.ha).2.1
end
end Go.Proofs.YthkflageghfbgaaGreatDoor
