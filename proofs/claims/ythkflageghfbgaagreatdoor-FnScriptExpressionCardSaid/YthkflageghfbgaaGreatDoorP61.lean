import Derived.Test.YthkflageghfbgaaGreatDoorP10
set_option linter.unusedVariables false
set_option linter.unusedSimpArgs false
/- Marks of automata that are handed back. -/
namespace Go.Proofs.YthkflageghfbgaaGreatDoor
open Go Go.Proofs.YthkflageghfbgaaGreatDoor.Am
end Go.Proofs.YthkflageghfbgaaGreatDoor

/- Steps in order: what is put among them; the sort of steps. -/
namespace Go.Proofs.YthkflageghfbgaaGreatDoor
open Go Go.Proofs.YthkflageghfbgaaGreatDoor.Am
theorem getD_g{α:Type}{l:List α}{i:Nat}(d:α)(hi:i<l.length):l.getD i d=l[i]:=by
 rw[List.getD_eq_getElem?_getD,List.getElem?_eq_getElem hi];rfl
end Go.Proofs.YthkflageghfbgaaGreatDoor

/- The automaton of factors: both sides make the same. -/
namespace Go.Proofs.YthkflageghfbgaaGreatDoor
open Go Go.Proofs.YthkflageghfbgaaGreatDoor.Am
/-! ### what stands in order -/
theorem marks_lt{n:Int}{l:List Int}(h:marksOk n l=true):∀(d i:Nat),i+d+1<l.length→l.getD i 0<l.getD (i+d+1) 0
 |0,i,hi=>by
  have:=List.all_eq_true.1 h (i+1) (List.mem_range.2 hi);unfold marksP at this;simp at this;exact this.2
 |d+1,i,hi=>by
  have h1:=marks_lt h d i (by omega);have:=List.all_eq_true.1 h (i+d+1+1) (List.mem_range.2 (by omega));unfold marksP at this;simp at this;have h2:=this.2;show l.getD i 0<l.getD (i+d+1+1) 0;rw[List.getD_eq_getElem?_getD,List.getD_eq_getElem?_getD] at h1⊢;omega
/-! ### the loops -/
def zs(s:Stp):Stp:=(s.1,s.2.1,s.2.2.1,0)
/-! ### what is put -/
def cand(s:Stp)(f:Int):Stp:=(f,s.2.1,s.2.2.1,1)
end Go.Proofs.YthkflageghfbgaaGreatDoor

/- The automaton of factors, on: both sides make the same; its law. -/
namespace Go.Proofs.YthkflageghfbgaaGreatDoor
open Go Go.Proofs.YthkflageghfbgaaGreatDoor.Am
/-! ### costs put to nothing -/
end Go.Proofs.YthkflageghfbgaaGreatDoor
