/- The law of tables. -/
import Derived.Test.YthkflageghfbgaaGreatDoorP40
import Derived.Test.YthkflageghfbgaaGreatDoorP20
set_option linter.unusedVariables false
set_option linter.unusedSimpArgs false
namespace Go.Proofs.YthkflageghfbgaaGreatDoor
open Go Go.Proofs.YthkflageghfbgaaGreatDoor.Am
theorem daSame_is{l:List Int}(hl:l.length≤9223372036854775807):laws_daSame l l=some true:=by
 obtain⟨r,g1,g2⟩:=loop_inv (f:=laws_daSame_l2) (α:=Unit) l.length (fun i _=>(l,l,((l.length:Nat):Int),(i:Int),())) (fun _ _=>()) (fun _=>.inr (l,l,())) (fun _ _=>True) (fun _ _ _ _=>trivial)
  (fun i _ hi _=>by simp only[laws_daSame_l2,lt_t hi,cond_true,if_pos (in_t hi),bne_self_eq_false,cond_false,w64_succ hi hl])
  (fun _ _=>by simp only[laws_daSame_l2,lt_f,cond_false]) () trivial
 have g1:loopF laws_daSame_l2 (l,l,((l.length:Nat):Int),(0:Int),())=some (.inr (l,l,())):=g1;unfold laws_daSame;rw[if_neg (by omega),g1];simp only[Option.bind_some,BEq.rfl]
end Go.Proofs.YthkflageghfbgaaGreatDoor
