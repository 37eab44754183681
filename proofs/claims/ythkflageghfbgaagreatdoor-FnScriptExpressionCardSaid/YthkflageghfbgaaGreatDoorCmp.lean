/- strings.Compare does what the library's own text does (lines of the shelf's templates, turned to this claim), told as the machine wants it. -/
import Derived.Test.YthkflageghfbgaaGreatDoorAm3
import Derived.Test.YthkflageghfbgaaGreatDoorProg
import Derived.Lib.Strings
import Derived.Lib.Slices
import Derived.Lib.Walk
import Derived.Lib.Bytealg
set_option linter.unusedVariables false
set_option linter.unusedSimpArgs false
namespace Go.Proofs.YthkflageghfbgaaGreatDoor
open Go Go.RowKit Go.Proofs.YthkflageghfbgaaGreatDoor.Am
set_option maxHeartbeats 1000000 in
set_option maxRecDepth 100000 in
theorem bytealg_CompareString(a b:ByteArray)(w:World):
  Calls Tryz.prog 209 #[.string a,.string b] w fun e w'=>e=.returned (.int .i64 (Lib.compareBytes a.data.toList b.data.toList))∧w'=w:=by
 go_enter Tryz.func209,Tryz.ntmps209
 go_wp2
 rw[run_callFunc_extern Tryz.func255 (by kernel_rfl) (by kernel_rfl) (by kernel_rfl) (e:=Extern.BytealgCompare.compare) (by kernel_rfl),Lib.run_compareString];simp only[Result.andThen];rw[Oper.upon_value]
 go_wp2
 go_ret
 exact⟨rfl,rfl⟩
set_option maxHeartbeats 1000000 in
theorem strings_Compare_go(a b:ByteArray)(w:World):
  Calls Tryz.prog 128 #[.string a,.string b] w fun e w'=>e=.returned (.int .i64 (Lib.compareBytes a.data.toList b.data.toList))∧w'=w:=by
 go_enter Tryz.func128,Tryz.ntmps128
 go_wp2_with (go_at_call 209;refine(bytealg_CompareString _ _ _).mono ?_;rintro e w' ⟨rfl,rfl⟩)
 go_ret
 exact⟨rfl,rfl⟩
noncomputable def strings_Compare(a b:ByteArray):Option Int:=some (Lib.compareBytes a.data.toList b.data.toList)
noncomputable def A128:FnA:=⟨[.v .str,.v .str],true,[.int .i64],fun x=>strings_Compare x.1 x.2.1⟩
theorem A128_ok{sb:Bool}:FnOk (⟨Tryz.prog,sb⟩:Pg) 128 A128:=by
 rintro⟨a,b,_⟩ r hr w Wr vs hW hp;simp only[A128,RepPs] at hp;obtain⟨v,us,rfl,⟨cs,h1,rfl⟩,v2,us2,rfl,⟨cs2,h2,rfl⟩,rfl⟩:=hp;simp only[RepC] at h1 h2;subst h1 h2;have hr:(some (Lib.compareBytes a.data.toList b.data.toList):Option Int)=some r:=hr;obtain rfl:=Option.some.inj hr;refine(strings_Compare_go a b w).mono ?_;rintro e w' ⟨rfl,rfl⟩;refine⟨[.int .i64 (Lib.compareBytes a.data.toList b.data.toList)],rfl,BelowD.refl _ _, ?_⟩;show ∃bs,_;refine⟨[], ?_,List.nodup_nil,fun b hb=>by cases hb⟩;simp only[A128,OwnOuts];exact⟨_,rfl,[.int .i64 (Lib.compareBytes a.data.toList b.data.toList)],⟨rfl,rfl⟩,rfl⟩
end Go.Proofs.YthkflageghfbgaaGreatDoor
