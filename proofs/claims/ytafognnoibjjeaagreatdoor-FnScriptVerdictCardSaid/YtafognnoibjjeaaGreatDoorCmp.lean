/- strings.Compare does what the library's own text does (lines of the shelf's templates, turned to this claim), told as the machine wants it. -/
import Derived.Test.YtafognnoibjjeaaGreatDoorAm3
import Derived.Test.YtafognnoibjjeaaGreatDoorProg
import Derived.Lib.Strings
import Derived.Lib.Slices
import Derived.Lib.Walk
import Derived.Lib.Bytealg
set_option linter.unusedVariables false
set_option linter.unusedSimpArgs false
namespace Go.Proofs.YtafognnoibjjeaaGreatDoor
open Go Go.RowKit Go.Proofs.YtafognnoibjjeaaGreatDoor.Am
set_option maxHeartbeats 1000000 in
set_option maxRecDepth 100000 in
theorem y6b(a b:ByteArray)(w:World):
  Calls Tryz.prog 202 #[.string a,.string b] w fun e w'=>e=.returned (.int .i64 (Lib.compareBytes a.data.toList b.data.toList))∧w'=w:=by
 go_enter Tryz.func202,Tryz.ntmps202
 go_wp2
 rw[run_callFunc_extern Tryz.func257 (by kernel_rfl) (by kernel_rfl) (by kernel_rfl) (e:=Extern.BytealgCompare.compare) (by kernel_rfl),Lib.run_compareString];simp only[Result.andThen];rw[Oper.upon_value]
 go_wp2
 go_ret
 exact⟨rfl,rfl⟩
set_option maxHeartbeats 1000000 in
theorem y9a(a b:ByteArray)(w:World):
  Calls Tryz.prog 138 #[.string a,.string b] w fun e w'=>e=.returned (.int .i64 (Lib.compareBytes a.data.toList b.data.toList))∧w'=w:=by
 go_enter Tryz.func138,Tryz.ntmps138
 go_wp2_with (go_at_call 202;refine(y6b _ _ _).mono ?_;rintro e w' ⟨rfl,rfl⟩)
 go_ret
 exact⟨rfl,rfl⟩
noncomputable def y0e(a b:ByteArray):Option Int:=some (Lib.compareBytes a.data.toList b.data.toList)
noncomputable def A138:FnA:=⟨[.v .str,.v .str],true,[.int .i64],fun x=>y0e x.1 x.2.1⟩
theorem A138_ok{sb:Bool}:FnOk (⟨Tryz.prog,sb⟩:Pg) 138 A138:=by
 rintro⟨a,b,_⟩ r hr w Wr vs hW hp;simp only[A138,yt2] at hp;obtain⟨v,us,rfl,⟨cs,h1,rfl⟩,v2,us2,rfl,⟨cs2,h2,rfl⟩,rfl⟩:=hp;simp only[RepC] at h1 h2;subst h1 h2;have hr:(some (Lib.compareBytes a.data.toList b.data.toList):Option Int)=some r:=hr;obtain rfl:=Option.some.inj hr;refine(y9a a b w).mono ?_;rintro e w' ⟨rfl,rfl⟩;refine⟨[.int .i64 (Lib.compareBytes a.data.toList b.data.toList)],rfl,BelowD.refl _ _, ?_⟩;show ∃bs,_;refine⟨[], ?_,List.nodup_nil,fun b hb=>by cases hb⟩;simp only[A138,OwnOuts];exact⟨_,rfl,[.int .i64 (Lib.compareBytes a.data.toList b.data.toList)],⟨rfl,rfl⟩,rfl⟩
end Go.Proofs.YtafognnoibjjeaaGreatDoor
