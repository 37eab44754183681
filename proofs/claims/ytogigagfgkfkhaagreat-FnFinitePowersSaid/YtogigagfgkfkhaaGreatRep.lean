/- Texts put together by the library: what its own text does, told as the machine wants it. -/
import Derived.Test.YtogigagfgkfkhaaGreatAm3
import Derived.Test.YtogigagfgkfkhaaGreatProg
import Derived.Test.YtogigagfgkfkhaaGreatShelf
import Derived.Shelf.Strings.Repeat
set_option linter.unusedVariables false
set_option linter.unusedSimpArgs false
namespace Go.Proofs.YtogigagfgkfkhaaGreat
open Go Go.RowKit Go.Proofs.YtogigagfgkfkhaaGreat.Am
theorem z8d : Builder.Extra Tryz.prog Tryz.laysRepeat_ren where
 sizeBuilder := by kernel_rfl
 liesBuilder := by kernel_rfl
 t5 := Tryz.underlying5
 a5 := Tryz.isAgg5
 z5 := Tryz.sizeOf5
 v5 := Tryz.zeroValue5
 infoByte := by kernel_rfl
 cellsByte := by kernel_rfl
 sizeByte := by kernel_rfl
 neB5 := by decide
def repS (a : ByteArray) (c : Int) : Option ByteArray :=
 if 0 ≤ c ∧ a.size * c.toNat ≤ 140737488355328 ∧ c ≤ 9223372036854775807 then some ⟨(Lib.repeatL a.data.toList c.toNat).toArray⟩ else none
noncomputable def strings_Repeat (a : ByteArray) (c : Int) : Option ByteArray := repS a c
noncomputable def A60 : FnA := ⟨[.v .str, .v (.int .i64)], true, [.str], fun x => strings_Repeat x.1 x.2.1⟩
theorem A60_ok : FnOk Tryz.prog 60 A60 := by
 rintro ⟨a, c, _⟩ r hr w Wr vs hW hp
 simp only [A60, y0p] at hp
 obtain ⟨v, us, rfl, ⟨cs, h1, rfl⟩, v2, us2, rfl, ⟨cs2, h2, rfl⟩, rfl⟩ := hp
 simp only [RepC] at h1 h2
 subst h1 h2
 have hr : repS a c = some r := hr
 unfold repS at hr
 split at hr
 case isFalse => cases hr
 rename_i hc
 obtain rfl := Option.some.inj hr
 have e : ((c.toNat : Nat) : Int) = c := by omega
 have h := Any.strings_Repeat Tryz.laysRepeat z8d a c.toNat w (by omega) hc.2.1
 rw [e] at h
 refine h.mono ?_
 rintro e' w' ⟨rfl, hb⟩
 refine ⟨[.string ⟨(Lib.repeatL a.data.toList c.toNat).toArray⟩], rfl, BelowD.of hb (fun h => by cases h), ?_⟩
 show ∃ bs, _
 refine ⟨[], ?_, List.nodup_nil, fun b hb => by cases hb⟩
 simp only [A60, OwnOuts]
 exact ⟨_, rfl, [.string ⟨(Lib.repeatL a.data.toList c.toNat).toArray⟩], ⟨rfl, rfl⟩, rfl⟩
end Go.Proofs.YtogigagfgkfkhaaGreat
