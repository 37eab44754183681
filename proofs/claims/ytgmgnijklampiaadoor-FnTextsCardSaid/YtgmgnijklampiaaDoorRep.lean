/- Texts put together by the library: what its own text does, told as the machine wants it. -/
import Derived.Test.YtgmgnijklampiaaDoorAm3
import Derived.Test.YtgmgnijklampiaaDoorProg
import Derived.Test.YtgmgnijklampiaaDoorShelf
import Derived.Shelf.Strings.OnBuilder
import Derived.Shelf.Strconv.Itoa3
import Derived.Lib.AppendIntMem
set_option linter.unusedVariables false
set_option linter.unusedSimpArgs false
namespace Go.Proofs.YtgmgnijklampiaaDoor
open Go Go.RowKit Go.Proofs.YtgmgnijklampiaaDoor.Am
theorem extra_156 : Builder.Extra Tryd.prog Tryd.laysJoin_ren where
 sizeBuilder := by kernel_rfl
 liesBuilder := by kernel_rfl
 t5 := Tryd.underlying5
 a5 := Tryd.isAgg5
 z5 := Tryd.sizeOf5
 v5 := Tryd.zeroValue5
 infoByte := by kernel_rfl
 cellsByte := by kernel_rfl
 sizeByte := by kernel_rfl
 neB5 := by decide
def joinS (xs : List ByteArray) (s : ByteArray) : Option ByteArray :=
 if xs.length ≤ 140737488355328 ∧ (Lib.join (xs.map (·.data.toList)) s.data.toList).length ≤ 140737488355328 then some ⟨(Lib.join (xs.map (·.data.toList)) s.data.toList).toArray⟩ else none
noncomputable def strings_Join (xs : List ByteArray) (s : ByteArray) : Option ByteArray := joinS xs s
noncomputable def A29 : FnA := ⟨[.v (.sl .str), .v .str], true, [.str], fun x => strings_Join x.1 x.2.1⟩
theorem A29_ok : FnOk Tryd.prog 29 A29 := by
 rintro ⟨xs, s, _⟩ r hr w Wr vs hW hp
 simp only [A29, RepPs] at hp
 obtain ⟨v, us, rfl, ⟨cs, h1, rfl⟩, v2, us2, rfl, ⟨cs2, h2, rfl⟩, rfl⟩ := hp
 simp only [RepC] at h1 h2
 obtain ⟨A, cap, rfl, hcap, hA⟩ := h1
 subst h2
 have hr : joinS xs s = some r := hr
 unfold joinS at hr
 split at hr
 case isFalse => cases hr
 rename_i hc
 obtain rfl := Option.some.inj hr
 have key : Calls Tryd.prog 29 #[.slice A (List.length (α := ByteArray) xs) cap, .string s] w fun e w' => e = .returned (.string ⟨(Lib.join (xs.map (·.data.toList)) s.data.toList).toArray⟩) ∧ Below w.heap.size w w' := by
  rcases hA with rfl | ⟨b, off, rfl, hcells⟩
  ·exact (Any.strings_Join_none Tryd.laysJoin extra_156 A cap s w).mono fun e w' ⟨he, hw⟩ => ⟨he, hw ▸ Below.refl _ _⟩
  ·cases xs with
   | nil => exact (Any.strings_Join_none Tryd.laysJoin extra_156 _ cap s w).mono fun e w' ⟨he, hw⟩ => ⟨he, hw ▸ Below.refl _ _⟩
   | cons x0 xs0 =>
    have cell : ∀ (j : Nat) x, (x0 :: xs0)[j]? = some x → w.cell? ⟨b, off + j, none⟩ = some (.string x) := by
     intro j x hj
     obtain ⟨hlt, hx⟩ := List.getElem?_eq_some_iff.1 hj
     obtain ⟨cs', h3, h4⟩ := hcells j hlt
     have h3 : cs' = [.string ((x0 :: xs0).get ⟨j, hlt⟩)] := h3
     subst h3
     have h5 := (h4 0 (by simp)).1
     rw [show off + j * Kd.str.size + 0 = off + j from by simp [Kd.size]] at h5
     rw [h5]
     show some (Value.string ((x0 :: xs0)[j])) = _
     rw [hx]
    exact Any.strings_Join Tryd.laysJoin extra_156 b off cap (x0 :: xs0) s w cell (World.block_lt_of_cell? w ⟨b, off + 0, none⟩ (cell 0 x0 rfl)) hc.1 hcap hc.2
 refine key.mono ?_
 rintro e' w' ⟨rfl, hb⟩
 refine ⟨[.string ⟨(Lib.join (xs.map (·.data.toList)) s.data.toList).toArray⟩], rfl, BelowD.of hb trivial, ?_⟩
 show ∃ bs, _
 refine ⟨[], ?_, List.nodup_nil, fun b hb => by cases hb⟩
 simp only [A29, OwnOuts]
 exact ⟨_, rfl, _, ⟨rfl, rfl⟩, rfl⟩
def itoaS (n : Int) : Option ByteArray :=
 if -9223372036854775808 ≤ n ∧ n ≤ 9223372036854775807 then some ⟨(Lib.itoa n).toArray⟩ else none
noncomputable def strconv_Itoa (n : Int) : Option ByteArray := itoaS n
noncomputable def A28 : FnA := ⟨[.v (.int .i64)], true, [.str], fun x => strconv_Itoa x.1⟩
theorem A28_ok : FnOk Tryd.prog 28 A28 := by
 rintro ⟨n, _⟩ r hr w Wr vs hW hp
 simp only [A28, RepPs] at hp
 obtain ⟨v, us, rfl, ⟨cs, h1, rfl⟩, rfl⟩ := hp
 simp only [RepC] at h1
 subst h1
 have hr : itoaS n = some r := hr
 unfold itoaS at hr
 split at hr
 case isFalse => cases hr
 rename_i hc
 obtain rfl := Option.some.inj hr
 refine (Any.strconv_Itoa Tryd.laysItoa n hc.1 hc.2 w hW.2).mono ?_
 rintro e' w' ⟨rfl, k, os, rfl⟩
 refine ⟨[.string ⟨(Lib.itoa n).toArray⟩], rfl, BelowD.of (Lib.below_grow _ w (Nat.le_refl _) k os) trivial, ?_⟩
 show ∃ bs, _
 refine ⟨[], ?_, List.nodup_nil, fun b hb => by cases hb⟩
 simp only [A28, OwnOuts]
 exact ⟨_, rfl, _, ⟨rfl, rfl⟩, rfl⟩
end Go.Proofs.YtgmgnijklampiaaDoor
