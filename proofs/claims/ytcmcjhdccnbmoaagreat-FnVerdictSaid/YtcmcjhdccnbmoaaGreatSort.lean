/- The library's sorts do what its own text does, told as the machine wants it. -/
import Derived.Test.YtcmcjhdccnbmoaaGreatAm4
import Derived.Test.YtcmcjhdccnbmoaaGreatProg
import Derived.Test.YtcmcjhdccnbmoaaGreatShelf
import Derived.Shelf.Sort.Plain
import Derived.Shelf.Slices.In.SortNone
import Derived.Shelf.Slices.CompactI
set_option linter.unusedVariables false
set_option linter.unusedSimpArgs false
namespace Go.Proofs.YtcmcjhdccnbmoaaGreat
open Go Go.RowKit Go.Proofs.YtcmcjhdccnbmoaaGreat.Am
/-! the sort of numbers -/
def sortI (xs : List Int) : Option (List Int) := if xs.length < 4611686018427387904 then some (xs.mergeSort fun x y => decide (x ≤ y)) else none
noncomputable def slices_Sort (xs : List Int) : Option (Unit × List Int × Unit) := (sortI xs).map fun ys => ((), (ys, ()))
noncomputable def A41 : FnM := ⟨[.io (.sl (.int .i64))], false, [], none, fun x => slices_Sort x.1⟩
theorem A41_ok : FnMOk Tryz.prog 41 A41 := by
 refine fnM_row (k := .int .i64) (fa := none) (F := sortI) (en := fun x => [Value.int .i64 x]) (fun _ => rfl) (fun w Wr cs x => by simp only [RepC]) ?_ ?_ ?_
 ·intro xs ys h
  unfold sortI at h
  split at h
  ·obtain rfl := Option.some.inj h
   exact List.length_mergeSort _
  ·cases h
 ·exact fun A cap w => Any.slices_Sort_int_none Tryz.laysSort A cap w
 ·intro xs ys h w b off cap hH hb
  unfold sortI at h
  split at h
  case isFalse => cases h
  rename_i hlen
  obtain rfl := Option.some.inj h
  refine (Any.slices_Sort_int Tryz.laysSort b off cap xs w (rowHolds_one (e := Value.int .i64) hH) hb hlen).mono ?_
  rintro e w' ⟨rfl, n, os, rfl⟩
  refine ⟨rfl, n, os, ?_⟩
  show _ = Sort.grow (Sort.putRowK (fun x => [Value.int .i64 x]) 1 _ b off _) os
  rw [rowPut_one]
/-! runs of equal numbers -/
def compI (xs : List Int) : Option (List Int × Nat) := if xs.length ≤ 9223372036854775807 then some (Lib.compact xs ++ List.replicate (xs.length - (Lib.compact xs).length) 0, (Lib.compact xs).length) else none
theorem compact_le (xs : List Int) : (Lib.compact xs).length ≤ xs.length := by
 unfold Lib.compact Lib.compactUpTo
 rw [List.length_map]
 exact Nat.le_trans (List.length_filter_le _ _) (by simp)
theorem compI_turned {d ne : Nat} {rest xsh : List Fm} {f : FmsT (.cell (.own (.int .i64) 100000 false) :: rest) → Option (FmsT xsh)} (hsh : nodupN (toksF (.cell (.own (.int .i64) 100000 false) :: rest)) = true) (hxs : nodupN (toksF xsh) = true)
  (hst : turnStep 61 ne d 100000 (.int .i64) rest xsh compI = f) : InlOk Tryz.prog d 43 ⟨61, .cell (.own (.int .i64) 100000 false) :: rest, ne, xsh, f, 1⟩ := by
 refine inlOk_turn (n := 60) (k := .int .i64) (en := fun x => [Value.int .i64 x]) (F := compI) Tryz.func43 (by kernel_rfl) (by kernel_rfl) (by kernel_rfl) hsh hxs (fun _ => rfl) (fun w Wr cs x => by simp only [RepC]) ?_ ?_ ?_ hst
 ·intro xs r h
  unfold compI at h
  split at h
  ·obtain rfl := Option.some.inj h
   have := compact_le xs
   exact ⟨by simp; omega, this⟩
  ·cases h
 ·exact fun A cap w => Any.slices_Compact_int_empty Tryz.laysCompact A cap w
 ·intro xs r h w b off cap hH hb hc
  unfold compI at h
  split at h
  case isFalse => cases h
  rename_i hlen
  obtain rfl := Option.some.inj h
  refine (Any.slices_Compact_int Tryz.laysCompact b off cap xs w (rowHolds_one (e := Value.int .i64) hH) hlen hc).mono ?_
  rintro e w' ⟨rfl, q, rfl⟩
  refine ⟨rfl, q, #[], ?_⟩
  show _ = Sort.grow (Sort.putRowK (fun x => [Value.int .i64 x]) 1 _ b off _) #[]
  rw [rowPut_one]
  simp [Sort.grow]
  rfl
end Go.Proofs.YtcmcjhdccnbmoaaGreat
