/- Texts of grades and elements: both sides tell the same; the law. -/
import Derived.Test.YtgmgnijklampiaaDoorP31
import Derived.Test.YtgmgnijklampiaaDoorP3
set_option linter.unusedVariables false
set_option linter.unusedSimpArgs false
namespace Go.Proofs.YtgmgnijklampiaaDoor
open Go Go.Proofs.YtgmgnijklampiaaDoor.Am
def BL (l : List UInt8) : ByteArray := ⟨⟨l⟩⟩
theorem BL_size (l : List UInt8) : (BL l).size = l.length := rfl
theorem BL_extract (l : List UInt8) (i j : Nat) : (BL l).extract i j = BL ((l.drop i).take (j - i)) := by
 apply ByteArray.ext
 rw [ByteArray.data_extract]
 apply Array.ext'
 rw [Array.toList_extract]
 rfl
theorem BL_app (a b : List UInt8) : BL a ++ BL b = BL (a ++ b) := by
 apply ByteArray.ext
 rw [ByteArray.data_append]
 apply Array.ext'
 rw [Array.toList_append]
 rfl
theorem BL_mk (l : List UInt8) : (⟨l.toArray⟩ : ByteArray) = BL l := by simp [BL]
/-- a matrix of grades -/
def gvB (s : Int) (A : List Int) : Bool := decide (1 ≤ s ∧ s ≤ 4) && (decide ((A.length : Int) = s * s) && A.all fun x => decide (0 ≤ x ∧ x ≤ 3))
theorem sq_wrap {s : Int} (h : 1 ≤ s ∧ s ≤ 4) : IntKind.wrap .i64 (s * s) = s * s := by
 have : s = 1 ∨ s = 2 ∨ s = 3 ∨ s = 4 := by omega
 rcases this with rfl | rfl | rfl | rfl <;> rfl
theorem sq_16 {s : Int} (h : 1 ≤ s ∧ s ≤ 4) : s * s ≤ 16 := by
 have : s = 1 ∨ s = 2 ∨ s = 3 ∨ s = 4 := by omega
 rcases this with rfl | rfl | rfl | rfl <;> decide
theorem impl_gv (s : Int) {A : List Int} (hl : A.length ≤ 1048576) : impl_GradesValid (s, A) = some (gvB s A) := by
 unfold gvB
 simp only [impl_GradesValid, impl_MatrixValid]
 by_cases h1 : s < 1
 ·rw [decide_eq_true h1, cond_true, decide_eq_false (show ¬ (1 ≤ s ∧ s ≤ 4) by omega)]
  rfl
 ·rw [decide_eq_false h1, cond_false]
  by_cases h2 : s > 4
  ·rw [decide_eq_true h2, cond_true, decide_eq_false (show ¬ (1 ≤ s ∧ s ≤ 4) by omega)]
   rfl
  ·have hs : 1 ≤ s ∧ s ≤ 4 := by omega
   rw [decide_eq_false h2, cond_false, sq_wrap hs, decide_eq_true hs, Bool.true_and]
   by_cases h3 : (A.length : Int) = s * s
   ·have h16 := sq_16 hs
    have hne : (((A.length : Nat) : Int) != s * s) = false := by rw [bne, beq_iff_eq.2 h3]; rfl
    rw [hne, cond_false, decide_eq_true h3, Bool.true_and]
    have c1 := contains_is (xs := A) (by omega) (φ := fun y0 => impl_MatrixValid_1 y0.1) (p := fun x => !decide (0 ≤ x ∧ x ≤ 1000000)) (fun x _ => by
     simp only [impl_MatrixValid_1, impl_CostValid]
     by_cases h : x ≥ 0
     ·rw [decide_eq_true h, cond_true]
      simp only [Option.bind_some]
      by_cases k : x ≤ 1000000
      ·rw [decide_eq_true k, decide_eq_true (show 0 ≤ x ∧ x ≤ 1000000 from ⟨h, k⟩)]
      ·rw [decide_eq_false k, decide_eq_false (show ¬ (0 ≤ x ∧ x ≤ 1000000) from fun g => k g.2)]
     ·rw [decide_eq_false h, cond_false, decide_eq_false (show ¬ (0 ≤ x ∧ x ≤ 1000000) from fun g => h g.1)]
      rfl)
    have c2 := contains_is (xs := A) (by omega) (φ := fun y1 => impl_GradesValid_1 y1.1) (p := fun x => decide (x > 3)) (fun x _ => by simp only [impl_GradesValid_1])
    rw [c1]
    simp only [Option.bind_some, c2]
    have key : (!(A.any fun x => !decide (0 ≤ x ∧ x ≤ 1000000)) && !(A.any fun x => decide (x > 3))) = A.all fun x => decide (0 ≤ x ∧ x ≤ 3) := by
     rw [Bool.eq_iff_iff, Bool.and_eq_true, List.all_eq_true, Bool.not_eq_true', Bool.not_eq_true', List.any_eq_false, List.any_eq_false]
     constructor
     ·rintro ⟨g1, g2⟩ x hx
      have k1 := g1 x hx
      have k2 := g2 x hx
      simp only [Bool.not_eq_true', decide_eq_false_iff_not, decide_eq_true_eq] at k1 k2
      exact decide_eq_true (by omega)
     ·intro g
      refine ⟨fun x hx => ?_, fun x hx => ?_⟩ <;> have k := of_decide_eq_true (g x hx)
      ·simp only [Bool.not_eq_true', decide_eq_false_iff_not]
       omega
      ·simp only [decide_eq_true_eq]
       omega
    rw [← key]
    cases (A.any fun x => !decide (0 ≤ x ∧ x ≤ 1000000)) <;> rfl
   ·have hne : (((A.length : Nat) : Int) != s * s) = true := bne_iff_ne.2 h3
    rw [hne, cond_true, decide_eq_false h3, Bool.false_and]
    rfl
theorem spec_gv (s : Int) {A : List Int} (hl : A.length ≤ 1048576) : spec_GradesValid (s, A) = some (gvB s A) := by
 unfold gvB
 have g := loop_find (f := spec_GradesValid_l2) (fun i => ((s, A, ()), A, (A.length : Int), (i : Int), ())) A.length (fun i => !decide (0 ≤ A.getD i 0 ∧ A.getD i 0 ≤ 3)) (fun i => Sum.inl (false, ())) (Sum.inr ((s, A, ()), ()))
  (fun i hi => by
   simp only [spec_GradesValid_l2, lt_t hi, cond_true, if_pos (in_t hi), Int.toNat_natCast, spec_l1In_is, Option.bind_some, w64_succ hi (show A.length ≤ 9223372036854775807 by omega)]
   cases decide (0 ≤ A.getD i 0 ∧ A.getD i 0 ≤ 3) <;> rfl)
  (by simp only [spec_GradesValid_l2, lt_f, cond_false])
 have g : loopF spec_GradesValid_l2 ((s, A, ()), A, (A.length : Int), (0 : Int), ()) = _ := g
 have ha := any_idx A 0 fun x => !decide (0 ≤ x ∧ x ≤ 3)
 simp only [spec_GradesValid, g, Option.bind_some]
 have hall : (A.all fun x => decide (0 ≤ x ∧ x ≤ 3)) = !(A.any fun x => !decide (0 ≤ x ∧ x ≤ 3)) := by
  rw [List.all_eq_not_any_not]
 rw [hall, ← ha]
 cases hf : (List.range A.length).find? fun i => !decide (0 ≤ A.getD i 0 ∧ A.getD i 0 ≤ 3) with
 | some i => simp
 | none =>
  have hx : ∀ i, i < A.length → 0 ≤ A.getD i 0 ∧ A.getD i 0 ≤ 3 := by
   intro i hi
   have := List.find?_eq_none.1 hf i (List.mem_range.2 hi)
   simpa using this
  simp only [spec_MatrixValid, spec_l1In_is, Option.bind_some, Option.isSome_none, Bool.not_false, Bool.and_true]
  by_cases hs : 1 ≤ s ∧ s ≤ 4
  ·rw [decide_eq_true hs, cond_true, sq_wrap hs, Bool.true_and]
   by_cases h3 : (A.length : Int) = s * s
   ·rw [show (((A.length : Nat) : Int) == s * s) = true from beq_iff_eq.2 h3, cond_true, decide_eq_true h3]
    have k := loop_all (f := spec_l1All_l2) (fun i => (A, (A.length : Int), (i : Int), ())) A.length (fun _ => true) (.inl (false, ())) (.inr ())
     (fun i hi => by
      have hc : spec_CostValid (A.getD i 0) = some true := by
       have := hx i hi
       simp only [spec_CostValid, spec_l1In_is, Option.bind_some, decide_eq_true (show 0 ≤ A.getD i 0 ∧ A.getD i 0 ≤ 1000000 by omega)]
      simp only [spec_l1All_l2, lt_t hi, cond_true, if_pos (in_t hi), Int.toNat_natCast, hc, Option.bind_some, Bool.not_true, cond_false, w64_succ hi (show A.length ≤ 9223372036854775807 by omega), if_true])
     (by simp only [spec_l1All_l2, lt_f, cond_false])
    have k : loopF spec_l1All_l2 (A, (A.length : Int), (0 : Int), ()) = _ := k
    simp only [spec_l1All, k]
    simp
   ·rw [show (((A.length : Nat) : Int) == s * s) = false from beq_eq_false_iff_ne.2 h3, cond_false, decide_eq_false h3]
    rfl
  ·rw [decide_eq_false hs, cond_false, Bool.false_and]
   rfl
/-! ### the text -/
def ltr (g : Int) : UInt8 := ([48, 49, 119, 45] : List UInt8).getD g.toNat 0
abbrev lets : ByteArray := ⟨#[(48 : UInt8), (49 : UInt8), (119 : UInt8), (45 : UInt8)]⟩
theorem ltr_in {g : Int} (h : 0 ≤ g ∧ g ≤ 3) : (0 ≤ g ∧ (g ≤ IntKind.wrap .i64 (g + 1) ∧ IntKind.wrap .i64 (g + 1) ≤ (((lets).size : Nat) : Int))) ∧ lets.extract g.toNat (IntKind.wrap .i64 (g + 1)).toNat = BL [ltr g] := by
 have : g = 0 ∨ g = 1 ∨ g = 2 ∨ g = 3 := by omega
 have e : lets = BL [48, 49, 119, 45] := rfl
 rcases this with rfl | rfl | rfl | rfl
 ·exact ⟨by decide, by rw [e, BL_extract]; rfl⟩
 ·exact ⟨by decide, by rw [e, BL_extract]; rfl⟩
 ·exact ⟨by decide, by rw [e, BL_extract]; rfl⟩
 ·exact ⟨by decide, by rw [e, BL_extract]; rfl⟩
/-- the text of so many cells -/
def fmtTo (n : Nat) (A : List Int) : Nat → List UInt8
 | 0 => []
 | m + 1 => fmtTo n A m ++ ((bif Nat.blt 0 m && Nat.beq (m % n) 0 then [47] else []) ++ [ltr (A.getD m 0)])
theorem fmtTo_len (n : Nat) (A : List Int) : ∀ m, (fmtTo n A m).length ≤ 2 * m
 | 0 => Nat.zero_le _
 | m + 1 => by
  have := fmtTo_len n A m
  show (fmtTo n A m ++ (_ ++ [ltr (A.getD m 0)])).length ≤ _
  rw [List.length_append, List.length_append]
  cases (Nat.blt 0 m && Nat.beq (m % n) 0) <;> simp <;> omega
def rowOf (n : Nat) (A : List Int) (r : Nat) : List UInt8 := (List.range n).map fun k => ltr (A.getD (r * n + k) 0)
theorem fmt_rows {n : Nat} (h1 : 1 ≤ n) (h4 : n ≤ 4) (A : List Int) : Lib.join ((List.range n).map (rowOf n A)) [47] = fmtTo n A (n * n) := by
 have : n = 1 ∨ n = 2 ∨ n = 3 ∨ n = 4 := by omega
 rcases this with rfl | rfl | rfl | rfl <;> rfl
theorem spec_fmt {n : Nat} (h1 : 1 ≤ n) (h4 : n ≤ 4) {A : List Int} (hA : GOk n A) : loopF spec_FormatGrades_l5 (((n : Int), A, ()), (⟨#[]⟩ : ByteArray), A, (A.length : Int), (0 : Int), ()) = some (BL (fmtTo n A (n * n)), ()) := by
 have hsq := sq_le h4
 have hlen := hA.1
 obtain ⟨r, g1, g2⟩ := loop_inv (f := spec_FormatGrades_l5) A.length (fun i (o : ByteArray) => (((n : Int), A, ()), o, A, (A.length : Int), (i : Int), ())) (fun i _ => BL (fmtTo n A (i + 1))) (fun o => (o, ())) (fun i o => o = BL (fmtTo n A i))
  (fun i o hi ho => rfl)
  (fun i o hi ho => by
   subst ho
   have hg := hA.at (i := i) (by omega)
   obtain ⟨l1, l2⟩ := ltr_in hg
   have hfl := fmtTo_len n A i
   have hm : (Int.tmod (i : Int) (n : Int) == 0) = Nat.beq (i % n) 0 := by
    show ((((i % n : Nat) : Int)) == 0) = _
    rw [Bool.eq_iff_iff, beq_iff_eq]
    constructor
    ·intro h
     rw [show i % n = 0 by omega]
     rfl
    ·intro h
     have := Nat.eq_of_beq_eq_true h
     omega
   have hn0 : ¬ (n : Int) = 0 := by omega
   have e47 : (⟨#[(47 : UInt8)]⟩ : ByteArray) = BL [47] := rfl
   simp only [spec_FormatGrades_l5, lt_t hi, cond_true, if_pos (in_t hi), Int.toNat_natCast, if_neg hn0, hm, w64_succ hi (show A.length ≤ 9223372036854775807 by omega)]
   simp only [if_pos l1, l2, e47, BL_app, BL_size]
   by_cases hi0 : 0 < i
   ·rw [decide_eq_true (show (i : Int) > 0 by omega), cond_true]
    cases hb : Nat.beq (i % n) 0 with
    | true =>
     rw [cond_true, if_pos (by simp; omega), if_pos (by simp; omega)]
     have e : fmtTo n A (i + 1) = fmtTo n A i ++ [47] ++ [ltr (A.getD i 0)] := by
      show fmtTo n A i ++ ((bif Nat.blt 0 i && Nat.beq (i % n) 0 then [47] else []) ++ [ltr (A.getD i 0)]) = _
      rw [hb, show Nat.blt 0 i = true from by
       cases i with
       | zero => exact absurd hi0 (by omega)
       | succ i => rfl]
      simp
     rw [e]
    | false =>
     rw [cond_false, if_pos (by simp; omega)]
     have e : fmtTo n A (i + 1) = fmtTo n A i ++ [ltr (A.getD i 0)] := by
      show fmtTo n A i ++ ((bif Nat.blt 0 i && Nat.beq (i % n) 0 then [47] else []) ++ [ltr (A.getD i 0)]) = _
      rw [hb]
      simp
     rw [e]
   ·obtain rfl : i = 0 := by omega
    rw [decide_eq_false (show ¬ ((0 : Nat) : Int) > 0 by omega), cond_false, if_pos (by simp [fmtTo])]
    rfl)
  (fun o ho => by simp only [spec_FormatGrades_l5, lt_f, cond_false]) (⟨#[]⟩ : ByteArray) rfl
 have g1 : loopF spec_FormatGrades_l5 (((n : Int), A, ()), (⟨#[]⟩ : ByteArray), A, (A.length : Int), (0 : Int), ()) = _ := g1
 rw [g1, g2, hlen]
theorem row_fmt {row : List Int} (hl : row.length ≤ 100) (hr : ∀ x ∈ row, 0 ≤ x ∧ x ≤ 3) : impl_FormatGrades_1 row = some (BL (row.map ltr)) := by
 obtain ⟨r, g1, g2⟩ := loop_inv (f := impl_FormatGrades_1_l3) row.length (fun i (o : ByteArray) => (o, row, (row.length : Int), (i : Int), ())) (fun i o => o ++ BL [ltr (row.getD i 0)]) (fun o => (o, ())) (fun i o => o = BL ((row.take i).map ltr))
  (fun i o hi ho => by
   subst ho
   rw [BL_app, List.take_add_one, List.getElem?_eq_getElem hi, List.map_append, getD_get 0 hi]
   rfl)
  (fun i o hi ho => by
   subst ho
   have hg := hr _ (show row.getD i 0 ∈ row by rw [getD_get 0 hi]; exact List.getElem_mem hi)
   obtain ⟨l1, l2⟩ := ltr_in hg
   simp only [impl_FormatGrades_1_l3, lt_t hi, cond_true, if_pos (in_t hi), Int.toNat_natCast, w64_succ hi (show row.length ≤ 9223372036854775807 by omega)]
   rw [if_pos l1, l2, if_pos (by rw [BL_size, BL_size]; simp; omega)])
  (fun o ho => by simp only [impl_FormatGrades_1_l3, lt_f, cond_false]) (⟨#[]⟩ : ByteArray) rfl
 have g1 : loopF impl_FormatGrades_1_l3 ((⟨#[]⟩ : ByteArray), row, (row.length : Int), (0 : Int), ()) = _ := g1
 rw [List.take_length] at g2
 subst g2
 simp only [impl_FormatGrades_1, g1, Option.bind_some]
theorem impl_fmt {n : Nat} (h1 : 1 ≤ n) (h4 : n ≤ 4) {A : List Int} (hA : GOk n A) : impl_rows ((n : Int), A) (fun y1 => impl_FormatGrades_1 y1.1) = some (BL (fmtTo n A (n * n))) := by
 have hsq := sq_le h4
 have hlen := hA.1
 have hrow : ∀ i, i < n → List.take (n * (i + 1) - n * i) (List.drop (n * i) A) = (List.range n).map fun k => A.getD (i * n + k) 0 := by
  intro i hi
  have hle : n * i + n ≤ n * n := by
   have := Nat.mul_le_mul_left n (show i + 1 ≤ n by omega)
   rw [Nat.mul_succ] at this
   exact this
  have hd : n * (i + 1) - n * i = n := by rw [Nat.mul_succ]; omega
  rw [hd]
  apply List.ext_getElem
  ·rw [List.length_take, List.length_drop, hlen, List.length_map, List.length_range]
   omega
  ·intro k k1 k2
   rw [List.length_map, List.length_range] at k2
   rw [List.getElem_take, List.getElem_drop, List.getElem_map, List.getElem_range]
   have hc : n * i = i * n := Nat.mul_comm _ _
   rw [getD_get 0 (by rw [hlen]; omega)]
   congr 1
   omega
 obtain ⟨r, g1, g2⟩ := loop_inv (f := impl_rows_l3) n (fun i (o : List ByteArray) => ((fun y1 : List Int × Unit => impl_FormatGrades_1 y1.1), ((n : Int), A, ()), o, (n : Int), (i : Int), ())) (fun i o => o ++ [BL (rowOf n A i)]) (fun o => (o, ())) (fun i o => o = (List.range i).map fun r => BL (rowOf n A r))
  (fun i o hi ho => by subst ho; rw [List.range_succ, List.map_append]; rfl)
  (fun i o hi ho => by
   have hol : o.length = i := by subst ho; simp
   have hle : n * (i + 1) ≤ n * n := Nat.mul_le_mul_left n (by omega)
   have hmono : n * i ≤ n * (i + 1) := Nat.mul_le_mul_left n (by omega)
   have w1 : IntKind.wrap .i64 ((i : Int) * (n : Int)) = ((n * i : Nat) : Int) := by
    rw [show (i : Int) * (n : Int) = ((n * i : Nat) : Int) by rw [Nat.mul_comm]; rfl, w64 (by omega) (by omega)]
   have w2 : IntKind.wrap .i64 (((i + 1 : Nat) : Int) * (n : Int)) = ((n * (i + 1) : Nat) : Int) := by
    rw [show ((i + 1 : Nat) : Int) * (n : Int) = ((n * (i + 1) : Nat) : Int) by rw [Nat.mul_comm]; rfl, w64 (by omega) (by omega)]
   have hr := row_fmt (row := (List.range n).map fun k => A.getD (i * n + k) 0) (by simp; omega) (fun x hx => by
    obtain ⟨k, hk, rfl⟩ := List.mem_map.1 hx
    have hk := List.mem_range.1 hk
    have : n * i + n ≤ n * n := by rw [← Nat.mul_succ]; exact hle
    exact hA.at (by rw [Nat.mul_comm]; omega))
   rw [List.map_map] at hr
   have hr : impl_FormatGrades_1 ((List.range n).map fun k => A.getD (i * n + k) 0) = some (BL (rowOf n A i)) := hr
   simp only [impl_rows_l3, lt_t hi, cond_true, w64_succ hi (show n ≤ 9223372036854775807 by omega), w1, w2, Int.toNat_natCast, hrow i hi, hr, Option.bind_some, List.drop_zero, Nat.zero_add, show ∀ z : ByteArray, List.take 1 [z] = [z] from fun _ => rfl]
   rw [if_pos ⟨by omega, by omega, by omega⟩, if_pos (by simp; omega), List.take_of_length_le (by simp)])
  (fun o ho => by simp only [impl_rows_l3, lt_f, cond_false, List.drop_zero, List.take_length]) [] rfl
 have g1 : loopF impl_rows_l3 ((fun y1 : List Int × Unit => impl_FormatGrades_1 y1.1), ((n : Int), A, ()), [], (n : Int), (0 : Int), ()) = _ := g1
 subst g2
 have hj : strings_Join ((List.range n).map fun r => BL (rowOf n A r)) (⟨#[(47 : UInt8)]⟩ : ByteArray) = some (BL (fmtTo n A (n * n))) := by
  show joinS _ _ = _
  have em : (((List.range n).map fun r => BL (rowOf n A r)).map fun x : ByteArray => x.data.toList) = (List.range n).map (rowOf n A) := by
   rw [List.map_map]
   rfl
  have e47 : ((⟨#[(47 : UInt8)]⟩ : ByteArray).data.toList) = [47] := rfl
  have hfl := fmtTo_len n A (n * n)
  unfold joinS
  rw [em, e47, fmt_rows h1 h4, if_pos ⟨by simp; omega, by omega⟩, BL_mk]
 simp only [impl_rows, List.drop_zero, List.take_nil, g1, Option.bind_some, List.take_length, hj]
/-- the text of grades -/
def fmtG (s : Int) (A : List Int) : ByteArray := if gvB s A then BL (fmtTo s.toNat A (s.toNat * s.toNat)) else ⟨#[]⟩
theorem gv_ok {s : Int} {A : List Int} (h : gvB s A = true) : 1 ≤ s.toNat ∧ s.toNat ≤ 4 ∧ s = ((s.toNat : Nat) : Int) ∧ GOk s.toNat A := by
 unfold gvB at h
 simp only [Bool.and_eq_true, decide_eq_true_eq] at h
 obtain ⟨h1, h2, h3⟩ := h
 refine ⟨by omega, by omega, by omega, ?_, fun x hx => of_decide_eq_true (List.all_eq_true.1 h3 x hx)⟩
 have e : s = ((s.toNat : Nat) : Int) := by omega
 rw [e] at h2
 exact_mod_cast h2
theorem fmtG_both (s : Int) {A : List Int} (hl : A.length ≤ 1048576) : spec_FormatGrades (s, A) = some (fmtG s A) ∧ impl_FormatGrades (s, A) = some (fmtG s A) ∧ (fmtG s A).size ≤ 100 := by
 have e1 := spec_gv s hl
 have e2 := impl_gv s hl
 cases hg : gvB s A with
 | false =>
  have hf : fmtG s A = ⟨#[]⟩ := by unfold fmtG; rw [hg]; rfl
  rw [hf]
  refine ⟨?_, ?_, by decide⟩
  ·simp only [spec_FormatGrades, e1, hg, Option.bind_some, Bool.not_false, cond_true]
  ·simp only [impl_FormatGrades, e2, hg, Option.bind_some, Bool.not_false, cond_true]
 | true =>
  obtain ⟨h1, h4, he, hA⟩ := gv_ok hg
  have hf : fmtG s A = BL (fmtTo s.toNat A (s.toNat * s.toNat)) := by unfold fmtG; rw [hg]; rfl
  have k1 := spec_fmt h1 h4 hA
  have k2 := impl_fmt h1 h4 hA
  have hfl := fmtTo_len s.toNat A (s.toNat * s.toNat)
  have hsq := sq_le h4
  rw [← he] at k1 k2
  rw [hf]
  refine ⟨?_, ?_, by rw [BL_size]; omega⟩
  ·simp only [spec_FormatGrades, e1, hg, Option.bind_some, Bool.not_true, cond_false, k1]
  ·simp only [impl_FormatGrades, e2, hg, Option.bind_some, Bool.not_true, cond_false, k2]
end Go.Proofs.YtgmgnijklampiaaDoor
