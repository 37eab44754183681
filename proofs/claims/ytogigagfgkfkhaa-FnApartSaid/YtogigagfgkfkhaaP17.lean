/- Tables of costs and what they count; their laws' frames. -/
import Derived.Test.YtogigagfgkfkhaaP16
set_option linter.unusedVariables false
set_option linter.unusedSimpArgs false
namespace Go.Proofs.Ytogigagfgkfkhaa
open Go Go.Proofs.Ytogigagfgkfkhaa.Am
noncomputable def table (a : Aut) (n : Int) : List Int := (words n).map (cst a)
theorem table_len (a : Aut) (n : Int) : (table a n).length ≤ 255 := by
 unfold table
 rw [List.length_map]
 exact words_len n
/-- an append to a list -/
theorem app_one {α : Type} {p : List α} {x : α} (hp : p.length ≤ 2000000) : ((0 + p.length = p.length) ∧ ((p.length + (List.take 1 (List.drop 0 [x])).length) * 8 ≤ 140737488355328)) ∧ List.take (p.length + (List.take 1 (List.drop 0 [x])).length) (List.drop 0 (List.drop 0 p ++ List.take 1 (List.drop 0 [x]))) = p ++ [x] := by
 have e : List.take 1 (List.drop 0 [x]) = [x] := rfl
 rw [e]
 refine ⟨⟨by omega, by simp only [List.length_cons, List.length_nil]; omega⟩, ?_⟩
 simp only [List.drop_zero, List.length_cons, List.length_nil]
 exact List.take_of_length_le (by simp)
theorem tk_all {α : Type} (p : List α) : List.take p.length (List.drop 0 p) = p := by simp
section one
variable {a : Aut} (sa : Small a) (n : Int)
include sa
theorem impl_TableOf_is : impl_TableOf a n = some (if (autOk a && shortN n) = true then (table a n, true) else ([], false)) := by
 have h1 := impl_short_is n [a] (by intro z hz; obtain rfl := List.mem_singleton.1 hz; exact sa) (by simp)
 have k1 : autOk a = true → ∀ w, wordOk w = true → impl_CostOf a w = some (cst a w) := fun ha w hw => (cst_is sa ha hw).2.1
 have hlen := words_len n
 unfold table
 obtain ⟨x, S, F, l⟩ := a
 simp only [impl_TableOf, List.drop_zero]
 rw [show List.take 1 [(x, S, F, l)] = [(x, S, F, l)] from rfl, h1]
 simp only [Option.bind_some, List.all_cons, List.all_nil, Bool.and_true]
 rcases Bool.eq_false_or_eq_true (autOk (x, S, F, l)) with ha | ha
 ·rcases Bool.eq_false_or_eq_true (shortN n) with hn | hn
  ·simp only [ha, hn, Bool.and_self, Bool.not_true, cond_false, if_true]
   obtain ⟨r, g1, g2⟩ := loop_inv (f := impl_TableOf_l6) (words n).length (fun i (p : List Int) => ((x, S, F, l, ()), p, words n, ((words n).length : Int), (i : Int), ())) (fun i p => p ++ [cst (x, S, F, l) ((words n).getD i be0)]) (fun p => (p, ())) (fun i p => p = ((words n).take i).map (cst (x, S, F, l)))
    (fun i p hi hp => by
     have e : (words n).getD i be0 = (words n)[i] := by rw [List.getD_eq_getElem?_getD, List.getElem?_eq_getElem hi]; rfl
     rw [take_snoc hi, List.map_append, ← hp, e]; rfl)
    (fun i p hi hp => by
     have hw := words_ok _ (word_mem hi)
     have hl : p.length ≤ 2000000 := by rw [hp, List.length_map, List.length_take]; omega
     obtain ⟨a1, a2⟩ := app_one (x := cst (x, S, F, l) ((words n).getD i be0)) hl
     simp only [impl_TableOf_l6, lt_t hi, cond_true, if_pos (in_t hi), Int.toNat_natCast, k1 ha _ hw, Option.bind_some, w64_succ hi (show (words n).length ≤ 9223372036854775807 by omega)]
     rw [if_pos a1, a2])
    (fun p hp => by simp only [impl_TableOf_l6, lt_f, cond_false, tk_all]) [] rfl
   have g1 : loopF impl_TableOf_l6 ((x, S, F, l, ()), [], words n, ((words n).length : Int), (0 : Int), ()) = some (r, ()) := g1
   simp only [List.take_zero, g1, Option.bind_some, List.take_length]
   rw [g2, List.take_length]
  ·simp only [ha, hn, Bool.false_and, Bool.and_false, Bool.not_false, cond_true]
   rfl
 ·simp only [ha, Bool.and_false, Bool.false_and, Bool.not_false, cond_true]
  rfl
end one
/-! ### counts -/
end Go.Proofs.Ytogigagfgkfkhaa
