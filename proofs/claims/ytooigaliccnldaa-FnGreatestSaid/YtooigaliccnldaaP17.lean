/- Tables of costs and what they count; their laws' frames. -/
import Derived.Test.YtooigaliccnldaaP16
set_option linter.unusedVariables false
set_option linter.unusedSimpArgs false
namespace Go.Proofs.Ytooigaliccnldaa
open Go Go.Proofs.Ytooigaliccnldaa.Am
noncomputable def table (a : Aut) (n : Int) : List Int := (words n).map (cst a)
theorem table_len (a : Aut) (n : Int) : (table a n).length ≤ 255 := by
  unfold table
  rw [List.length_map]
  exact words_len n
/-- an append to a list -/
theorem app_one {α : Type} {p : List α} {x : α} (hp : p.length ≤ 2000000) : ((0 + p.length = p.length) ∧ ((p.length + (List.take 1 (List.drop 0 [x])).length) * 8 ≤ 140737488355328)) ∧ List.take (p.length + (List.take 1 (List.drop 0 [x])).length) (List.drop 0 (List.drop 0 p ++ List.take 1 (List.drop 0 [x]))) = p ++ [x] := by
  have e : List.take 1 (List.drop 0 [x]) = [x] := rfl
  rw [e]
  refine ⟨⟨by omega, by simp only [List.length_cons, List.length_nil]; omega⟩, ?_⟩
  simp only [List.drop_zero, List.length_cons, List.length_nil]
  exact List.take_of_length_le (by simp)
theorem tk_all {α : Type} (p : List α) : List.take p.length (List.drop 0 p) = p := by simp
section one
variable {a : Aut} (sa : Small a) (n : Int)
include sa
theorem table_rng (ha : autOk a = true) : ∀ c ∈ table a n, 0 ≤ c ∧ c ≤ 1000000 := by
  intro c hc
  unfold table at hc
  obtain ⟨w, hw, rfl⟩ := List.mem_map.1 hc
  exact (cst_is sa ha (words_ok w hw)).2.2.1
end one
/-! ### counts -/
def upTo (p : List Int) (c : Int) : List Int := p ++ List.replicate (c.toNat + 1 - p.length) 0
theorem upTo_len (p : List Int) (c : Int) : (upTo p c).length = max p.length (c.toNat + 1) := by
  unfold upTo
  rw [List.length_append, List.length_replicate]
  omega
theorem upTo_snoc {p : List Int} {c : Int} (hc : 0 ≤ c) (h : (p.length : Int) ≤ c) : upTo (p ++ [0]) c = upTo p c := by
  unfold upTo
  rw [List.length_append, List.append_assoc]
  congr 1
  show [0] ++ List.replicate (c.toNat + 1 - (p.length + 1)) 0 = _
  rw [show c.toNat + 1 - p.length = (c.toNat + 1 - (p.length + 1)) + 1 from by omega, List.replicate_succ]
  rfl
theorem upTo_done {p : List Int} {c : Int} (hc : 0 ≤ c) (h : ¬ (p.length : Int) ≤ c) : upTo p c = p := by
  unfold upTo
  rw [show c.toNat + 1 - p.length = 0 from by omega]
  simp
def cnt (p : List Int) (c : Int) : List Int := if c = 1000000 then p else (upTo p c).set c.toNat (IntKind.wrap .i64 ((upTo p c).getD c.toNat 0 + 1))
theorem cnt_len {p : List Int} {c : Int} (hc : 0 ≤ c ∧ c ≤ 1000000) (hp : p.length ≤ 1000001) : (cnt p c).length ≤ 1000001 := by
  unfold cnt
  split
  · exact hp
  · rw [List.length_set, upTo_len]
    omega
def cntAll (T : List Int) : List Int := T.foldl cnt []
section two
variable {a : Aut} (sa : Small a) (n : Int)
include sa
end two
end Go.Proofs.Ytooigaliccnldaa
