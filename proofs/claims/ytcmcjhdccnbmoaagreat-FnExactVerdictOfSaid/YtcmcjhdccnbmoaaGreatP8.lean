/- The cost of a word: both sides tell the least cost of a run. -/
import Derived.Test.YtcmcjhdccnbmoaaGreatP7
set_option linter.unusedVariables false
set_option linter.unusedSimpArgs false
namespace Go.Proofs.YtcmcjhdccnbmoaaGreat
open Go Go.Proofs.YtcmcjhdccnbmoaaGreat.Am
abbrev bytes (w : ByteArray) : List UInt8 := w.data.toList
theorem bytes_at {w : ByteArray} {i : Nat} (hi : i < w.size) : (bytes w)[i]? = some (w.data.getD i 0) := by
 have hi' : i < w.data.size := hi
 rw [Array.getD_eq_getD_getElem?, Array.getElem?_eq_getElem hi', Array.getElem?_toList, Array.getElem?_eq_getElem hi']
 rfl
theorem bytes_len (w : ByteArray) : (bytes w).length = w.size := Array.length_toList
theorem bytes_drop {w : ByteArray} {i : Nat} (hi : i < w.size) : (bytes w).drop i = w.data.getD i 0 :: (bytes w).drop (i + 1) := by
 have h := bytes_at hi
 obtain ⟨h1, h2⟩ := List.getElem?_eq_some_iff.1 h
 rw [List.drop_eq_getElem_cons h1, h2]
theorem wordOk_size {w : ByteArray} (h : wordOk w = true) : w.size ≤ 1000 := by
 unfold wordOk at h
 rw [Bool.and_eq_true, decide_eq_true_eq] at h
 exact h.2
/-- a valid automaton, in numbers -/
structure AutIs (a : Aut) (n : Nat) : Prop where
 st : a.1 = (n : Int)
 n1 : 1 ≤ n
 n4 : n ≤ 4
 S : ∀ q ∈ a.2.1, 0 ≤ q ∧ q ≤ (n : Int) - 1
 F : ∀ q ∈ a.2.2.1, 0 ≤ q ∧ q ≤ (n : Int) - 1
 len : a.2.2.2.length ≤ 24
 ok : stepsOk a.1 a.2.2.2 = true
 steps : ∀ s ∈ a.2.2.2, StepIs (n : Int) s
theorem autOk_is {a : Aut} (h : autOk a = true) : ∃ n, AutIs a n := by
 unfold autOk at h
 simp only [Bool.and_eq_true, decide_eq_true_eq] at h
 obtain ⟨⟨h1, h4⟩, hS, hF, hl, hst⟩ := h
 have e : a.1 = ((a.1.toNat : Nat) : Int) := by omega
 refine ⟨a.1.toNat, e, by omega, by omega, ?_, ?_, hl, hst, ?_⟩
 ·rw [← e]; exact marks_mem hS
 ·rw [← e]; exact marks_mem hF
 ·rw [← e]; exact (stepsOk_is h4 hst).1
/-- the least cost of a run from a start to a final -/
def CostIs (a : Aut) (ws : List UInt8) (r : Int) : Prop := (0 ≤ r ∧ r ≤ Nv) ∧ ∀ z, z ≤ r ↔ z ≤ Nv ∧ ∀ i ∈ a.2.1, ∀ k ∈ a.2.2.1, ∀ c, Run a.2.2.2 ws i k c → z ≤ c
theorem CostIs.same {a : Aut} {ws : List UInt8} {r r' : Int} (h : CostIs a ws r) (h' : CostIs a ws r') : r = r' := eq_of_le_iff fun z => (h.2 z).trans (h'.2 z).symm
theorem mulwI {n : Nat} (h4 : n ≤ 4) {i k : Int} (hi : 0 ≤ i ∧ i ≤ (n : Int) - 1) (hk : 0 ≤ k ∧ k ≤ (n : Int) - 1) : IntKind.wrap .i64 (IntKind.wrap .i64 (i * (n : Int)) + k) = ((i.toNat * n + k.toNat : Nat) : Int) ∧ i.toNat * n + k.toNat < n * n := by
 have hlt : i.toNat * n + k.toNat < n * n := idx_lt (by omega) (by omega)
 have hsq := sq_le h4
 refine ⟨?_, hlt⟩
 have e1 : i * (n : Int) = ((i.toNat : Nat) : Int) * (n : Int) := by congr 1; omega
 have e2 : k = ((k.toNat : Nat) : Int) := by omega
 rw [e1]
 conv => lhs; rw [e2]
 exact mulw (by omega)
theorem getD_mem {l : List Int} {i : Nat} (hi : i < l.length) : l.getD i 0 = l[i] := by
 rw [List.getD_eq_getElem?_getD, List.getElem?_eq_getElem hi]; rfl
theorem take_snoc {α : Type} {l : List α} {i : Nat} (hi : i < l.length) : l.take (i + 1) = l.take i ++ [l[i]] := by
 rw [List.take_add_one, List.getElem?_eq_getElem hi]; rfl
end Go.Proofs.YtcmcjhdccnbmoaaGreat
