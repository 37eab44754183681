/- The hardest word and the most factors; the laws' frames. -/
import Derived.Test.YtooigaliccnldaaP14
set_option linter.unusedVariables false
set_option linter.unusedSimpArgs false
namespace Go.Proofs.Ytooigaliccnldaa
open Go Go.Proofs.Ytooigaliccnldaa.Am
/-- the harder one of what is had and a word -/
noncomputable def harder (a : Aut) (p : ByteArray × Int) (w : ByteArray) : ByteArray × Int := if cv a (bytes w) < Nv ∧ cv a (bytes w) > p.2 then (w, cv a (bytes w)) else p
theorem words_size {n : Int} : ∀ w ∈ words n, w.size ≤ 7 := by
  intro w hw
  unfold words at hw
  split at hw
  · rename_i h
    unfold shortN at h
    rw [decide_eq_true_eq] at h
    have := ((gen_facts n.toNat).2.2.2 w hw).2
    omega
  · cases hw
theorem gen_head : ∀ j, ∃ W, (gen j).1 = emp :: W
  | 0 => ⟨[], rfl⟩
  | j + 1 => by
    obtain ⟨W, h⟩ := gen_head j
    exact ⟨_, by simp only [gen, h]; rfl⟩
theorem asked_word {a : Aut} (n : Int) (ha : autOk a = true) {w : ByteArray} (hw : w ∈ words n) : askedN a w = true := by
  unfold askedN
  have := words_size w hw
  rw [ha, words_ok w hw, decide_eq_true (by omega)]
  rfl
section one
variable {a : Aut} (sa : Small a) (n : Int)
include sa
theorem harder_same (ha : autOk a = true) (hn : shortN n = true) : (words n).foldl (harder a) (emp, -1) = (words n).foldl (harder a) (emp, 0) := by
  have hwd : (gen n.toNat).1 = words n := by unfold words; rw [if_pos hn]
  obtain ⟨W, hW⟩ := gen_head n.toNat
  rw [← hwd, hW, List.foldl_cons, List.foldl_cons]
  have hw : wordOk emp = true := rfl
  obtain ⟨_, _, _, _, h⟩ := least_at sa ha hw (by decide)
  have hc : cv a (bytes emp) = 0 := h.same (CntIs.nil a)
  have e1 : harder a (emp, -1) emp = (emp, 0) := by unfold harder; rw [hc]; rfl
  have e2 : harder a (emp, 0) emp = (emp, 0) := by unfold harder; rw [hc]; rfl
  rw [e1, e2]
end one
end Go.Proofs.Ytooigaliccnldaa
