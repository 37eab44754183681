/- The law of counts. -/
import Derived.Test.YtbndfclpclifbaaGreatDoorP45
set_option linter.unusedVariables false
set_option linter.unusedSimpArgs false
namespace Go.Proofs.YtbndfclpclifbaaGreatDoor
open Go Go.Proofs.YtbndfclpclifbaaGreatDoor.Am
def sm (l : List Int) : Int := l.foldr (· + ·) 0
theorem sm_app (l m : List Int) : sm (l ++ m) = sm l + sm m := by
 induction l with
 | nil => simp [sm]
 | cons x l ih =>
  show x + sm (l ++ m) = x + sm l + sm m
  rw [ih]
  omega
theorem sm_zero (k : Nat) : sm (List.replicate k 0) = 0 := by
 induction k with
 | zero => rfl
 | succ k ih =>
  rw [List.replicate_succ]
  show 0 + sm (List.replicate k 0) = 0
  rw [ih]
  rfl
theorem sm_set : ∀ (l : List Int) (i : Nat), i < l.length → sm (l.set i (l.getD i 0 + 1)) = sm l + 1
 | [], i, h => absurd h (by simp)
 | x :: l, 0, h => by
  show x + 1 + sm l = x + sm l + 1
  omega
 | x :: l, i + 1, h => by
  have := sm_set l i (by simpa using h)
  show x + sm (l.set i (l.getD i 0 + 1)) = x + sm l + 1
  rw [this]
  omega
structure CI (a : Aut) (p : List Int) (r : ByteArray × Int) (N : Int) (k : Nat) : Prop where
 len : (p.length : Int) = r.2 + 1
 lo : -1 ≤ r.2
 hi : r.2 < Nv
 ent : ∀ x ∈ p, 0 ≤ x ∧ x ≤ (k : Int)
 sum : sm p = N
 last : 0 < p.length → 0 < p.getD (p.length - 1) 0
 had : 0 ≤ r.2 → impl_CostOf a r.1 = some r.2
theorem CI.step {a : Aut} {p : List Int} {r : ByteArray × Int} {N : Int} {k : Nat} (h : CI a p r N k) (hk : k ≤ 1000) {w : ByteArray} {c : Int} (hc : 0 ≤ c ∧ c ≤ 1000000) (hw : impl_CostOf a w = some c) :
  CI a (cnt p c) (if c > r.2 ∧ c < Nv then (w, c) else r) (if c < Nv then N + 1 else N) (k + 1) := by
 have mono : ∀ x ∈ p, 0 ≤ x ∧ x ≤ ((k + 1 : Nat) : Int) := fun x hx => by have := h.ent x hx; omega
 unfold cnt
 by_cases h6 : c = 1000000
 ·rw [if_pos h6, if_neg (by simp only [Nv]; omega), if_neg (by simp only [Nv]; omega)]
  exact ⟨h.len, h.lo, h.hi, mono, h.sum, h.last, h.had⟩
 ·have hlt : c < Nv := by simp only [Nv]; omega
  rw [if_neg h6, if_pos hlt]
  have hlen := h.len
  have hu : upTo p c = p ++ List.replicate (c.toNat + 1 - p.length) 0 := rfl
  have hul : (upTo p c).length = max p.length (c.toNat + 1) := by rw [hu, List.length_append, List.length_replicate]; omega
  have hue : ∀ x ∈ upTo p c, 0 ≤ x ∧ x ≤ (k : Int) := by
   intro x hx
   rw [hu] at hx
   rcases List.mem_append.1 hx with hx | hx
   ·exact h.ent x hx
   ·rw [List.eq_of_mem_replicate hx]; omega
  have hus : sm (upTo p c) = N := by rw [hu, sm_app, sm_zero, h.sum]; omega
  have hci : c.toNat < (upTo p c).length := by omega
  have hold : 0 ≤ (upTo p c).getD c.toNat 0 ∧ (upTo p c).getD c.toNat 0 ≤ (k : Int) := by
   rw [getD_at0 _ hci]
   exact hue _ (List.getElem_mem hci)
  rw [w64 (by omega) (by omega)]
  have hlast0 : p.length = (upTo p c).length → c.toNat ≠ p.length - 1 → 0 < p.length → 0 < (upTo p c).getD (p.length - 1) 0 := by
   intro e1 e2 e3
   have := h.last e3
   rw [hu, List.getD_eq_getElem?_getD, List.getElem?_append_left (by omega), ← List.getD_eq_getElem?_getD]
   exact this
  refine ⟨?_, ?_, ?_, ?_, ?_, ?_, ?_⟩
  ·rw [List.length_set, hul]
   split <;> omega
  ·have := h.lo
   split <;> omega
  ·split
   ·exact hlt
   ·exact h.hi
  ·intro x hx
   rcases List.mem_or_eq_of_mem_set hx with hx | rfl
   ·have := hue x hx
    omega
   ·omega
  ·rw [sm_set _ _ hci, hus]
  ·intro hp
   rw [List.length_set] at hp ⊢
   by_cases e : c.toNat = (upTo p c).length - 1
   ·rw [← e, List.getD_eq_getElem?_getD, List.getElem?_set_self hci]
    show 0 < (upTo p c).getD c.toNat 0 + 1
    omega
   ·rw [List.getD_eq_getElem?_getD, List.getElem?_set_ne (by omega), ← List.getD_eq_getElem?_getD]
    have e2 : p.length = (upTo p c).length := by omega
    rw [← e2]
    exact hlast0 e2 (by omega) (by omega)
  ·intro hp
   split
   ·exact hw
   ·rename_i hn
    rw [if_neg hn] at hp
    exact h.had hp
end Go.Proofs.YtbndfclpclifbaaGreatDoor
