/- The law of an element's expression. -/
import Derived.Test.YtcmcjhdccnbmoaaGreatP59
set_option linter.unusedVariables false
set_option linter.unusedSimpArgs false
namespace Go.Proofs.YtcmcjhdccnbmoaaGreat
open Go Go.Proofs.YtcmcjhdccnbmoaaGreat.Am
theorem daSelf_is {l : List Int} (hl : l.length ≤ 9223372036854775807) : laws_daSame l l = some true := by
 obtain ⟨r, g1, g2⟩ := loop_inv (f := laws_daSame_l2) (α := Unit) l.length (fun i _ => (l, l, ((l.length : Nat) : Int), (i : Int), ())) (fun _ _ => ()) (fun _ => .inr (l, l, ())) (fun _ _ => True) (fun _ _ _ _ => trivial)
  (fun i _ hi _ => by simp only [laws_daSame_l2, lt_t hi, cond_true, if_pos (in_t hi), bne_self_eq_false, cond_false, w64_succ hi hl])
  (fun _ _ => by simp only [laws_daSame_l2, lt_f, cond_false]) () trivial
 have g1 : loopF laws_daSame_l2 (l, l, ((l.length : Nat) : Int), (0 : Int), ()) = some (.inr (l, l, ())) := g1
 unfold laws_daSame
 rw [if_neg (by omega), g1]
 simp only [Option.bind_some, BEq.rfl]
theorem equal_any {a b : List Int} (hl : a.length ≤ 1000000) : slices_Equal a b = some (decide (a = b)) := by
 by_cases h : a.length = b.length
 ·exact equal_is h hl
 ·have h1 : (((a.length : Nat) : Int) != ((b.length : Nat) : Int)) = true := by
   rw [bne_iff_ne]
   omega
  simp only [slices_Equal, h1, cond_true]
  rw [decide_eq_false (fun e => h (by rw [e]))]
theorem sameM_any {n : Nat} {A : List Int} (hA : A.length ≤ 1000000) (m : Int) (C : List Int) : impl_SameMatrix ((n : Int), A) (m, C) = some (decide ((n : Int) = m ∧ A = C)) := by
 unfold impl_SameMatrix
 dsimp only
 by_cases h : (n : Int) = m
 ·subst h
  rw [BEq.rfl, cond_true, equal_any hA]
  simp
 ·have : ((n : Int) == m) = false := by simpa using h
  rw [this, cond_false]
  simp [h]
/-- the elements and what is told of them, for any automaton -/
theorem elements_any {a : Aut} (hs : Small a) : ∃ (n : Nat) (L : List Elt) (ok : Bool), n ≤ 4 ∧ LOk n L ∧ spec_ElementsOf a = some (L, ok) ∧ impl_ElementsOf a = some (L, ok) ∧ (ok = false → L = []) ∧ (ok = true → L ≠ []) ∧
  (L ≠ [] → autOk a = true ∧ AutIs a n ∧ XOk (VX n a.2.2.2) L ∧ Closed n a.2.2.2 (fun A => has L A = true)) := by
 cases hv : autOk a with
 | false =>
  obtain ⟨e1, e2⟩ := elements_not hv hs
  exact ⟨1, [], false, by omega, LOk.nil 1, e1, e2, fun _ => rfl, fun h => (by cases h), fun h => absurd rfl h⟩
 | true =>
  obtain ⟨n, ha⟩ := autOk_is hv
  obtain ⟨L, ok, hL, e1, e2, e0, eO, eV⟩ := elements_values ha hv hs
  have hc : ok = true → Closed n a.2.2.2 (fun A => has L A = true) := by
   rintro rfl
   exact elements_closed ha eO
  refine ⟨n, L, ok, ha.n4, hL, e1, e2, e0, fun h hn => ?_, fun hn => ⟨rfl, ha, eV, hc ?_⟩⟩
  ·obtain ⟨e, he, _⟩ := has_iff.1 (hc h).la
   rw [hn] at he
   cases he
  ·cases ok with
   | true => rfl
   | false => exact absurd (e0 rfl) hn
end Go.Proofs.YtcmcjhdccnbmoaaGreat
