/- The law of an element's expression. -/
import Derived.Test.YtcmcjhdccnbmoaaGreatP59
set_option linter.unusedVariables false
set_option linter.unusedSimpArgs false
namespace Go.Proofs.YtcmcjhdccnbmoaaGreat
open Go Go.Proofs.YtcmcjhdccnbmoaaGreat.Am
/-- the elements and what is told of them, for any automaton -/
theorem elements_any {a : Aut} (hs : Small a) : ∃ (n : Nat) (L : List Elt) (ok : Bool), n ≤ 4 ∧ LOk n L ∧ spec_ElementsOf a = some (L, ok) ∧ impl_ElementsOf a = some (L, ok) ∧ (ok = false → L = []) ∧ (ok = true → L ≠ []) ∧
  (L ≠ [] → autOk a = true ∧ AutIs a n ∧ XOk (VX n a.2.2.2) L ∧ Closed n a.2.2.2 (fun A => has L A = true)) := by
 cases hv : autOk a with
 | false =>
  obtain ⟨e1, e2⟩ := elements_not hv hs
  exact ⟨1, [], false, by omega, LOk.nil 1, e1, e2, fun _ => rfl, fun h => (by cases h), fun h => absurd rfl h⟩
 | true =>
  obtain ⟨n, ha⟩ := autOk_is hv
  obtain ⟨L, ok, hL, e1, e2, e0, eO, eV⟩ := elements_values ha hv hs
  have hc : ok = true → Closed n a.2.2.2 (fun A => has L A = true) := by
   rintro rfl
   exact elements_closed ha eO
  refine ⟨n, L, ok, ha.n4, hL, e1, e2, e0, fun h hn => ?_, fun hn => ⟨rfl, ha, eV, hc ?_⟩⟩
  ·obtain ⟨e, he, _⟩ := has_iff.1 (hc h).la
   rw [hn] at he
   cases he
  ·cases ok with
   | true => rfl
   | false => exact absurd (e0 rfl) hn
end Go.Proofs.YtcmcjhdccnbmoaaGreat
