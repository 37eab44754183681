/- The value of each element's text is the element. -/
import Derived.Test.YtbmlleocidldpaaP51
set_option linter.unusedVariables false
set_option linter.unusedSimpArgs false
namespace Go.Proofs.Ytbmlleocidldpaa
open Go Go.Proofs.Ytbmlleocidldpaa.Am
def VX (n : Nat) (st : List Stp) (A : List Int) (s : ByteArray) : Prop := ∃ t l, s = B t ∧ Vo n st t l A
theorem vx_clo (n : Nat) (st : List Stp) : Clo n (VX n st) := by
  refine ⟨?_, ?_⟩
  · rintro A s C t ⟨t1, l1, rfl, h1⟩ ⟨t2, l2, rfl, h2⟩
    exact ⟨t1 ++ t2, l1 ++ l2, B_app t1 t2, .cat h1 h2⟩
  · rintro A s ⟨t, l, rfl, h1⟩ hid
    refine ⟨40 :: (t ++ [41, 35]), _, ?_, .rp h1 hid⟩
    unfold sharp
    rw [show (⟨#[(40 : UInt8)]⟩ : ByteArray) = B [40] from rfl, show (⟨#[(41 : UInt8), (35 : UInt8)]⟩ : ByteArray) = B [41, 35] from rfl, B_app, B_app]
    simp
theorem elements_values {a : Aut} {n : Nat} (ha : AutIs a n) (hv : autOk a = true) (hs : Small a) : ∃ L ok, LOk n L ∧ spec_ElementsOf a = some (L, ok) ∧ impl_ElementsOf a = some (L, ok) ∧ (ok = false → L = []) ∧ elemOf n a.2.2.2 = some (L, ok) ∧ XOk (VX n a.2.2.2) L := by
  obtain ⟨L, ok, h1, h2, h3, h4, h5, h6⟩ := elements_full ha hv hs
  exact ⟨L, ok, h1, h2, h3, h4, h6, h5 _ (vx_clo n a.2.2.2) ⟨[97], _, rfl, .lt (.inl rfl)⟩ ⟨[98], _, rfl, .lt (.inr rfl)⟩⟩
theorem value_of_element {a : Aut} {n : Nat} (ha : AutIs a n) (hv : autOk a = true) (hs : Small a) {A : List Int} {s : ByteArray} (h : VX n a.2.2.2 A s) (h120 : s.size ≤ 120) : impl_ValueOf a s = some (((n : Int), A), true) := by
  obtain ⟨t, l, rfl, h1⟩ := h
  exact valueOf_vo ha hv hs h1 h120
end Go.Proofs.Ytbmlleocidldpaa
