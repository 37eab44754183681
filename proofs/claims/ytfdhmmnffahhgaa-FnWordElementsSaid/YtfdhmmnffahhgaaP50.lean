import Derived.Test.YtfdhmmnffahhgaaP39
import Derived.Test.YtfdhmmnffahhgaaP36
set_option linter.unusedVariables false
set_option linter.unusedSimpArgs false
/- Products of grades are put together in any way; the value of a text that is put behind another. -/
namespace Go.Proofs.Ytfdhmmnffahhgaa
open Go Go.Proofs.Ytfdhmmnffahhgaa.Am
theorem mn_le (x y z : Int) : z ≤ mn x y ↔ z ≤ x ∧ z ≤ y := by unfold mn; split <;> omega
theorem mx_le (x y z : Int) : z ≤ mx x y ↔ z ≤ x ∨ z ≤ y := by unfold mx; split <;> omega
theorem gcN_le {n : Nat} {A B : List Int} {i k : Nat} (z : Int) : ∀ m, z ≤ gcN n A B i k m ↔ z ≤ 3 ∧ ∀ l, l < m → z ≤ A.getD (i * n + l) 0 ∨ z ≤ B.getD (l * n + k) 0
 | 0 => ⟨fun h => ⟨h, fun l hl => absurd hl (by omega)⟩, fun h => h.1⟩
 | m + 1 => by
  show z ≤ mn (gcN n A B i k m) (mx _ _) ↔ _
  rw [mn_le, mx_le, gcN_le z m]
  constructor
  ·rintro ⟨⟨h1, h2⟩, h3⟩
   refine ⟨h1, fun l hl => ?_⟩
   by_cases e : l = m
   ·rw [e]; exact h3
   ·exact h2 l (by omega)
  ·rintro ⟨h1, h2⟩
   exact ⟨⟨h1, fun l hl => h2 l (by omega)⟩, h2 m (by omega)⟩
theorem gmul_le {n : Nat} {A B : List Int} {i k : Nat} (hi : i < n) (hk : k < n) (z : Int) : z ≤ (gmul n A B).getD (i * n + k) 0 ↔ z ≤ 3 ∧ ∀ l, l < n → z ≤ A.getD (i * n + l) 0 ∨ z ≤ B.getD (l * n + k) 0 := by
 unfold gmul
 rw [mk_get _ hi hk]
 exact gcN_le z n
end Go.Proofs.Ytfdhmmnffahhgaa

/- The value of an element's text is its matrix. -/
namespace Go.Proofs.Ytfdhmmnffahhgaa
open Go Go.Proofs.Ytfdhmmnffahhgaa.Am
/-- forests with their values -/
inductive Vo (n : Nat) (st : List Stp) : List UInt8 → Pts → List Int → Prop
 | lt {c : UInt8} : (c = 97 ∨ c = 98) → Vo n st [c] [(B [c], PT.mk [])] (lett (B [c]) n st)
 | rp {t : List UInt8} {l : Pts} {A : List Int} : Vo n st t l A → gmul n A A = A → Vo n st (40 :: (t ++ [41, 35])) [(B [], PT.mk l)] (gstab n A)
 | cat {t t' : List UInt8} {l l' : Pts} {A A' : List Int} : Vo n st t l A → Vo n st t' l' A' → Vo n st (t ++ t') (l ++ l') (gmul n A A')
section
variable {a : Aut} {n : Nat} (ha : AutIs a n) (hv : autOk a = true) (hs : Small a)
include ha
theorem Vo.ok {t : List UInt8} {l : Pts} {A : List Int} (h : Vo n a.2.2.2 t l A) : Fo t l ∧ l ≠ [] ∧ GOk n A := by
 induction h with
 | lt hc => exact ⟨.lt hc .nil, by simp, gr_ok (putSteps_rng ha _).1⟩
 | rp h1 h2 ih => exact ⟨.rp ih.1 ih.2.1 .nil, by simp, gstab_ok ih.2.2⟩
 | cat h1 h2 ih1 ih2 => exact ⟨ih1.1.app ih2.1, by simp [ih1.2.1], gmul_ok ih1.2.2 ih2.2.2⟩
include hv hs
end
end Go.Proofs.Ytfdhmmnffahhgaa

/- The value of each element's text is the element. -/
namespace Go.Proofs.Ytfdhmmnffahhgaa
open Go Go.Proofs.Ytfdhmmnffahhgaa.Am
end Go.Proofs.Ytfdhmmnffahhgaa

/- What grows between two states grows there. -/
namespace Go.Proofs.Ytfdhmmnffahhgaa
open Go Go.Proofs.Ytfdhmmnffahhgaa.Am
end Go.Proofs.Ytfdhmmnffahhgaa
