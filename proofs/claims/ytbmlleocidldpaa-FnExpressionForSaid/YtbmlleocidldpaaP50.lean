/- Products of grades are put together in any way; the value of a text that is put behind another. -/
import Derived.Test.YtbmlleocidldpaaP39
set_option linter.unusedVariables false
set_option linter.unusedSimpArgs false
namespace Go.Proofs.Ytbmlleocidldpaa
open Go Go.Proofs.Ytbmlleocidldpaa.Am
theorem mn_le (x y z : Int) : z ≤ mn x y ↔ z ≤ x ∧ z ≤ y := by unfold mn; split <;> omega
theorem mx_le (x y z : Int) : z ≤ mx x y ↔ z ≤ x ∨ z ≤ y := by unfold mx; split <;> omega
theorem gcN_le {n : Nat} {A B : List Int} {i k : Nat} (z : Int) : ∀ m, z ≤ gcN n A B i k m ↔ z ≤ 3 ∧ ∀ l, l < m → z ≤ A.getD (i * n + l) 0 ∨ z ≤ B.getD (l * n + k) 0
  | 0 => ⟨fun h => ⟨h, fun l hl => absurd hl (by omega)⟩, fun h => h.1⟩
  | m + 1 => by
    show z ≤ mn (gcN n A B i k m) (mx _ _) ↔ _
    rw [mn_le, mx_le, gcN_le z m]
    constructor
    · rintro ⟨⟨h1, h2⟩, h3⟩
      refine ⟨h1, fun l hl => ?_⟩
      by_cases e : l = m
      · rw [e]; exact h3
      · exact h2 l (by omega)
    · rintro ⟨h1, h2⟩
      exact ⟨⟨h1, fun l hl => h2 l (by omega)⟩, h2 m (by omega)⟩
theorem gmul_le {n : Nat} {A B : List Int} {i k : Nat} (hi : i < n) (hk : k < n) (z : Int) : z ≤ (gmul n A B).getD (i * n + k) 0 ↔ z ≤ 3 ∧ ∀ l, l < n → z ≤ A.getD (i * n + l) 0 ∨ z ≤ B.getD (l * n + k) 0 := by
  unfold gmul
  rw [mk_get _ hi hk]
  exact gcN_le z n
theorem gmul_assoc {n : Nat} (A B C : List Int) : gmul n (gmul n A B) C = gmul n A (gmul n B C) := by
  refine mat_ext (mk_len n _) (mk_len n _) fun i k hi hk => eq_of_le_iff fun z => ?_
  rw [gmul_le hi hk, gmul_le hi hk]
  refine and_congr_right fun hz => ?_
  constructor
  · intro h j hj
    rw [gmul_le hj hk]
    by_cases hA : z ≤ A.getD (i * n + j) 0
    · exact .inl hA
    · refine .inr ⟨hz, fun l hl => ?_⟩
      rcases h l hl with h1 | h1
      · rcases ((gmul_le hi hl z).1 h1).2 j hj with h2 | h2
        · exact absurd h2 hA
        · exact .inl h2
      · exact .inr h1
  · intro h l hl
    rw [gmul_le hi hl]
    by_cases hC : z ≤ C.getD (l * n + k) 0
    · exact .inr hC
    · refine .inl ⟨hz, fun j hj => ?_⟩
      rcases h j hj with h1 | h1
      · exact .inl h1
      · rcases ((gmul_le hj hk z).1 h1).2 l hl with h2 | h2
        · exact .inr h2
        · exact absurd h2 hC
end Go.Proofs.Ytbmlleocidldpaa
