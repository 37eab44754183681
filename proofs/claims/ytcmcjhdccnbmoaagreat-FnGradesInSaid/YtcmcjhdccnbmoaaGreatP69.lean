/- There is a stable element among elements that are closed. -/
import Derived.Test.YtcmcjhdccnbmoaaGreatP56
set_option linter.unusedVariables false
set_option linter.unusedSimpArgs false
namespace Go.Proofs.YtcmcjhdccnbmoaaGreat
open Go Go.Proofs.YtcmcjhdccnbmoaaGreat.Am
theorem ag_mono {x y : Int} (h : x ≤ y) : ag x ≤ ag y := by unfold ag; split <;> split <;> omega
theorem ag_ge (x : Int) : x ≤ ag x := by unfold ag; split <;> omega
theorem ag_ag (x : Int) : ag (ag x) = ag x := by
 unfold ag
 split
 ·rfl
 ·rfl
theorem gsN_le {n : Nat} {A : List Int} {i k : Nat} (z : Int) : ∀ m, z ≤ gsN n A i k m ↔ z ≤ 3 ∧ ∀ l, l < m → z ≤ A.getD (i * n + l) 0 ∨ z ≤ ag (A.getD (l * n + l) 0) ∨ z ≤ A.getD (l * n + k) 0
 | 0 => ⟨fun h => ⟨h, fun l hl => absurd hl (by omega)⟩, fun h => h.1⟩
 | m + 1 => by
  show z ≤ mn (gsN n A i k m) (mx (mx _ _) _) ↔ _
  rw [mn_le, mx_le, mx_le, gsN_le z m, or_assoc]
  constructor
  ·rintro ⟨⟨h1, h2⟩, h3⟩
   refine ⟨h1, fun l hl => ?_⟩
   by_cases e : l = m
   ·rw [e]; exact h3
   ·exact h2 l (by omega)
  ·rintro ⟨h1, h2⟩
   exact ⟨⟨h1, fun l hl => h2 l (by omega)⟩, h2 m (by omega)⟩
theorem gstab_le {n : Nat} {A : List Int} {i k : Nat} (hi : i < n) (hk : k < n) (z : Int) : z ≤ (gstab n A).getD (i * n + k) 0 ↔ z ≤ 3 ∧ ∀ l, l < n → z ≤ A.getD (i * n + l) 0 ∨ z ≤ ag (A.getD (l * n + l) 0) ∨ z ≤ A.getD (l * n + k) 0 := by
 unfold gstab
 rw [mk_get _ hi hk]
 exact gsN_le z n
section stab
variable {n : Nat} {E : List Int} (hE : gmul n E E = E)
include hE
theorem idem_at {i k : Nat} (hi : i < n) (hk : k < n) {z : Int} (h : z ≤ E.getD (i * n + k) 0) {l : Nat} (hl : l < n) : z ≤ E.getD (i * n + l) 0 ∨ z ≤ E.getD (l * n + k) 0 := by
 rw [← hE] at h
 exact ((gmul_le hi hk z).1 h).2 l hl
theorem gstab_mul : gmul n (gstab n E) (gstab n E) = gstab n E := by
 refine mat_ext (mk_len n _) (mk_len n _) fun i k hi hk => eq_of_le_iff fun z => ?_
 rw [gmul_le hi hk, gstab_le hi hk]
 refine and_congr_right fun hz => ⟨fun h l hl => ?_, fun h j hj => ?_⟩
 ·rcases h l hl with h1 | h1
  ·rcases ((gstab_le hi hl z).1 h1).2 l hl with h2 | h2 | h2
   ·exact .inl h2
   ·exact .inr (.inl h2)
   ·exact .inr (.inl (Int.le_trans h2 (ag_ge _)))
  ·rcases ((gstab_le hl hk z).1 h1).2 l hl with h2 | h2 | h2
   ·exact .inr (.inl (Int.le_trans h2 (ag_ge _)))
   ·exact .inr (.inl h2)
   ·exact .inr (.inr h2)
 ·apply Classical.byContradiction
  intro hc
  have c1 : ¬ z ≤ (gstab n E).getD (i * n + j) 0 := fun h1 => hc (.inl h1)
  have c2 : ¬ z ≤ (gstab n E).getD (j * n + k) 0 := fun h1 => hc (.inr h1)
  rw [gstab_le hi hj] at c1
  rw [gstab_le hj hk] at c2
  have d1 : ∃ l, l < n ∧ ¬ (z ≤ E.getD (i * n + l) 0 ∨ z ≤ ag (E.getD (l * n + l) 0) ∨ z ≤ E.getD (l * n + j) 0) := Classical.byContradiction fun h1 => c1 ⟨hz, fun l hl => Classical.byContradiction fun h2 => h1 ⟨l, hl, h2⟩⟩
  have d2 : ∃ l, l < n ∧ ¬ (z ≤ E.getD (j * n + l) 0 ∨ z ≤ ag (E.getD (l * n + l) 0) ∨ z ≤ E.getD (l * n + k) 0) := Classical.byContradiction fun h1 => c2 ⟨hz, fun l hl => Classical.byContradiction fun h2 => h1 ⟨l, hl, h2⟩⟩
  obtain ⟨l, hl, e1⟩ := d1
  obtain ⟨m, hm, e2⟩ := d2
  rcases h l hl with h1 | h1 | h1
  ·exact e1 (.inl h1)
  ·exact e1 (.inr (.inl h1))
  ·rcases idem_at hE hl hk h1 hj with h2 | h2
   ·exact e1 (.inr (.inr h2))
   ·rcases idem_at hE hj hk h2 hm with h3 | h3
    ·exact e2 (.inl h3)
    ·exact e2 (.inr (.inr h3))
omit hE in
theorem gstab_diag {l : Nat} (hl : l < n) : ag ((gstab n E).getD (l * n + l) 0) ≤ ag (E.getD (l * n + l) 0) := by
 have h1 : (gstab n E).getD (l * n + l) 0 ≤ ag (E.getD (l * n + l) 0) := by
  rcases ((gstab_le hl hl _).1 (Int.le_refl _)).2 l hl with h | h | h
  ·exact Int.le_trans h (ag_ge _)
  ·exact h
  ·exact Int.le_trans h (ag_ge _)
 have h2 := ag_mono h1
 rwa [ag_ag] at h2
theorem gstab_gstab : gstab n (gstab n E) = gstab n E := by
 refine mat_ext (mk_len n _) (mk_len n _) fun i k hi hk => eq_of_le_iff fun z => ?_
 rw [gstab_le hi hk]
 constructor
 ·rintro ⟨hz, h⟩
  rw [gstab_le hi hk]
  refine ⟨hz, fun l hl => ?_⟩
  rcases h l hl with h1 | h1 | h1
  ·rcases ((gstab_le hi hl z).1 h1).2 l hl with h2 | h2 | h2
   ·exact .inl h2
   ·exact .inr (.inl h2)
   ·exact .inr (.inl (Int.le_trans h2 (ag_ge _)))
  ·exact .inr (.inl (Int.le_trans h1 (gstab_diag hl)))
  ·rcases ((gstab_le hl hk z).1 h1).2 l hl with h2 | h2 | h2
   ·exact .inr (.inl (Int.le_trans h2 (ag_ge _)))
   ·exact .inr (.inl h2)
   ·exact .inr (.inr h2)
 ·intro h
  have hz := ((gstab_le hi hk z).1 h).1
  rw [← gstab_mul hE] at h
  refine ⟨hz, fun l hl => ?_⟩
  rcases ((gmul_le hi hk z).1 h).2 l hl with h1 | h1
  ·exact .inl h1
  ·exact .inr (.inr h1)
end stab
/-! ### powers -/
def pw (n : Nat) (A : List Int) : Nat → List Int
 | 0 => A
 | k + 1 => gmul n (pw n A k) A
theorem pw_add (n : Nat) (A : List Int) (i : Nat) : ∀ j, gmul n (pw n A i) (pw n A j) = pw n A (i + j + 1)
 | 0 => rfl
 | j + 1 => by
  show gmul n (pw n A i) (gmul n (pw n A j) A) = gmul n (pw n A (i + (j + 1))) A
  rw [← gmul_assoc, pw_add n A i j]
  rfl
/-- of more values than a list has two are the same -/
theorem pigeon {α : Type} : ∀ (M : List α) (f : Nat → α) (N : Nat), (∀ k, k < N → f k ∈ M) → M.length < N → ∃ i j, i < j ∧ j < N ∧ f i = f j
 | [], f, N, h, hN => absurd (h 0 (by simpa using hN)) (by simp)
 | x :: M, f, N, h, hN => by
  apply Classical.byContradiction
  intro hno
  have inj : ∀ i j, i < N → j < N → i ≠ j → f i ≠ f j := by
   intro i j hi hj hne e
   rcases Nat.lt_or_gt_of_ne hne with h1 | h1
   ·exact hno ⟨i, j, h1, hj, e⟩
   ·exact hno ⟨j, i, h1, hi, e.symm⟩
  simp only [List.length_cons] at hN
  by_cases hx : ∃ c, c < N ∧ f c = x
  ·obtain ⟨c, hc, hcx⟩ := hx
   obtain ⟨i, j, h1, h2, h3⟩ := pigeon M (fun k => f (if k < c then k else k + 1)) (N - 1) (fun k hk => by
    have hk1 : (if k < c then k else k + 1) < N := by split <;> omega
    have hk2 : (if k < c then k else k + 1) ≠ c := by split <;> omega
    rcases List.mem_cons.1 (h _ hk1) with e | e
    ·exact absurd (e.trans hcx.symm) (inj _ _ hk1 hc hk2)
    ·exact e) (by omega)
   have a1 : (if i < c then i else i + 1) < N := by split <;> omega
   have a2 : (if j < c then j else j + 1) < N := by split <;> omega
   exact inj _ _ a1 a2 (by split <;> split <;> omega) h3
  ·obtain ⟨i, j, h1, h2, h3⟩ := pigeon M f N (fun k hk => by
    rcases List.mem_cons.1 (h k hk) with e | e
    ·exact absurd ⟨k, hk, e⟩ hx
    ·exact e) (by omega)
   exact hno ⟨i, j, h1, h2, h3⟩
theorem pw_idem {n : Nat} {A : List Int} {i j : Nat} (hij : i < j) (h : pw n A i = pw n A j) : ∃ t, gmul n (pw n A t) (pw n A t) = pw n A t := by
 have step : ∀ m, pw n A (i + m) = pw n A (j + m) := by
  intro m
  induction m with
  | zero => exact h
  | succ m ih =>
   show gmul n (pw n A (i + m)) A = gmul n (pw n A (j + m)) A
   rw [ih]
 have per : ∀ t, i ≤ t → pw n A (t + (j - i)) = pw n A t := by
  intro t ht
  have := step (t - i)
  rw [show i + (t - i) = t by omega, show j + (t - i) = t + (j - i) by omega] at this
  exact this.symm
 have pers : ∀ q t, i ≤ t → pw n A (t + q * (j - i)) = pw n A t := by
  intro q
  induction q with
  | zero => intro t ht; rw [Nat.zero_mul, Nat.add_zero]
  | succ q ih =>
   intro t ht
   rw [Nat.succ_mul, ← Nat.add_assoc, per _ (by omega), ih t ht]
 have hd : i + 1 ≤ (i + 1) * (j - i) := Nat.le_mul_of_pos_right _ (by omega)
 refine ⟨(i + 1) * (j - i) - 1, ?_⟩
 rw [pw_add]
 rw [show (i + 1) * (j - i) - 1 + ((i + 1) * (j - i) - 1) + 1 = (i + 1) * (j - i) - 1 + (i + 1) * (j - i) by omega]
 exact pers (i + 1) _ (by omega)
theorem closed_stable {n : Nat} {st : List Stp} {L : List Elt} (h : Closed n st (fun A => has L A = true)) : ∃ e ∈ L, gmul n e.1.2 e.1.2 = e.1.2 ∧ gstab n e.1.2 = e.1.2 := by
 have hp : ∀ k, has L (pw n (lett la n st) k) = true := by
  intro k
  induction k with
  | zero => exact h.la
  | succ k ih => exact h.mul _ _ ih h.la
 obtain ⟨i, j, h1, _, h3⟩ := pigeon (L.map fun e => e.1.2) (pw n (lett la n st)) (L.length + 1) (fun k _ => by
  obtain ⟨e, he, h1⟩ := has_iff.1 (hp k)
  exact List.mem_map.2 ⟨e, he, h1⟩) (by simp)
 obtain ⟨t, ht⟩ := pw_idem h1 h3
 obtain ⟨e, he, h4⟩ := has_iff.1 (h.stab _ (hp t) ht)
 exact ⟨e, he, by rw [h4]; exact gstab_mul ht, by rw [h4]; exact gstab_gstab ht⟩
end Go.Proofs.YtcmcjhdccnbmoaaGreat
