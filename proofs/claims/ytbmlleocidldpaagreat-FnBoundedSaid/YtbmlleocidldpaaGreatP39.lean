/- Bounds of expressions: both sides tell the same; the law SomeOf. -/
import Derived.Test.YtbmlleocidldpaaGreatP38
set_option linter.unusedVariables false
set_option linter.unusedSimpArgs false
namespace Go.Proofs.YtbmlleocidldpaaGreat
open Go Go.Proofs.YtbmlleocidldpaaGreat.Am
/-! ### where an expression ends -/
abbrev RecE := ByteArray → Int → Option Int
section
variable (φ : RecE) {S : List UInt8} (hS : S.length ≤ 1000) (b : Int) {p : Nat}
include hS
theorem en_lt (hp : p < S.length) (hc : S.getD p 0 = 97 ∨ S.getD p 0 = 98) : spec_l7End_l2 φ (B S, (p : Int), b, ()) = some (.inl (B S, ((p + 1 : Nat) : Int), b, ())) := by
 have h0 : (0 : Int) ≤ (p : Int) ∧ (p : Int) < (((B S).size : Nat) : Int) := by rw [B_size]; omega
 have h1 : (p : Int) < (((B S).size : Nat) : Int) := h0.2
 simp only [spec_l7End_l2, decide_eq_true h1, cond_true, if_pos h0, Int.toNat_natCast, B_at]
 rcases hc with hc | hc
 ·simp only [hc, show ((((97 : UInt8).toNat : Nat) : Int) != 41) = true from rfl, show ((((97 : UInt8).toNat : Nat) : Int) == 97) = true from rfl, cond_true, w64_succ hp (by omega)]
 ·simp only [hc, show ((((98 : UInt8).toNat : Nat) : Int) != 41) = true from rfl, show ((((98 : UInt8).toNat : Nat) : Int) == 97) = false from rfl, show ((((98 : UInt8).toNat : Nat) : Int) == 98) = true from rfl, cond_true, cond_false, w64_succ hp (by omega)]
theorem en_open (hp : p < S.length) (hc : S.getD p 0 = 40) {q : Nat} (hq : q + 1 < S.length) (hφ : φ (B S) ((p + 1 : Nat) : Int) = some (q : Int)) (h41 : S.getD q 0 = 41) (h35 : S.getD (q + 1) 0 = 35) : spec_l7End_l2 φ (B S, (p : Int), b, ()) = some (.inl (B S, ((q + 2 : Nat) : Int), b, ())) := by
 have h0 : (0 : Int) ≤ (p : Int) ∧ (p : Int) < (((B S).size : Nat) : Int) := by rw [B_size]; omega
 have h1 : (p : Int) < (((B S).size : Nat) : Int) := h0.2
 have h2 : (0 : Int) ≤ (q : Int) ∧ (q : Int) < (((B S).size : Nat) : Int) := by rw [B_size]; omega
 have h3 : (0 : Int) ≤ ((q + 1 : Nat) : Int) ∧ ((q + 1 : Nat) : Int) < (((B S).size : Nat) : Int) := by rw [B_size]; omega
 have w1 : IntKind.wrap .i64 ((q : Int) + 1) = ((q + 1 : Nat) : Int) := w64_succ (n := S.length) (by omega) (by omega)
 have w2 : IntKind.wrap .i64 ((q : Int) + 2) = ((q + 2 : Nat) : Int) := by rw [w64 (by omega) (by omega)]; rfl
 simp only [spec_l7End_l2, decide_eq_true h1, cond_true, if_pos h0, Int.toNat_natCast, B_at, hc, show ((((40 : UInt8).toNat : Nat) : Int) != 41) = true from rfl, show ((((40 : UInt8).toNat : Nat) : Int) == 97) = false from rfl, show ((((40 : UInt8).toNat : Nat) : Int) == 98) = false from rfl, show ((((40 : UInt8).toNat : Nat) : Int) == 40) = true from rfl, cond_false, w64_succ hp (show S.length ≤ 9223372036854775807 by omega), hφ, Option.bind_some, decide_eq_false (show ¬ (q : Int) < 0 by omega), w1, w2, decide_eq_false (show ¬ ((q + 1 : Nat) : Int) ≥ (((B S).size : Nat) : Int) by omega), if_pos h2, if_pos h3, h41, h35, show ((((41 : UInt8).toNat : Nat) : Int) != 41) = false from rfl, show ((((35 : UInt8).toNat : Nat) : Int) != 35) = false from rfl]
end
theorem en_stop (φ : RecE) {S : List UInt8} (hS : S.length ≤ 1000) (b : Int) {p : Nat} (hc : p = S.length ∨ (p < S.length ∧ S.getD p 0 = 41)) : spec_l7End_l2 φ (B S, (p : Int), b, ()) = some (.inr (.inr ((p : Int), b, ()))) := by
 rcases hc with rfl | ⟨hp, hc⟩
 ·simp only [spec_l7End_l2, decide_eq_false (show ¬ ((S.length : Nat) : Int) < (((B S).size : Nat) : Int) by rw [B_size]; omega), cond_false]
 ·have h0 : (0 : Int) ≤ (p : Int) ∧ (p : Int) < (((B S).size : Nat) : Int) := by rw [B_size]; omega
  have h1 : (p : Int) < (((B S).size : Nat) : Int) := h0.2
  simp only [spec_l7End_l2, decide_eq_true h1, cond_true, if_pos h0, Int.toNat_natCast, B_at, hc, show ((((41 : UInt8).toNat : Nat) : Int) != 41) = false from rfl, cond_false]
theorem getD_mid (pre : List UInt8) (c : UInt8) (l : List UInt8) : (pre ++ c :: l).getD pre.length 0 = c := by
 rw [List.getD_eq_getElem?_getD, List.getElem?_append_right (Nat.le_refl _)]
 simp
theorem en_loop {φ : RecE} {N : Nat} (hφ : ∀ {t1 : List UInt8} {l1 : Pts} (pre r : List UInt8), Fo t1 l1 → l1 ≠ [] → t1.length < N → (pre ++ (t1 ++ 41 :: r)).length ≤ 1000 → φ (B (pre ++ (t1 ++ 41 :: r))) (pre.length : Int) = some ((pre.length + t1.length : Nat) : Int)) (b : Int) :
  ∀ {t : List UInt8} {l : Pts}, Fo t l → t.length ≤ N → ∀ (pre r : List UInt8) (S : List UInt8), S = pre ++ (t ++ r) → S.length ≤ 1000 → loopF (spec_l7End_l2 φ) (B S, (pre.length : Int), b, ()) = loopF (spec_l7End_l2 φ) (B S, ((pre.length + t.length : Nat) : Int), b, ()) := by
 intro t l h
 induction h with
 | nil => intro _ pre r S _ _; simp
 | @lt c t l hc _ ih =>
  intro hN pre r S hS h1
  simp only [List.length_cons] at hN
  have ih := ih (by omega) (pre ++ [c]) r S (by rw [hS]; simp) h1
  have hlen : S.length = pre.length + (t.length + 1 + r.length) := by rw [hS]; simp; omega
  have hat : S.getD pre.length 0 = c := by rw [hS]; exact getD_mid pre c (t ++ r)
  rw [loopF_eq, en_lt φ h1 b (by omega) (by rw [hat]; exact hc)]
  simp only [Option.bind_some]
  rw [List.length_append, List.length_singleton] at ih
  rw [ih, List.length_cons, show pre.length + (t.length + 1) = pre.length + 1 + t.length by omega]
 | @rp t1 t2 l1 l2 g1 hn _ _ ih =>
  intro hN pre r S hS h1
  simp only [List.length_cons, List.length_append] at hN
  have ih := ih (by omega) (pre ++ 40 :: (t1 ++ [41, 35])) r S (by rw [hS]; simp) h1
  have hlen : S.length = pre.length + (t1.length + (t2.length + 3) + r.length) := by rw [hS]; simp; omega
  have hat : S.getD pre.length 0 = 40 := by rw [hS]; exact getD_mid pre 40 _
  have hS1 : S = (pre ++ [40]) ++ (t1 ++ 41 :: (35 :: (t2 ++ r))) := by rw [hS]; simp
  have hS2 : S = (pre ++ 40 :: t1) ++ 41 :: (35 :: (t2 ++ r)) := by rw [hS]; simp
  have hS3 : S = (pre ++ 40 :: (t1 ++ [41])) ++ 35 :: (t2 ++ r) := by rw [hS]; simp
  have e := hφ (pre ++ [40]) (35 :: (t2 ++ r)) g1 hn (by omega) (by rw [← hS1]; exact h1)
  rw [← hS1, List.length_append, List.length_singleton] at e
  have e41 : S.getD (pre.length + 1 + t1.length) 0 = 41 := by
   have := getD_mid (pre ++ 40 :: t1) 41 (35 :: (t2 ++ r))
   rw [← hS2, List.length_append, List.length_cons] at this
   rw [← this]
   congr 1
   omega
  have e35 : S.getD (pre.length + 1 + t1.length + 1) 0 = 35 := by
   have := getD_mid (pre ++ 40 :: (t1 ++ [41])) 35 (t2 ++ r)
   rw [← hS3] at this
   rw [← this]
   congr 1
   simp
   omega
  rw [loopF_eq, en_open φ h1 b (by omega) hat (by omega) e e41 e35]
  simp only [Option.bind_some]
  have hl : (pre ++ 40 :: (t1 ++ [41, 35])).length = pre.length + 1 + t1.length + 2 := by simp; omega
  rw [hl] at ih
  rw [ih]
  congr 4
  simp only [List.length_cons, List.length_append]
  omega
theorem l7End_is : ∀ (N : Nat) {t : List UInt8} {l : Pts}, Fo t l → l ≠ [] → t.length < N → ∀ pre r : List UInt8, Stops r → (pre ++ (t ++ r)).length ≤ 1000 → spec_l7End_fuel N (B (pre ++ (t ++ r))) (pre.length : Int) = some ((pre.length + t.length : Nat) : Int)
 | 0, t, l, h, _, hN, _, _, _, _ => absurd hN (by omega)
 | N + 1, t, l, h, hl, hN, pre, r, hr, hs => by
  show spec_l7End_step (spec_l7End_fuel N) (B (pre ++ (t ++ r))) (pre.length : Int) = _
  have hne := List.length_pos_iff.2 (h.ne hl)
  have e := en_loop (φ := spec_l7End_fuel N) (N := N) (fun {t1 l1} pre r h1 h2 h3 h4 => l7End_is N h1 h2 h3 pre (41 :: r) (.inr ⟨r, rfl⟩) h4) (pre.length : Int) h (by omega) pre r _ rfl hs
  have hlen : (pre ++ (t ++ r)).length = pre.length + t.length + r.length := by simp; omega
  unfold spec_l7End_step
  rw [e, loopF_eq, en_stop _ hs _ (by
   rcases hr with rfl | ⟨r', rfl⟩
   ·left; simp
   ·right
    refine ⟨by rw [hlen]; simp, ?_⟩
    have := getD_mid (pre ++ t) 41 r'
    rw [List.length_append] at this
    rw [← List.append_assoc]
    exact this)]
  simp only [Option.bind_some]
  rw [show (((pre.length + t.length : Nat) : Int) == (pre.length : Int)) = false by
   rw [beq_eq_false_iff_ne]
   omega]
  rfl
theorem l7Next_lt {c : UInt8} (hc : c = 97 ∨ c = 98) (t : List UInt8) : spec_l7Next (B (c :: t)) = some (B [c], false, B t) := by
 have h1 : (0 : Int) ≤ 1 ∧ (1 : Int) ≤ (((B (c :: t)).size : Nat) : Int) := by rw [B_size, List.length_cons]; omega
 have h0 : (0 : Int) ≤ 0 ∧ (0 : Int) < (((B (c :: t)).size : Nat) : Int) := by rw [B_size, List.length_cons]; omega
 have e1 : (B (c :: t)).extract 1 (B (c :: t)).size = B t := by rw [B_extract]; simp [B_size]
 have e2 : (B (c :: t)).extract 0 1 = B [c] := by rw [B_extract]; simp
 have e3 : (((c.toNat : Nat) : Int) != 40) = true := by rcases hc with rfl | rfl <;> rfl
 simp only [spec_l7Next, if_pos h0, if_pos h1, B_at, show Int.toNat 0 = 0 from rfl, show Int.toNat 1 = 1 from rfl, List.getD_cons_zero, e1, e2, e3, cond_true]
theorem l7Next_rp {t1 t2 : List UInt8} {l1 : Pts} (h : Fo t1 l1) (hl : l1 ≠ []) (hs : t1.length + t2.length ≤ 190) : spec_l7Next (B (40 :: (t1 ++ 41 :: 35 :: t2))) = some (B t1, true, B t2) := by
 have e := l7End_is 200 h hl (by omega) [40] (41 :: 35 :: t2) (.inr ⟨_, rfl⟩) (by simp; omega)
 have e : spec_l7End (B (40 :: (t1 ++ 41 :: 35 :: t2))) (1 : Int) = some ((1 + t1.length : Nat) : Int) := e
 have hlen : (40 :: (t1 ++ 41 :: 35 :: t2)).length = t1.length + t2.length + 3 := by simp; omega
 generalize hT : 40 :: (t1 ++ 41 :: 35 :: t2) = T at *
 have h0 : (0 : Int) ≤ 0 ∧ (0 : Int) < (((B T).size : Nat) : Int) := by rw [B_size]; omega
 have h1 : (0 : Int) ≤ 1 ∧ ((1 : Int) ≤ ((1 + t1.length : Nat) : Int) ∧ ((1 + t1.length : Nat) : Int) ≤ (((B T).size : Nat) : Int)) := by rw [B_size]; omega
 have w2 : IntKind.wrap .i64 (((1 + t1.length : Nat) : Int) + 2) = ((1 + t1.length + 2 : Nat) : Int) := by rw [w64 (by omega) (by omega)]; rfl
 have h2 : (0 : Int) ≤ ((1 + t1.length + 2 : Nat) : Int) ∧ ((1 + t1.length + 2 : Nat) : Int) ≤ (((B T).size : Nat) : Int) := by rw [B_size]; omega
 have hat : T.getD 0 0 = 40 := by rw [← hT]; rfl
 have e1 : (B T).extract 1 (1 + t1.length) = B t1 := by
  rw [B_extract, ← hT]
  congr 1
  simp
 have e2 : (B T).extract (1 + t1.length + 2) (B T).size = B t2 := by
  rw [B_extract, B_size, ← hT]
  congr 1
  rw [show 40 :: (t1 ++ 41 :: 35 :: t2) = (40 :: (t1 ++ [41, 35])) ++ t2 by simp, List.drop_append_of_le_length (by simp; omega), List.drop_of_length_le (by simp; omega)]
  rw [List.nil_append]
  exact List.take_of_length_le (by simp; omega)
 simp only [spec_l7Next, if_pos h0, B_at, show Int.toNat 0 = 0 from rfl, show Int.toNat 1 = 1 from rfl, hat, show ((((40 : UInt8).toNat : Nat) : Int) != 40) = false from rfl, cond_false, e, Option.bind_some, if_pos h1, w2, if_pos h2, Int.toNat_natCast, e1, e2]
/-! ### bounds -/
def ad (a b : Int) : Int := if 1000000 < a + b then 1000000 else a + b
theorem ad_rng {a b : Int} (ha : 0 ≤ a ∧ a ≤ 1000000) (hb : 0 ≤ b ∧ b ≤ 1000000) : 0 ≤ ad a b ∧ ad a b ≤ 1000000 := by
 unfold ad
 split <;> omega
theorem ad_spec {a b : Int} (ha : 0 ≤ a ∧ a ≤ 1000000) (hb : 0 ≤ b ∧ b ≤ 1000000) : spec_l1Add a b = some (ad a b) := by
 simp only [spec_l1Add, w64 (show -9223372036854775808 ≤ a + b by omega) (show a + b ≤ 9223372036854775807 by omega)]
 rfl
theorem cost_ok {a : Int} (ha : 0 ≤ a ∧ a ≤ 1000000) : impl_CostValid a = some true ∧ spec_CostValid a = some true := by
 refine ⟨?_, ?_⟩
 ·simp only [impl_CostValid, decide_eq_true (show a ≥ 0 from ha.1), cond_true, decide_eq_true ha.2]
 ·simp only [spec_CostValid, spec_l1In, decide_eq_true (show a ≥ 0 from ha.1), cond_true, decide_eq_true ha.2, Option.bind_some]
theorem ad_impl {a b : Int} (ha : 0 ≤ a ∧ a ≤ 1000000) (hb : 0 ≤ b ∧ b ≤ 1000000) : impl_AddCost a b = some (ad a b) := by
 simp only [impl_AddCost, (cost_ok ha).1, (cost_ok hb).1, Option.bind_some, Bool.not_true, cond_false, w64 (show -9223372036854775808 ≤ a + b by omega) (show a + b ≤ 9223372036854775807 by omega)]
 rfl
theorem times_both {v : Int} (hv : 0 ≤ v ∧ v ≤ 1000000) : ∃ w, 0 ≤ w ∧ w ≤ 1000000 ∧ impl_TimesCost 2 v = some w ∧ spec_TimesCost 2 v = some w := by
 by_cases h0 : v = 0
 ·subst h0
  exact ⟨0, by omega, by omega, rfl, rfl⟩
 ·have hb : (v == 0) = false := by simpa using h0
  have hq0 : 0 ≤ Int.tdiv 1000000 v := Int.tdiv_nonneg (by omega) (by omega)
  have hq1 : Int.tdiv 1000000 v ≤ 1000000 := Int.tdiv_le_self _ (by omega)
  have wq := w64 (show -9223372036854775808 ≤ Int.tdiv 1000000 v by omega) (show Int.tdiv 1000000 v ≤ 9223372036854775807 by omega)
  by_cases hc : 2 > Int.tdiv 1000000 v
  ·refine ⟨1000000, by omega, by omega, ?_, ?_⟩
   ·simp only [impl_TimesCost, show decide ((2 : Int) < 0) = false from rfl, cond_false, (cost_ok hv).1, Option.bind_some, Bool.not_true, hb, impl_times, if_neg h0, wq, decide_eq_true hc, cond_true]
   ·simp only [spec_TimesCost, show decide ((2 : Int) < 0) = false from rfl, show ((2 : Int) == 0) = false from rfl, cond_false, (cost_ok hv).2, Option.bind_some, Bool.not_true, hb, if_neg h0, wq, decide_eq_true hc, cond_true]
  ·have h2 : 2 * v ≤ 1000000 := by
    have h3 := Int.tdiv_mul_le (1000000 : Int) h0
    rw [Int.tdiv_eq_ediv_of_nonneg (by omega)] at hc
    have h4 : 1000000 / v * v ≤ 1000000 := Int.ediv_mul_le _ h0
    have h5 : 2 ≤ 1000000 / v := by omega
    have h6 : 2 * v ≤ 1000000 / v * v := Int.mul_le_mul_of_nonneg_right h5 hv.1
    omega
   have wm := w64 (show -9223372036854775808 ≤ 2 * v by omega) (show 2 * v ≤ 9223372036854775807 by omega)
   refine ⟨2 * v, by omega, h2, ?_, ?_⟩
   ·simp only [impl_TimesCost, show decide ((2 : Int) < 0) = false from rfl, cond_false, (cost_ok hv).1, Option.bind_some, Bool.not_true, hb, impl_times, if_neg h0, wq, decide_eq_false hc, wm]
   ·simp only [spec_TimesCost, show decide ((2 : Int) < 0) = false from rfl, show ((2 : Int) == 0) = false from rfl, cond_false, (cost_ok hv).2, Option.bind_some, Bool.not_true, hb, if_neg h0, wq, decide_eq_false hc, wm, if_neg (show ¬ 1000000 < 2 * v by omega)]
theorem drop_cons {α : Type} {L l : List α} {k : Nat} {x : α} (d : α) (h : L.drop k = x :: l) : k < L.length ∧ L.getD k d = x ∧ L.drop (k + 1) = l := by
 have hk : k < L.length := by
  apply Classical.byContradiction
  intro hk
  rw [List.drop_eq_nil_of_le (by omega)] at h
  cases h
 rw [List.drop_eq_getElem_cons hk] at h
 obtain ⟨h1, h2⟩ := List.cons.inj h
 exact ⟨hk, by rw [getD_get d hk]; exact h1, h2⟩
theorem bound_loop {φs : ByteArray → Option Int} {φi : Pts → Option Int} {N : Nat} (hφ : ∀ {t1 : List UInt8} {l1 : Pts}, Fo t1 l1 → l1 ≠ [] → t1.length < N → ∃ v, 0 ≤ v ∧ v ≤ 1000000 ∧ φs (B t1) = some v ∧ φi l1 = some v) (hN : N ≤ 190) :
  ∀ {t : List UInt8} {l : Pts}, Fo t l → t.length ≤ N → ∀ (L : Pts) (k : Nat) (ac : Int), L.drop k = l → L.length ≤ 1000 → k ≤ L.length → 0 ≤ ac ∧ ac ≤ 1000000 →
   ∃ v, 0 ≤ v ∧ v ≤ 1000000 ∧ loopF (spec_l7Bound_l2 φs) (B t, ac, ()) = some (v, ()) ∧ loopF (impl_bound_l3 φi) (ac, L, ((L.length : Nat) : Int), (k : Int), ()) = some (v, ()) := by
 intro t l h
 induction h with
 | nil =>
  intro _ L k ac hL h1 hk ha
  have hk2 : L.length ≤ k := List.drop_eq_nil_iff.1 hL
  obtain rfl : k = L.length := by omega
  refine ⟨ac, ha.1, ha.2, ?_, ?_⟩
  ·rw [loopF_eq]
   simp only [spec_l7Bound_l2, B_eq, Bool.not_true, cond_false, Option.bind_some]
  ·rw [loopF_eq]
   simp only [impl_bound_l3, lt_f, cond_false, Option.bind_some]
 | @lt c t l hc _ ih =>
  intro hN' L k ac hL h1 hk ha
  simp only [List.length_cons] at hN'
  obtain ⟨g1, g2, g3⟩ := drop_cons ((⟨Array.empty⟩ : ByteArray), PT.mk []) hL
  have h3 : (0 : Int) ≤ 3 ∧ (3 : Int) ≤ 1000000 := by omega
  obtain ⟨v, v1, v2, v3, v4⟩ := ih (by omega) L (k + 1) (ad ac 3) g3 h1 (by omega) (ad_rng ha h3)
  refine ⟨v, v1, v2, ?_, ?_⟩
  ·rw [loopF_eq]
   simp only [spec_l7Bound_l2, B_ne, Bool.not_false, cond_true, l7Next_lt hc, Option.bind_some, cond_false, ad_spec ha h3]
   exact v3
  ·rw [loopF_eq]
   simp only [impl_bound_l3, lt_t g1, cond_true, if_pos (in_t g1), Int.toNat_natCast, g2, B_ne, Bool.not_false, ad_impl ha h3, Option.bind_some, w64_succ g1 (show L.length ≤ 9223372036854775807 by omega)]
   exact v4
 | @rp t1 t2 l1 l2 h1' hn _ _ ih =>
  intro hN' L k ac hL h1 hk ha
  simp only [List.length_cons, List.length_append] at hN'
  obtain ⟨g1, g2, g3⟩ := drop_cons ((⟨Array.empty⟩ : ByteArray), PT.mk []) hL
  obtain ⟨u, u1, u2, u3, u4⟩ := hφ h1' hn (by omega)
  obtain ⟨w, w1, w2, w3, w4⟩ := times_both ⟨u1, u2⟩
  obtain ⟨v, v1, v2, v3, v4⟩ := ih (by omega) L (k + 1) (ad ac w) g3 h1 (by omega) (ad_rng ha ⟨w1, w2⟩)
  have hnx := l7Next_rp (t2 := t2) h1' hn (by omega)
  refine ⟨v, v1, v2, ?_, ?_⟩
  ·rw [loopF_eq]
   simp only [spec_l7Bound_l2, B_ne, Bool.not_false, cond_true, hnx, Option.bind_some, u3, w4, ad_spec ha ⟨w1, w2⟩]
   exact v3
  ·rw [loopF_eq]
   have u4 : φi (PT.l (PT.mk l1)) = some u := u4
   simp only [impl_bound_l3, lt_t g1, cond_true, if_pos (in_t g1), Int.toNat_natCast, g2, B_eq, Bool.not_true, cond_false, u4, w3, ad_impl ha ⟨w1, w2⟩, Option.bind_some, w64_succ g1 (show L.length ≤ 9223372036854775807 by omega)]
   exact v4
theorem bound_fuel : ∀ (N : Nat) {t : List UInt8} {l : Pts}, Fo t l → l ≠ [] → t.length < N → N ≤ 190 → ∀ M, N ≤ M → ∃ v, 0 ≤ v ∧ v ≤ 1000000 ∧ spec_l7Bound_fuel M (B t) = some v ∧ impl_bound_fuel M l = some v
 | 0, t, l, h, _, hN, _, _, _ => absurd hN (by omega)
 | N + 1, t, l, h, hl, hN, hN', 0, hM => absurd hM (by omega)
 | N + 1, t, l, h, hl, hN, hN', M + 1, hM => by
  have hlen := h.len
  obtain ⟨v, v1, v2, v3, v4⟩ := bound_loop (φs := spec_l7Bound_fuel M) (φi := impl_bound_fuel M) (N := N) (fun {t1 l1} h1 h2 h3 => bound_fuel N h1 h2 h3 (by omega) M (by omega)) (by omega) h (by omega) l 0 0 rfl (by omega) (by omega) (by omega)
  have v4 : loopF (impl_bound_l3 (impl_bound_fuel M)) ((0 : Int), l, ((l.length : Nat) : Int), (0 : Int), ()) = some (v, ()) := v4
  refine ⟨v, v1, v2, ?_, ?_⟩
  ·show spec_l7Bound_step (spec_l7Bound_fuel M) (B t) = _
   unfold spec_l7Bound_step
   rw [v3]
   rfl
  ·show impl_bound_step (impl_bound_fuel M) l = _
   unfold impl_bound_step
   rw [v4]
   rfl
theorem boundOf_is {s : ByteArray} (h : IsEx s) (hs : s.size ≤ 120) : ∃ v, impl_BoundOf s = some v ∧ spec_l7Bound s = some v := by
 obtain ⟨t, l, rfl, h1, h2⟩ := h
 have hs : t.length ≤ 120 := hs
 obtain ⟨v, _, _, v3, v4⟩ := bound_fuel 121 h1 h2 (by omega) (by omega) 200 (by omega)
 have v3 : spec_l7Bound (B t) = some v := v3
 have v4 : impl_bound l = some v := v4
 refine ⟨v, ?_, v3⟩
 simp only [impl_BoundOf, parts_is h1 h2 hs, Option.bind_some, Bool.not_true, cond_false, List.drop_zero, List.take_length, v4]
noncomputable def bv (s : ByteArray) : Int := (spec_l7Bound s).getD 0
theorem boundOf_bv {s : ByteArray} (h : IsEx s) (hs : s.size ≤ 120) : impl_BoundOf s = some (bv s) ∧ spec_l7Bound s = some (bv s) := by
 obtain ⟨v, h1, h2⟩ := boundOf_is h hs
 unfold bv
 rw [h1, h2]
 exact ⟨rfl, rfl⟩
theorem some_same {a : Aut} (hs : Small a) : ∃ r, spec_SomeOf a = some r ∧ impl_SomeOf a = some r := by
 cases hv : autOk a with
 | false =>
  obtain ⟨e1, e2⟩ := elements_not hv hs
  obtain ⟨x, S, F, l⟩ := a
  refine ⟨-1, ?_, ?_⟩
  ·simp only [spec_SomeOf, e1, Option.bind_some, Bool.not_false, cond_true]
  ·simp only [impl_SomeOf, e2, Option.bind_some, Bool.not_false, cond_true]
 | true =>
  obtain ⟨n, ha⟩ := autOk_is hv
  obtain ⟨L, ok, hL, e1, e2, e0, eX, _⟩ := elements_full ha hv hs
  have hX : XOk (fun _ s => IsEx s) L := eX _ (isEx_clo n) isEx_la isEx_lb
  obtain ⟨x, S, F, l⟩ := a
  have hx : x = (n : Int) := ha.st
  subst hx
  have hlen := hL.len
  cases ok with
  | false =>
   refine ⟨-1, ?_, ?_⟩
   ·simp only [spec_SomeOf, e1, Option.bind_some, Bool.not_false, cond_true]
   ·simp only [impl_SomeOf, e2, Option.bind_some, Bool.not_false, cond_true]
  | true =>
   let g : Nat → Int → Int := fun i m => bif btw n (L.getD i el0).1.2 S F == 1 then (if bv (L.getD i el0).2 > m then bv (L.getD i el0).2 else m) else m
   have hb : ∀ i, i < L.length → (L.getD i el0).1.1 = (n : Int) ∧ GOk n (L.getD i el0).1.2 ∧ impl_BoundOf (L.getD i el0).2 = some (bv (L.getD i el0).2) ∧ spec_l7Bound (L.getD i el0).2 = some (bv (L.getD i el0).2) := by
    intro i hi
    have hat := hL.at hi
    have hm : L.getD i el0 ∈ L := by rw [getD_get el0 hi]; exact List.getElem_mem hi
    exact ⟨hat.1, hat.2.1, boundOf_bv (hX _ hm) hat.2.2⟩
   obtain ⟨r, g1, g2⟩ := loop_inv (f := spec_SomeOf_l6) L.length (fun i (m : Int) => (((n : Int), S, F, l, ()), m, L, (L.length : Int), (i : Int), ())) g (fun m => (m, ())) (fun i m => m = Nat.rec (motive := fun _ => Int) 0 (fun k m => g k m) i)
    (fun i m hi hm => by rw [hm])
    (fun i m hi _ => by
     obtain ⟨h1, h2, h3, h4⟩ := hb i hi
     have hbt := spec_between ha.n4 l ha.S ha.F hs.1 hs.2.1 h2
     simp only [spec_SomeOf_l6, lt_t hi, cond_true, if_pos (in_t hi), Int.toNat_natCast, Nat.zero_add, h1, hbt, Option.bind_some, h4, List.drop_zero, List.take_length, w64_succ hi (show L.length ≤ 9223372036854775807 by omega)]
     show _ = some (Sum.inl (((n : Int), S, F, l, ()), (bif btw n (L.getD i el0).1.2 S F == 1 then (if bv (L.getD i el0).2 > m then bv (L.getD i el0).2 else m) else m), L, (L.length : Int), ((i + 1 : Nat) : Int), ()))
     cases btw n (L.getD i el0).1.2 S F == 1 <;> rfl)
    (fun m _ => by simp only [spec_SomeOf_l6, lt_f, cond_false])
    0 rfl
   obtain ⟨r', k1, k2⟩ := loop_inv (f := impl_SomeOf_l6) L.length (fun i (m : Int) => (((n : Int), S, F, l, ()), m, L, (L.length : Int), (i : Int), ())) g (fun m => (m, ())) (fun i m => m = Nat.rec (motive := fun _ => Int) 0 (fun k m => g k m) i)
    (fun i m hi hm => by rw [hm])
    (fun i m hi _ => by
     obtain ⟨h1, h2, h3, h4⟩ := hb i hi
     have hbt := impl_between ha.n1 ha.n4 l ha.S ha.F hs.1 hs.2.1 h2 hv
     simp only [impl_SomeOf_l6, lt_t hi, cond_true, if_pos (in_t hi), Int.toNat_natCast, Nat.zero_add, h1, hbt, Option.bind_some, h3, List.drop_zero, List.take_length, w64_succ hi (show L.length ≤ 9223372036854775807 by omega)]
     show _ = some (Sum.inl (((n : Int), S, F, l, ()), (bif btw n (L.getD i el0).1.2 S F == 1 then (if bv (L.getD i el0).2 > m then bv (L.getD i el0).2 else m) else m), L, (L.length : Int), ((i + 1 : Nat) : Int), ()))
     cases btw n (L.getD i el0).1.2 S F == 1 <;> rfl)
    (fun m _ => by simp only [impl_SomeOf_l6, lt_f, cond_false])
    0 rfl
   have g1 : loopF spec_SomeOf_l6 (((n : Int), S, F, l, ()), (0 : Int), L, (L.length : Int), (0 : Int), ()) = _ := g1
   have k1 : loopF impl_SomeOf_l6 (((n : Int), S, F, l, ()), (0 : Int), L, (L.length : Int), (0 : Int), ()) = _ := k1
   refine ⟨r, ?_, ?_⟩
   ·simp only [spec_SomeOf, e1, Option.bind_some, Bool.not_true, cond_false, List.drop_zero, List.take_length, g1]
   ·simp only [impl_SomeOf, e2, Option.bind_some, Bool.not_true, cond_false, List.drop_zero, List.take_length, k1]
    rw [k2, ← g2]
end Go.Proofs.YtbmlleocidldpaaGreat
