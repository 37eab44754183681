import Derived.Test.YtfdhmmnffahhgaaGreatP39
import Derived.Test.YtfdhmmnffahhgaaGreatP36
set_option linter.unusedVariables false
set_option linter.unusedSimpArgs false
/- Products of grades are put together in any way; the value of a text that is put behind another. -/
namespace Go.Proofs.YtfdhmmnffahhgaaGreat
open Go Go.Proofs.YtfdhmmnffahhgaaGreat.Am
theorem mn_le (x y z : Int) : z ≤ mn x y ↔ z ≤ x ∧ z ≤ y := by unfold mn; split <;> omega
theorem mx_le (x y z : Int) : z ≤ mx x y ↔ z ≤ x ∨ z ≤ y := by unfold mx; split <;> omega
theorem gcN_le {n : Nat} {A B : List Int} {i k : Nat} (z : Int) : ∀ m, z ≤ gcN n A B i k m ↔ z ≤ 3 ∧ ∀ l, l < m → z ≤ A.getD (i * n + l) 0 ∨ z ≤ B.getD (l * n + k) 0
 | 0 => ⟨fun h => ⟨h, fun l hl => absurd hl (by omega)⟩, fun h => h.1⟩
 | m + 1 => by
  show z ≤ mn (gcN n A B i k m) (mx _ _) ↔ _
  rw [mn_le, mx_le, gcN_le z m]
  constructor
  ·rintro ⟨⟨h1, h2⟩, h3⟩
   refine ⟨h1, fun l hl => ?_⟩
   by_cases e : l = m
   ·rw [e]; exact h3
   ·exact h2 l (by omega)
  ·rintro ⟨h1, h2⟩
   exact ⟨⟨h1, fun l hl => h2 l (by omega)⟩, h2 m (by omega)⟩
theorem gmul_le {n : Nat} {A B : List Int} {i k : Nat} (hi : i < n) (hk : k < n) (z : Int) : z ≤ (gmul n A B).getD (i * n + k) 0 ↔ z ≤ 3 ∧ ∀ l, l < n → z ≤ A.getD (i * n + l) 0 ∨ z ≤ B.getD (l * n + k) 0 := by
 unfold gmul
 rw [mk_get _ hi hk]
 exact gcN_le z n
theorem gmul_assoc {n : Nat} (A B C : List Int) : gmul n (gmul n A B) C = gmul n A (gmul n B C) := by
 refine mat_ext (mk_len n _) (mk_len n _) fun i k hi hk => eq_of_le_iff fun z => ?_
 rw [gmul_le hi hk, gmul_le hi hk]
 refine and_congr_right fun hz => ?_
 constructor
 ·intro h j hj
  rw [gmul_le hj hk]
  by_cases hA : z ≤ A.getD (i * n + j) 0
  ·exact .inl hA
  ·refine .inr ⟨hz, fun l hl => ?_⟩
   rcases h l hl with h1 | h1
   ·rcases ((gmul_le hi hl z).1 h1).2 j hj with h2 | h2
    ·exact absurd h2 hA
    ·exact .inl h2
   ·exact .inr h1
 ·intro h l hl
  rw [gmul_le hi hl]
  by_cases hC : z ≤ C.getD (l * n + k) 0
  ·exact .inr hC
  ·refine .inl ⟨hz, fun j hj => ?_⟩
   rcases h j hj with h1 | h1
   ·exact .inl h1
   ·rcases ((gmul_le hj hk z).1 h1).2 l hl with h2 | h2
    ·exact .inr h2
    ·exact absurd h2 hC
end Go.Proofs.YtfdhmmnffahhgaaGreat

/- The value of an element's text is its matrix. -/
namespace Go.Proofs.YtfdhmmnffahhgaaGreat
open Go Go.Proofs.YtfdhmmnffahhgaaGreat.Am
/-- forests with their values -/
inductive Vo (n : Nat) (st : List Stp) : List UInt8 → Pts → List Int → Prop
 | lt {c : UInt8} : (c = 97 ∨ c = 98) → Vo n st [c] [(B [c], PT.mk [])] (lett (B [c]) n st)
 | rp {t : List UInt8} {l : Pts} {A : List Int} : Vo n st t l A → gmul n A A = A → Vo n st (40 :: (t ++ [41, 35])) [(B [], PT.mk l)] (gstab n A)
 | cat {t t' : List UInt8} {l l' : Pts} {A A' : List Int} : Vo n st t l A → Vo n st t' l' A' → Vo n st (t ++ t') (l ++ l') (gmul n A A')
theorem tk_id' {α : Type} (p : List α) : List.take p.length (List.drop 0 p) = p := by simp
abbrev RecV := Aut → Pts → Option ((Int × List Int) × Bool)
section
variable {a : Aut} {n : Nat} (ha : AutIs a n) (hv : autOk a = true) (hs : Small a)
include ha
theorem Vo.ok {t : List UInt8} {l : Pts} {A : List Int} (h : Vo n a.2.2.2 t l A) : Fo t l ∧ l ≠ [] ∧ GOk n A := by
 induction h with
 | lt hc => exact ⟨.lt hc .nil, by simp, gr_ok (putSteps_rng ha _).1⟩
 | rp h1 h2 ih => exact ⟨.rp ih.1 ih.2.1 .nil, by simp, gstab_ok ih.2.2⟩
 | cat h1 h2 ih1 ih2 => exact ⟨ih1.1.app ih2.1, by simp [ih1.2.1], gmul_ok ih1.2.2 ih2.2.2⟩
include hv hs
theorem vo_loop {φ : RecV} {N : Nat} (hφ : ∀ {t : List UInt8} {l : Pts} {A : List Int}, Vo n a.2.2.2 t l A → t.length < N → φ a l = some (((n : Int), A), true)) {t : List UInt8} {l : Pts} {A : List Int} (h : Vo n a.2.2.2 t l A) :
  t.length ≤ N → ∀ (L : Pts) (k : Nat) (r : Pts), L.drop k = l ++ r → L.length ≤ 1000 →
   (k = 0 → loopF (impl_value_l3 φ) ((a.1, a.2.1, a.2.2.1, a.2.2.2, ()), ((0 : Int), [], ()), ((0 : Int), [], ()), L, ((L.length : Nat) : Int), (0 : Int), ()) = loopF (impl_value_l3 φ) ((a.1, a.2.1, a.2.2.1, a.2.2.2, ()), ((0 : Int), [], ()), ((n : Int), A, ()), L, ((L.length : Nat) : Int), ((l.length : Nat) : Int), ())) ∧
   (0 < k → ∀ O, GOk n O → loopF (impl_value_l3 φ) ((a.1, a.2.1, a.2.2.1, a.2.2.2, ()), ((0 : Int), [], ()), ((n : Int), O, ()), L, ((L.length : Nat) : Int), (k : Int), ()) = loopF (impl_value_l3 φ) ((a.1, a.2.1, a.2.2.1, a.2.2.2, ()), ((0 : Int), [], ()), ((n : Int), gmul n O A, ()), L, ((L.length : Nat) : Int), ((k + l.length : Nat) : Int), ())) := by
 induction h with
 | @lt c hc =>
  intro hN L k r hL hl
  obtain ⟨g1, g2, _⟩ := drop_cons ((⟨Array.empty⟩ : ByteArray), PT.mk []) hL
  have hc2 : B [c] = la ∨ B [c] = lb := by
   rcases hc with rfl | rfl
   ·exact .inl rfl
   ·exact .inr rfl
  have hm := stepMatrix_is ha hv hs hc2
  have hr := putSteps_rng ha (B [c])
  have hg := gradesOf_is ha.n1 ha.n4 hr
  have hA : GOk n (lett (B [c]) n a.2.2.2) := gr_ok hr.1
  have h1 := ha.n1
  have h4 := ha.n4
  obtain ⟨x, S, F, st⟩ := a
  have hm : impl_StepMatrix (x, S, F, st) (B [c]) = some (((n : Int), putSteps (B [c]) n st st.length), true) := hm
  have hg : impl_GradesOf ((n : Int), putSteps (B [c]) n st st.length) = some (((n : Int), lett (B [c]) n st), true) := hg
  constructor
  ·rintro rfl
   have g2 : List.getD L (Int.toNat 0) ((⟨Array.empty⟩ : ByteArray), PT.mk []) = (B [c], PT.mk []) := g2
   rw [loopF_eq]
   simp only [impl_value_l3, show decide ((0 : Int) < ((L.length : Nat) : Int)) = true from decide_eq_true (by omega), cond_true, if_pos (show (0 : Int) ≤ 0 ∧ (0 : Int) < ((L.length : Nat) : Int) by omega), g2, B_ne, Bool.not_false, hm, Option.bind_some, tk_id', hg, show decide ((0 : Int) > 0) = false from rfl, cond_false]
   rfl
  ·intro hk O hO
   rw [loopF_eq]
   simp only [impl_value_l3, lt_t g1, cond_true, if_pos (in_t g1), Int.toNat_natCast, g2, B_ne, Bool.not_false, hm, Option.bind_some, tk_id', hg, decide_eq_true (show (k : Int) > 0 by omega), mulGrades_is h1 h4 hO hA, w64_succ g1 (show L.length ≤ 9223372036854775807 by omega)]
   rfl
 | @rp t l A h1' h2 ih =>
  intro hN L k r hL hl
  simp only [List.length_cons, List.length_append] at hN
  obtain ⟨g1, g2, _⟩ := drop_cons ((⟨Array.empty⟩ : ByteArray), PT.mk []) hL
  have hin := hφ h1' (by omega)
  have hA := (h1'.ok ha).2.2
  have hS := gstab_ok hA
  have h1 := ha.n1
  have h4 := ha.n4
  have hst := stabilise_is h1 h4 hA
  rw [if_pos h2] at hst
  obtain ⟨x, S, F, st⟩ := a
  have hin : φ (x, S, F, st) (PT.l (PT.mk l)) = some (((n : Int), A), true) := hin
  constructor
  ·rintro rfl
   have g2 : List.getD L (Int.toNat 0) ((⟨Array.empty⟩ : ByteArray), PT.mk []) = (B [], PT.mk l) := g2
   rw [loopF_eq]
   simp only [impl_value_l3, show decide ((0 : Int) < ((L.length : Nat) : Int)) = true from decide_eq_true (by omega), cond_true, if_pos (show (0 : Int) ≤ 0 ∧ (0 : Int) < ((L.length : Nat) : Int) by omega), g2, B_eq, Bool.not_true, hin, Option.bind_some, tk_id', hst, show decide ((0 : Int) > 0) = false from rfl, cond_false]
   rfl
  ·intro hk O hO
   rw [loopF_eq]
   simp only [impl_value_l3, lt_t g1, cond_true, if_pos (in_t g1), Int.toNat_natCast, g2, B_eq, Bool.not_true, cond_false, hin, Option.bind_some, tk_id', hst, decide_eq_true (show (k : Int) > 0 by omega), mulGrades_is h1 h4 hO hS, w64_succ g1 (show L.length ≤ 9223372036854775807 by omega)]
   rfl
 | @cat t t' l l' A A' h1 h2 ih1 ih2 =>
  intro hN L k r hL hl
  rw [List.length_append] at hN
  have hA := (h1.ok ha).2.2
  have hl1 := List.length_pos_iff.2 (h1.ok ha).2.1
  obtain ⟨p1, p2⟩ := ih1 (by omega) L k (l' ++ r) (by rw [hL, List.append_assoc]) hl
  have hd : L.drop (k + l.length) = l' ++ r := by
   rw [← List.drop_drop, hL, List.append_assoc, List.drop_left]
  obtain ⟨q1, q2⟩ := ih2 (by omega) L (k + l.length) r hd hl
  rw [List.length_append]
  constructor
  ·rintro rfl
   rw [p1 rfl]
   have := q2 (by omega) A hA
   rw [Nat.zero_add] at this
   exact this
  ·intro hk O hO
   rw [p2 hk O hO, q2 (by omega) (gmul n O A) (gmul_ok hO hA), gmul_assoc, Nat.add_assoc]
theorem vo_fuel : ∀ (N : Nat) {t : List UInt8} {l : Pts} {A : List Int}, Vo n a.2.2.2 t l A → t.length < N → N ≤ 200 → impl_value_fuel N a l = some (((n : Int), A), true)
 | 0, t, l, A, h, hN, _ => absurd hN (by omega)
 | N + 1, t, l, A, h, hN, hN' => by
  show impl_value_step (impl_value_fuel N) a l = _
  have hlen := (h.ok ha).1.len
  have e := (vo_loop ha hv hs (φ := impl_value_fuel N) (N := N) (fun {t1 l1 A1} h1 h2 => vo_fuel N h1 h2 (by omega)) h (by omega) l 0 [] (by simp) (by omega)).1 rfl
  obtain ⟨x, S, F, st⟩ := a
  unfold impl_value_step
  dsimp only
  have e : loopF (impl_value_l3 (impl_value_fuel N)) ((x, S, F, st, ()), ((0 : Int), [], ()), ((0 : Int), [], ()), l, ((l.length : Nat) : Int), (0 : Int), ()) = _ := e
  rw [e, loopF_eq]
  simp only [impl_value_l3, lt_f, cond_false, tk_id', Option.bind_some, List.length_nil, List.take_nil, List.drop_nil]
theorem valueOf_vo {t : List UInt8} {l : Pts} {A : List Int} (h : Vo n a.2.2.2 t l A) (h120 : t.length ≤ 120) : impl_ValueOf a (B t) = some (((n : Int), A), true) := by
 have hp := parts_is (h.ok ha).1 (h.ok ha).2.1 h120
 have hV := impl_AutomatonValid_is a (small_len hs).1 (small_len hs).2
 have e : impl_value a l = some (((n : Int), A), true) := vo_fuel ha hv hs 200 h (by omega) (by omega)
 obtain ⟨x, S, F, st⟩ := a
 simp only [impl_ValueOf, hp, Option.bind_some, Bool.not_true, cond_false, hV, hv, tk_id', e]
end
end Go.Proofs.YtfdhmmnffahhgaaGreat

/- The value of each element's text is the element. -/
namespace Go.Proofs.YtfdhmmnffahhgaaGreat
open Go Go.Proofs.YtfdhmmnffahhgaaGreat.Am
def VX (n : Nat) (st : List Stp) (A : List Int) (s : ByteArray) : Prop := ∃ t l, s = B t ∧ Vo n st t l A
theorem vx_clo (n : Nat) (st : List Stp) : Clo n (VX n st) := by
 refine ⟨?_, ?_⟩
 ·rintro A s C t ⟨t1, l1, rfl, h1⟩ ⟨t2, l2, rfl, h2⟩
  exact ⟨t1 ++ t2, l1 ++ l2, B_app t1 t2, .cat h1 h2⟩
 ·rintro A s ⟨t, l, rfl, h1⟩ hid
  refine ⟨40 :: (t ++ [41, 35]), _, ?_, .rp h1 hid⟩
  unfold sharp
  rw [show (⟨#[(40 : UInt8)]⟩ : ByteArray) = B [40] from rfl, show (⟨#[(41 : UInt8), (35 : UInt8)]⟩ : ByteArray) = B [41, 35] from rfl, B_app, B_app]
  simp
theorem elements_values {a : Aut} {n : Nat} (ha : AutIs a n) (hv : autOk a = true) (hs : Small a) : ∃ L ok, LOk n L ∧ spec_ElementsOf a = some (L, ok) ∧ impl_ElementsOf a = some (L, ok) ∧ (ok = false → L = []) ∧ elemOf n a.2.2.2 = some (L, ok) ∧ XOk (VX n a.2.2.2) L := by
 obtain ⟨L, ok, h1, h2, h3, h4, h5, h6⟩ := elements_full ha hv hs
 exact ⟨L, ok, h1, h2, h3, h4, h6, h5 _ (vx_clo n a.2.2.2) ⟨[97], _, rfl, .lt (.inl rfl)⟩ ⟨[98], _, rfl, .lt (.inr rfl)⟩⟩
end Go.Proofs.YtfdhmmnffahhgaaGreat

/- What grows between two states grows there. -/
namespace Go.Proofs.YtfdhmmnffahhgaaGreat
open Go Go.Proofs.YtfdhmmnffahhgaaGreat.Am
theorem firstOf_some {L : List Elt} {p : Elt → Bool} {e : ByteArray} (h : firstOf L p = (e, true)) : ∃ x ∈ L, p x = true ∧ x.2 = e := by
 unfold firstOf at h
 cases hf : (List.range L.length).find? fun i => p (L.getD i el0) with
 | none => rw [hf] at h; cases h
 | some i =>
  rw [hf] at h
  have hi := List.mem_range.1 (List.mem_of_find?_eq_some hf)
  exact ⟨L.getD i el0, by rw [getD_get el0 hi]; exact List.getElem_mem hi, (List.find?_some (p := fun i => p (L.getD i el0)) hf : p (L.getD i el0) = true), (Prod.mk.inj h).1⟩
end Go.Proofs.YtfdhmmnffahhgaaGreat
