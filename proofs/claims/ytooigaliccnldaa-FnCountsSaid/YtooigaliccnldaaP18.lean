/- The least costs of each number of letters. -/
import Derived.Test.YtooigaliccnldaaP17
set_option linter.unusedVariables false
set_option linter.unusedSimpArgs false
namespace Go.Proofs.Ytooigaliccnldaa
open Go Go.Proofs.Ytooigaliccnldaa.Am
/-! ### all words are there -/
theorem bytes_app_la (w : ByteArray) : bytes (w ++ la) = bytes w ++ [97] := by
  show (w ++ la).data.toList = _
  rw [ByteArray.data_append, Array.toList_append]
theorem bytes_app_lb (w : ByteArray) : bytes (w ++ lb) = bytes w ++ [98] := by
  show (w ++ lb).data.toList = _
  rw [ByteArray.data_append, Array.toList_append]
theorem gen_last : ∀ (j : Nat) (ws : List UInt8), ws.length = j → (∀ b ∈ ws, b = 97 ∨ b = 98) → ∃ w ∈ (gen j).1.drop (gen j).2, bytes w = ws
  | 0, ws, h, _ => by
    obtain rfl : ws = [] := List.length_eq_zero_iff.1 h
    exact ⟨emp, by simp [gen], rfl⟩
  | j + 1, ws, h, hab => by
    have hne : ws ≠ [] := by rintro rfl; simp at h
    have e := List.dropLast_concat_getLast hne
    obtain ⟨u, hu, e2⟩ := gen_last j ws.dropLast (by rw [List.length_dropLast]; omega) (fun b hb => hab b (List.dropLast_subset ws hb))
    have hl := hab _ (List.getLast_mem hne)
    simp only [gen, List.drop_left]
    rcases hl with hl | hl
    · exact ⟨u ++ la, List.mem_flatMap.2 ⟨u, hu, by simp⟩, by rw [bytes_app_la, e2, ← hl]; exact e⟩
    · exact ⟨u ++ lb, List.mem_flatMap.2 ⟨u, hu, by simp⟩, by rw [bytes_app_lb, e2, ← hl]; exact e⟩
theorem gen_sub : ∀ {i j : Nat}, i ≤ j → ∀ w ∈ (gen i).1, w ∈ (gen j).1 := by
  intro i j h
  induction j with
  | zero => obtain rfl : i = 0 := by omega
            exact fun w hw => hw
  | succ j ih =>
    intro w hw
    by_cases e : i = j + 1
    · subst e; exact hw
    · simp only [gen]
      exact List.mem_append_left _ (ih (by omega) w hw)
theorem gen_all {j : Nat} {ws : List UInt8} (h : ws.length ≤ j) (hab : ∀ b ∈ ws, b = 97 ∨ b = 98) : ∃ w ∈ (gen j).1, bytes w = ws := by
  obtain ⟨w, hw, e⟩ := gen_last ws.length ws rfl hab
  exact ⟨w, gen_sub h w (List.mem_of_mem_drop hw), e⟩
/-! ### runs of any word -/
def anyStep (s : Stp) : Stp := (s.1, la, s.2.2)
def anyL (l : List Stp) : List Stp := l.map anyStep
theorem any_run {n : Int} {l : List Stp} (hl : ∀ s ∈ l, StepIs n s) : ∀ {k : Nat} {i j c : Int}, Run (anyL l) (List.replicate k 97) i j c ↔ ∃ ws : List UInt8, ws.length = k ∧ (∀ b ∈ ws, b = 97 ∨ b = 98) ∧ Run l ws i j c
  | 0, i, j, c => by
    simp only [List.replicate_zero]
    constructor
    · intro h
      exact ⟨[], rfl, by simp, h⟩
    · rintro ⟨ws, h1, _, h2⟩
      obtain rfl : ws = [] := List.length_eq_zero_iff.1 h1
      exact h2
  | k + 1, i, j, c => by
    simp only [List.replicate_succ, Run]
    constructor
    · rintro ⟨s, h1, h2, h3, c', h4, rfl⟩
      obtain ⟨t, ht, rfl⟩ := List.mem_map.1 h1
      obtain ⟨ws, g1, g2, g3⟩ := (any_run hl).1 h4
      rcases (hl t ht).l with e | e
      · refine ⟨97 :: ws, by simp [g1], ?_, ?_⟩
        · intro b hb
          rcases List.mem_cons.1 hb with rfl | hb
          · exact .inl rfl
          · exact g2 b hb
        · simp only [Run]
          exact ⟨t, ht, by rw [e, la_list], h3, c', g3, rfl⟩
      · refine ⟨98 :: ws, by simp [g1], ?_, ?_⟩
        · intro b hb
          rcases List.mem_cons.1 hb with rfl | hb
          · exact .inr rfl
          · exact g2 b hb
        · simp only [Run]
          exact ⟨t, ht, by rw [e, lb_list], h3, c', g3, rfl⟩
    · rintro ⟨ws, h1, h2, h3⟩
      cases ws with
      | nil => simp at h1
      | cons b ws =>
        simp only [Run] at h3
        obtain ⟨s, g1, g2, g3, c', g4, rfl⟩ := h3
        exact ⟨anyStep s, List.mem_map.2 ⟨s, g1, rfl⟩, la_list, g3, c', (any_run hl).2 ⟨ws, by simpa using h1, fun x hx => h2 x (List.mem_cons_of_mem _ hx), g4⟩, rfl⟩
theorem any_steps {n : Int} {l : List Stp} (hl : ∀ s ∈ l, StepIs n s) : ∀ s ∈ anyL l, StepIs n s := by
  intro s hs
  obtain ⟨t, ht, rfl⟩ := List.mem_map.1 hs
  have h := hl t ht
  exact ⟨h.f0, h.f1, h.t0, h.t1, h.c0, h.c1, .inl rfl⟩
theorem any_mat {n : Nat} {l : List Stp} (hl : ∀ s ∈ l, StepIs (n : Int) s) {A B C : List Int} (hA : MatIs n l [97] A) (hB : MatIs n l [98] B) (hC : Rng C (n * n)) (h : ∀ j, j < n * n → ∀ z, z ≤ C.getD j 0 ↔ z ≤ A.getD j 0 ∧ z ≤ B.getD j 0) : MatIs n (anyL l) [97] C := by
  refine ⟨hC, fun i k hi hk z => ?_⟩
  rw [h _ (idx_lt hi hk), hA.2 i k hi hk, hB.2 i k hi hk]
  constructor
  · rintro ⟨⟨h1, h2⟩, _, h3⟩
    refine ⟨h1, fun s hs _ e1 e2 => ?_⟩
    obtain ⟨t, ht, rfl⟩ := List.mem_map.1 hs
    rcases (hl t ht).l with e | e
    · exact h2 t ht (by rw [e, la_list]) e1 e2
    · exact h3 t ht (by rw [e, lb_list]) e1 e2
  · rintro ⟨h1, h2⟩
    exact ⟨⟨h1, fun s hs _ e1 e2 => h2 (anyStep s) (List.mem_map.2 ⟨s, hs, rfl⟩) la_list e1 e2⟩, h1, fun s hs _ e1 e2 => h2 (anyStep s) (List.mem_map.2 ⟨s, hs, rfl⟩) la_list e1 e2⟩
/-- the least cost of the words of a length -/
def LeastAt (a : Aut) (k : Nat) (r : Int) : Prop := (0 ≤ r ∧ r ≤ Nv) ∧ ∀ z, z ≤ r ↔ z ≤ Nv ∧ ∀ w : ByteArray, w.size = k → AB w → z ≤ cst a w
theorem least_any {a : Aut} (sa : Small a) (ha : autOk a = true) {n : Nat} (h : AutIs a n) {k : Nat} (hk : k ≤ 1000) {r : Int} (hr : (0 ≤ r ∧ r ≤ Nv) ∧ ∀ z, z ≤ r ↔ z ≤ Nv ∧ ∀ i ∈ a.2.1, ∀ j ∈ a.2.2.1, ∀ c, Run (anyL a.2.2.2) (List.replicate k 97) i j c → z ≤ c) : LeastAt a k r := by
  refine ⟨hr.1, fun z => ?_⟩
  rw [hr.2 z]
  refine and_congr_right fun hz => ?_
  constructor
  · intro g w hw hab
    have hc := (cst_is sa ha (hab.ok (by omega))).2.2
    rw [hc.2 z]
    exact ⟨hz, fun i hi j hj c hrun => g i hi j hj c ((any_run h.steps).2 ⟨bytes w, by rw [bytes_len, hw], hab, hrun⟩)⟩
  · intro g i hi j hj c hrun
    obtain ⟨ws, e1, e2, e3⟩ := (any_run h.steps).1 hrun
    have hab : AB (⟨ws.toArray⟩ : ByteArray) := fun b hb => e2 b hb
    have hsz : (⟨ws.toArray⟩ : ByteArray).size = k := by show ws.toArray.size = k; rw [List.size_toArray, e1]
    have hc := (cst_is sa ha (hab.ok (by omega))).2.2
    have := (hc.2 z).1 (g _ hsz hab)
    exact this.2 i hi j hj c e3
section one
variable {a : Aut} (sa : Small a) (n : Int)
include sa
end one
/-! ### byLength -/
/-- how the list of the best costs changes at a word -/
noncomputable def better1 (a : Aut) (B : Int → Int → Bool) (p : List Int) (w : ByteArray) : List Int :=
  if cst a w < Nv ∧ (p.getD w.size 0 = Nv ∨ B (cst a w) (p.getD w.size 0) = true) then p.set w.size (cst a w) else p
section byl
variable {a : Aut} (sa : Small a) (n : Int) {φ : Int × Int × Unit → Option Bool} {B : Int → Int → Bool} (hφ : ∀ x y, φ (x, y, ()) = some (B x y))
include sa hφ
end byl
/-- what the least costs of some words are -/
theorem least_fold {a : Aut} (sa : Small a) (ha : autOk a = true) {m : Nat} : ∀ (W : List ByteArray) (p : List Int), (∀ w ∈ W, w.size ≤ m ∧ wordOk w = true) → p.length = m + 1 → (∀ k, k ≤ m → 0 ≤ p.getD k 0 ∧ p.getD k 0 ≤ Nv) →
    (∀ k, k ≤ m → (0 ≤ (W.foldl (better1 a fun x y => decide (x < y)) p).getD k 0 ∧ (W.foldl (better1 a fun x y => decide (x < y)) p).getD k 0 ≤ Nv) ∧ ∀ z, z ≤ (W.foldl (better1 a fun x y => decide (x < y)) p).getD k 0 ↔ z ≤ p.getD k 0 ∧ ∀ w ∈ W, w.size = k → z ≤ cst a w)
  | [], p, _, _, hr, k, hk => ⟨hr k hk, fun z => ⟨fun h => ⟨h, fun w hw => by cases hw⟩, fun h => h.1⟩⟩
  | w :: W, p, hW, hp, hr, k, hk => by
    have hw := hW w List.mem_cons_self
    have hc := (cst_is sa ha hw.2).2.2.1
    have key : ∀ j, j ≤ m → (0 ≤ (better1 a (fun x y => decide (x < y)) p w).getD j 0 ∧ (better1 a (fun x y => decide (x < y)) p w).getD j 0 ≤ Nv) ∧ ∀ z, z ≤ (better1 a (fun x y => decide (x < y)) p w).getD j 0 ↔ z ≤ p.getD j 0 ∧ (w.size = j → z ≤ cst a w) := by
      intro j hj
      have h1 := hr j hj
      have h2 := hr w.size hw.1
      unfold better1
      by_cases c : cst a w < Nv ∧ (p.getD w.size 0 = Nv ∨ decide (cst a w < p.getD w.size 0) = true)
      · rw [if_pos c, getD_set (by omega)]
        rw [decide_eq_true_eq] at c
        by_cases e : w.size = j
        · subst e
          rw [if_pos rfl]
          refine ⟨hc, fun z => ⟨fun h => ⟨?_, fun _ => h⟩, fun h => h.2 rfl⟩⟩
          rcases c.2 with c2 | c2 <;> omega
        · rw [if_neg e]
          exact ⟨h1, fun z => ⟨fun h => ⟨h, fun e' => absurd e' e⟩, fun h => h.1⟩⟩
      · rw [if_neg c]
        rw [decide_eq_true_eq] at c
        refine ⟨h1, fun z => ⟨fun h => ⟨h, fun e => ?_⟩, fun h => h.1⟩⟩
        subst e
        by_cases c1 : cst a w < Nv
        · have : ¬ cst a w < p.getD w.size 0 := fun h => c ⟨c1, .inr h⟩
          omega
        · omega
    have hl : (better1 a (fun x y => decide (x < y)) p w).length = m + 1 := by
      unfold better1
      split
      · rw [List.length_set]; exact hp
      · exact hp
    obtain ⟨g1, g2⟩ := least_fold sa ha W (better1 a (fun x y => decide (x < y)) p w) (fun u hu => hW u (List.mem_cons_of_mem _ hu)) hl (fun j hj => (key j hj).1) k hk
    refine ⟨g1, fun z => ?_⟩
    rw [List.foldl_cons, g2 z, (key k hk).2 z]
    constructor
    · rintro ⟨⟨h1, h2⟩, h3⟩
      refine ⟨h1, fun u hu e => ?_⟩
      rcases List.mem_cons.1 hu with rfl | hu
      · exact h2 e
      · exact h3 u hu e
    · rintro ⟨h1, h2⟩
      exact ⟨⟨h1, fun e => h2 w List.mem_cons_self e⟩, fun u hu e => h2 u (List.mem_cons_of_mem _ hu) e⟩
end Go.Proofs.Ytooigaliccnldaa
