/- The least costs of each number of letters. -/
import Derived.Test.YtooigaliccnldaaP17
set_option linter.unusedVariables false
set_option linter.unusedSimpArgs false
namespace Go.Proofs.Ytooigaliccnldaa
open Go Go.Proofs.Ytooigaliccnldaa.Am
/-! ### all words are there -/
theorem bytes_app_la (w : ByteArray) : bytes (w ++ la) = bytes w ++ [97] := by
  show (w ++ la).data.toList = _
  rw [ByteArray.data_append, Array.toList_append]
theorem bytes_app_lb (w : ByteArray) : bytes (w ++ lb) = bytes w ++ [98] := by
  show (w ++ lb).data.toList = _
  rw [ByteArray.data_append, Array.toList_append]
theorem gen_last : ∀ (j : Nat) (ws : List UInt8), ws.length = j → (∀ b ∈ ws, b = 97 ∨ b = 98) → ∃ w ∈ (gen j).1.drop (gen j).2, bytes w = ws
  | 0, ws, h, _ => by
    obtain rfl : ws = [] := List.length_eq_zero_iff.1 h
    exact ⟨emp, by simp [gen], rfl⟩
  | j + 1, ws, h, hab => by
    have hne : ws ≠ [] := by rintro rfl; simp at h
    have e := List.dropLast_concat_getLast hne
    obtain ⟨u, hu, e2⟩ := gen_last j ws.dropLast (by rw [List.length_dropLast]; omega) (fun b hb => hab b (List.dropLast_subset ws hb))
    have hl := hab _ (List.getLast_mem hne)
    simp only [gen, List.drop_left]
    rcases hl with hl | hl
    · exact ⟨u ++ la, List.mem_flatMap.2 ⟨u, hu, by simp⟩, by rw [bytes_app_la, e2, ← hl]; exact e⟩
    · exact ⟨u ++ lb, List.mem_flatMap.2 ⟨u, hu, by simp⟩, by rw [bytes_app_lb, e2, ← hl]; exact e⟩
theorem gen_sub : ∀ {i j : Nat}, i ≤ j → ∀ w ∈ (gen i).1, w ∈ (gen j).1 := by
  intro i j h
  induction j with
  | zero => obtain rfl : i = 0 := by omega
            exact fun w hw => hw
  | succ j ih =>
    intro w hw
    by_cases e : i = j + 1
    · subst e; exact hw
    · simp only [gen]
      exact List.mem_append_left _ (ih (by omega) w hw)
theorem gen_all {j : Nat} {ws : List UInt8} (h : ws.length ≤ j) (hab : ∀ b ∈ ws, b = 97 ∨ b = 98) : ∃ w ∈ (gen j).1, bytes w = ws := by
  obtain ⟨w, hw, e⟩ := gen_last ws.length ws rfl hab
  exact ⟨w, gen_sub h w (List.mem_of_mem_drop hw), e⟩
/-! ### runs of any word -/
def anyStep (s : Stp) : Stp := (s.1, la, s.2.2)
def anyL (l : List Stp) : List Stp := l.map anyStep
theorem any_run {n : Int} {l : List Stp} (hl : ∀ s ∈ l, StepIs n s) : ∀ {k : Nat} {i j c : Int}, Run (anyL l) (List.replicate k 97) i j c ↔ ∃ ws : List UInt8, ws.length = k ∧ (∀ b ∈ ws, b = 97 ∨ b = 98) ∧ Run l ws i j c
  | 0, i, j, c => by
    simp only [List.replicate_zero]
    constructor
    · intro h
      exact ⟨[], rfl, by simp, h⟩
    · rintro ⟨ws, h1, _, h2⟩
      obtain rfl : ws = [] := List.length_eq_zero_iff.1 h1
      exact h2
  | k + 1, i, j, c => by
    simp only [List.replicate_succ, Run]
    constructor
    · rintro ⟨s, h1, h2, h3, c', h4, rfl⟩
      obtain ⟨t, ht, rfl⟩ := List.mem_map.1 h1
      obtain ⟨ws, g1, g2, g3⟩ := (any_run hl).1 h4
      rcases (hl t ht).l with e | e
      · refine ⟨97 :: ws, by simp [g1], ?_, ?_⟩
        · intro b hb
          rcases List.mem_cons.1 hb with rfl | hb
          · exact .inl rfl
          · exact g2 b hb
        · simp only [Run]
          exact ⟨t, ht, by rw [e, la_list], h3, c', g3, rfl⟩
      · refine ⟨98 :: ws, by simp [g1], ?_, ?_⟩
        · intro b hb
          rcases List.mem_cons.1 hb with rfl | hb
          · exact .inr rfl
          · exact g2 b hb
        · simp only [Run]
          exact ⟨t, ht, by rw [e, lb_list], h3, c', g3, rfl⟩
    · rintro ⟨ws, h1, h2, h3⟩
      cases ws with
      | nil => simp at h1
      | cons b ws =>
        simp only [Run] at h3
        obtain ⟨s, g1, g2, g3, c', g4, rfl⟩ := h3
        exact ⟨anyStep s, List.mem_map.2 ⟨s, g1, rfl⟩, la_list, g3, c', (any_run hl).2 ⟨ws, by simpa using h1, fun x hx => h2 x (List.mem_cons_of_mem _ hx), g4⟩, rfl⟩
theorem any_steps {n : Int} {l : List Stp} (hl : ∀ s ∈ l, StepIs n s) : ∀ s ∈ anyL l, StepIs n s := by
  intro s hs
  obtain ⟨t, ht, rfl⟩ := List.mem_map.1 hs
  have h := hl t ht
  exact ⟨h.f0, h.f1, h.t0, h.t1, h.c0, h.c1, .inl rfl⟩
/-- the lesser of both letters' matrices -/
theorem l2Min_is {n : Nat} (h4 : n ≤ 4) {A B : List Int} (hA : Rng A (n * n)) (hB : Rng B (n * n)) : ∃ C, spec_l2Min ((n : Int), A) ((n : Int), B) = some ((n : Int), C) ∧ Rng C (n * n) ∧ ∀ j, j < n * n → ∀ z, z ≤ C.getD j 0 ↔ z ≤ A.getD j 0 ∧ z ≤ B.getD j 0 := by
  have hsq := sq_le h4
  have hal := hA.1
  have hbl := hB.1
  simp only [spec_l2Min]
  obtain ⟨r, g1, g2⟩ := loop_rel (f := spec_l2Min_l3) (n * n) (fun m (o : List Int) => (((n : Int), A, ()), ((n : Int), B, ()), ((0 : Int), [], ()), ((n : Int), o, ()), ((n * n : Nat) : Int), (m : Int), ()))
    (fun o => (((0 : Int), [], ()), ((n : Int), o, ()), ())) (fun m o => Rng o m ∧ ∀ j, j < m → ∀ z, z ≤ o.getD j 0 ↔ z ≤ A.getD j 0 ∧ z ≤ B.getD j 0)
    (fun m o hm ho => by
      have hol := ho.1.1
      have ra := hA.at hm
      have rb := hB.at hm
      obtain ⟨a1, a2⟩ := app_one (p := o) (x := if B.getD m 0 < A.getD m 0 then B.getD m 0 else A.getD m 0) (by omega)
      refine ⟨o ++ [if B.getD m 0 < A.getD m 0 then B.getD m 0 else A.getD m 0], ?_, ⟨by rw [List.length_append, hol]; rfl, fun x hx => ?_⟩, fun j hj z => ?_⟩
      · simp only [spec_l2Min_l3, lt_t hm, cond_true, Int.toNat_natCast, hal, hbl, if_pos (in_t hm)]
        rw [if_pos a1, a2, w64_succ hm (by omega)]
        simp only [List.drop_zero, List.take_length, List.length_nil, List.take_zero]
      · rcases List.mem_append.1 hx with hx | hx
        · exact ho.1.2 x hx
        · rw [List.mem_singleton] at hx; subst hx
          split <;> omega
      · rw [getD_snoc, hol]
        by_cases e : j = m
        · subst e
          rw [if_pos rfl, min_is]
        · rw [if_neg e]; exact ho.2 j (by omega) z)
    (fun o ho => by simp only [spec_l2Min_l3, lt_f, cond_false, List.drop_zero, List.take_length, List.length_nil, List.take_zero])
    [] ⟨⟨rfl, by simp⟩, by simp⟩
  have g1 : loopF spec_l2Min_l3 (((n : Int), A, ()), ((n : Int), B, ()), ((0 : Int), [], ()), ((n : Int), [], ()), ((A.length : Nat) : Int), (0 : Int), ()) = some (((0 : Int), [], ()), ((n : Int), r, ()), ()) := by rw [hal]; exact g1
  refine ⟨r, by rw [g1]; simp only [Option.bind_some, List.drop_zero, List.take_length], g2.1, g2.2⟩
theorem any_mat {n : Nat} {l : List Stp} (hl : ∀ s ∈ l, StepIs (n : Int) s) {A B C : List Int} (hA : MatIs n l [97] A) (hB : MatIs n l [98] B) (hC : Rng C (n * n)) (h : ∀ j, j < n * n → ∀ z, z ≤ C.getD j 0 ↔ z ≤ A.getD j 0 ∧ z ≤ B.getD j 0) : MatIs n (anyL l) [97] C := by
  refine ⟨hC, fun i k hi hk z => ?_⟩
  rw [h _ (idx_lt hi hk), hA.2 i k hi hk, hB.2 i k hi hk]
  constructor
  · rintro ⟨⟨h1, h2⟩, _, h3⟩
    refine ⟨h1, fun s hs _ e1 e2 => ?_⟩
    obtain ⟨t, ht, rfl⟩ := List.mem_map.1 hs
    rcases (hl t ht).l with e | e
    · exact h2 t ht (by rw [e, la_list]) e1 e2
    · exact h3 t ht (by rw [e, lb_list]) e1 e2
  · rintro ⟨h1, h2⟩
    exact ⟨⟨h1, fun s hs _ e1 e2 => h2 (anyStep s) (List.mem_map.2 ⟨s, hs, rfl⟩) la_list e1 e2⟩, h1, fun s hs _ e1 e2 => h2 (anyStep s) (List.mem_map.2 ⟨s, hs, rfl⟩) la_list e1 e2⟩
/-- the least cost of the words of a length -/
def LeastAt (a : Aut) (k : Nat) (r : Int) : Prop := (0 ≤ r ∧ r ≤ Nv) ∧ ∀ z, z ≤ r ↔ z ≤ Nv ∧ ∀ w : ByteArray, w.size = k → AB w → z ≤ cst a w
theorem least_any {a : Aut} (sa : Small a) (ha : autOk a = true) {n : Nat} (h : AutIs a n) {k : Nat} (hk : k ≤ 1000) {r : Int} (hr : (0 ≤ r ∧ r ≤ Nv) ∧ ∀ z, z ≤ r ↔ z ≤ Nv ∧ ∀ i ∈ a.2.1, ∀ j ∈ a.2.2.1, ∀ c, Run (anyL a.2.2.2) (List.replicate k 97) i j c → z ≤ c) : LeastAt a k r := by
  refine ⟨hr.1, fun z => ?_⟩
  rw [hr.2 z]
  refine and_congr_right fun hz => ?_
  constructor
  · intro g w hw hab
    have hc := (cst_is sa ha (hab.ok (by omega))).2.2
    rw [hc.2 z]
    exact ⟨hz, fun i hi j hj c hrun => g i hi j hj c ((any_run h.steps).2 ⟨bytes w, by rw [bytes_len, hw], hab, hrun⟩)⟩
  · intro g i hi j hj c hrun
    obtain ⟨ws, e1, e2, e3⟩ := (any_run h.steps).1 hrun
    have hab : AB (⟨ws.toArray⟩ : ByteArray) := fun b hb => e2 b hb
    have hsz : (⟨ws.toArray⟩ : ByteArray).size = k := by show ws.toArray.size = k; rw [List.size_toArray, e1]
    have hc := (cst_is sa ha (hab.ok (by omega))).2.2
    have := (hc.2 z).1 (g _ hsz hab)
    exact this.2 i hi j hj c e3
section one
variable {a : Aut} (sa : Small a) (n : Int)
include sa
theorem spec_LeastOf_is : (autOk a && shortN n) = true → ∃ o : List Int, spec_LeastOf a n = some (o, true) ∧ o.length = n.toNat + 1 ∧ ∀ k, k ≤ n.toNat → LeastAt a k (o.getD k 0) := by
  intro hh
  rw [Bool.and_eq_true] at hh
  obtain ⟨ha, hn⟩ := hh
  have h1 := l11Short_is sa n
  rw [ha, hn] at h1
  obtain ⟨m, hm⟩ := autOk_is ha
  have hn' : 0 ≤ n ∧ n ≤ 7 := by unfold shortN at hn; exact of_decide_eq_true hn
  have hla := @least_any a sa ha m hm
  have hlg := @l4Least_gen a m hm sa.1 sa.2.1 (anyL a.2.2.2)
  obtain ⟨A, a1, a2⟩ := l3Matrix_is (c := la) hm.st hm.n1 hm.n4 hm.len hm.ok
  obtain ⟨B, b1, b2⟩ := l3Matrix_is (c := lb) hm.st hm.n1 hm.n4 hm.len hm.ok
  rw [la_list] at a2
  rw [lb_list] at b2
  obtain ⟨C, c1, c2, c3⟩ := l2Min_is hm.n4 a2.1 b2.1
  have hC := any_mat hm.steps a2 b2 c2 c3
  obtain ⟨U, u1, u2⟩ := l2Unit_is hm.n1 hm.n4 (anyL a.2.2.2)
  have hst := hm.st
  have hsteps := any_steps hm.steps
  obtain ⟨x, S, F, l⟩ := a
  have hx : x = (m : Int) := hst
  subst hx
  have a1 : spec_l3Matrix ((m : Int), S, F, l) (⟨#[(97 : UInt8)]⟩ : ByteArray) = some ((m : Int), A) := a1
  have b1 : spec_l3Matrix ((m : Int), S, F, l) (⟨#[(98 : UInt8)]⟩ : ByteArray) = some ((m : Int), B) := b1
  simp only [spec_LeastOf, h1, Option.bind_some, Bool.and_self, Bool.not_true, cond_false, a1, b1, List.drop_zero, List.take_length, c1, u1]
  have en : IntKind.wrap .i64 (n + 1) = ((n.toNat + 1 : Nat) : Int) := by rw [w64 (by omega) (by omega)]; omega
  rw [en]
  obtain ⟨r, g1, g2⟩ := loop_rel (f := spec_LeastOf_l7) (n.toNat + 1) (fun k (p : List Int × List Int) => (((m : Int), S, F, l, ()), p.1, ((m : Int), C, ()), ((m : Int), p.2, ()), ((n.toNat + 1 : Nat) : Int), (k : Int), ()))
    (fun p => (p.1, ())) (fun k p => p.1.length = k ∧ ProdIs m (anyL l) (List.replicate k 97) p.2 ∧ ∀ j, j < k → LeastAt ((m : Int), S, F, l) j (p.1.getD j 0))
    (fun k p hk hp => by
      obtain ⟨q1, q2, q3⟩ := hp
      obtain ⟨r, r1, r2, r3⟩ := hlg (ws := List.replicate k 97) q2
      obtain ⟨D, d1, d2⟩ := l2Mul_is hm.n1 hm.n4 q2.1 hC.1
      have hD := ProdIs.mul hsteps q2 hC d2
      obtain ⟨e1, e2⟩ := app_one (p := p.1) (x := r) (by omega)
      refine ⟨(p.1 ++ [r], D), ?_, by simp [q1], by rw [List.replicate_succ']; exact hD, fun j hj => ?_⟩
      · simp only [spec_LeastOf_l7, lt_t hk, cond_true, tk_all, r1, Option.bind_some]
        rw [if_pos e1, d1, e2]
        simp only [Option.bind_some, tk_all, w64_succ hk (show n.toNat + 1 ≤ 9223372036854775807 by omega)]
      · show LeastAt _ j ((p.1 ++ [r]).getD j 0)
        rw [getD_snoc, q1]
        by_cases e : j = k
        · subst e
          rw [if_pos rfl]
          exact hla (by omega) ⟨r2, r3⟩
        · rw [if_neg e]
          exact q3 j (by omega))
    (fun p hp => by simp only [spec_LeastOf_l7, lt_f, cond_false, tk_all])
    ([], U) ⟨rfl, u2, by simp⟩
  have g1 : loopF spec_LeastOf_l7 (((m : Int), S, F, l, ()), [], ((m : Int), C, ()), ((m : Int), U, ()), ((n.toNat + 1 : Nat) : Int), (0 : Int), ()) = some (r.1, ()) := g1
  rw [List.take_zero, g1]
  simp only [Option.bind_some, List.take_length]
  exact ⟨_, rfl, g2.1, fun k hk => g2.2.2 k (by omega)⟩
theorem spec_LeastOf_no : (autOk a && shortN n) = false → spec_LeastOf a n = some ([], false) := by
  intro hh
  have h1 := l11Short_is sa n
  rw [hh] at h1
  obtain ⟨x, S, F, l⟩ := a
  simp only [spec_LeastOf, h1, Option.bind_some, Bool.not_false, cond_true]
  rfl
end one
/-! ### byLength -/
/-- how the list of the best costs changes at a word -/
noncomputable def better1 (a : Aut) (B : Int → Int → Bool) (p : List Int) (w : ByteArray) : List Int :=
  if cst a w < Nv ∧ (p.getD w.size 0 = Nv ∨ B (cst a w) (p.getD w.size 0) = true) then p.set w.size (cst a w) else p
section byl
variable {a : Aut} (sa : Small a) (n : Int) {φ : Int × Int × Unit → Option Bool} {B : Int → Int → Bool} (hφ : ∀ x y, φ (x, y, ()) = some (B x y))
include sa hφ
theorem byLength_is : impl_byLength a n φ = some (if (autOk a && shortN n) = true then ((words n).foldl (better1 a B) (List.replicate (n.toNat + 1) Nv), true) else ([], false)) ∧
    ((autOk a && shortN n) = true → ((words n).foldl (better1 a B) (List.replicate (n.toNat + 1) Nv)).length = n.toNat + 1) := by
  have h1 := impl_short_is n [a] (by intro z hz; obtain rfl := List.mem_singleton.1 hz; exact sa) (by simp)
  have k1 : autOk a = true → ∀ w, wordOk w = true → impl_CostOf a w = some (cst a w) := fun ha w hw => (cst_is sa ha hw).2.1
  have hlen := words_len n
  obtain ⟨x, S, F, l⟩ := a
  simp only [impl_byLength, List.drop_zero]
  rw [show List.take 1 [(x, S, F, l)] = [(x, S, F, l)] from rfl, h1]
  simp only [Option.bind_some, List.all_cons, List.all_nil, Bool.and_true]
  rcases Bool.eq_false_or_eq_true (autOk (x, S, F, l)) with ha | ha
  · rcases Bool.eq_false_or_eq_true (shortN n) with hn | hn
    · have hn' : 0 ≤ n ∧ n ≤ 7 := by unfold shortN at hn; exact of_decide_eq_true hn
      simp only [ha, hn, Bool.and_self, Bool.not_true, cond_false, if_true]
      rw [w64 (show -9223372036854775808 ≤ n + 1 by omega) (by omega), show List.take 1 [(1000000 : Int)] = [1000000] from rfl, Repeat_is 1000000 (by omega) (by omega), show (n + 1).toNat = n.toNat + 1 from by omega]
      simp only [Option.bind_some, List.take_length]
      have hws : ∀ w ∈ words n, w.size ≤ n.toNat := by
        intro w hw
        unfold words at hw
        rw [if_pos hn] at hw
        exact ((gen_facts n.toNat).2.2.2 w hw).2
      obtain ⟨r, g1, g2⟩ := loop_inv (f := impl_byLength_l6) (words n).length (fun i (p : List Int) => (φ, (x, S, F, l, ()), p, words n, ((words n).length : Int), (i : Int), ())) (fun i p => better1 (x, S, F, l) B p ((words n).getD i be0)) (fun p => (p, ())) (fun i p => p = ((words n).take i).foldl (better1 (x, S, F, l) B) (List.replicate (n.toNat + 1) Nv) ∧ p.length = n.toNat + 1)
        (fun i p hi hp => by
          have e : (words n).getD i be0 = (words n)[i] := by rw [List.getD_eq_getElem?_getD, List.getElem?_eq_getElem hi]; rfl
          refine ⟨by rw [take_snoc hi, List.foldl_append, ← hp.1, e]; rfl, ?_⟩
          unfold better1
          split
          · rw [List.length_set]; exact hp.2
          · exact hp.2)
        (fun i p hi hp => by
          have hw := words_ok _ (word_mem hi)
          have hsz := hws _ (word_mem hi)
          have hpl := hp.2
          have hin : (0 : Int) ≤ ((((words n).getD i (⟨Array.empty⟩ : ByteArray)).size : Nat) : Int) ∧ ((((words n).getD i (⟨Array.empty⟩ : ByteArray)).size : Nat) : Int) < (p.length : Int) := by
            rw [hpl]
            have hsz : ((words n).getD i (⟨Array.empty⟩ : ByteArray)).size ≤ n.toNat := hsz
            omega
          have hc : impl_CostOf (x, S, F, l) ((words n).getD i (⟨Array.empty⟩ : ByteArray)) = some (cst (x, S, F, l) ((words n).getD i be0)) := k1 ha _ hw
          simp only [impl_byLength_l6, lt_t hi, cond_true, if_pos (in_t hi), Int.toNat_natCast, hc, Option.bind_some, Nat.zero_add, if_pos hin, hφ, w64_succ hi (show (words n).length ≤ 9223372036854775807 by omega), tk_all]
          have hset : ∀ y : Int, List.take p.length (List.drop 0 (p.set ((words n).getD i (⟨Array.empty⟩ : ByteArray)).size y)) = p.set ((words n).getD i be0).size y := fun y => by
            have : (p.set ((words n).getD i (⟨Array.empty⟩ : ByteArray)).size y).length = p.length := List.length_set ..
            rw [← this, tk_all]
          simp only [hset]
          unfold better1
          by_cases c1 : cst (x, S, F, l) ((words n).getD i be0) < 1000000
          · simp only [decide_eq_true c1, cond_true]
            by_cases c2 : p.getD ((words n).getD i be0).size 0 = 1000000
            · have c2' : (p.getD ((words n).getD i (⟨Array.empty⟩ : ByteArray)).size 0 == (1000000 : Int)) = true := by simpa using c2
              simp only [c2', cond_true]
              rw [if_pos ⟨c1, .inl c2⟩]
            · have c2' : (p.getD ((words n).getD i (⟨Array.empty⟩ : ByteArray)).size 0 == (1000000 : Int)) = false := by simpa using c2
              simp only [c2', cond_false]
              rcases Bool.eq_false_or_eq_true (B (cst (x, S, F, l) ((words n).getD i be0)) (p.getD ((words n).getD i be0).size 0)) with c3 | c3
              · have c3' : B (cst (x, S, F, l) ((words n).getD i be0)) (p.getD ((words n).getD i (⟨Array.empty⟩ : ByteArray)).size 0) = true := c3
                rw [c3', if_pos ⟨c1, .inr rfl⟩]
                rfl
              · have c3' : B (cst (x, S, F, l) ((words n).getD i be0)) (p.getD ((words n).getD i (⟨Array.empty⟩ : ByteArray)).size 0) = false := c3
                rw [c3', if_neg (by rintro ⟨_, h | h⟩; exact c2 h; cases h)]
                rfl
          · simp only [decide_eq_false c1, cond_false]
            rw [if_neg (fun h => c1 h.1)])
        (fun p hp => by simp only [impl_byLength_l6, lt_f, cond_false, tk_all]) _ ⟨rfl, by simp⟩
      have g1 : loopF impl_byLength_l6 (φ, (x, S, F, l, ()), List.replicate (n.toNat + 1) (1000000 : Int), words n, ((words n).length : Int), (0 : Int), ()) = some (r, ()) := g1
      rw [g1]
      simp only [Option.bind_some, List.take_length]
      rw [List.take_length] at g2
      rw [g2.1]
      refine ⟨rfl, fun _ => ?_⟩
      rw [← g2.1]
      exact g2.2
    · simp only [ha, hn, Bool.false_and, Bool.and_false, Bool.not_false, cond_true]
      exact ⟨rfl, fun h => by cases h⟩
  · simp only [ha, Bool.and_false, Bool.false_and, Bool.not_false, cond_true]
    exact ⟨rfl, fun h => by cases h⟩
end byl
/-- what the least costs of some words are -/
theorem least_fold {a : Aut} (sa : Small a) (ha : autOk a = true) {m : Nat} : ∀ (W : List ByteArray) (p : List Int), (∀ w ∈ W, w.size ≤ m ∧ wordOk w = true) → p.length = m + 1 → (∀ k, k ≤ m → 0 ≤ p.getD k 0 ∧ p.getD k 0 ≤ Nv) →
    (∀ k, k ≤ m → (0 ≤ (W.foldl (better1 a fun x y => decide (x < y)) p).getD k 0 ∧ (W.foldl (better1 a fun x y => decide (x < y)) p).getD k 0 ≤ Nv) ∧ ∀ z, z ≤ (W.foldl (better1 a fun x y => decide (x < y)) p).getD k 0 ↔ z ≤ p.getD k 0 ∧ ∀ w ∈ W, w.size = k → z ≤ cst a w)
  | [], p, _, _, hr, k, hk => ⟨hr k hk, fun z => ⟨fun h => ⟨h, fun w hw => by cases hw⟩, fun h => h.1⟩⟩
  | w :: W, p, hW, hp, hr, k, hk => by
    have hw := hW w List.mem_cons_self
    have hc := (cst_is sa ha hw.2).2.2.1
    have key : ∀ j, j ≤ m → (0 ≤ (better1 a (fun x y => decide (x < y)) p w).getD j 0 ∧ (better1 a (fun x y => decide (x < y)) p w).getD j 0 ≤ Nv) ∧ ∀ z, z ≤ (better1 a (fun x y => decide (x < y)) p w).getD j 0 ↔ z ≤ p.getD j 0 ∧ (w.size = j → z ≤ cst a w) := by
      intro j hj
      have h1 := hr j hj
      have h2 := hr w.size hw.1
      unfold better1
      by_cases c : cst a w < Nv ∧ (p.getD w.size 0 = Nv ∨ decide (cst a w < p.getD w.size 0) = true)
      · rw [if_pos c, getD_set (by omega)]
        rw [decide_eq_true_eq] at c
        by_cases e : w.size = j
        · subst e
          rw [if_pos rfl]
          refine ⟨hc, fun z => ⟨fun h => ⟨?_, fun _ => h⟩, fun h => h.2 rfl⟩⟩
          rcases c.2 with c2 | c2 <;> omega
        · rw [if_neg e]
          exact ⟨h1, fun z => ⟨fun h => ⟨h, fun e' => absurd e' e⟩, fun h => h.1⟩⟩
      · rw [if_neg c]
        rw [decide_eq_true_eq] at c
        refine ⟨h1, fun z => ⟨fun h => ⟨h, fun e => ?_⟩, fun h => h.1⟩⟩
        subst e
        by_cases c1 : cst a w < Nv
        · have : ¬ cst a w < p.getD w.size 0 := fun h => c ⟨c1, .inr h⟩
          omega
        · omega
    have hl : (better1 a (fun x y => decide (x < y)) p w).length = m + 1 := by
      unfold better1
      split
      · rw [List.length_set]; exact hp
      · exact hp
    obtain ⟨g1, g2⟩ := least_fold sa ha W (better1 a (fun x y => decide (x < y)) p w) (fun u hu => hW u (List.mem_cons_of_mem _ hu)) hl (fun j hj => (key j hj).1) k hk
    refine ⟨g1, fun z => ?_⟩
    rw [List.foldl_cons, g2 z, (key k hk).2 z]
    constructor
    · rintro ⟨⟨h1, h2⟩, h3⟩
      refine ⟨h1, fun u hu e => ?_⟩
      rcases List.mem_cons.1 hu with rfl | hu
      · exact h2 e
      · exact h3 u hu e
    · rintro ⟨h1, h2⟩
      exact ⟨⟨h1, fun e => h2 w List.mem_cons_self e⟩, fun u hu e => h2 u (List.mem_cons_of_mem _ hu) e⟩
theorem least_same {a : Aut} (sa : Small a) (n : Int) : ∃ r, spec_LeastOf a n = some r ∧ impl_LeastOf a n = some r ∧ r.1.length ≤ 8 := by
  have hb := byLength_is sa n (φ := fun y0 => impl_LeastOf_1 y0.1 y0.2.1) (B := fun x y => decide (x < y)) (fun x y => rfl)
  have hi : impl_LeastOf a n = (impl_byLength a n fun y0 => impl_LeastOf_1 y0.1 y0.2.1).bind fun r => some (r.1, r.2) := by
    obtain ⟨x, S, F, l⟩ := a
    simp only [impl_LeastOf, tk_all]
  rcases Bool.eq_false_or_eq_true (autOk a && shortN n) with hh | hh
  · obtain ⟨o, h1, h2, h3⟩ := spec_LeastOf_is sa n hh
    obtain ⟨h4, h5⟩ := hb
    have h5 := h5 hh
    rw [if_pos hh] at h4
    have hh' := hh
    rw [Bool.and_eq_true] at hh'
    obtain ⟨ha, hn⟩ := hh'
    have hn' : 0 ≤ n ∧ n ≤ 7 := by unfold shortN at hn; exact of_decide_eq_true hn
    have hW : words n = (gen n.toNat).1 := by unfold words; rw [if_pos hn]
    have e : o = (words n).foldl (better1 a fun x y => decide (x < y)) (List.replicate (n.toNat + 1) Nv) := by
      have hws : ∀ w ∈ words n, w.size ≤ n.toNat ∧ wordOk w = true := fun w hw => ⟨by rw [hW] at hw; exact ((gen_facts n.toNat).2.2.2 w hw).2, words_ok w hw⟩
      have hrep : ∀ k, k ≤ n.toNat → (List.replicate (n.toNat + 1) Nv).getD k 0 = Nv := fun k hk => by rw [List.getD_eq_getElem?_getD, List.getElem?_replicate, if_pos (by omega)]; rfl
      have hf := least_fold sa ha (words n) (List.replicate (n.toNat + 1) Nv) hws (by simp) (fun k hk => by rw [hrep k hk]; exact ⟨by decide, Int.le_refl _⟩)
      refine List.ext_getElem (by rw [h2, h5]) fun k g1 g2 => ?_
      have q1 := h3 k (by omega)
      have q2 := hf k (by omega)
      rw [getD_mem g1] at q1
      rw [getD_mem g2] at q2
      refine eq_of_le_iff fun z => ?_
      rw [q1.2 z, q2.2 z, hrep k (by omega)]
      refine and_congr_right fun hz => ?_
      constructor
      · intro g w hw e
        exact g w e (by rw [hW] at hw; exact ((gen_facts n.toNat).2.2.2 w hw).1)
      · intro g w e hab
        obtain ⟨u, hu, eu⟩ := gen_all (j := n.toNat) (ws := bytes w) (by rw [bytes_len]; omega) hab
        have : u = w := by
          have : u.data = w.data := Array.ext' eu
          exact ByteArray.ext this
        subst this
        exact g u (by rw [hW]; exact hu) e
    refine ⟨_, h1, ?_, by show o.length ≤ 8; omega⟩
    rw [hi, h4, ← e]
    rfl
  · refine ⟨_, spec_LeastOf_no sa n hh, ?_, by simp⟩
    rw [hi, hb.1, if_neg (by rw [hh]; simp)]
    rfl
end Go.Proofs.Ytooigaliccnldaa
