/- The law of greatest and least costs. -/
import Derived.Test.YtooigaliccnldaaP47
set_option linter.unusedVariables false
set_option linter.unusedSimpArgs false
namespace Go.Proofs.Ytooigaliccnldaa
open Go Go.Proofs.Ytooigaliccnldaa.Am
theorem drawGreatest_is {c : List Int} (hc : ∀ x ∈ c, 0 ≤ x ∧ x ≤ 255) : ∃ a n, spec_DrawGreatestOf c = some (a, n) ∧ Small a := by
  obtain ⟨⟨x, S, F, l⟩, n, h1, h2⟩ := drawCostliest_is hc
  exact ⟨(x, S, F, l), n, by simp only [spec_DrawGreatestOf, h1, Option.bind_some], h2⟩
/-- the least and the greatest cost of the words of a length -/
noncomputable def lh (a : Aut) (k : Nat) (p : Int × Int) (w : ByteArray) : Int × Int :=
  if w.size = k ∧ cst a w < Nv then (if cst a w < p.1 then cst a w else p.1, if cst a w > p.2 then cst a w else p.2) else p
def LH (N k : Nat) (L G : List Int) (p : Int × Int) : Prop := L.length = N + 1 ∧ G.length = N + 1 ∧ L.getD k 0 = p.1 ∧ p.1 ≤ Nv ∧ -1 ≤ p.2 ∧ p.2 < Nv ∧ G.getD k 0 = if p.2 < 0 then Nv else p.2
theorem LH.step {a : Aut} {N k : Nat} (hk : k ≤ N) {L G : List Int} {p : Int × Int} (h : LH N k L G p) {w : ByteArray} (hw : w.size ≤ N) (hc : 0 ≤ cst a w) : LH N k (better1 a (fun x y => decide (x < y)) L w) (better1 a (fun x y => decide (x > y)) G w) (lh a k p w) := by
  obtain ⟨h1, h2, h3, h4, h5, h6, h7⟩ := h
  have hGl : ∀ (q : Prop) [Decidable q] (i : Nat) (x : Int), (if q then G.set i x else G).length = N + 1 := by
    intro q _ i x
    split
    · rw [List.length_set]; exact h2
    · exact h2
  by_cases hlt : cst a w < Nv
  · by_cases hs : w.size = k
    · have eH : lh a k p w = (if cst a w < p.1 then cst a w else p.1, if cst a w > p.2 then cst a w else p.2) := by unfold lh; rw [if_pos ⟨hs, hlt⟩]
      rw [eH]
      unfold better1
      rw [hs, h3, h7]
      have eL : ∀ x, (L.set k x).getD k 0 = x := fun x => by rw [getD_set (by omega), if_pos rfl]
      have eG : ∀ x, (G.set k x).getD k 0 = x := fun x => by rw [getD_set (by omega), if_pos rfl]
      refine ⟨?_, ?_, ?_, ?_, ?_, ?_, ?_⟩
      · split
        · rw [List.length_set]; exact h1
        · exact h1
      · exact hGl _ k _
      · by_cases c : cst a w < p.1
        · rw [if_pos ⟨hlt, .inr (decide_eq_true c)⟩, eL, if_pos c]
        · rw [if_neg (fun hh => by
            rcases hh.2 with hh | hh
            · omega
            · exact c (of_decide_eq_true hh)), if_neg c]
          exact h3
      · dsimp only
        split <;> omega
      · dsimp only
        split <;> omega
      · dsimp only
        split <;> omega
      · dsimp only
        by_cases hn : p.2 < 0
        · have hg : cst a w > p.2 := by omega
          rw [if_pos hn, if_pos ⟨hlt, .inl rfl⟩, eG, if_pos hg, if_neg (by omega)]
        · rw [if_neg hn]
          by_cases hg : cst a w > p.2
          · rw [if_pos ⟨hlt, .inr (decide_eq_true hg)⟩, eG, if_pos hg, if_neg (by omega)]
          · rw [if_neg (fun hh => by
              rcases hh.2 with hh | hh
              · omega
              · exact hg (of_decide_eq_true hh)), if_neg hg, if_neg hn, h7, if_neg hn]
    · have eH : lh a k p w = p := by unfold lh; rw [if_neg (fun hh => hs hh.1)]
      rw [eH]
      unfold better1
      have eL : ∀ x, (L.set w.size x).getD k 0 = L.getD k 0 := fun x => by rw [getD_set (by omega), if_neg hs]
      have eG : ∀ x, (G.set w.size x).getD k 0 = G.getD k 0 := fun x => by rw [getD_set (by omega), if_neg hs]
      refine ⟨?_, ?_, ?_, h4, h5, h6, ?_⟩
      · split
        · rw [List.length_set]; exact h1
        · exact h1
      · split
        · rw [List.length_set]; exact h2
        · exact h2
      · split
        · rw [eL]; exact h3
        · exact h3
      · split
        · rw [eG]; exact h7
        · exact h7
  · have eH : lh a k p w = p := by unfold lh; rw [if_neg (fun hh => hlt hh.2)]
    rw [eH]
    unfold better1
    rw [if_neg (fun hh => hlt hh.1), if_neg (fun hh => hlt hh.1)]
    exact ⟨h1, h2, h3, h4, h5, h6, h7⟩
theorem LH.fold {a : Aut} {N k : Nat} (hk : k ≤ N) : ∀ {W : List ByteArray} {L G : List Int} {p : Int × Int}, (∀ w ∈ W, w.size ≤ N ∧ 0 ≤ cst a w) → LH N k L G p → LH N k (W.foldl (better1 a fun x y => decide (x < y)) L) (W.foldl (better1 a fun x y => decide (x > y)) G) (W.foldl (lh a k) p)
  | [], _, _, _, _, h => h
  | w :: W, _, _, _, hW, h => LH.fold (W := W) hk (fun u hu => hW u (List.mem_cons_of_mem _ hu)) (h.step hk (hW w List.mem_cons_self).1 (hW w List.mem_cons_self).2)
section
variable {a : Aut} (sa : Small a) {n : Int}
include sa
theorem most_is (hh : (autOk a && shortN n) = true) : impl_GreatestOf a n = some ((words n).foldl (better1 a fun x y => decide (x > y)) (List.replicate (n.toNat + 1) Nv), true) := by
  have hb := byLength_is sa n (φ := fun y0 => impl_GreatestOf_1 y0.1 y0.2.1) (B := fun x y => decide (x > y)) (fun x y => rfl)
  have hi : impl_GreatestOf a n = (impl_byLength a n fun y0 => impl_GreatestOf_1 y0.1 y0.2.1).bind fun r => some (r.1, r.2) := by
    obtain ⟨x, S, F, l⟩ := a
    simp only [impl_GreatestOf, tk_all]
  rw [hi, hb.1, if_pos hh]
  rfl
theorem leastf_is (hh : (autOk a && shortN n) = true) : impl_LeastOf a n = some ((words n).foldl (better1 a fun x y => decide (x < y)) (List.replicate (n.toNat + 1) Nv), true) := by
  have hb := byLength_is sa n (φ := fun y0 => impl_LeastOf_1 y0.1 y0.2.1) (B := fun x y => decide (x < y)) (fun x y => rfl)
  have hi : impl_LeastOf a n = (impl_byLength a n fun y0 => impl_LeastOf_1 y0.1 y0.2.1).bind fun r => some (r.1, r.2) := by
    obtain ⟨x, S, F, l⟩ := a
    simp only [impl_LeastOf, tk_all]
  rw [hi, hb.1, if_pos hh]
  rfl
theorem best_no (hh : (autOk a && shortN n) = false) : impl_GreatestOf a n = some ([], false) ∧ impl_LeastOf a n = some ([], false) := by
  have hb := byLength_is sa n (φ := fun y0 => impl_GreatestOf_1 y0.1 y0.2.1) (B := fun x y => decide (x > y)) (fun x y => rfl)
  have hb2 := byLength_is sa n (φ := fun y0 => impl_LeastOf_1 y0.1 y0.2.1) (B := fun x y => decide (x < y)) (fun x y => rfl)
  have hi : impl_GreatestOf a n = (impl_byLength a n fun y0 => impl_GreatestOf_1 y0.1 y0.2.1).bind fun r => some (r.1, r.2) := by
    obtain ⟨x, S, F, l⟩ := a
    simp only [impl_GreatestOf, tk_all]
  have hi2 : impl_LeastOf a n = (impl_byLength a n fun y0 => impl_LeastOf_1 y0.1 y0.2.1).bind fun r => some (r.1, r.2) := by
    obtain ⟨x, S, F, l⟩ := a
    simp only [impl_LeastOf, tk_all]
  have hq : ¬ (autOk a && shortN n) = true := by rw [hh]; simp
  constructor
  · rw [hi, hb.1, if_neg hq]
    rfl
  · rw [hi2, hb2.1, if_neg hq]
    rfl
end
section
variable {m : Nat} (h4 : m ≤ 4) {S F : List Int} (l : List Stp) (hS : ∀ q ∈ S, 0 ≤ q ∧ q ≤ (m : Int) - 1) (hF : ∀ q ∈ F, 0 ≤ q ∧ q ≤ (m : Int) - 1) (lS : S.length ≤ 1048576) (lF : F.length ≤ 1048576) {P : List Int} (hP : Rng P (m * m)) (n : Int) (M Z : List Int) (W : List ByteArray) (C : List Int) (u v : Int) (kk : Int)
include h4 hF lF hP
theorem ends_in {i : Int} (hi : 0 ≤ i ∧ i ≤ (m : Int) - 1) (c0 : Int) (hc0 : 0 ≤ c0 ∧ c0 ≤ Nv) (x y : Int) : ∃ r, loopF laws_FnGreatest_l34 (((m : Int), S, F, l, ()), n, M, Z, W, ((m : Int), C, ()), kk, ((m : Int), P, ()), c0, i, u, v, S, x, y, F, ((F.length : Nat) : Int), (0 : Int), ()) = some (((m : Int), S, F, l, ()), n, M, Z, W, ((m : Int), C, ()), kk, ((m : Int), P, ()), r, u, v, S, x, y, ()) ∧
    (0 ≤ r ∧ r ≤ Nv) ∧ ∀ z, z ≤ r ↔ z ≤ c0 ∧ ∀ j ∈ F, z ≤ P.getD (i.toNat * m + j.toNat) 0 := by
  obtain ⟨r, g1, g2⟩ := loop_rel (f := laws_FnGreatest_l34) F.length (fun j (c : Int) => (((m : Int), S, F, l, ()), n, M, Z, W, ((m : Int), C, ()), kk, ((m : Int), P, ()), c, i, u, v, S, x, y, F, ((F.length : Nat) : Int), (j : Int), ())) (fun c => (((m : Int), S, F, l, ()), n, M, Z, W, ((m : Int), C, ()), kk, ((m : Int), P, ()), c, u, v, S, x, y, ()))
    (fun t c => (0 ≤ c ∧ c ≤ Nv) ∧ ∀ z, z ≤ c ↔ z ≤ c0 ∧ ∀ j ∈ F.take t, z ≤ P.getD (i.toNat * m + j.toNat) 0)
    (fun t c ht hc => by
      have e : F.getD t 0 = F[t] := getD_at0 0 ht
      have hk := hF _ (List.getElem_mem ht)
      rw [← e] at hk
      have hidx := idx_lt (n := m) (i := i.toNat) (k := (F.getD t 0).toNat) (by omega) (by omega)
      have hat := hP.at hidx
      have w1 : IntKind.wrap .i64 (IntKind.wrap .i64 (i * (m : Int)) + F.getD t 0) = ((i.toNat * m + (F.getD t 0).toNat : Nat) : Int) := by
        have := mulw (i := i.toNat) (n := m) (l := (F.getD t 0).toNat) (by have := sq_le h4; omega)
        rw [show ((i.toNat : Nat) : Int) = i by omega, show (((F.getD t 0).toNat : Nat) : Int) = F.getD t 0 by omega] at this
        exact this
      refine ⟨if P.getD (i.toNat * m + (F.getD t 0).toNat) 0 < c then P.getD (i.toNat * m + (F.getD t 0).toNat) 0 else c, ?_, ?_, fun z => ?_⟩
      · simp only [laws_FnGreatest_l34, lt_t ht, cond_true, if_pos (in_t ht), Int.toNat_natCast, w1, Nat.zero_add, tk_id, w64_succ ht (show F.length ≤ 9223372036854775807 by omega)]
        rw [if_pos ⟨by omega, by rw [hP.1]; omega⟩]
      · have := hc.1
        split <;> omega
      · rw [min_is, hc.2 z, take_snoc ht, ← e]
        constructor
        · rintro ⟨⟨g1, g2⟩, g3⟩
          refine ⟨g1, fun j hj => ?_⟩
          rcases List.mem_append.1 hj with hj | hj
          · exact g2 j hj
          · rw [List.mem_singleton.1 hj]; exact g3
        · rintro ⟨g1, g2⟩
          exact ⟨⟨g1, fun j hj => g2 j (List.mem_append_left _ hj)⟩, g2 _ (List.mem_append_right _ (List.mem_singleton.2 rfl))⟩)
    (fun c _ => by simp only [laws_FnGreatest_l34, lt_f, cond_false, tk_id])
    c0 ⟨hc0, fun z => ⟨fun h => ⟨h, fun j hj => by cases hj⟩, fun h => h.1⟩⟩
  rw [List.take_length] at g2
  exact ⟨r, g1, g2⟩
include hS lS
theorem ends_is : ∃ r, loopF laws_FnGreatest_l31 (((m : Int), S, F, l, ()), n, M, Z, W, ((m : Int), C, ()), kk, ((m : Int), P, ()), (1000000 : Int), u, v, S, ((S.length : Nat) : Int), (0 : Int), ()) = some (((m : Int), S, F, l, ()), n, M, Z, W, ((m : Int), C, ()), kk, r, u, v, ()) ∧
    (0 ≤ r ∧ r ≤ Nv) ∧ ∀ z, z ≤ r ↔ z ≤ Nv ∧ ∀ i ∈ S, ∀ j ∈ F, z ≤ P.getD (i.toNat * m + j.toNat) 0 := by
  obtain ⟨r, g1, g2⟩ := loop_rel (f := laws_FnGreatest_l31) S.length (fun t (c : Int) => (((m : Int), S, F, l, ()), n, M, Z, W, ((m : Int), C, ()), kk, ((m : Int), P, ()), c, u, v, S, ((S.length : Nat) : Int), (t : Int), ())) (fun c => (((m : Int), S, F, l, ()), n, M, Z, W, ((m : Int), C, ()), kk, c, u, v, ()))
    (fun t c => (0 ≤ c ∧ c ≤ Nv) ∧ ∀ z, z ≤ c ↔ z ≤ Nv ∧ ∀ i ∈ S.take t, ∀ j ∈ F, z ≤ P.getD (i.toNat * m + j.toNat) 0)
    (fun t c ht hc => by
      have e : S.getD t 0 = S[t] := getD_at0 0 ht
      have hi := hS _ (List.getElem_mem ht)
      rw [← e] at hi
      obtain ⟨r, r1, r2, r3⟩ := ends_in h4 l hF lF hP n M Z W C u v kk hi c hc.1 ((S.length : Nat) : Int) (t : Int)
      refine ⟨r, ?_, r2, fun z => ?_⟩
      · simp only [laws_FnGreatest_l31, lt_t ht, cond_true, if_pos (in_t ht), Int.toNat_natCast, tk_id]
        rw [r1]
        simp only [Option.bind_some, tk_id, w64_succ ht (show S.length ≤ 9223372036854775807 by omega)]
      · rw [r3 z, hc.2 z, take_snoc ht, ← e]
        constructor
        · rintro ⟨⟨g1, g2⟩, g3⟩
          refine ⟨g1, fun i hi => ?_⟩
          rcases List.mem_append.1 hi with hi | hi
          · exact g2 i hi
          · rw [List.mem_singleton.1 hi]; exact g3
        · rintro ⟨g1, g2⟩
          exact ⟨⟨g1, fun i hi => g2 i (List.mem_append_left _ hi)⟩, g2 _ (List.mem_append_right _ (List.mem_singleton.2 rfl))⟩)
    (fun c _ => by simp only [laws_FnGreatest_l31, lt_f, cond_false, tk_id])
    1000000 ⟨by simp only [Nv]; omega, fun z => ⟨fun h => ⟨h, fun i hi => by cases hi⟩, fun h => h.1⟩⟩
  rw [List.take_length] at g2
  exact ⟨r, g1, g2⟩
end
end Go.Proofs.Ytooigaliccnldaa
