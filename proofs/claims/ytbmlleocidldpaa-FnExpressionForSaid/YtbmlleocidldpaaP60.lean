/- The law of an element's expression. -/
import Derived.Test.YtbmlleocidldpaaP59
set_option linter.unusedVariables false
set_option linter.unusedSimpArgs false
namespace Go.Proofs.Ytbmlleocidldpaa
open Go Go.Proofs.Ytbmlleocidldpaa.Am
theorem daSelf_is {l : List Int} (hl : l.length ≤ 9223372036854775807) : laws_daSame l l = some true := by
  obtain ⟨r, g1, g2⟩ := loop_inv (f := laws_daSame_l2) (α := Unit) l.length (fun i _ => (l, l, ((l.length : Nat) : Int), (i : Int), ())) (fun _ _ => ()) (fun _ => .inr (l, l, ())) (fun _ _ => True) (fun _ _ _ _ => trivial)
    (fun i _ hi _ => by simp only [laws_daSame_l2, lt_t hi, cond_true, if_pos (in_t hi), bne_self_eq_false, cond_false, w64_succ hi hl])
    (fun _ _ => by simp only [laws_daSame_l2, lt_f, cond_false]) () trivial
  have g1 : loopF laws_daSame_l2 (l, l, ((l.length : Nat) : Int), (0 : Int), ()) = some (.inr (l, l, ())) := g1
  unfold laws_daSame
  rw [if_neg (by omega), g1]
  simp only [Option.bind_some, BEq.rfl]
theorem equal_any {a b : List Int} (hl : a.length ≤ 1000000) : slices_Equal a b = some (decide (a = b)) := by
  by_cases h : a.length = b.length
  · exact equal_is h hl
  · have h1 : (((a.length : Nat) : Int) != ((b.length : Nat) : Int)) = true := by
      rw [bne_iff_ne]
      omega
    simp only [slices_Equal, h1, cond_true]
    rw [decide_eq_false (fun e => h (by rw [e]))]
theorem sameM_any {n : Nat} {A : List Int} (hA : A.length ≤ 1000000) (m : Int) (C : List Int) : impl_SameMatrix ((n : Int), A) (m, C) = some (decide ((n : Int) = m ∧ A = C)) := by
  unfold impl_SameMatrix
  dsimp only
  by_cases h : (n : Int) = m
  · subst h
    rw [BEq.rfl, cond_true, equal_any hA]
    simp
  · have : ((n : Int) == m) = false := by simpa using h
    rw [this, cond_false]
    simp [h]
theorem sameM_spec {n : Nat} {A : List Int} (hA : A.length ≤ 1000000) (m : Int) (C : List Int) (hC : (n : Int) = m → A.length = C.length) : spec_SameMatrix ((n : Int), A) (m, C) = some (decide ((n : Int) = m ∧ A = C)) := by
  unfold spec_SameMatrix
  dsimp only
  by_cases h : (n : Int) = m
  · have hl := hC h
    subst h
    rw [BEq.rfl, cond_true, same_is hl hA]
    simp
  · have : ((n : Int) == m) = false := by simpa using h
    rw [this, cond_false]
    simp [h]
def isM (n : Nat) (m : Int) (C : List Int) (e : Elt) : Bool := decide ((n : Int) = m ∧ e.1.2 = C)
theorem exprFor_impl {a : Aut} {n : Nat} {L : List Elt} {ok : Bool} (hE : impl_ElementsOf a = some (L, ok)) (hL : LOk n L) (h4 : n ≤ 4) (m : Int) (C : List Int) : impl_ExpressionFor a (m, C) = some (firstOf L (isM n m C)) := by
  have hlen := hL.len
  have hsq := sq_le h4
  have g := loop_find (f := impl_ExpressionFor_l3) (fun i => ((m, C, ()), L, (L.length : Int), (i : Int), ())) L.length (fun i => isM n m C (L.getD i el0)) (fun i => Sum.inl ((L.getD i el0).2, true, ())) (Sum.inr ())
    (fun i hi => by
      obtain ⟨h1, h2, h3⟩ := hL.at hi
      have hp : impl_SameMatrix ((L.getD i el0).1.1, (L.getD i el0).1.2) (m, C) = some (isM n m C (L.getD i el0)) := by
        rw [h1, sameM_any (by rw [h2.1]; omega)]
        rfl
      simp only [impl_ExpressionFor_l3, lt_t hi, cond_true, if_pos (in_t hi), Int.toNat_natCast, Nat.zero_add, hp, Option.bind_some, List.drop_zero, List.take_length, w64_succ hi (show L.length ≤ 9223372036854775807 by omega)]
      cases isM n m C (L.getD i el0) <;> rfl)
    (by simp only [impl_ExpressionFor_l3, lt_f, cond_false])
  have g : loopF impl_ExpressionFor_l3 ((m, C, ()), L, (L.length : Int), (0 : Int), ()) = _ := g
  obtain ⟨x, S, F, l⟩ := a
  simp only [impl_ExpressionFor, hE, Option.bind_some, List.drop_zero, List.take_length]
  rw [g]
  unfold firstOf
  cases (List.range L.length).find? fun i => isM n m C (L.getD i el0) <;> rfl
theorem exprFor_spec {a : Aut} {n : Nat} {L : List Elt} {ok : Bool} (hE : spec_ElementsOf a = some (L, ok)) (hL : LOk n L) (h4 : n ≤ 4) (m : Int) (C : List Int) (hC : L ≠ [] → (n : Int) = m → C.length = n * n) : spec_ExpressionFor a (m, C) = some (firstOf L (isM n m C)) := by
  have hlen := hL.len
  have hsq := sq_le h4
  have g := loop_find (f := spec_ExpressionFor_l3) (fun i => ((m, C, ()), L, (L.length : Int), (i : Int), ())) L.length (fun i => isM n m C (L.getD i el0)) (fun i => Sum.inl ((L.getD i el0).2, true, ())) (Sum.inr ())
    (fun i hi => by
      obtain ⟨h1, h2, h3⟩ := hL.at hi
      have hp : spec_SameMatrix ((L.getD i el0).1.1, (L.getD i el0).1.2) (m, C) = some (isM n m C (L.getD i el0)) := by
        rw [h1, sameM_spec (by rw [h2.1]; omega) m C (fun e => by rw [h2.1, hC (by intro h0; rw [h0] at hi; simp at hi) e])]
        rfl
      simp only [spec_ExpressionFor_l3, lt_t hi, cond_true, if_pos (in_t hi), Int.toNat_natCast, Nat.zero_add, hp, Option.bind_some, List.drop_zero, List.take_length, w64_succ hi (show L.length ≤ 9223372036854775807 by omega)]
      cases isM n m C (L.getD i el0) <;> rfl)
    (by simp only [spec_ExpressionFor_l3, lt_f, cond_false])
  have g : loopF spec_ExpressionFor_l3 ((m, C, ()), L, (L.length : Int), (0 : Int), ()) = _ := g
  obtain ⟨x, S, F, l⟩ := a
  simp only [spec_ExpressionFor, hE, Option.bind_some, List.drop_zero, List.take_length]
  rw [g]
  unfold firstOf
  cases (List.range L.length).find? fun i => isM n m C (L.getD i el0) <;> rfl
/-- the elements and what is told of them, for any automaton -/
theorem elements_any {a : Aut} (hs : Small a) : ∃ (n : Nat) (L : List Elt) (ok : Bool), n ≤ 4 ∧ LOk n L ∧ spec_ElementsOf a = some (L, ok) ∧ impl_ElementsOf a = some (L, ok) ∧ (ok = false → L = []) ∧ (ok = true → L ≠ []) ∧
    (L ≠ [] → autOk a = true ∧ AutIs a n ∧ XOk (VX n a.2.2.2) L ∧ Closed n a.2.2.2 (fun A => has L A = true)) := by
  cases hv : autOk a with
  | false =>
    obtain ⟨e1, e2⟩ := elements_not hv hs
    exact ⟨1, [], false, by omega, LOk.nil 1, e1, e2, fun _ => rfl, fun h => (by cases h), fun h => absurd rfl h⟩
  | true =>
    obtain ⟨n, ha⟩ := autOk_is hv
    obtain ⟨L, ok, hL, e1, e2, e0, eO, eV⟩ := elements_values ha hv hs
    have hc : ok = true → Closed n a.2.2.2 (fun A => has L A = true) := by
      rintro rfl
      exact elements_closed ha eO
    refine ⟨n, L, ok, ha.n4, hL, e1, e2, e0, fun h hn => ?_, fun hn => ⟨rfl, ha, eV, hc ?_⟩⟩
    · obtain ⟨e, he, _⟩ := has_iff.1 (hc h).la
      rw [hn] at he
      cases he
    · cases ok with
      | true => rfl
      | false => exact absurd (e0 rfl) hn
theorem drawExpr_is {c : List Int} (hc : ∀ x ∈ c, 0 ≤ x ∧ x ≤ 255) : ∃ a m C, spec_DrawExpressionFor c = some (a, (m, C)) ∧ Small a ∧ ∀ n : Nat, AutIs a n → C.length = n * n := by
  obtain ⟨⟨b, k⟩, p0, s0⟩ := l13Open_is hc
  obtain ⟨a, ⟨b1, k1⟩, p1, t1, s1⟩ := l8Draw_is s0 (by omega)
  have hs := t1.small
  obtain ⟨n, L, ok, h4, hL, e1, e2, e0, eN, eA⟩ := elements_any hs
  obtain ⟨q, hq, hq4, hqa⟩ : ∃ q : Nat, (if (1 : Int) > (if (4 : Int) < a.1 then (4 : Int) else a.1) then (1 : Int) else (if (4 : Int) < a.1 then (4 : Int) else a.1)) = (q : Int) ∧ q ≤ 4 ∧ ∀ n' : Nat, AutIs a n' → q = n' := by
    by_cases g1 : (4 : Int) < a.1
    · refine ⟨4, ?_, by omega, fun n' ha => ?_⟩
      · rw [if_pos g1, if_neg (by omega)]
        rfl
      · have := ha.st
        have := ha.n4
        omega
    · by_cases g2 : (1 : Int) > a.1
      · refine ⟨1, ?_, by omega, fun n' ha => ?_⟩
        · rw [if_neg g1, if_pos g2]
          rfl
        · have := ha.st
          have := ha.n1
          omega
      · refine ⟨a.1.toNat, ?_, by omega, fun n' ha => ?_⟩
        · rw [if_neg g1, if_neg g2]
          omega
        · have := ha.st
          omega
  obtain ⟨x, S, F, l⟩ := a
  have hq : (if (1 : Int) > (if (4 : Int) < x then (4 : Int) else x) then (1 : Int) else (if (4 : Int) < x then (4 : Int) else x)) = (q : Int) := hq
  have fin : ∀ {M : Int} {d : Dr}, DrOk M d → M ≤ 80000 → ∃ C d', spec_l6Draw d (q : Int) = some (((q : Int), C), d', ()) ∧ ∀ n' : Nat, AutIs (x, S, F, l) n' → C.length = n' * n' := by
    intro M d h hM
    obtain ⟨C, d', g1, g2, _⟩ := l6Draw_is h hM hq4
    exact ⟨C, d', g1, fun n' ha => by rw [g2, hqa n' ha]⟩
  cases ok with
  | false =>
    obtain ⟨C, ⟨b2, k2⟩, g1, g2⟩ := fin s1 (by omega)
    refine ⟨(x, S, F, l), (q : Int), C, ?_, hs, g2⟩
    unfold spec_DrawExpressionFor
    rw [p0]
    simp only [Option.bind_some]
    rw [p1]
    simp only [Option.bind_some]
    rw [e1]
    simp only [Option.bind_some, cond_false]
    rw [hq, g1]
    simp only [Option.bind_some, tk_id]
  | true =>
    obtain ⟨r10, u0, u1, _, _⟩ := pick_is s1 (by omega) (n := 4) (by omega)
    have s2 : DrOk (0 + 5600 + 1) (b1, k1 + 1) := s1.next
    have hlen := hL.len
    have hne := eN rfl
    have hpos : 0 < L.length := List.length_pos_iff.2 hne
    by_cases h10 : r10 > 0
    · obtain ⟨r13, v0, v1, v2, _⟩ := pick_is s2 (by omega) (n := ((L.length : Nat) : Int)) (by omega)
      have v2 := v2 (by omega)
      obtain ⟨w1, w2, w3⟩ := hL.at (i := r13.toNat) (by omega)
      refine ⟨(x, S, F, l), (L.getD r13.toNat el0).1.1, (L.getD r13.toNat el0).1.2, ?_, hs, fun n' ha => ?_⟩
      · unfold spec_DrawExpressionFor
        rw [p0]
        simp only [Option.bind_some]
        rw [p1]
        simp only [Option.bind_some]
        rw [e1]
        simp only [Option.bind_some, cond_true]
        rw [u0]
        simp only [Option.bind_some]
        rw [decide_eq_true h10, cond_true, v0]
        simp only [Option.bind_some]
        rw [if_pos (by omega), Nat.zero_add]
      · obtain ⟨_, ha2, _⟩ := eA hne
        have h1 := ha.st
        have h2 := ha2.st
        obtain rfl : n = n' := by omega
        exact w2.1
    · obtain ⟨C, ⟨b2, k2⟩, g1, g2⟩ := fin s2 (by omega)
      refine ⟨(x, S, F, l), (q : Int), C, ?_, hs, g2⟩
      unfold spec_DrawExpressionFor
      rw [p0]
      simp only [Option.bind_some]
      rw [p1]
      simp only [Option.bind_some]
      rw [e1]
      simp only [Option.bind_some, cond_true]
      rw [u0]
      simp only [Option.bind_some]
      rw [decide_eq_false h10, cond_false, hq, g1]
      simp only [Option.bind_some, tk_id]
/-- where the first element that is the matrix has an expression, it is the value -/
theorem isM_first {L : List Elt} {n : Nat} {m : Int} {C : List Int} {e : ByteArray} (h : firstOf L (isM n m C) = (e, true)) : ∃ x ∈ L, x.2 = e ∧ m = (n : Int) ∧ x.1.2 = C := by
  obtain ⟨x, hx, hp, rfl⟩ := firstOf_some h
  have hp := of_decide_eq_true hp
  exact ⟨x, hx, rfl, hp.1.symm, hp.2⟩
theorem firstOf_no {L : List Elt} {p : Elt → Bool} (h : (firstOf L p).2 = false) : firstOf L p = ((⟨#[]⟩ : ByteArray), false) := by
  unfold firstOf at h ⊢
  cases hf : (List.range L.length).find? fun i => p (L.getD i el0) with
  | none => rfl
  | some i => rw [hf] at h; cases h
theorem p_FnExpressionFor (x0 x1 : List Int) (f0 : Fits (.sl (.int .u8)) x0) (f1 : Fits (.sl (.int .u8)) x1) : laws_FnExpressionFor x0 x1 = some true := by
  unfold laws_FnExpressionFor
  by_cases hx : ((x0.length : Nat) : Int) > 1048576
  · rw [decide_eq_true hx, cond_true]
  by_cases hy : ((x1.length : Nat) : Int) > 1048576
  · rw [decide_eq_false hx, cond_false, decide_eq_true hy, cond_true]
  rw [decide_eq_false hx, cond_false, decide_eq_false hy, cond_false]
  obtain ⟨a, m, C, d1, hs, hC⟩ := drawExpr_is (bytes_of f0)
  obtain ⟨n, L, ok, h4, hL, e1, e2, e0, eN, eA⟩ := elements_any hs
  have i1 := exprFor_impl e2 hL h4 m C
  have i2 := exprFor_spec e1 hL h4 m C (fun hne _ => hC n (eA hne).2.1)
  obtain ⟨s, d2, hs65⟩ := drawBoundOf_is (bytes_of f1)
  rcases hf : firstOf L (isM n m C) with ⟨e, b⟩
  rw [hf] at i1 i2
  cases b with
  | false =>
    have he := firstOf_no (L := L) (p := isM n m C) (by rw [hf])
    rw [hf] at he
    obtain ⟨rfl, _⟩ := Prod.mk.inj he
    obtain ⟨x, S, F, l⟩ := a
    rw [d1]
    simp only [Option.bind_some]
    rw [i1, i2]
    simp only [Option.bind_some, BEq.rfl, Bool.not_true, cond_false, Bool.not_false, cond_true]
  | true =>
    obtain ⟨z, hz, rfl, rfl, rfl⟩ := isM_first hf
    have hne : L ≠ [] := by rintro rfl; cases hz
    obtain ⟨hv, ha, hV, hcl⟩ := eA hne
    have hg : ∀ A, has L A = true → GOk n A := by
      intro A hA
      obtain ⟨y, hy, rfl⟩ := has_iff.1 hA
      exact (hL.el y hy).2.1
    have hval := value_of_element ha hv hs (hV z hz) (hL.el z hz).2.2
    obtain ⟨m2, A2, b2, hval2, hb2⟩ := valueOf_any ha hv hs hcl hg s
    have i3 := exprFor_impl e2 hL h4 m2 A2
    rcases hf2 : firstOf L (isM n m2 A2) with ⟨e3, b3⟩
    rw [hf2] at i3
    have hsq := sq_le h4
    have hzl : z.1.2.length ≤ 9223372036854775807 := by rw [(hL.el z hz).2.1.1]; omega
    have hda : ∀ {A : List Int}, A.length ≤ 9223372036854775807 → laws_daMatrix ((n : Int), A) ((n : Int), A) = some true := by
      intro A hA
      simp only [laws_daMatrix, BEq.rfl, cond_true, daSelf_is hA, Option.bind_some]
    have last : ∃ m4 A4 b4, impl_ValueOf a e3 = some ((m4, A4), b4) ∧ (b2 = true → b3 = true ∧ m4 = m2 ∧ A4 = A2 ∧ m2 = (n : Int) ∧ A2.length ≤ 9223372036854775807) := by
      cases b2 with
      | false =>
        obtain ⟨m4, A4, b4, h5, _⟩ := valueOf_any ha hv hs hcl hg e3
        exact ⟨m4, A4, b4, h5, fun h => by cases h⟩
      | true =>
        obtain ⟨rfl, hA2⟩ := hb2 rfl
        obtain ⟨y, hy, hyA⟩ := has_iff.1 hA2
        have hh := firstOf_has (p := isM n (n : Int) A2) hy (decide_eq_true ⟨rfl, hyA⟩)
        rw [hf2] at hh
        have hh : b3 = true := hh
        subst hh
        obtain ⟨y2, hy2, rfl, _, hy2A⟩ := isM_first hf2
        have h6 := value_of_element ha hv hs (hV y2 hy2) (hL.el y2 hy2).2.2
        rw [hy2A] at h6
        exact ⟨_, _, _, h6, fun _ => ⟨rfl, rfl, rfl, rfl, by rw [(hg A2 hA2).1]; omega⟩⟩
    obtain ⟨m4, A4, b4, h5, h6⟩ := last
    obtain ⟨x, S, F, l⟩ := a
    rw [d1]
    simp only [Option.bind_some]
    rw [i1, i2]
    simp only [Option.bind_some, BEq.rfl, Bool.not_true, cond_false]
    rw [hval]
    simp only [Option.bind_some]
    rw [d2]
    simp only [Option.bind_some]
    rw [hval2]
    simp only [Option.bind_some, tk_id]
    rw [i3]
    simp only [Option.bind_some]
    rw [h5]
    simp only [Option.bind_some, cond_true, tk_id]
    rw [hda hzl]
    simp only [Option.bind_some, cond_true]
    cases b2 with
    | false => simp only [Bool.not_false, cond_true]
    | true =>
      obtain ⟨rfl, rfl, rfl, rfl, h7⟩ := h6 rfl
      simp only [Bool.not_true, cond_false, cond_true]
      rw [hda h7]
      rfl
end Go.Proofs.Ytbmlleocidldpaa
