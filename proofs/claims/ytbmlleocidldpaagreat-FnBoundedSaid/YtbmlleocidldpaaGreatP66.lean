/- The law of bounded costs. -/
import Derived.Test.YtbmlleocidldpaaGreatP39
import Derived.Test.YtbmlleocidldpaaGreatP60
import Derived.Test.YtbmlleocidldpaaGreatP64
set_option linter.unusedVariables false
set_option linter.unusedSimpArgs false
namespace Go.Proofs.YtbmlleocidldpaaGreat
open Go Go.Proofs.YtbmlleocidldpaaGreat.Am
/-! ### the bound that is told -/
theorem some_over {a : Aut} (hs : Small a) : impl_SomeOf a = some (-1) ∨ ∃ (n : Nat) (L : List Elt) (r : Int), autOk a = true ∧ AutIs a n ∧ LOk n L ∧ impl_ElementsOf a = some (L, true) ∧ impl_SomeOf a = some r ∧
  ∀ e ∈ L, btw n e.1.2 a.2.1 a.2.2.1 = 1 → ∃ v, impl_BoundOf e.2 = some v ∧ v ≤ r := by
 cases hv : autOk a with
 | false =>
  obtain ⟨e1, e2⟩ := elements_not hv hs
  obtain ⟨x, S, F, l⟩ := a
  left
  simp only [impl_SomeOf, e2, Option.bind_some, Bool.not_false, cond_true]
 | true =>
  obtain ⟨n, ha⟩ := autOk_is hv
  obtain ⟨L, ok, hL, e1, e2, e0, eX, _⟩ := elements_full ha hv hs
  have hX : XOk (fun _ s => IsEx s) L := eX _ (isEx_clo n) isEx_la isEx_lb
  have ha' := ha
  obtain ⟨x, S, F, l⟩ := a
  have hx : x = (n : Int) := ha.st
  subst hx
  have hlen := hL.len
  cases ok with
  | false =>
   left
   simp only [impl_SomeOf, e2, Option.bind_some, Bool.not_false, cond_true]
  | true =>
   have hb : ∀ i, i < L.length → (L.getD i el0).1.1 = (n : Int) ∧ GOk n (L.getD i el0).1.2 ∧ impl_BoundOf (L.getD i el0).2 = some (bv (L.getD i el0).2) := by
    intro i hi
    have hat := hL.at hi
    have hm : L.getD i el0 ∈ L := by rw [getD_get el0 hi]; exact List.getElem_mem hi
    exact ⟨hat.1, hat.2.1, (boundOf_bv (hX _ hm) hat.2.2).1⟩
   obtain ⟨r', k1, k2⟩ := loop_inv (f := impl_SomeOf_l6) L.length (fun i (m : Int) => (((n : Int), S, F, l, ()), m, L, (L.length : Int), (i : Int), ())) (fun i m => bif btw n (L.getD i el0).1.2 S F == 1 then (if bv (L.getD i el0).2 > m then bv (L.getD i el0).2 else m) else m) (fun m => (m, ()))
    (fun i m => ∀ j, j < i → btw n (L.getD j el0).1.2 S F = 1 → bv (L.getD j el0).2 ≤ m)
    (fun i m hi hm j hj hbj => by
     have hge : m ≤ (bif btw n (L.getD i el0).1.2 S F == 1 then (if bv (L.getD i el0).2 > m then bv (L.getD i el0).2 else m) else m) := by
      cases btw n (L.getD i el0).1.2 S F == 1 with
      | true =>
       show m ≤ if bv (L.getD i el0).2 > m then bv (L.getD i el0).2 else m
       split <;> omega
      | false => exact Int.le_refl _
     by_cases hji : j < i
     ·exact Int.le_trans (hm j hji hbj) hge
     ·obtain rfl : j = i := by omega
      rw [hbj]
      show bv (L.getD j el0).2 ≤ if bv (L.getD j el0).2 > m then bv (L.getD j el0).2 else m
      split <;> omega)
    (fun i m hi _ => by
     obtain ⟨h1, h2, h3⟩ := hb i hi
     have hbt := impl_between ha.n1 ha.n4 l ha.S ha.F hs.1 hs.2.1 h2 hv
     simp only [impl_SomeOf_l6, lt_t hi, cond_true, if_pos (in_t hi), Int.toNat_natCast, Nat.zero_add, h1, hbt, Option.bind_some, h3, List.drop_zero, List.take_length, w64_succ hi (show L.length ≤ 9223372036854775807 by omega)]
     show _ = some (Sum.inl (((n : Int), S, F, l, ()), (bif btw n (L.getD i el0).1.2 S F == 1 then (if bv (L.getD i el0).2 > m then bv (L.getD i el0).2 else m) else m), L, (L.length : Int), ((i + 1 : Nat) : Int), ()))
     cases btw n (L.getD i el0).1.2 S F == 1 <;> rfl)
    (fun m _ => by simp only [impl_SomeOf_l6, lt_f, cond_false])
    0 (fun j hj => absurd hj (by omega))
   have k1 : loopF impl_SomeOf_l6 (((n : Int), S, F, l, ()), (0 : Int), L, (L.length : Int), (0 : Int), ()) = _ := k1
   right
   refine ⟨n, L, r', rfl, ha', hL, e2, ?_, ?_⟩
   ·simp only [impl_SomeOf, e2, Option.bind_some, Bool.not_true, cond_false, List.drop_zero, List.take_length, k1]
   ·intro e he hbe
    obtain ⟨i, hi, rfl⟩ := List.getElem_of_mem he
    have h3 := (hb i hi).2.2
    rw [getD_get el0 hi] at h3
    refine ⟨_, h3, ?_⟩
    have := k2 i hi (by rw [getD_get el0 hi]; exact hbe)
    rwa [getD_get el0 hi] at this
/-! ### where steps cost nothing -/
def Z (A : List Int) : Prop := ∀ x ∈ A, x = 0 ∨ x = 3
theorem Z.at {A : List Int} (h : Z A) (i : Nat) : A.getD i 0 = 0 ∨ A.getD i 0 = 3 := by
 by_cases hi : i < A.length
 ·rw [getD_get 0 hi]
  exact h _ (List.getElem_mem hi)
 ·left
  rw [List.getD_eq_getElem?_getD, List.getElem?_eq_none (by omega)]
  rfl
theorem z_mn {x y : Int} (h : x = 0 ∨ x = 3) (k : y = 0 ∨ y = 3) : mn x y = 0 ∨ mn x y = 3 := by unfold mn; split <;> assumption
theorem z_mx {x y : Int} (h : x = 0 ∨ x = 3) (k : y = 0 ∨ y = 3) : mx x y = 0 ∨ mx x y = 3 := by unfold mx; split <;> assumption
theorem z_ag {x : Int} (h : x = 0 ∨ x = 3) : ag x = 0 ∨ ag x = 3 := by
 unfold ag
 rcases h with rfl | rfl <;> simp
theorem z_mk {n : Nat} {c : Nat → Nat → Int} (h : ∀ i k, c i k = 0 ∨ c i k = 3) : Z (mk n c) := by
 intro x hx
 unfold mk at hx
 obtain ⟨m, _, rfl⟩ := List.mem_map.1 hx
 exact h _ _
theorem z_gc {n : Nat} {A C : List Int} (hA : Z A) (hC : Z C) (i k : Nat) : ∀ l, gcN n A C i k l = 0 ∨ gcN n A C i k l = 3
 | 0 => .inr rfl
 | l + 1 => z_mn (z_gc hA hC i k l) (z_mx (hA.at _) (hC.at _))
theorem z_gs {n : Nat} {A : List Int} (hA : Z A) (i k : Nat) : ∀ l, gsN n A i k l = 0 ∨ gsN n A i k l = 3
 | 0 => .inr rfl
 | l + 1 => z_mn (z_gs hA i k l) (z_mx (z_mx (hA.at _) (z_ag (hA.at _))) (hA.at _))
theorem z_clo (n : Nat) : Clo n (fun A _ => Z A) := by
 refine ⟨?_, ?_⟩
 ·intro A s C t hA hC
  exact z_mk fun i k => z_gc hA hC i k n
 ·intro A s hA _
  exact z_mk fun i k => z_gs hA i k n
theorem z_put {c : ByteArray} {n : Nat} {l : List Stp} (hl : ∀ s ∈ l, s.2.2.2 = 0) : ∀ i, i ≤ l.length → ∀ x ∈ putSteps c n l i, x = 0 ∨ x = 1000000
 | 0, _, x, hx => by
  unfold putSteps at hx
  have := (List.mem_replicate.1 hx).2
  exact .inr this
 | i + 1, hi, x, hx => by
  have ih := z_put (c := c) (n := n) hl i (by omega)
  unfold putSteps putStep at hx
  cases hc : (l.getD i stp0).2.1.toList == c.toList with
  | false =>
   rw [hc, cond_false] at hx
   exact ih x hx
  | true =>
   rw [hc, cond_true] at hx
   rcases List.mem_or_eq_of_mem_set hx with h | h
   ·exact ih x h
   ·left
    rw [h]
    exact hl _ (by rw [getD_get stp0 (show i < l.length by omega)]; exact List.getElem_mem _)
theorem z_lett (c : ByteArray) (n : Nat) {l : List Stp} (hl : ∀ s ∈ l, s.2.2.2 = 0) : Z (lett c n l) := by
 intro x hx
 unfold lett at hx
 obtain ⟨y, hy, rfl⟩ := List.mem_map.1 hx
 unfold gr
 rcases z_put hl l.length (Nat.le_refl _) y hy with rfl | rfl <;> simp
theorem z_btwF {n : Nat} {A : List Int} (hA : Z A) (i : Int) : ∀ (F : List Int) (c : Int), (c = 0 ∨ c = 3) → btwF n A i F c = 0 ∨ btwF n A i F c = 3
 | [], c, h => h
 | k :: F, c, h => z_btwF hA i F _ (z_mn h (hA.at _))
theorem z_btw {n : Nat} {A : List Int} (hA : Z A) (F : List Int) : ∀ (S : List Int) (c : Int), (c = 0 ∨ c = 3) → S.foldl (fun c i => btwF n A i F c) c = 0 ∨ S.foldl (fun c i => btwF n A i F c) c = 3
 | [], c, h => h
 | i :: S, c, h => z_btw hA F S _ (z_btwF hA i F c h)
/-- what is told of bounds, by the elements -/
theorem bounded_is {a : Aut} {n : Nat} (ha : AutIs a n) (hv : autOk a = true) (hs : Small a) {L : List Elt} {ok : Bool} (hL : LOk n L) (e2 : impl_ElementsOf a = some (L, ok)) : impl_IsBounded a = some (ok && !(firstOf L (growP n a.2.1 a.2.2.1)).2, ok) := by
 have e3 := growingOf_is ha hv hs hL e2
 obtain ⟨x, S, F, l⟩ := a
 rcases hf : firstOf L (growP n S F) with ⟨t, b⟩
 have e3 : impl_GrowingOf (x, S, F, l) = some (firstOf L (growP n S F)) := e3
 rw [hf] at e3
 simp only [impl_IsBounded, e2, e3, Option.bind_some, hf]
 cases ok <;> simp
theorem free_bounded {a : Aut} (hs : Small a) (hv : autOk a = true) (hz : ∀ s ∈ a.2.2.2, s.2.2.2 = 0) : ∃ ok, impl_IsBounded a = some (ok, ok) := by
 obtain ⟨n, ha⟩ := autOk_is hv
 obtain ⟨L, ok, hL, e1, e2, e0, eX, _⟩ := elements_full ha hv hs
 have hX : XOk (fun A _ => Z A) L := eX _ (z_clo n) (z_lett la n hz) (z_lett lb n hz)
 have hb := bounded_is ha hv hs hL e2
 have hno : (firstOf L (growP n a.2.1 a.2.2.1)).2 = false := by
  rcases hf : firstOf L (growP n a.2.1 a.2.2.1) with ⟨t, b⟩
  cases b with
  | false => rfl
  | true =>
   exfalso
   obtain ⟨x, hx, hp, _⟩ := firstOf_some hf
   unfold growP at hp
   have hp : btw n x.1.2 a.2.1 a.2.2.1 = 2 := by simpa using hp
   have := z_btw (n := n) (hX x hx) a.2.2.1 a.2.1 3 (.inr rfl)
   unfold btw at hp
   omega
 rw [hno] at hb
 exact ⟨ok, by rw [hb]; simp⟩
theorem scale_impl {a : Aut} (hs : Small a) (hv : autOk a = true) : impl_ScaleAutomaton a 0 = some ((a.1, a.2.1, a.2.2.1, a.2.2.2.map zs), true) := by
 have hV := impl_AutomatonValid_is a (small_len hs).1 (small_len hs).2
 obtain ⟨x, S, F, l⟩ := a
 obtain ⟨h1, h2, h3⟩ := hs
 simp only at h1 h2 h3
 obtain ⟨q1, q2, q3, q4, q5⟩ := autOk_parts hv
 have hst := stepped_is (l := l) (by omega) (φ := fun y1 => impl_ScaleAutomaton_1 y1.1 0) (z := zs) (fun s => by
  obtain ⟨s1, s2, s3, s4⟩ := s
  simp only [impl_ScaleAutomaton_1, Int.mul_zero]
  rfl)
 have hm := made_is (x := x) (S := S) (F := F) (l := l.map zs) (m := l.map zs) q1 q2 (steps_srt (stepsOk_zs q4)) (List.Perm.refl _) h1 h2 (by rw [List.length_map]; omega)
 rw [if_pos q5] at hm
 unfold impl_ScaleAutomaton
 dsimp only
 rw [hV]
 simp only [Option.bind_some, hv, Bool.not_true, cond_false, decide_eq_false (show ¬ (0 : Int) < 0 by omega), decide_eq_false (show ¬ (0 : Int) > 3 by omega), hst, List.drop_zero, List.take_length, hm]
theorem drawSome_is {c : List Int} (hc : ∀ x ∈ c, 0 ≤ x ∧ x ≤ 255) : ∃ a, spec_DrawSomeOf c = some a ∧ Small a := by
 obtain ⟨⟨b, k⟩, p0, s0⟩ := l13Open_is hc
 obtain ⟨⟨x, S, F, l⟩, ⟨b1, k1⟩, p1, t1, s1⟩ := l8Draw_is s0 (by omega)
 refine ⟨(x, S, F, l), ?_, t1.small⟩
 unfold spec_DrawSomeOf
 rw [p0]
 simp only [Option.bind_some]
 rw [p1]
 rfl
theorem drawDepth_is {c : List Int} (hc : ∀ x ∈ c, 0 ≤ x ∧ x ≤ 255) : ∃ s, spec_DrawDepthOf c = some s := by
 obtain ⟨⟨b, k⟩, p0, s0⟩ := l13Open_is hc
 obtain ⟨s, ⟨b1, k1⟩, p1, p2, _⟩ := l7Text_is s0 (by omega)
 refine ⟨s, ?_⟩
 unfold spec_DrawDepthOf
 rw [p0]
 simp only [Option.bind_some]
 rw [p1]
 rfl
theorem p_FnBounded (x0 x1 : List Int) (f0 : Fits (.sl (.int .u8)) x0) (f1 : Fits (.sl (.int .u8)) x1) : laws_FnBounded x0 x1 = some true := by
 unfold laws_FnBounded
 by_cases hx : ((x0.length : Nat) : Int) > 1048576
 ·rw [decide_eq_true hx, cond_true]
 by_cases hy : ((x1.length : Nat) : Int) > 1048576
 ·rw [decide_eq_false hx, cond_false, decide_eq_true hy, cond_true]
 rw [decide_eq_false hx, cond_false, decide_eq_false hy, cond_false]
 obtain ⟨a, d1, hs⟩ := drawSome_is (bytes_of f0)
 obtain ⟨s, d2⟩ := drawDepth_is (bytes_of f1)
 obtain ⟨r0, v1, v2⟩ := some_same hs
 rw [d1]
 simp only [Option.bind_some]
 rcases some_over hs with h | ⟨n, L, r, hv, ha, hL, e2, h, hover⟩
 ·rw [h] at v2
  obtain rfl := Option.some.inj v2
  obtain ⟨x, S, F, l⟩ := a
  have h : impl_SomeOf (x, S, F, l) = some (-1) := h
  rw [h]
  simp only [Option.bind_some]
  rw [v1]
  simp only [Option.bind_some, bne_self_eq_false, cond_false, show decide ((-1 : Int) < 0) = true from rfl, cond_true, BEq.rfl]
 ·rw [h] at v2
  obtain rfl := Option.some.inj v2
  by_cases hr : r < 0
  ·obtain ⟨x, S, F, l⟩ := a
   rw [h]
   simp only [Option.bind_some]
   rw [v1]
   simp only [Option.bind_some, bne_self_eq_false, cond_false, decide_eq_true hr, cond_true, BEq.rfl]
  ·obtain ⟨n', L', ok', h4, hL', e1', e2', e0', eN', eA'⟩ := elements_any hs
   rw [e2] at e2'
   obtain ⟨rfl, rfl⟩ := Prod.mk.inj (Option.some.inj e2')
   obtain ⟨_, ha', hV, hcl⟩ := eA' (eN' rfl)
   obtain rfl : n = n' := by
    have g1 := ha.st
    have g2 := ha'.st
    omega
   have hg : ∀ A, has L A = true → GOk n A := by
    intro A hA
    obtain ⟨y, hy, rfl⟩ := has_iff.1 hA
    exact (hL.el y hy).2.1
   have hb := bounded_is ha hv hs hL e2
   have hsc := scale_impl hs hv
   have hfree := free_bounded (a := (a.1, a.2.1, a.2.2.1, a.2.2.2.map zs)) ⟨hs.1, hs.2.1, by show (a.2.2.2.map zs).length ≤ _; rw [List.length_map]; exact hs.2.2⟩ (by
    obtain ⟨x, S, F, l⟩ := a
    exact (autOk_parts hv).2.2.2.2) (by
    intro s hs
    obtain ⟨t, _, rfl⟩ := List.mem_map.1 hs
    rfl)
   obtain ⟨okf, hfree⟩ := hfree
   obtain ⟨m2, A2, b2, hval2, hb2⟩ := valueOf_any ha hv hs hcl hg s
   have hlen := hL.len
   obtain ⟨x, S, F, l⟩ := a
   have hx : x = (n : Int) := ha.st
   subst hx
   have hgrade : ∃ g, impl_GradeOf ((n : Int), S, F, l) s = some g ∧ (g = 2 → ∃ A, has L A = true ∧ btw n A S F = 2) := by
    cases b2 with
    | false =>
     refine ⟨-1, ?_, fun h => by omega⟩
     simp only [impl_GradeOf, hval2, Option.bind_some, Bool.not_false, cond_true]
    | true =>
     obtain ⟨rfl, hA⟩ := hb2 rfl
     have hbt := impl_between ha.n1 ha.n4 l ha.S ha.F hs.1 hs.2.1 (hg A2 hA) hv
     refine ⟨btw n A2 S F, ?_, fun h => ⟨A2, hA, h⟩⟩
     simp only [impl_GradeOf, hval2, Option.bind_some, Bool.not_true, cond_false, List.drop_zero, List.take_length, hbt]
   obtain ⟨g, hgr, hg2⟩ := hgrade
   have hloop : loopF laws_FnBounded_l14 (((n : Int), S, F, l, ()), r, true, L, ((L.length : Nat) : Int), (0 : Int), ()) = some (.inr (((n : Int), S, F, l, ()), true, ())) := by
    obtain ⟨q, g1, g2⟩ := loop_inv (f := laws_FnBounded_l14) (α := Unit) L.length (fun i _ => (((n : Int), S, F, l, ()), r, true, L, ((L.length : Nat) : Int), (i : Int), ())) (fun _ _ => ()) (fun _ => .inr (((n : Int), S, F, l, ()), true, ())) (fun _ _ => True) (fun _ _ _ _ => trivial)
     (fun i _ hi _ => by
      have hm : L.getD i el0 ∈ L := by rw [getD_get el0 hi]; exact List.getElem_mem hi
      obtain ⟨w1, w2, w3⟩ := hL.at hi
      have hve := value_of_element ha hv hs (hV _ hm) w3
      have hbt := impl_between ha.n1 ha.n4 l ha.S ha.F hs.1 hs.2.1 w2 hv
      have hge : impl_GradeOf ((n : Int), S, F, l) (L.getD i el0).2 = some (btw n (L.getD i el0).1.2 S F) := by
       simp only [impl_GradeOf, hve, Option.bind_some, Bool.not_true, cond_false, List.drop_zero, List.take_length, hbt]
      simp only [laws_FnBounded_l14, lt_t hi, cond_true, if_pos (in_t hi), Int.toNat_natCast, Nat.zero_add, hge, Option.bind_some, List.drop_zero, List.take_length, w64_succ hi (show L.length ≤ 9223372036854775807 by omega)]
      by_cases h1 : btw n (L.getD i el0).1.2 S F = 1
      ·obtain ⟨v, hv1, hv2⟩ := hover _ hm h1
       rw [h1]
       simp only [BEq.rfl, cond_true, hv1, Option.bind_some, decide_eq_false (show ¬ v > r by omega), cond_false]
      ·have : (btw n (L.getD i el0).1.2 S F == 1) = false := by simpa using h1
       simp only [this, cond_false])
     (fun _ _ => by simp only [laws_FnBounded_l14, lt_f, cond_false])
     () trivial
    exact g1
   have hfree : impl_IsBounded ((n : Int), S, F, l.map zs) = some (okf, okf) := hfree
   have hsc : impl_ScaleAutomaton ((n : Int), S, F, l) 0 = some (((n : Int), S, F, l.map zs), true) := hsc
   have hb : impl_IsBounded ((n : Int), S, F, l) = some (true && !(firstOf L (growP n S F)).2, true) := hb
   have tail : Option.bind (impl_ElementsOf ((n : Int), S, F, l)) (fun (q : List Elt × Bool) => Option.bind (loopF laws_FnBounded_l14 (((n : Int), S, F, l, ()), r, true, (List.take (List.length q.1) (List.drop 0 q.1)), (((List.length q.1) : Nat) : Int), (0 : Int), ())) fun r14 =>
     (match r14 with
     | .inl (d15, _) => some d15
     | .inr ((d16, d17, d18, d19, _), d20, _) =>
      Option.bind (impl_ScaleAutomaton (d16, d17, d18, d19) (0 : Int)) fun ((r21, r22, r23, r24), r25) =>
       Option.bind (impl_IsBounded (r21, (List.take (List.length r22) (List.drop 0 r22)), (List.take (List.length r23) (List.drop 0 r23)), (List.take (List.length r24) (List.drop 0 r24)))) fun (r26, r27) =>
        bif d20 then (bif (!r25) then some true else (bif (!r27) then some true else some r26)) else some false)) = some true := by
    rw [e2]
    simp only [Option.bind_some, List.drop_zero, List.take_length, hloop, hsc, hfree, cond_true, Bool.not_true, cond_false]
    cases okf <;> rfl
   rw [h]
   simp only [Option.bind_some]
   rw [v1]
   simp only [Option.bind_some, bne_self_eq_false, cond_false, decide_eq_false hr]
   rw [hb]
   simp only [Option.bind_some]
   rw [d2]
   simp only [Option.bind_some]
   rw [hgr]
   simp only [Option.bind_some, cond_true, Bool.true_and]
   cases hfo : (firstOf L (growP n S F)).2 with
   | true =>
    simp only [Bool.not_true, cond_false]
    exact tail
   | false =>
    have hg3 : (g == 2) = false := by
     rw [beq_eq_false_iff_ne]
     intro hgg
     obtain ⟨A, hA, hbA⟩ := hg2 hgg
     obtain ⟨y, hy, rfl⟩ := has_iff.1 hA
     have := firstOf_has (p := growP n S F) hy (by unfold growP; rw [hbA]; rfl)
     rw [hfo] at this
     cases this
    simp only [Bool.not_false, cond_true, hg3, cond_false]
    exact tail
end Go.Proofs.YtbmlleocidldpaaGreat
