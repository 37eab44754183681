/- Stable elements: both sides tell the same; the law of grades. -/
import Derived.Test.YtcmcjhdccnbmoaaGreatP60
import Derived.Test.YtcmcjhdccnbmoaaGreatP67
import Derived.Test.YtcmcjhdccnbmoaaGreatP69
set_option linter.unusedVariables false
set_option linter.unusedSimpArgs false
namespace Go.Proofs.YtcmcjhdccnbmoaaGreat
open Go Go.Proofs.YtcmcjhdccnbmoaaGreat.Am
def stabP (n : Nat) (e : Elt) : Bool := decide (gmul n e.1.2 e.1.2 = e.1.2) && decide (gstab n e.1.2 = e.1.2)
def stablesL (n : Nat) (L : List Elt) : List ByteArray := (L.filter (stabP n)).map fun e => e.2
theorem stables_snoc {n i : Nat} {L : List Elt} (hi : i < L.length) : stablesL n (L.take (i + 1)) = if stabP n (L.getD i el0) then stablesL n (L.take i) ++ [(L.getD i el0).2] else stablesL n (L.take i) := by
 unfold stablesL
 rw [take_snoc hi, List.filter_append, List.map_append, getD_get el0 hi]
 cases h : stabP n L[i] <;> simp [h]
theorem stables_len {n : Nat} (L : List Elt) : (stablesL n L).length ≤ L.length := by
 unfold stablesL
 rw [List.length_map]
 exact List.length_filter_le _ _
theorem impl_stables {a : Aut} {n : Nat} (h1 : 1 ≤ n) (h4 : n ≤ 4) {L : List Elt} (hL : LOk n L) (hE : impl_ElementsOf a = some (L, true)) : impl_StablesOf a = some (stablesL n L, true) := by
 obtain ⟨x, S, F, l⟩ := a
 have hlen := hL.len
 obtain ⟨r, g1, g2⟩ := loop_inv (f := impl_StablesOf_l6) L.length (fun i (o : List ByteArray) => (o, L, (L.length : Int), (i : Int), ())) (fun i _ => stablesL n (L.take (i + 1))) (fun o => (o, ())) (fun i o => o = stablesL n (L.take i))
  (fun i o hi ho => rfl)
  (fun i o hi ho => by
   have hol : o.length ≤ 120 := by subst ho; exact Nat.le_trans (stables_len _) (by rw [List.length_take]; omega)
   have hat := hL.at hi
   have hm : L.getD i el0 ∈ L := by rw [getD_get el0 hi]; exact List.getElem_mem hi
   have hA := (hL.el _ hm).2.1
   have hsq := sq_le h4
   have hs := stabilise_is h1 h4 hA
   have hq := sameM_any (n := n) (A := gstab n (L.getD i el0).1.2) (by rw [(gstab_ok hA).1]; omega) (n : Int) (L.getD i el0).1.2
   rw [stables_snoc hi, ← ho]
   simp only [impl_StablesOf_l6, lt_t hi, cond_true, if_pos (in_t hi), Int.toNat_natCast, Nat.zero_add, hat.1, hs, Option.bind_some, List.drop_zero, List.take_length, show ∀ z : ByteArray, List.take 1 [z] = [z] from fun _ => rfl]
   unfold stabP
   by_cases c1 : gmul n (L.getD i el0).1.2 (L.getD i el0).1.2 = (L.getD i el0).1.2
   ·rw [if_pos c1]
    simp only [Option.bind_some, cond_true, List.drop_zero, List.take_length, hq, true_and, decide_eq_true c1, Bool.true_and]
    by_cases c2 : gstab n (L.getD i el0).1.2 = (L.getD i el0).1.2
    ·simp only [decide_eq_true c2, cond_true, if_true]
     rw [if_pos (by simp; omega), List.take_of_length_le (by simp), w64_succ hi (by omega)]
    ·simp only [decide_eq_false c2, cond_false, Bool.false_eq_true, if_false]
     rw [w64_succ hi (by omega)]
   ·rw [if_neg c1]
    simp only [Option.bind_some, cond_false, decide_eq_false c1, Bool.false_and, Bool.false_eq_true, if_false]
    rw [w64_succ hi (by omega)])
  (fun o ho => by simp only [impl_StablesOf_l6, lt_f, cond_false, List.drop_zero, List.take_length])
  [] rfl
 have g1 : loopF impl_StablesOf_l6 ([], L, (L.length : Int), (0 : Int), ()) = _ := g1
 rw [List.take_length] at g2
 subst g2
 simp only [impl_StablesOf, hE, Option.bind_some, Bool.not_true, cond_false, List.drop_zero, List.take_length, List.take_nil, g1]
theorem spec_stables {a : Aut} {n : Nat} (h4 : n ≤ 4) {L : List Elt} {ok : Bool} (hL : LOk n L) (hE : spec_ElementsOf a = some (L, ok)) : spec_StablesOf a = some (stablesL n L, ok) := by
 obtain ⟨x, S, F, l⟩ := a
 have hlen := hL.len
 obtain ⟨r, g1, g2⟩ := loop_inv (f := spec_StablesOf_l4) L.length (fun i (o : List ByteArray) => (o, ok, L, (L.length : Int), (i : Int), ())) (fun i _ => stablesL n (L.take (i + 1))) (fun o => (o, ok, ())) (fun i o => o = stablesL n (L.take i))
  (fun i o hi ho => rfl)
  (fun i o hi ho => by
   have hol : o.length ≤ 120 := by subst ho; exact Nat.le_trans (stables_len _) (by rw [List.length_take]; omega)
   have hat := hL.at hi
   have hm : L.getD i el0 ∈ L := by rw [getD_get el0 hi]; exact List.getElem_mem hi
   have hA := (hL.el _ hm).2.1
   have hsq := sq_le h4
   have hid := l6Idempotent_is h4 hA
   have hs := l6Stable_is h4 hA
   have hq := same_is (a := gstab n (L.getD i el0).1.2) (b := (L.getD i el0).1.2) (by rw [(gstab_ok hA).1, hA.1]) (by rw [(gstab_ok hA).1]; omega)
   rw [stables_snoc hi, ← ho]
   simp only [spec_StablesOf_l4, lt_t hi, cond_true, if_pos (in_t hi), Int.toNat_natCast, Nat.zero_add, hat.1, hid, hs, hq, Option.bind_some, List.drop_zero, List.take_length, show ∀ z : ByteArray, List.take 1 [z] = [z] from fun _ => rfl]
   unfold stabP
   by_cases c1 : gmul n (L.getD i el0).1.2 (L.getD i el0).1.2 = (L.getD i el0).1.2
   ·simp only [decide_eq_true c1, cond_true, Bool.true_and]
    by_cases c2 : gstab n (L.getD i el0).1.2 = (L.getD i el0).1.2
    ·simp only [decide_eq_true c2, cond_true, if_true]
     rw [if_pos ⟨trivial, by simp; omega⟩, List.take_of_length_le (by simp), w64_succ hi (by omega)]
    ·simp only [decide_eq_false c2, cond_false, Bool.false_eq_true, if_false]
     rw [w64_succ hi (by omega)]
   ·simp only [decide_eq_false c1, cond_false, Bool.false_and, Bool.false_eq_true, if_false]
    rw [w64_succ hi (by omega)])
  (fun o ho => by simp only [spec_StablesOf_l4, lt_f, cond_false, List.drop_zero, List.take_length])
  [] rfl
 have g1 : loopF spec_StablesOf_l4 ([], ok, L, (L.length : Int), (0 : Int), ()) = _ := g1
 rw [List.take_length] at g2
 subst g2
 simp only [spec_StablesOf, hE, Option.bind_some, List.drop_zero, List.take_length, List.take_nil, g1]
theorem stables_not {a : Aut} (hI : impl_ElementsOf a = some ([], false)) : impl_StablesOf a = some ([], false) := by
 obtain ⟨x, S, F, l⟩ := a
 simp only [impl_StablesOf, hI, Option.bind_some, Bool.not_false, cond_true]
theorem stablesL_get {n i : Nat} {L : List Elt} (hi : i < (stablesL n L).length) : ∃ e ∈ L, (stablesL n L).getD i (⟨Array.empty⟩ : ByteArray) = e.2 ∧ gmul n e.1.2 e.1.2 = e.1.2 ∧ gstab n e.1.2 = e.1.2 := by
 rw [getD_get _ hi]
 have hm := List.getElem_mem hi
 obtain ⟨e, he, h1⟩ := List.mem_map.1 hm
 obtain ⟨h2, h3⟩ := List.mem_filter.1 he
 unfold stabP at h3
 rw [Bool.and_eq_true] at h3
 exact ⟨e, h2, h1.symm, of_decide_eq_true h3.1, of_decide_eq_true h3.2⟩
theorem drawGrades_is {c : List Int} (hc : ∀ x ∈ c, 0 ≤ x ∧ x ≤ 255) : ∃ a, spec_DrawGradesIn c = some a ∧ Small a := by
 obtain ⟨⟨b, k⟩, p0, s0⟩ := l13Open_is hc
 obtain ⟨⟨x, S, F, l⟩, ⟨b1, k1⟩, p1, t1, s1⟩ := l8Draw_is s0 (by omega)
 refine ⟨(x, S, F, l), ?_, t1.small⟩
 unfold spec_DrawGradesIn
 rw [p0]
 simp only [Option.bind_some]
 rw [p1]
 rfl
theorem p_FnGradesIn (x0 : List Int) (f0 : Fits (.sl (.int .u8)) x0) : laws_FnGradesIn x0 = some true := by
 unfold laws_FnGradesIn
 by_cases hx : ((x0.length : Nat) : Int) > 1048576
 ·rw [decide_eq_true hx, cond_true]
 rw [decide_eq_false hx, cond_false]
 obtain ⟨a, d1, hs⟩ := drawGrades_is (bytes_of f0)
 obtain ⟨n, L, ok, h4, hL, e1, e2, e0, eN, eA⟩ := elements_any hs
 have hlen := hL.len
 cases ok with
 | false =>
  obtain rfl := e0 rfl
  obtain ⟨g1, g2⟩ := grades_not e1 e2
  have s1 := stables_not e2
  have s2 := spec_stables (n := n) h4 hL e1
  obtain ⟨x, S, F, l⟩ := a
  rw [d1]
  simp only [Option.bind_some, g1, g2, s1, s2, List.drop_zero, List.take_length, daSelf_is (show ([] : List Int).length ≤ 9223372036854775807 by simp), Bool.not_true, Bool.not_false, cond_true, cond_false, BEq.rfl]
  rfl
 | true =>
  obtain ⟨hv, ha, hV, hcl⟩ := eA (eN rfl)
  have g1 := spec_grades ha hs hL e1
  have g2 := impl_grades ha hv hs hL e2
  have s1 := impl_stables ha.n1 h4 hL e2
  have s2 := spec_stables (n := n) h4 hL e1
  have hsq := sq_le h4
  have hne : 0 < (stablesL n L).length := by
   obtain ⟨e, he, k1, k2⟩ := closed_stable hcl
   unfold stablesL
   rw [List.length_map, List.length_pos_iff_exists_mem]
   refine ⟨e, List.mem_filter.2 ⟨he, ?_⟩⟩
   unfold stabP
   rw [decide_eq_true k1, decide_eq_true k2]
   rfl
  have hsl := stables_len (n := n) L
  have hval : ∀ e ∈ L, impl_ValueOf a e.2 = some (((n : Int), e.1.2), true) := fun e he => value_of_element ha hv hs (hV e he) (hL.el e he).2.2
  obtain ⟨x, S, F, l⟩ := a
  have hx : x = (n : Int) := ha.st
  subst hx
  have hgl := gset_len (gradesL n S F L)
  have hmem : ∀ e ∈ L, btw n e.1.2 S F ∈ gset (gradesL n S F L) := by
   intro e he
   have h0 : btw n e.1.2 S F ∈ gradesL n S F L := List.mem_map.2 ⟨e, he, rfl⟩
   have h1 := btw_rng (hL.el e he).2.1 S F
   unfold gset
   rw [List.mem_filter]
   refine ⟨?_, decide_eq_true h0⟩
   simp only [List.mem_cons, List.not_mem_nil, or_false]
   omega
  have g1 : spec_GradesIn ((n : Int), S, F, l) = some (gset (gradesL n S F L), true) := g1
  have g2 : impl_GradesIn ((n : Int), S, F, l) = some (gset (gradesL n S F L), true) := g2
  generalize gset (gradesL n S F L) = gs at g1 g2 hgl hmem
  -- stable elements
  obtain ⟨r1, l1, _⟩ := loop_inv (f := laws_FnGradesIn_l11) (α := Unit) (stablesL n L).length (fun i _ => (((n : Int), S, F, l, ()), gs, stablesL n L, stablesL n L, stablesL n L, ((stablesL n L).length : Int), (i : Int), ())) (fun _ _ => ())
   (fun _ => Sum.inr (((n : Int), S, F, l, ()), gs, stablesL n L, ())) (fun _ _ => True) (fun _ _ _ _ => trivial)
   (fun i _ hi _ => by
    obtain ⟨e, he, k0, k1, k2⟩ := stablesL_get hi
    have hA := (hL.el e he).2.1
    have hst := stabilise_is ha.n1 h4 hA
    rw [if_pos k1, k2] at hst
    have hda : laws_daMatrix ((n : Int), e.1.2) ((n : Int), e.1.2) = some true := by
     simp only [laws_daMatrix, BEq.rfl, cond_true, daSelf_is (show e.1.2.length ≤ 9223372036854775807 by rw [hA.1]; omega), Option.bind_some]
    simp only [laws_FnGradesIn_l11, lt_t hi, cond_true, if_pos (in_t hi), Int.toNat_natCast, Nat.zero_add, k0, hval e he, hst, hda, Option.bind_some, List.drop_zero, List.take_length, BEq.rfl, Bool.not_true, cond_false]
    rw [w64_succ hi (by omega)])
   (fun _ _ => by simp only [laws_FnGradesIn_l11, lt_f, cond_false, List.drop_zero, List.take_length]) () trivial
  have l1 : loopF laws_FnGradesIn_l11 (((n : Int), S, F, l, ()), gs, stablesL n L, stablesL n L, stablesL n L, ((stablesL n L).length : Int), (0 : Int), ()) = _ := l1
  have l2 : ∀ (i : Nat) (hi : i < L.length), loopF laws_FnGradesIn_l24 (((n : Int), S, F, l, ()), gs, stablesL n L, ((L.getD i el0).1.1, (L.getD i el0).1.2, (L.getD i el0).2, ()), false, L, (L.length : Int), (i : Int), gs, (gs.length : Int), (0 : Int), ()) =
    some (((n : Int), S, F, l, ()), gs, stablesL n L, true, L, (L.length : Int), (i : Int), ()) := by
   intro i hi
   have hat := hL.at hi
   have hm : L.getD i el0 ∈ L := by rw [getD_get el0 hi]; exact List.getElem_mem hi
   have hA := (hL.el _ hm).2.1
   have hbt := impl_between ha.n1 h4 l ha.S ha.F hs.1 hs.2.1 hA hv
   have hbt : impl_GradeBetween ((n : Int), S, F, l) ((n : Int), (L.getD i el0).1.2) = some (btw n (L.getD i el0).1.2 S F) := hbt
   have hge : impl_GradeOf ((n : Int), S, F, l) (L.getD i el0).2 = some (btw n (L.getD i el0).1.2 S F) := by
    simp only [impl_GradeOf, hval _ hm, Option.bind_some, Bool.not_true, cond_false, List.drop_zero, List.take_length, hbt]
   obtain ⟨r, m1, m2⟩ := loop_inv (f := laws_FnGradesIn_l24) gs.length (fun j (b : Bool) => (((n : Int), S, F, l, ()), gs, stablesL n L, ((L.getD i el0).1.1, (L.getD i el0).1.2, (L.getD i el0).2, ()), b, L, (L.length : Int), (i : Int), gs, (gs.length : Int), (j : Int), ()))
    (fun j b => b || (gs.getD j 0 == btw n (L.getD i el0).1.2 S F)) (fun b => (((n : Int), S, F, l, ()), gs, stablesL n L, b, L, (L.length : Int), (i : Int), ())) (fun j b => b = (gs.take j).any fun g => g == btw n (L.getD i el0).1.2 S F)
    (fun j b hj hb => by subst hb; rw [take_snoc hj, List.any_append, getD_get 0 hj]; simp)
    (fun j b hj hb => by
     simp only [laws_FnGradesIn_l24, lt_t hj, cond_true, if_pos (in_t hj), Int.toNat_natCast, hge, Option.bind_some, List.drop_zero, List.take_length, w64_succ hj (show gs.length ≤ 9223372036854775807 by omega)]
     cases b with
     | true => simp only [cond_true, Bool.true_or]
     | false => simp only [cond_false, Bool.false_or])
    (fun b hb => by simp only [laws_FnGradesIn_l24, lt_f, cond_false, List.drop_zero, List.take_length])
    false rfl
   have m1 : loopF laws_FnGradesIn_l24 (((n : Int), S, F, l, ()), gs, stablesL n L, ((L.getD i el0).1.1, (L.getD i el0).1.2, (L.getD i el0).2, ()), false, L, (L.length : Int), (i : Int), gs, (gs.length : Int), (0 : Int), ()) = _ := m1
   have hany : (gs.any fun g => g == btw n (L.getD i el0).1.2 S F) = true := List.any_eq_true.2 ⟨_, hmem _ hm, BEq.rfl⟩
   rw [m1, m2, List.take_length, hany]
  obtain ⟨r3, l3, _⟩ := loop_inv (f := laws_FnGradesIn_l20) (α := Unit) L.length (fun i _ => (((n : Int), S, F, l, ()), gs, stablesL n L, L, (L.length : Int), (i : Int), ())) (fun _ _ => ())
   (fun _ => Sum.inr (gs, stablesL n L, ())) (fun _ _ => True) (fun _ _ _ _ => trivial)
   (fun i _ hi _ => by
    simp only [laws_FnGradesIn_l20, lt_t hi, cond_true, if_pos (in_t hi), Int.toNat_natCast, Nat.zero_add, l2 i hi, Option.bind_some, List.drop_zero, List.take_length, Bool.not_true, cond_false, w64_succ hi (show L.length ≤ 9223372036854775807 by omega)])
   (fun _ _ => by simp only [laws_FnGradesIn_l20, lt_f, cond_false, List.drop_zero, List.take_length]) () trivial
  have l3 : loopF laws_FnGradesIn_l20 (((n : Int), S, F, l, ()), gs, stablesL n L, L, (L.length : Int), (0 : Int), ()) = _ := l3
  rw [d1]
  simp only [Option.bind_some, g1, g2, s1, s2, List.drop_zero, List.take_length, daSelf_is (show gs.length ≤ 9223372036854775807 by omega), Bool.not_true, cond_true, cond_false, BEq.rfl, bne_self_eq_false, l1, e2, l3]
  rw [decide_eq_true (show (((stablesL n L).length : Nat) : Int) > 0 by omega), cond_true, decide_eq_true (show ((gs.length : Nat) : Int) ≤ 4 by omega)]
end Go.Proofs.YtcmcjhdccnbmoaaGreat
