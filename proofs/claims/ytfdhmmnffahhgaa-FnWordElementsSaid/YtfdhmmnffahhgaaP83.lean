import Derived.Test.YtfdhmmnffahhgaaP56
import Derived.Test.YtfdhmmnffahhgaaP71
import Derived.Test.YtfdhmmnffahhgaaP47
import Derived.Test.YtfdhmmnffahhgaaP44
import Derived.Test.YtfdhmmnffahhgaaP7
set_option linter.unusedVariables false
set_option linter.unusedSimpArgs false
/- The elements of words: the reference and the program find the same; what is told of them. -/
namespace Go.Proofs.Ytfdhmmnffahhgaa
open Go Go.Proofs.Ytfdhmmnffahhgaa.Am
theorem iputw_32 {n : Nat} (h4 : n ≤ 4) (p : List Elt × Bool) (hL : LOk n p.1) {A : List Int} (hA : GOk n A) (t : ByteArray) (x : Int) (S R : List Int) (l : List Stp) (ws : List ByteArray) (u v : Int) (x2 : Int) (S2 R2 : List Int) (l2 : List Stp) :
  impl_WordElements_at6_at32 ((p.1, p.2, ()), ((n : Int), A, ()), t, (x, S, R, l, ()), ws, u, v, (x2, S2, R2, l2, ()), ()) = some ((x, S, R, l, ()), ((iput n A t p).1, (iput n A t p).2, ()), ws, u, v, (x2, S2, R2, l2, ()), ()) := by
 obtain ⟨L, f⟩ := p
 have hL : LOk n L := hL
 have hlen := hL.len
 simp only [impl_WordElements_at6_at32, List.drop_zero, List.take_length, contains_put h4 hL hA, Option.bind_some, iput]
 cases has L A with
 | true => rfl
 | false =>
  simp only [cond_false]
  by_cases h1 : (L.length : Int) ≥ 120
  ·simp only [decide_eq_true h1, cond_true]
  ·by_cases h2 : (t.size : Int) > 120
   ·simp only [decide_eq_false h1, decide_eq_true h2, cond_false, cond_true]
   ·simp only [decide_eq_false h1, decide_eq_false h2, cond_false, Nat.zero_add, show List.take 1 [(((n : Int), A), t)] = [(((n : Int), A), t)] from rfl]
    rw [if_pos ⟨trivial, by simp; omega⟩, List.take_of_length_le (by simp)]
theorem iputw_44 {n : Nat} (h4 : n ≤ 4) (p : List Elt × Bool) (hL : LOk n p.1) {A : List Int} (hA : GOk n A) (t : ByteArray) (x : Int) (S R : List Int) (l : List Stp) (ex : Int) (ey : List Int) (ez : ByteArray) (ws : List ByteArray) (u v z : Int) :
  impl_WordElements_at6_at52_at44 ((p.1, p.2, ()), ((n : Int), A, ()), t, (x, S, R, l, ()), (ex, ey, ez, ()), ws, u, v, z, ()) = some (((iput n A t p).1, (iput n A t p).2, ()), (x, S, R, l, ()), (ex, ey, ez, ()), ws, u, v, z, ()) := by
 obtain ⟨L, f⟩ := p
 have hL : LOk n L := hL
 have hlen := hL.len
 simp only [impl_WordElements_at6_at52_at44, List.drop_zero, List.take_length, contains_put h4 hL hA, Option.bind_some, iput]
 cases has L A with
 | true => rfl
 | false =>
  simp only [cond_false]
  by_cases h1 : (L.length : Int) ≥ 120
  ·simp only [decide_eq_true h1, cond_true]
  ·by_cases h2 : (t.size : Int) > 120
   ·simp only [decide_eq_false h1, decide_eq_true h2, cond_false, cond_true]
   ·simp only [decide_eq_false h1, decide_eq_false h2, cond_false, Nat.zero_add, show List.take 1 [(((n : Int), A), t)] = [(((n : Int), A), t)] from rfl]
    rw [if_pos ⟨trivial, by simp; omega⟩, List.take_of_length_le (by simp)]
/-- the elements of the two letters -/
def twoL (n : Nat) (st : List Stp) : List Elt := [(((n : Int), lett la n st), la), (((n : Int), lett lb n st), lb)]
def wput (n : Nat) (st : List Stp) (e : Elt) (c : ByteArray) (p : List Elt × Bool) : List Elt × Bool := sput n (gmul n e.1.2 (lett c n st)) (e.2 ++ c) p
def wputI (n : Nat) (st : List Stp) (e : Elt) (c : ByteArray) (p : List Elt × Bool) : List Elt × Bool := iput n (gmul n e.1.2 (lett c n st)) (e.2 ++ c) p
def wbody (n : Nat) (st : List Stp) (i : Nat) (L : List Elt) : List Elt × Bool := wput n st (L.getD i el0) lb (wput n st (L.getD i el0) la (L, false))
def wbodyI (n : Nat) (st : List Stp) (i : Nat) (L : List Elt) : List Elt × Bool := wputI n st (L.getD i el0) lb (wputI n st (L.getD i el0) la (L, true))
theorem lett_ok {a : Aut} {n : Nat} (ha : AutIs a n) (c : ByteArray) : GOk n (lett c n a.2.2.2) := gr_ok (putSteps_rng ha c).1
theorem spec_wletter {a : Aut} {n : Nat} (ha : AutIs a n) {p : List Elt × Bool} (hp : LOk n p.1) {w : List Elt} (hw : w.length ≤ 2) {k : Nat} (hk : k < 2) {c : ByteArray} (hc : List.getD [la, lb] k (⟨Array.empty⟩ : ByteArray) = c) :
  spec_l8Elements_l4 (false, (a.1, a.2.1, a.2.2.1, a.2.2.2, ()), (p.1, p.2, ()), w, [la, lb], (2 : Int), (k : Int), ()) = some (.inl (false, (a.1, a.2.1, a.2.2.1, a.2.2.2, ()), ((sput n (lett c n a.2.2.2) c p).1, (sput n (lett c n a.2.2.2) c p).2, ()), w ++ [(((n : Int), lett c n a.2.2.2), c)], [la, lb], (2 : Int), ((k + 1 : Nat) : Int), ())) := by
 have hr := putSteps_rng ha c
 have hm := l3Matrix_puts' ha c
 obtain ⟨x, S, F, l⟩ := a
 have hm : spec_l3Matrix (x, S, F, l) c = some ((n : Int), putSteps c n l l.length) := hm
 have hg := l6Grades_is ha.n4 hr.1
 have hA : GOk n (lett c n l) := gr_ok hr.1
 have e1 := sput_39 ha.n4 p hp hA c x S F l false (w ++ [(((n : Int), lett c n l), c)]) [la, lb] (2 : Int) (k : Int)
 simp only [spec_l8Elements_l4, decide_eq_true (show (k : Int) < 2 by omega), cond_true, Int.toNat_natCast, Nat.zero_add, hc, hm, Option.bind_some, List.drop_zero, List.take_length]
 rw [if_pos ⟨by omega, by simp; omega⟩, show spec_l6Grades ((n : Int), putSteps c n l l.length) = some ((n : Int), lett c n l) from hg]
 simp only [Option.bind_some, List.drop_zero, List.take_length, show List.take 1 [(((n : Int), lett c n l), c)] = [(((n : Int), lett c n l), c)] from rfl, List.take_of_length_le (show (w ++ [(((n : Int), lett c n l), c)]).length ≤ w.length + [(((n : Int), lett c n l), c)].length by simp), if_true]
 rw [if_pos ⟨trivial, by simp; omega⟩, e1]
 simp only [Option.bind_some, Nat.zero_add, List.drop_zero, List.take_length, if_true, w64_succ hk (by omega)]
theorem impl_wletter {a : Aut} {n : Nat} (ha : AutIs a n) (hv : autOk a = true) (hs : Small a) {p : List Elt × Bool} (hp : LOk n p.1) {k : Nat} (hk : k < 2) {c : ByteArray} (hc : List.getD [la, lb] k (⟨Array.empty⟩ : ByteArray) = c) (hc2 : c = la ∨ c = lb) (z : Aut) :
  impl_WordElements_at6_l5 ((a.1, a.2.1, a.2.2.1, a.2.2.2, ()), (p.1, p.2, ()), [la, lb], (2 : Int), (k : Int), (z.1, z.2.1, z.2.2.1, z.2.2.2, ()), ()) = some (.inl ((a.1, a.2.1, a.2.2.1, a.2.2.2, ()), ((iput n (lett c n a.2.2.2) c p).1, (iput n (lett c n a.2.2.2) c p).2, ()), [la, lb], (2 : Int), ((k + 1 : Nat) : Int), (z.1, z.2.1, z.2.2.1, z.2.2.2, ()), ())) := by
 have hr := putSteps_rng ha c
 have hm := valueOf_letter ha hv hs hc2
 obtain ⟨x, S, F, l⟩ := a
 have hm : impl_ValueOf (x, S, F, l) c = some (((n : Int), lett c n l), true) := hm
 have hA : GOk n (lett c n l) := gr_ok hr.1
 have e1 := iputw_32 ha.n4 p hp hA c x S F l [la, lb] (2 : Int) (k : Int) z.1 z.2.1 z.2.2.1 z.2.2.2
 simp only [impl_WordElements_at6_l5, decide_eq_true (show (k : Int) < 2 by omega), cond_true, Int.toNat_natCast, Nat.zero_add, hc, hm, Option.bind_some, List.drop_zero, List.take_length]
 rw [if_pos ⟨by omega, by simp; omega⟩, e1]
 simp only [Option.bind_some, Nat.zero_add, List.drop_zero, List.take_length, if_true, w64_succ hk (by omega)]
/-- one letter behind an element, by the reference -/
theorem spec_wone {a : Aut} {n : Nat} (ha : AutIs a n) {E : List Int} (hE : GOk n E) {te : ByteArray} (hte : te.size ≤ 120) (i : Int) {p : List Elt × Bool} (hp : LOk n p.1) {k : Nat} (hk : k < 2) {c : ByteArray} (hc : List.getD (twoL n a.2.2.2) k el0 = (((n : Int), lett c n a.2.2.2), c)) (hcs : c.size ≤ 120) :
  spec_l8Elements_l20 (false, (p.1, p.2, ()), twoL n a.2.2.2, i, ((n : Int), E, te, ()), twoL n a.2.2.2, (2 : Int), (k : Int), ()) = some (.inl (false, ((wput n a.2.2.2 (((n : Int), E), te) c p).1, (wput n a.2.2.2 (((n : Int), E), te) c p).2, ()), twoL n a.2.2.2, i, ((n : Int), E, te, ()), twoL n a.2.2.2, (2 : Int), ((k + 1 : Nat) : Int), ())) := by
 have hA := lett_ok ha c
 have h4 := ha.n4
 have e1 := sput_107 h4 p hp (gmul_ok hE hA) (te ++ c) false (twoL n a.2.2.2) i (n : Int) E te (n : Int) (lett c n a.2.2.2) c (twoL n a.2.2.2) (2 : Int) (k : Int)
 simp only [spec_l8Elements_l20, decide_eq_true (show (k : Int) < 2 by omega), cond_true, Int.toNat_natCast, hc, l6Mul_is h4 hE hA, Option.bind_some, Nat.zero_add, List.drop_zero, List.take_length, if_true]
 rw [if_pos ⟨by omega, by simp [twoL]; omega⟩, if_pos (by omega), e1]
 simp only [Option.bind_some, cond_false, Nat.zero_add, List.drop_zero, List.take_length, if_true, w64_succ hk (show 2 ≤ 9223372036854775807 by omega)]
 rfl
theorem spec_wround {a : Aut} {n : Nat} (ha : AutIs a n) {L : List Elt} (hL : LOk n L) {i : Nat} (hi : i < L.length) :
  spec_l8Elements_l11 (false, (L, false, ()), twoL n a.2.2.2, (i : Int), ()) = some (.inl (false, ((wbody n a.2.2.2 i L).1, (wbody n a.2.2.2 i L).2, ()), twoL n a.2.2.2, ((i + 1 : Nat) : Int), ())) ∧ LOk n (wbody n a.2.2.2 i L).1 := by
 have hlen := hL.len
 have hat := hL.at hi
 unfold wbody
 rcases he : L.getD i el0 with ⟨⟨m, E⟩, te⟩
 rw [he] at hat
 obtain ⟨m1, m2, m3⟩ := hat
 have m1 : m = (n : Int) := m1
 subst m1
 have hE : GOk n E := m2
 have hte : te.size ≤ 120 := m3
 have hw : IntKind.wrap .i64 ((i : Int) + 1) = ((i + 1 : Nat) : Int) := w64_succ hi (by omega)
 have k1 : LOk n (wput n a.2.2.2 (((n : Int), E), te) la (L, false)).1 := sput_ok (gmul_ok hE (lett_ok ha la)) _ hL
 have k2 : LOk n (wput n a.2.2.2 (((n : Int), E), te) lb (wput n a.2.2.2 (((n : Int), E), te) la (L, false))).1 := sput_ok (gmul_ok hE (lett_ok ha lb)) _ k1
 refine ⟨?_, k2⟩
 have a1 := spec_wone ha hE hte (i : Int) (p := (L, false)) hL (show 0 < 2 by omega) (c := la) rfl (by decide)
 have a2 := spec_wone ha hE hte (i : Int) k1 (show 1 < 2 by omega) (c := lb) rfl (by decide)
 have a1 : spec_l8Elements_l20 (false, (L, false, ()), twoL n a.2.2.2, (i : Int), ((n : Int), E, te, ()), twoL n a.2.2.2, (2 : Int), (0 : Int), ()) = _ := a1
 have a2 : spec_l8Elements_l20 (false, _, twoL n a.2.2.2, (i : Int), ((n : Int), E, te, ()), twoL n a.2.2.2, (2 : Int), ((0 + 1 : Nat) : Int), ()) = _ := a2
 simp only [spec_l8Elements_l11, decide_eq_true (show (i : Int) < (L.length : Int) by omega), cond_true, Bool.not_false, if_pos (in_t hi), Int.toNat_natCast, Nat.zero_add, he, cond_false, Option.bind_some, List.drop_zero, if_true, show (((twoL n a.2.2.2).length : Nat) : Int) = 2 from rfl]
 rw [loopF_eq, a1]
 simp only [Option.bind_some]
 rw [loopF_eq, a2]
 simp only [Option.bind_some]
 rw [loopF_eq]
 simp only [spec_l8Elements_l20, show decide (((1 + 1 : Nat) : Int) < 2) = false from rfl, cond_false, Nat.zero_add, List.drop_zero, List.take_length, if_true, Option.bind_some, hw]
/-- one letter behind an element, by the program -/
theorem impl_wone {a : Aut} {n : Nat} (ha : AutIs a n) (hv : autOk a = true) (hs : Small a) {E : List Int} (hE : GOk n E) {te : ByteArray} (hte : te.size ≤ 120) (z : Int) {q : List Elt × Bool} (hq : LOk n q.1) {k : Nat} (hk : k < 2) {c : ByteArray} (hc : List.getD [la, lb] k (⟨Array.empty⟩ : ByteArray) = c) (hc2 : c = la ∨ c = lb) :
  impl_WordElements_at6_at52_l2 ((q.1, q.2, ()), (a.1, a.2.1, a.2.2.1, a.2.2.2, ()), ((n : Int), E, te, ()), [la, lb], (2 : Int), (k : Int), z, ()) = some (.inl (((wputI n a.2.2.2 (((n : Int), E), te) c q).1, (wputI n a.2.2.2 (((n : Int), E), te) c q).2, ()), (a.1, a.2.1, a.2.2.1, a.2.2.2, ()), ((n : Int), E, te, ()), [la, lb], (2 : Int), ((k + 1 : Nat) : Int), z, ())) := by
 have hA := lett_ok ha c
 have h4 := ha.n4
 have hcs : c.size = 1 := by rcases hc2 with rfl | rfl <;> rfl
 have hm := valueOf_letter ha hv hs hc2
 obtain ⟨x, S, F, l⟩ := a
 have hm : impl_ValueOf (x, S, F, l) c = some (((n : Int), lett c n l), true) := hm
 have hA : GOk n (lett c n l) := hA
 have e1 := iputw_44 h4 q hq (gmul_ok hE hA) (te ++ c) x S F l (n : Int) E te [la, lb] (2 : Int) (k : Int) z
 simp only [impl_WordElements_at6_at52_l2, decide_eq_true (show (k : Int) < 2 by omega), cond_true, Int.toNat_natCast, Nat.zero_add, hc, hm, mulGrades_is ha.n1 h4 hE hA, Option.bind_some, List.drop_zero, List.take_length]
 rw [if_pos ⟨by omega, by simp; omega⟩, if_pos (by omega), e1]
 simp only [Option.bind_some, Nat.zero_add, List.drop_zero, List.take_length, if_true, w64_succ hk (by omega)]
 rfl
theorem impl_wround {a : Aut} {n : Nat} (ha : AutIs a n) (hv : autOk a = true) (hs : Small a) {L : List Elt} (hL : LOk n L) {i : Nat} (hi : i < L.length) :
  impl_WordElements_at6_l11 ((L, true, ()), (i : Int), (a.1, a.2.1, a.2.2.1, a.2.2.2, ()), ()) = some (.inl (((wbodyI n a.2.2.2 i L).1, (wbodyI n a.2.2.2 i L).2, ()), ((i + 1 : Nat) : Int), (a.1, a.2.1, a.2.2.1, a.2.2.2, ()), ())) ∧ LOk n (wbodyI n a.2.2.2 i L).1 := by
 have hlen := hL.len
 have hat := hL.at hi
 unfold wbodyI
 rcases he : L.getD i el0 with ⟨⟨m, E⟩, te⟩
 rw [he] at hat
 obtain ⟨m1, m2, m3⟩ := hat
 have m1 : m = (n : Int) := m1
 subst m1
 have hE : GOk n E := m2
 have hte : te.size ≤ 120 := m3
 have hw : IntKind.wrap .i64 ((i : Int) + 1) = ((i + 1 : Nat) : Int) := w64_succ hi (by omega)
 have k1 : LOk n (wputI n a.2.2.2 (((n : Int), E), te) la (L, true)).1 := iput_ok (gmul_ok hE (lett_ok ha la)) _ hL
 have k2 : LOk n (wputI n a.2.2.2 (((n : Int), E), te) lb (wputI n a.2.2.2 (((n : Int), E), te) la (L, true))).1 := iput_ok (gmul_ok hE (lett_ok ha lb)) _ k1
 refine ⟨?_, k2⟩
 have a1 := impl_wone ha hv hs hE hte (i : Int) (q := (L, true)) hL (show 0 < 2 by omega) (c := la) rfl (.inl rfl)
 have a2 := impl_wone ha hv hs hE hte (i : Int) k1 (show 1 < 2 by omega) (c := lb) rfl (.inr rfl)
 obtain ⟨x, S, F, l⟩ := a
 have a1 : impl_WordElements_at6_at52_l2 ((L, true, ()), (x, S, F, l, ()), ((n : Int), E, te, ()), [la, lb], (2 : Int), (0 : Int), (i : Int), ()) = _ := a1
 have a2 : impl_WordElements_at6_at52_l2 (_, (x, S, F, l, ()), ((n : Int), E, te, ()), [la, lb], (2 : Int), ((0 + 1 : Nat) : Int), (i : Int), ()) = _ := a2
 simp only [impl_WordElements_at6_l11, decide_eq_true (show (i : Int) < (L.length : Int) by omega), cond_true, impl_WordElements_at6_at52, if_pos (in_t hi), Int.toNat_natCast, Nat.zero_add, he, Option.bind_some, List.drop_zero, List.take_length, show List.take 2 [la, lb] = [la, lb] from rfl, show ((2 : Nat) : Int) = 2 from rfl]
 rw [loopF_eq, a1]
 simp only [Option.bind_some]
 rw [loopF_eq, a2]
 simp only [Option.bind_some]
 rw [loopF_eq]
 simp only [impl_WordElements_at6_at52_l2, show decide (((1 + 1 : Nat) : Int) < 2) = false from rfl, cond_false, List.drop_zero, List.take_length, Option.bind_some, hw]
/-- all that holds of letters and goes on with a letter -/
structure WClo (n : Nat) (st : List Stp) (X : List Int → ByteArray → Prop) : Prop where
 a : ∀ A s, X A s → X (gmul n A (lett la n st)) (s ++ la)
 b : ∀ A s, X A s → X (gmul n A (lett lb n st)) (s ++ lb)
def WCl (n : Nat) (st : List Stp) (M : List Elt) (k : Nat) : Prop := has M (gmul n (M.getD k el0).1.2 (lett la n st)) = true ∧ has M (gmul n (M.getD k el0).1.2 (lett lb n st)) = true
theorem WCl.pre {n k : Nat} {st : List Stp} {M K : List Elt} (h : WCl n st M k) (hk : k < M.length) (hp : Pre M K) : WCl n st K k := by
 unfold WCl
 rw [hp.get hk]
 exact ⟨hp.has h.1, hp.has h.2⟩
def NDv (L : List Elt) : Prop := (L.map fun e => e.1.2).Nodup
theorem sput_nd {n : Nat} {A : List Int} {t : ByteArray} {p : List Elt × Bool} (h : NDv p.1) : NDv (sput n A t p).1 := by
 obtain ⟨L, F⟩ := p
 have h : NDv L := h
 unfold sput
 cases hh : has L A with
 | true => exact h
 | false =>
  cases F
  ·cases decide ((L.length : Int) ≥ 120)
   ·cases decide ((t.size : Int) > 120)
    ·show (List.map _ (L ++ [(((n : Int), A), t)])).Nodup
     rw [List.map_append, List.nodup_append]
     refine ⟨h, by simp, fun x hx y hy => ?_⟩
     obtain ⟨e, he, rfl⟩ := List.mem_map.1 hx
     have hy : y = A := by simpa using hy
     subst hy
     rintro rfl
     rw [has_iff.2 ⟨e, he, rfl⟩] at hh
     cases hh
    ·exact h
   ·exact h
  ·exact h
theorem wbody_X {X : List Int → ByteArray → Prop} {n i : Nat} {st : List Stp} (hc : WClo n st X) {L : List Elt} (hi : i < L.length) (h : XOk X L) : XOk X (wbody n st i L).1 := by
 have he : X (L.getD i el0).1.2 (L.getD i el0).2 := by rw [getD_get el0 hi]; exact h _ (List.getElem_mem hi)
 exact sput_X (hc.b _ _ he) (sput_X (hc.a _ _ he) (p := (L, false)) h)
theorem wbody_whole {n i : Nat} {st : List Stp} {L : List Elt} (hi : i < L.length) (h : (wbody n st i L).2 = false) : Pre L (wbody n st i L).1 ∧ WCl n st (wbody n st i L).1 i := by
 obtain ⟨g1, g2, g3⟩ := sput_whole h
 obtain ⟨k1, k2, k3⟩ := sput_whole g1
 have hp : Pre L (wbody n st i L).1 := Pre.trans k2 g2
 refine ⟨hp, ?_⟩
 unfold WCl
 rw [hp.get hi]
 exact ⟨g2.has k3, g3⟩
theorem wbody_same {n i : Nat} {st : List Stp} {L : List Elt} : Same (wbody n st i L) (wbodyI n st i L) := by
 have h0 : Same (L, false) (L, true) := .inl ⟨rfl, rfl, rfl⟩
 exact (h0.put).put
theorem wsearch {a : Aut} {n : Nat} (ha : AutIs a n) (hv : autOk a = true) (hs : Small a) : ∀ (d i : Nat) (p q : List Elt × Bool), i + d = 121 → Same p q → LOk n p.1 → LOk n q.1 →
  ∃ p' q', loopF spec_l8Elements_l11 (false, (p.1, p.2, ()), twoL n a.2.2.2, (i : Int), ()) = some ((p'.1, p'.2, ()), ()) ∧ loopF impl_WordElements_at6_l11 ((q.1, q.2, ()), (i : Int), (a.1, a.2.1, a.2.2.1, a.2.2.2, ()), ()) = some ((q'.1, q'.2, ()), ()) ∧ Same p' q' ∧ LOk n p'.1 ∧
   (∀ X : List Int → ByteArray → Prop, WClo n a.2.2.2 X → XOk X p.1 → XOk X p'.1) ∧ (p'.2 = false → p.2 = false ∧ Pre p.1 p'.1 ∧ ∀ k, i ≤ k → k < p'.1.length → WCl n a.2.2.2 p'.1 k) ∧ (NDv p.1 → NDv p'.1) := by
 intro d
 induction d with
 | zero =>
  intro i p q hi hsm hp hq
  obtain ⟨L, F⟩ := p
  obtain ⟨L', f⟩ := q
  have e1 : L.length ≤ 120 := hp.len
  have e2 : L'.length ≤ 120 := hq.len
  refine ⟨(L, F), (L', f), ?_, ?_, hsm, hp, fun _ _ h => h, fun h => ⟨h, Pre.refl _, fun k h1 h2 => ?_⟩, fun h => h⟩
  ·rw [loopF_eq]
   simp only [spec_l8Elements_l11, decide_eq_false (show ¬ (i : Int) < (L.length : Int) by omega), cond_false, Nat.zero_add, List.drop_zero, List.take_length, if_true, Option.bind_some]
  ·rw [loopF_eq]
   simp only [impl_WordElements_at6_l11, decide_eq_false (show ¬ (i : Int) < (L'.length : Int) by omega), cond_false, List.drop_zero, List.take_length, Option.bind_some]
  ·have h2 : k < L.length := h2
   omega
 | succ d ih =>
  intro i p q hi hsm hp hq
  obtain ⟨L, F⟩ := p
  obtain ⟨L', f⟩ := q
  rcases hsm with ⟨a1, a2, a3⟩ | ⟨a1, a2⟩
  ·have a1 : F = false := a1
   have a2 : f = true := a2
   have a3 : L' = L := a3
   subst a1 a2 a3
   by_cases hlt : i < L'.length
   ·obtain ⟨g1, g2⟩ := spec_wround ha hp hlt
    obtain ⟨g3, g4⟩ := impl_wround ha hv hs hp hlt
    obtain ⟨p2, q2, k1, k2, k3, k4, k5, k6, k7⟩ := ih (i + 1) (wbody n a.2.2.2 i L') (wbodyI n a.2.2.2 i L') (by omega) wbody_same g2 g4
    refine ⟨p2, q2, ?_, ?_, k3, k4, fun X hX h => k5 X hX (wbody_X hX hlt h), fun h => ?_, fun h => k7 (sput_nd (sput_nd h))⟩
    ·rw [loopF_eq]
     show (spec_l8Elements_l11 (false, (L', false, ()), twoL n a.2.2.2, (i : Int), ())).bind _ = _
     rw [g1]
     exact k1
    ·rw [loopF_eq]
     show (impl_WordElements_at6_l11 ((L', true, ()), (i : Int), (a.1, a.2.1, a.2.2.1, a.2.2.2, ()), ())).bind _ = _
     rw [g3]
     exact k2
    ·obtain ⟨c1, c2, c3⟩ := k6 h
     obtain ⟨b1, b2⟩ := wbody_whole hlt c1
     refine ⟨rfl, b1.trans c2, fun k h1 h2 => ?_⟩
     by_cases hk : k = i
     ·subst hk
      exact b2.pre (Nat.lt_of_lt_of_le hlt b1.le) c2
     ·exact c3 k (by omega) h2
   ·refine ⟨(L', false), (L', true), ?_, ?_, .inl ⟨rfl, rfl, rfl⟩, hp, fun _ _ h => h, fun h => ⟨rfl, Pre.refl _, fun k h1 h2 => ?_⟩, fun h => h⟩
    ·rw [loopF_eq]
     simp only [spec_l8Elements_l11, decide_eq_false (show ¬ (i : Int) < (L'.length : Int) by omega), cond_false, Nat.zero_add, List.drop_zero, List.take_length, if_true, Option.bind_some]
    ·rw [loopF_eq]
     simp only [impl_WordElements_at6_l11, decide_eq_false (show ¬ (i : Int) < (L'.length : Int) by omega), cond_false, List.drop_zero, List.take_length, Option.bind_some]
    ·have h2 : k < L'.length := h2
     omega
  ·have a1 : F = true := a1
   have a2 : f = false := a2
   subst a1 a2
   refine ⟨(L, true), (L', false), ?_, ?_, .inr ⟨rfl, rfl⟩, hp, fun _ _ h => h, fun h => (by cases h), fun h => h⟩
   ·rw [loopF_eq]
    simp only [spec_l8Elements_l11]
    cases decide ((i : Int) < (L.length : Int)) <;> simp only [cond_true, cond_false, Bool.not_true, Nat.zero_add, List.drop_zero, List.take_length, if_true, Option.bind_some]
   ·rw [loopF_eq]
    simp only [impl_WordElements_at6_l11]
    cases decide ((i : Int) < (L'.length : Int)) <;> simp only [cond_true, cond_false, List.drop_zero, List.take_length, Option.bind_some]
/-- the words' elements, and what is told of them -/
theorem words_full {a : Aut} {n : Nat} (ha : AutIs a n) (hv : autOk a = true) (hs : Small a) : ∃ L ok, LOk n L ∧ spec_WordElements a = some (L, ok) ∧ impl_WordElements a = some (L, ok) ∧
  (ok = true → NDv L ∧ (∀ X : List Int → ByteArray → Prop, WClo n a.2.2.2 X → X (lett la n a.2.2.2) la → X (lett lb n a.2.2.2) lb → XOk X L) ∧ has L (lett la n a.2.2.2) = true ∧ has L (lett lb n a.2.2.2) = true ∧ ∀ A, has L A = true → has L (gmul n A (lett la n a.2.2.2)) = true ∧ has L (gmul n A (lett lb n a.2.2.2)) = true) := by
 have a1 := spec_wletter ha (LOk.nil n) (p := ([], false)) (w := []) (by simp) (show 0 < 2 by omega) (c := la) rfl
 have okA := lett_ok ha la
 have okB := lett_ok ha lb
 have p1 := sput_ok okA la (p := ([], false)) (LOk.nil n)
 have q1 := iput_ok okA la (p := ([], true)) (LOk.nil n)
 have a2 := spec_wletter ha p1 (w := [] ++ [(((n : Int), lett la n a.2.2.2), la)]) (by simp) (show 1 < 2 by omega) (c := lb) rfl
 have b1 := impl_wletter ha hv hs (LOk.nil n) (p := ([], true)) (show 0 < 2 by omega) (c := la) rfl (.inl rfl) a
 have b2 := impl_wletter ha hv hs q1 (show 1 < 2 by omega) (c := lb) rfl (.inr rfl) a
 have s1 : Same (([], false) : List Elt × Bool) ([], true) := .inl ⟨rfl, rfl, rfl⟩
 have s2 := (s1.put (n := n) (A := lett la n a.2.2.2) (t := la)).put (n := n) (A := lett lb n a.2.2.2) (t := lb)
 obtain ⟨p', q', g1, g2, g3, g4, g5, g6, g7⟩ := wsearch ha hv hs 121 0 _ _ (by omega) s2 (sput_ok okB lb p1) (iput_ok okB lb q1)
 have hS : spec_l8Elements a false = some (p'.1, !p'.2) := by
  obtain ⟨x, S, F, l⟩ := a
  have a1 : spec_l8Elements_l4 (false, (x, S, F, l, ()), ([], false, ()), [], [la, lb], (2 : Int), (0 : Int), ()) = _ := a1
  have a2 : spec_l8Elements_l4 (false, (x, S, F, l, ()), _, _, [la, lb], (2 : Int), ((0 + 1 : Nat) : Int), ()) = _ := a2
  simp only [spec_l8Elements, List.length_nil, List.drop_zero, List.take_zero, if_true, Nat.add_zero, show List.take 2 [la, lb] = [la, lb] from rfl, show ((2 : Nat) : Int) = 2 from rfl]
  rw [loopF_eq, a1]
  simp only [Option.bind_some]
  rw [loopF_eq, a2]
  simp only [Option.bind_some]
  rw [loopF_eq]
  simp only [spec_l8Elements_l4, show decide (((1 + 1 : Nat) : Int) < 2) = false from rfl, cond_false, Nat.zero_add, List.drop_zero, List.take_length, if_true, Option.bind_some]
  have g1 : loopF spec_l8Elements_l11 (false, _, [] ++ [(((n : Int), lett la n l), la)] ++ [(((n : Int), lett lb n l), lb)], (0 : Int), ()) = _ := g1
  rw [g1]
  simp only [Option.bind_some]
 have hI : impl_WordElements_at6 (a, (a.1, a.2.1, a.2.2.1, a.2.2.2, ()), ()) = some ((if p'.2 then [] else p'.1, !p'.2, ()), ()) := by
  have hA := impl_AutomatonValid_is a (small_len hs).1 (small_len hs).2
  obtain ⟨x, S, F, l⟩ := a
  have b1 : impl_WordElements_at6_l5 ((x, S, F, l, ()), ([], true, ()), [la, lb], (2 : Int), (0 : Int), (x, S, F, l, ()), ()) = _ := b1
  have b2 : impl_WordElements_at6_l5 ((x, S, F, l, ()), _, [la, lb], (2 : Int), ((0 + 1 : Nat) : Int), (x, S, F, l, ()), ()) = _ := b2
  simp only [impl_WordElements_at6, hA, hv, Option.bind_some, Bool.not_true, cond_false, List.drop_zero, show List.take 2 [la, lb] = [la, lb] from rfl, show ((2 : Nat) : Int) = 2 from rfl]
  rw [loopF_eq, b1]
  simp only [Option.bind_some]
  rw [loopF_eq, b2]
  simp only [Option.bind_some]
  rw [loopF_eq]
  simp only [impl_WordElements_at6_l5, show decide (((1 + 1 : Nat) : Int) < 2) = false from rfl, cond_false, List.drop_zero, List.take_length, Option.bind_some]
  have g2 : loopF impl_WordElements_at6_l11 (_, (0 : Int), (x, S, F, l, ()), ()) = _ := g2
  rw [g2]
  obtain ⟨L, F⟩ := p'
  obtain ⟨L', f⟩ := q'
  rcases g3 with ⟨c1, c2, c3⟩ | ⟨c1, c2⟩
  ·have c1 : F = false := c1
   have c2 : f = true := c2
   have c3 : L' = L := c3
   subst c1 c2 c3
   simp
  ·have c1 : F = true := c1
   have c2 : f = false := c2
   subst c1 c2
   simp
 have hSv := spec_AutomatonValid_is a (small_len hs).1 (small_len hs).2
 obtain ⟨x, S, F, l⟩ := a
 obtain ⟨L, full⟩ := p'
 have g4 : LOk n L := g4
 cases full with
 | true =>
  refine ⟨[], false, LOk.nil n, ?_, ?_, fun h => by cases h⟩
  ·simp only [spec_WordElements, spec_l8RawWordElements, hSv, hv, hS, Option.bind_some, Bool.not_true, Bool.not_false, cond_false, cond_true, List.drop_zero, List.take_zero, own_is (LOk.nil n) ha.n4, List.take_length]
  ·simp only [impl_WordElements, hI, Option.bind_some, if_true, List.drop_zero, List.take_length]
   rfl
 | false =>
  obtain ⟨c1, c2, c3⟩ := g6 rfl
  have c2 : Pre _ L := c2
  have c3 : ∀ k, 0 ≤ k → k < L.length → WCl n l L k := c3
  obtain ⟨d1, d2, d3⟩ := sput_whole c1
  obtain ⟨f1, f2, f3⟩ := sput_whole d1
  refine ⟨L, true, g4, ?_, ?_, fun _ => ⟨g7 (sput_nd (sput_nd (p := ([], false)) (by show List.Nodup _; simp))), fun X hX xa xb => g5 X hX (sput_X xb (sput_X xa fun e he => by cases he)), c2.has (d2.has f3), c2.has d3, fun A hA => ?_⟩⟩
  ·simp only [spec_WordElements, spec_l8RawWordElements, hSv, hv, hS, Option.bind_some, Bool.not_true, Bool.not_false, cond_false, cond_true, List.drop_zero, own_is g4 ha.n4, List.take_length]
  ·simp only [impl_WordElements, hI, Option.bind_some, List.drop_zero, List.take_length]
   simp
  ·obtain ⟨e, he, rfl⟩ := has_iff.1 hA
   obtain ⟨k, hk, rfl⟩ := List.getElem_of_mem he
   have := c3 k (Nat.zero_le _) hk
   unfold WCl at this
   rw [getD_get el0 hk] at this
   exact this
theorem words_not {a : Aut} (hv : autOk a = false) (hs : Small a) : spec_WordElements a = some ([], false) ∧ impl_WordElements a = some ([], false) := by
 have hA := impl_AutomatonValid_is a (small_len hs).1 (small_len hs).2
 have hSv := spec_AutomatonValid_is a (small_len hs).1 (small_len hs).2
 obtain ⟨x, S, F, l⟩ := a
 constructor
 ·simp only [spec_WordElements, spec_l8RawWordElements, hSv, hv, Option.bind_some, Bool.not_false, cond_true, List.drop_zero, List.take_zero, own_is (LOk.nil 1) (by omega), List.take_length]
 ·simp only [impl_WordElements, impl_WordElements_at6, hA, hv, Option.bind_some, Bool.not_false, cond_true, List.drop_zero, List.take_length]
end Go.Proofs.Ytfdhmmnffahhgaa

/- The grades of a word's matrix are one matrix alone: that which the elements have. -/
namespace Go.Proofs.Ytfdhmmnffahhgaa
open Go Go.Proofs.Ytfdhmmnffahhgaa.Am
/-- grades of a word are never two -/
def N2 (A : List Int) : Prop := ∀ x ∈ A, x ≠ 2
theorem N2.at {A : List Int} (h : N2 A) (j : Nat) : A.getD j 0 ≠ 2 := by
 by_cases hj : j < A.length
 ·rw [getD_get 0 hj]
  exact h _ (List.getElem_mem hj)
 ·rw [List.getD_eq_getElem?_getD, List.getElem?_eq_none (by omega), Option.getD_none]
  decide
theorem gok_at {n : Nat} {A : List Int} (h : GOk n A) (j : Nat) : 0 ≤ A.getD j 0 ∧ A.getD j 0 ≤ 3 := by
 by_cases hj : j < A.length
 ·rw [getD_get 0 hj]
  exact h.2 _ (List.getElem_mem hj)
 ·rw [List.getD_eq_getElem?_getD, List.getElem?_eq_none (by omega), Option.getD_none]
  omega
theorem n2_gr (M : List Int) : N2 (M.map gr) := by
 intro x hx
 obtain ⟨y, _, rfl⟩ := List.mem_map.1 hx
 unfold gr
 split
 ·decide
 ·split <;> decide
theorem n2_mul {n : Nat} {A B : List Int} (hA : GOk n A) (hB : GOk n B) (nA : N2 A) (nB : N2 B) : N2 (gmul n A B) := by
 intro x hx
 obtain ⟨j, hj, rfl⟩ := List.getElem_of_mem hx
 have hl : j < n * n := by rw [← (gmul_ok hA hB).1]; exact hj
 obtain ⟨q1, q2, q3⟩ := row_col hl
 intro h2
 have e : (gmul n A B).getD (j / n * n + j % n) 0 = 2 := by rw [q3, getD_get 0 hj]; exact h2
 obtain ⟨t, ht, h3, h4⟩ := (gmul_at (A := A) (B := B) q1 q2 (z := 2) (by omega)).1 (by omega)
 have a1 := nA.at (j / n * n + t)
 have a2 := nB.at (t * n + j % n)
 have := (gmul_at (A := A) (B := B) q1 q2 (z := 1) (by omega)).2 ⟨t, ht, by omega, by omega⟩
 omega
theorem gm_uniq {n : Nat} {l : List Stp} {ws : List UInt8} {A B : List Int} (hA : GM n l ws A) (hB : GM n l ws B) (nA : N2 A) (nB : N2 B) : A = B := by
 refine List.ext_getElem (by rw [hA.1.1, hB.1.1]) fun j h1 h2 => ?_
 have hl : j < n * n := by rw [← hA.1.1]; exact h1
 obtain ⟨q1, q2, q3⟩ := row_col hl
 obtain ⟨a1, a2⟩ := hA.2 _ _ q1 q2
 obtain ⟨b1, b2⟩ := hB.2 _ _ q1 q2
 rw [q3] at a1 a2 b1 b2
 have c1 := a1.trans b1.symm
 have c2 := a2.trans b2.symm
 have d1 := gok_at hA.1 j
 have d2 := gok_at hB.1 j
 have e1 := nA.at j
 have e2 := nB.at j
 rw [← getD_get 0 h1, ← getD_get 0 h2]
 omega
theorem run_cost {n : Int} {l : List Stp} (hl : ∀ s ∈ l, StepIs n s) : ∀ {ws : List UInt8} {i k c : Int}, Run l ws i k c → c ≤ 3 * (ws.length : Int)
 | [], i, k, c, h => by simp only [Run] at h; simp; omega
 | b :: ws, i, k, c, h => by
  simp only [Run] at h
  obtain ⟨s, h1, _, _, c', h3, rfl⟩ := h
  have := run_cost hl h3
  have := (hl s h1).c1
  rw [List.length_cons]
  omega
theorem gm_prod {n : Nat} {l : List Stp} (hl : ∀ s ∈ l, StepIs (n : Int) s) {ws : List UInt8} (hw : ws.length ≤ 1000) {M : List Int} (hM : ProdIs n l ws M) : GM n l ws (M.map gr) := by
 refine ⟨gr_ok hM.1.1, fun i k hi hk => ?_⟩
 have hx := hM.1.at (idx_lt hi hk)
 rw [map_at (by rw [hM.1.1]; exact idx_lt hi hk)]
 have hz := hM.2 i k hi hk
 obtain ⟨g1, g2⟩ := gr_two hx
 rw [g1, g2]
 constructor
 ·constructor
  ·intro h
   apply Classical.byContradiction
   intro hno
   have := (hz Nv).2 ⟨Int.le_refl _, fun c hc => absurd ⟨c, hc⟩ hno⟩
   omega
  ·rintro ⟨c, hc⟩
   have h1 := ((hz _).1 (Int.le_refl _)).2 c hc
   have h2 := run_cost hl hc
   show _ < (1000000 : Int)
   omega
 ·constructor
  ·intro h
   apply Classical.byContradiction
   intro hno
   have := (hz 1).2 ⟨by decide, fun c hc => by
    have h1 := Run.nonneg hl hc
    by_cases e : c = 0
    ·subst e; exact absurd hc hno
    ·omega⟩
   omega
  ·intro hc
   exact ((hz _).1 (Int.le_refl _)).2 0 hc
/-- a matrix that is a word's -/
def GW (n : Nat) (l : List Stp) (A : List Int) (s : ByteArray) : Prop := GM n l s.toList A ∧ N2 A ∧ (∀ b ∈ s.data.toList, b = 97 ∨ b = 98) ∧ s.data.toList ≠ []
theorem gw_lett {a : Aut} {n : Nat} (ha : AutIs a n) : GW n a.2.2.2 (lett la n a.2.2.2) la ∧ GW n a.2.2.2 (lett lb n a.2.2.2) lb := by
 refine ⟨⟨?_, n2_gr _, ?_, ?_⟩, ?_, n2_gr _, ?_, ?_⟩
 ·rw [toList_bytes]; exact gm_lett ha (by rw [toList_bytes])
 ·intro b hb; left; simpa using hb
 ·simp
 ·rw [toList_bytes]; exact gm_lett ha (by rw [toList_bytes])
 ·intro b hb; right; simpa using hb
 ·simp
theorem gw_app {a : Aut} {n : Nat} (ha : AutIs a n) {A B : List Int} {s t : ByteArray} (h : GW n a.2.2.2 A s) (k : GW n a.2.2.2 B t) : GW n a.2.2.2 (gmul n A B) (s ++ t) := by
 obtain ⟨h1, h2, h3, h4⟩ := h
 obtain ⟨k1, k2, k3, k4⟩ := k
 rw [toList_bytes] at h1 k1
 refine ⟨?_, n2_mul h1.1 k1.1 h2 k2, ?_, ?_⟩
 ·rw [toList_bytes, ByteArray.data_append, Array.toList_append]
  exact gm_mul ha.steps h1 k1
 ·intro b hb
  rw [ByteArray.data_append, Array.toList_append] at hb
  rcases List.mem_append.1 hb with hb | hb
  ·exact h3 b hb
  ·exact k3 b hb
 ·rw [ByteArray.data_append, Array.toList_append]
  simp [h4]
theorem gw_clo {a : Aut} {n : Nat} (ha : AutIs a n) : WClo n a.2.2.2 (GW n a.2.2.2) := ⟨fun _ _ h => gw_app ha h (gw_lett ha).1, fun _ _ h => gw_app ha h (gw_lett ha).2⟩
theorem wordOk_of {w : ByteArray} (h : ∀ b ∈ w.data.toList, b = 97 ∨ b = 98) (hs : w.size ≤ 1000) : wordOk w = true := by
 unfold wordOk
 rw [Bool.and_eq_true, decide_eq_true_eq]
 refine ⟨List.all_eq_true.2 fun i hi => ?_, hs⟩
 have hi := List.mem_range.1 hi
 have hi2 : i < w.data.size := hi
 have hm := h w.data[i] (Array.getElem_mem_toList hi2)
 unfold letterP
 have e : w.data.getD i 0 = w.data[i] := by rw [Array.getD_eq_getD_getElem?, Array.getElem?_eq_getElem hi2, Option.getD_some]
 rw [e]
 rcases hm with e | e <;> rw [e] <;> rfl
theorem wext {w : ByteArray} (hw : wordOk w = true) {i : Nat} (hi : i < w.size) : w.extract i (i + 1) = la ∨ w.extract i (i + 1) = lb := by
 have h := extract_is hi
 rw [toList_bytes] at h
 rcases letter_is hw hi with e | e <;> rw [e] at h
 ·left
  exact ByteArray.ext (Array.ext' (h.trans (by simp)))
 ·right
  exact ByteArray.ext (Array.ext' (h.trans (by simp)))
/-- the matrix of a word, by the program -/
theorem wordMatrix_is {a : Aut} {n : Nat} (ha : AutIs a n) (hv : autOk a = true) (hs : Small a) {w : ByteArray} (hw : wordOk w = true) : ∃ P, impl_WordMatrix a w = some (((n : Int), P), true) ∧ ProdIs n a.2.2.2 (bytes w) P := by
 have hsz := wordOk_size hw
 obtain ⟨U, u1, u2⟩ := unitMatrix_is ha.n1 ha.n4 a.2.2.2
 have hA := impl_AutomatonValid_is a (small_len hs).1 (small_len hs).2
 have hW := impl_WordValid_is (w := w) (by omega)
 obtain ⟨r, g1, g2⟩ := loop_rel (f := impl_WordMatrix_l5) w.size (fun i (P : List Int) => (w, (a.1, a.2.1, a.2.2.1, a.2.2.2, ()), ((0 : Int), [], ()), ((n : Int), P, ()), (w.size : Int), (i : Int), ()))
  (fun P => (((0 : Int), [], ()), ((n : Int), P, ()), ())) (fun i P => ProdIs n a.2.2.2 ((bytes w).take i) P)
  (fun i P hi hP => by
   have hl := letter_is hw hi
   have hc : w.extract i (i + 1) = la ∨ w.extract i (i + 1) = lb := wext hw hi
   have hm := stepMatrix_is ha hv hs hc
   have hr := putSteps_rng ha (w.extract i (i + 1))
   obtain ⟨M, m1, m2⟩ := l3Matrix_is (c := w.extract i (i + 1)) ha.st ha.n1 ha.n4 ha.len ha.ok
   have m3 := l3Matrix_puts' ha (w.extract i (i + 1))
   rw [m1] at m3
   have m3 : M = putSteps (w.extract i (i + 1)) n a.2.2.2 a.2.2.2.length := (Prod.mk.inj (Option.some.inj m3)).2
   subst m3
   obtain ⟨C, c1, c2⟩ := mulMatrix_is ha.n1 ha.n4 hP.1 hr
   have hb : (w.extract i (i + 1)).toList = [w.data.getD i 0] := by
    rw [toList_bytes]
    rw [← toList_bytes]; exact extract_is hi
   rw [hb] at m2
   refine ⟨C, ?_, ?_⟩
   ·obtain ⟨x, S, F, l⟩ := a
    have hm : impl_StepMatrix (x, S, F, l) (w.extract i (i + 1)) = some (((n : Int), putSteps (w.extract i (i + 1)) n l l.length), true) := hm
    have c1 : impl_MulMatrix ((n : Int), P) ((n : Int), putSteps (w.extract i (i + 1)) n l l.length) = some (((n : Int), C), true) := c1
    have hi1 : (i : Int) ≤ ((i + 1 : Nat) : Int) := by omega
    have hi2 : ((i + 1 : Nat) : Int) ≤ (w.size : Int) := by omega
    simp only [impl_WordMatrix_l5, lt_t hi, cond_true, w64_succ hi (show w.size ≤ 9223372036854775807 by omega), Int.toNat_natCast, List.drop_zero, List.take_length]
    rw [if_pos ⟨by omega, hi1, hi2⟩, hm]
    simp only [Option.bind_some, List.drop_zero, List.take_length, c1]
   ·rw [bytes_take hi]
    exact ProdIs.mul ha.steps hP m2 c2)
  (fun P hP => by simp only [impl_WordMatrix_l5, lt_f, cond_false, List.drop_zero, List.take_length])
  U (by rw [List.take_zero]; exact u2)
 have g1 : loopF impl_WordMatrix_l5 (w, (a.1, a.2.1, a.2.2.1, a.2.2.2, ()), ((0 : Int), [], ()), ((n : Int), U, ()), (w.size : Int), (0 : Int), ()) = _ := g1
 rw [List.take_of_length_le (by rw [bytes_len]; omega)] at g2
 refine ⟨r, ?_, g2⟩
 obtain ⟨x, S, F, l⟩ := a
 have hx : x = (n : Int) := ha.st
 subst hx
 have g1 : loopF impl_WordMatrix_l5 (w, ((n : Int), S, F, l, ()), ((0 : Int), [], ()), ((n : Int), U, ()), (w.size : Int), (0 : Int), ()) = _ := g1
 simp only [impl_WordMatrix, hA, hv, hW, hw, u1, Option.bind_some, Bool.not_true, cond_false, List.drop_zero, List.take_length]
 rw [g1]
 simp only [Option.bind_some, List.drop_zero, List.take_length]
theorem wordMatrix_no {a : Aut} (hs : Small a) (hv : autOk a = true) {w : ByteArray} (hsz : w.size ≤ 9223372036854775807) (hw : wordOk w = false) : impl_WordMatrix a w = some (((0 : Int), []), false) := by
 have hA := impl_AutomatonValid_is a (small_len hs).1 (small_len hs).2
 have hW := impl_WordValid_is (w := w) hsz
 obtain ⟨x, S, F, l⟩ := a
 simp only [impl_WordMatrix, hA, hv, hW, hw, Option.bind_some, Bool.not_true, Bool.not_false, cond_false, cond_true]
/-- the grades of a word's matrix -/
theorem wordGrades_is {a : Aut} {n : Nat} (ha : AutIs a n) (hv : autOk a = true) (hs : Small a) {w : ByteArray} (hw : wordOk w = true) : ∃ P G, impl_WordMatrix a w = some (((n : Int), P), true) ∧ impl_GradesOf ((n : Int), P) = some (((n : Int), G), true) ∧ GM n a.2.2.2 w.toList G ∧ N2 G := by
 obtain ⟨P, p1, p2⟩ := wordMatrix_is ha hv hs hw
 have hsz := wordOk_size hw
 refine ⟨P, P.map gr, p1, gradesOf_is ha.n1 ha.n4 p2.1, ?_, n2_gr _⟩
 have e : w.toList = bytes w := toList_bytes w
 rw [e]
 exact gm_prod ha.steps (by rw [bytes_len]; exact hsz) p2
theorem gradesOf_no : impl_GradesOf ((0 : Int), []) = some (((0 : Int), []), false) := rfl
/-- the elements, by the program alone -/
theorem elements_impl {a : Aut} {n : Nat} (ha : AutIs a n) (hv : autOk a = true) (hs : Small a) : ∃ L ok, LOk n L ∧ impl_ElementsOf a = some (L, ok) ∧ (ok = false → L = []) ∧ (ok = true → Closed n a.2.2.2 (fun A => has L A = true)) := by
 have a1 := spec_letter ha (LOk.nil n) (p := ([], false)) (w := []) (by simp) (show 0 < 2 by omega) (c := la) rfl
 have okA : GOk n (lett la n a.2.2.2) := gr_ok (putSteps_rng ha la).1
 have okB : GOk n (lett lb n a.2.2.2) := gr_ok (putSteps_rng ha lb).1
 have p1 := sput_ok okA la (p := ([], false)) (LOk.nil n)
 have q1 := iput_ok okA la (p := ([], true)) (LOk.nil n)
 have b1 := impl_letter ha hv hs (LOk.nil n) (p := ([], true)) (show 0 < 2 by omega) (c := la) rfl (.inl rfl)
 have b2 := impl_letter ha hv hs q1 (show 1 < 2 by omega) (c := lb) rfl (.inr rfl)
 have s1 : Same (([], false) : List Elt × Bool) ([], true) := .inl ⟨rfl, rfl, rfl⟩
 have s2 := (s1.put (n := n) (A := lett la n a.2.2.2) (t := la)).put (n := n) (A := lett lb n a.2.2.2) (t := lb)
 obtain ⟨p', q', g1, g2, g3, g4, g5⟩ := search_same ha.n1 ha.n4 ([] ++ [(((n : Int), lett la n a.2.2.2), la)] ++ [(((n : Int), lett lb n a.2.2.2), lb)]) 121 0 _ _ (by omega) s2 (sput_ok okB lb p1) (iput_ok okB lb q1)
 have hI : impl_ElementsOf_at5 (a, ()) = some ((if p'.2 then [] else p'.1, !p'.2, ()), ()) := by
  have hA := impl_AutomatonValid_is a (small_len hs).1 (small_len hs).2
  obtain ⟨x, S, F, l⟩ := a
  have b1 : impl_ElementsOf_at5_l5 ((x, S, F, l, ()), ([], true, ()), [la, lb], (2 : Int), (0 : Int), ()) = _ := b1
  have b2 : impl_ElementsOf_at5_l5 ((x, S, F, l, ()), _, [la, lb], (2 : Int), ((0 + 1 : Nat) : Int), ()) = _ := b2
  simp only [impl_ElementsOf_at5, hA, hv, Option.bind_some, Bool.not_true, cond_false, List.drop_zero, show List.take 2 [la, lb] = [la, lb] from rfl, show ((2 : Nat) : Int) = 2 from rfl]
  rw [loopF_eq, b1]
  simp only [Option.bind_some]
  rw [loopF_eq, b2]
  simp only [Option.bind_some]
  rw [loopF_eq]
  simp only [impl_ElementsOf_at5_l5, show decide (((1 + 1 : Nat) : Int) < 2) = false from rfl, cond_false, List.drop_zero, List.take_length, Option.bind_some]
  have g2 : loopF impl_ElementsOf_at5_l11 (_, (0 : Int), ()) = _ := g2
  rw [g2]
  obtain ⟨L, F⟩ := p'
  obtain ⟨L', f⟩ := q'
  rcases g3 with ⟨c1, c2, c3⟩ | ⟨c1, c2⟩
  ·have c1 : F = false := c1
   have c2 : f = true := c2
   have c3 : L' = L := c3
   subst c1 c2 c3
   simp
  ·have c1 : F = true := c1
   have c2 : f = false := c2
   subst c1 c2
   simp
 have hO : elemOf n a.2.2.2 = some (if p'.2 then ([], false) else (p'.1, true)) := by
  unfold elemOf
  rw [show loopF spec_l8Elements_l11 (true, _, _, (0 : Int), ()) = _ from g1]
  rfl
 obtain ⟨L, full⟩ := p'
 have g4 : LOk n L := g4
 cases full with
 | true =>
  refine ⟨[], false, LOk.nil n, ?_, fun _ => rfl, fun h => by cases h⟩
  obtain ⟨x, S, F, l⟩ := a
  simp only [impl_ElementsOf, hI, Option.bind_some, if_true, List.drop_zero, List.take_length]
  rfl
 | false =>
  have hc := elements_closed ha (L := L) hO
  refine ⟨L, true, g4, ?_, fun h => (by cases h), fun _ => hc⟩
  obtain ⟨x, S, F, l⟩ := a
  simp only [impl_ElementsOf, hI, Option.bind_some, List.drop_zero, List.take_length]
  simp
/-- every word has an element among those that are closed under products -/
theorem closed_gw {a : Aut} {n : Nat} (ha : AutIs a n) {L : List Elt} (h : Closed n a.2.2.2 (fun A => has L A = true)) : ∀ ws : List UInt8, ws ≠ [] → (∀ b ∈ ws, b = 97 ∨ b = 98) → ∃ A, has L A = true ∧ GM n a.2.2.2 ws A ∧ N2 A
 | [], h0, _ => absurd rfl h0
 | b :: ws, _, hb => by
  have one : ∃ A, has L A = true ∧ GM n a.2.2.2 [b] A ∧ N2 A := by
   rcases hb b List.mem_cons_self with rfl | rfl
   ·exact ⟨_, h.la, gm_lett ha (by rw [toList_bytes]), n2_gr _⟩
   ·exact ⟨_, h.lb, gm_lett ha (by rw [toList_bytes]), n2_gr _⟩
  by_cases hw : ws = []
  ·subst hw; exact one
  ·obtain ⟨A, h1, h2, h5⟩ := one
   obtain ⟨B, h3, h4, h6⟩ := closed_gw ha h ws hw (fun c hc => hb c (List.mem_cons_of_mem _ hc))
   exact ⟨_, h.mul _ _ h1 h3, gm_mul ha.steps h2 h4, n2_mul h2.1 h4.1 h5 h6⟩
/-- every word has an element among those that are closed under letters -/
theorem words_gw {a : Aut} {n : Nat} (ha : AutIs a n) {L : List Elt} (kA : has L (lett la n a.2.2.2) = true) (kB : has L (lett lb n a.2.2.2) = true)
  (h : ∀ A, has L A = true → has L (gmul n A (lett la n a.2.2.2)) = true ∧ has L (gmul n A (lett lb n a.2.2.2)) = true) : ∀ (d : Nat) (ws : List UInt8), ws.length = d → ws ≠ [] → (∀ b ∈ ws, b = 97 ∨ b = 98) → ∃ A, has L A = true ∧ GM n a.2.2.2 ws A ∧ N2 A := by
 have gA : GM n a.2.2.2 [97] (lett la n a.2.2.2) := gm_lett ha (by rw [toList_bytes])
 have gB : GM n a.2.2.2 [98] (lett lb n a.2.2.2) := gm_lett ha (by rw [toList_bytes])
 intro d
 induction d with
 | zero => intro ws h0 h1; exact absurd (List.length_eq_zero_iff.1 h0) h1
 | succ d ih =>
  intro ws hd hne hb
  have e := List.dropLast_concat_getLast hne
  have hl := hb _ (List.getLast_mem hne)
  generalize ws.getLast hne = b at e hl
  have hdl : ws.dropLast.length = d := by rw [List.length_dropLast, hd]; rfl
  generalize hvs : ws.dropLast = vs at e hdl
  by_cases h0 : vs = []
  ·subst h0
   have e : ws = [b] := e.symm
   subst e
   rcases hl with rfl | rfl
   ·exact ⟨_, kA, gA, n2_gr _⟩
   ·exact ⟨_, kB, gB, n2_gr _⟩
  ·obtain ⟨A, h1, h2, h3⟩ := ih vs hdl h0 (fun c hc => hb c (by rw [← e]; exact List.mem_append_left _ hc))
   obtain ⟨m1, m2⟩ := h A h1
   rw [← e]
   rcases hl with rfl | rfl
   ·exact ⟨_, m1, gm_mul ha.steps h2 gA, n2_mul h2.1 gA.1 h3 (n2_gr _)⟩
   ·exact ⟨_, m2, gm_mul ha.steps h2 gB, n2_mul h2.1 gB.1 h3 (n2_gr _)⟩
theorem nodup_len {α : Type} [DecidableEq α] : ∀ (L M : List α), L.Nodup → (∀ x ∈ L, x ∈ M) → L.length ≤ M.length
 | [], M, _, _ => Nat.zero_le _
 | x :: L, M, h, k => by
  obtain ⟨h1, h2⟩ := List.nodup_cons.1 h
  have hx := k x List.mem_cons_self
  have := nodup_len L (M.erase x) h2 fun y hy => (List.mem_erase_of_ne (by rintro rfl; exact h1 hy)).2 (k y (List.mem_cons_of_mem _ hy))
  rw [List.length_erase_of_mem hx] at this
  have := List.length_pos_of_mem hx
  rw [List.length_cons]
  omega
/-- as many distinct values as stand in the other list -/
theorem nd_le {L M : List Elt} (h : NDv L) (k : ∀ e ∈ L, has M e.1.2 = true) : L.length ≤ M.length := by
 have h1 : (L.map fun e => e.1.2) ⊆ (M.map fun e => e.1.2) := by
  intro A hA
  obtain ⟨e, he, rfl⟩ := List.mem_map.1 hA
  obtain ⟨f, hf, hfe⟩ := has_iff.1 (k e he)
  exact List.mem_map.2 ⟨f, hf, hfe⟩
 have h2 := nodup_len (L.map fun e : Elt => e.1.2) (M.map fun e : Elt => e.1.2) h fun x hx => h1 hx
 rwa [List.length_map, List.length_map] at h2
end Go.Proofs.Ytfdhmmnffahhgaa

/- The law of the elements of words. -/
namespace Go.Proofs.Ytfdhmmnffahhgaa
open Go Go.Proofs.Ytfdhmmnffahhgaa.Am
theorem daSame2_is {l m : List Int} (hm : l.length = m.length) (hl : l.length ≤ 9223372036854775807) : laws_daSame l m = some (decide (l = m)) := by
 have g := loop_find (f := laws_daSame_l2) (fun i => (l, m, ((l.length : Nat) : Int), (i : Int), ())) l.length (fun i => decide (l.getD i 0 ≠ m.getD i 0)) (fun i => Sum.inl (false, ())) (Sum.inr (l, m, ()))
  (fun i hi => by
   simp only [laws_daSame_l2, lt_t hi, cond_true, if_pos (in_t hi), if_pos (in_t (show i < m.length by omega)), Int.toNat_natCast, w64_succ hi hl]
   by_cases e : l.getD i 0 = m.getD i 0
   ·rw [show (l.getD i 0 != m.getD i 0) = false from bne_eq_false_iff_eq.2 e, decide_eq_false (fun h => h e)]
    rfl
   ·rw [show (l.getD i 0 != m.getD i 0) = true by simpa using e, decide_eq_true e]
    rfl)
  (by simp only [laws_daSame_l2, lt_f, cond_false])
 have g : loopF laws_daSame_l2 (l, m, ((l.length : Nat) : Int), (0 : Int), ()) = _ := g
 unfold laws_daSame
 rw [if_neg (by omega), g]
 cases hf : (List.range l.length).find? fun i => decide (l.getD i 0 ≠ m.getD i 0) with
 | some i =>
  have h1 := List.find?_some hf
  have h1 := of_decide_eq_true h1
  simp only [Option.bind_some]
  rw [decide_eq_false (fun e => h1 (by rw [e]))]
 | none =>
  have h1 := List.find?_eq_none.1 hf
  have e : l = m := by
   refine List.ext_getElem hm fun i h2 h3 => ?_
   have h4 := h1 i (List.mem_range.2 h2)
   rw [← getD_get 0 h2, ← getD_get 0 h3]
   simpa using h4
  simp only [Option.bind_some]
  rw [decide_eq_true e, hm]
  simp
theorem drawWords_is {c : List Int} (hc : ∀ x ∈ c, 0 ≤ x ∧ x ≤ 255) : ∃ a, spec_DrawWordElements c = some a ∧ Small a := by
 obtain ⟨⟨b, k⟩, p0, s0⟩ := l13Open_is hc
 obtain ⟨⟨x, S, F, l⟩, ⟨b1, k1⟩, p1, t1, s1⟩ := l8Draw_is s0 (by omega)
 refine ⟨(x, S, F, l), ?_, t1.small⟩
 unfold spec_DrawWordElements
 rw [p0]
 simp only [Option.bind_some]
 rw [p1]
 rfl
theorem drawSwap_is {c : List Int} (hc : ∀ x ∈ c, 0 ≤ x ∧ x ≤ 255) : ∃ w, spec_DrawSwapWord c = some w ∧ w.size ≤ 61 := by
 obtain ⟨⟨b, k⟩, p0, s0⟩ := l13Open_is hc
 obtain ⟨w, ⟨b1, k1⟩, p1, p2, s1⟩ := l4Word_is s0 (by omega)
 refine ⟨w, ?_, p2⟩
 unfold spec_DrawSwapWord
 rw [p0]
 simp only [Option.bind_some]
 rw [p1]
 rfl
section
variable {n : Nat} {L M : List Elt} (m : Int) (G : List Int) (wh : Bool)
theorem in_loop (hL : LOk n L) (h4 : n ≤ 4) (b2 : Bool) {b : Bool} (h : b = true ∨ (m = (n : Int) ∧ G.length = n * n ∧ has L G = true)) : loopF laws_FnWordElements_l22 (L, (m, G, ()), M, wh, b, b2, L, (L.length : Int), (0 : Int), ()) = some (L, (m, G, ()), M, wh, true, b2, ()) := by
 have hlen := hL.len
 have hsq := sq_le h4
 obtain ⟨r, g1, g2⟩ := loop_inv (f := laws_FnWordElements_l22) L.length (fun i (c : Bool) => (L, (m, G, ()), M, wh, c, b2, L, (L.length : Int), (i : Int), ())) (fun i c => c || decide ((L.getD i el0).1.2 = G))
  (fun c => (L, (m, G, ()), M, wh, c, b2, ())) (fun i c => c = (b || (L.take i).any fun e => decide (e.1.2 = G)))
  (fun i c hi hc => by subst hc; rw [take_snoc hi, List.any_append, getD_get el0 hi, Bool.or_assoc]; simp)
  (fun i c hi hc => by
   simp only [laws_FnWordElements_l22, lt_t hi, cond_true, if_pos (in_t hi), Int.toNat_natCast, List.drop_zero, List.take_length, w64_succ hi (show L.length ≤ 9223372036854775807 by omega)]
   cases c with
   | true => simp only [cond_true, Bool.true_or]
   | false =>
    rcases h with h | ⟨h1, h2, h3⟩
    ·rw [h] at hc
     simp at hc
    ·obtain ⟨k1, k2, k3⟩ := hL.at hi
     have hd : laws_daMatrix ((L.getD i el0).1.1, (L.getD i el0).1.2) (m, G) = some (decide ((L.getD i el0).1.2 = G)) := by
      simp only [laws_daMatrix, k1, h1, BEq.rfl, cond_true, daSame2_is (show (L.getD i el0).1.2.length = G.length by rw [k2.1, h2]) (by rw [k2.1]; omega), Option.bind_some]
     simp only [cond_false, hd, Option.bind_some, Bool.false_or])
  (fun c hc => by simp only [laws_FnWordElements_l22, lt_f, cond_false, List.drop_zero, List.take_length])
  b (by simp)
 have g1 : loopF laws_FnWordElements_l22 (L, (m, G, ()), M, wh, b, b2, L, (L.length : Int), (0 : Int), ()) = _ := g1
 rw [g1, g2, List.take_length]
 have : (b || L.any fun e => decide (e.1.2 = G)) = true := by
  rcases h with h | ⟨_, _, h⟩
  ·rw [h]; rfl
  ·have h : (L.any fun e => decide (e.1.2 = G)) = true := h
   rw [h, Bool.or_true]
 rw [this]
theorem among_loop (hM : LOk n M) (h4 : n ≤ 4) (b2 : Bool) {b : Bool} (h : b = true ∨ (m = (n : Int) ∧ G.length = n * n ∧ has M G = true)) : loopF laws_FnWordElements_l27 (L, (m, G, ()), M, wh, b2, b, M, (M.length : Int), (0 : Int), ()) = some (L, M, wh, b2, true, ()) := by
 have hlen := hM.len
 have hsq := sq_le h4
 obtain ⟨r, g1, g2⟩ := loop_inv (f := laws_FnWordElements_l27) M.length (fun i (c : Bool) => (L, (m, G, ()), M, wh, b2, c, M, (M.length : Int), (i : Int), ())) (fun i c => c || decide ((M.getD i el0).1.2 = G))
  (fun c => (L, M, wh, b2, c, ())) (fun i c => c = (b || (M.take i).any fun e => decide (e.1.2 = G)))
  (fun i c hi hc => by subst hc; rw [take_snoc hi, List.any_append, getD_get el0 hi, Bool.or_assoc]; simp)
  (fun i c hi hc => by
   simp only [laws_FnWordElements_l27, lt_t hi, cond_true, if_pos (in_t hi), Int.toNat_natCast, List.drop_zero, List.take_length, w64_succ hi (show M.length ≤ 9223372036854775807 by omega)]
   cases c with
   | true => simp only [cond_true, Bool.true_or]
   | false =>
    rcases h with h | ⟨h1, h2, h3⟩
    ·rw [h] at hc
     simp at hc
    ·obtain ⟨k1, k2, k3⟩ := hM.at hi
     have hd : laws_daMatrix ((M.getD i el0).1.1, (M.getD i el0).1.2) (m, G) = some (decide ((M.getD i el0).1.2 = G)) := by
      simp only [laws_daMatrix, k1, h1, BEq.rfl, cond_true, daSame2_is (show (M.getD i el0).1.2.length = G.length by rw [k2.1, h2]) (by rw [k2.1]; omega), Option.bind_some]
     simp only [cond_false, hd, Option.bind_some, Bool.false_or])
  (fun c hc => by simp only [laws_FnWordElements_l27, lt_f, cond_false, List.drop_zero, List.take_length])
  b (by simp)
 have g1 : loopF laws_FnWordElements_l27 (L, (m, G, ()), M, wh, b2, b, M, (M.length : Int), (0 : Int), ()) = _ := g1
 rw [g1, g2, List.take_length]
 have : (b || M.any fun e => decide (e.1.2 = G)) = true := by
  rcases h with h | ⟨_, _, h⟩
  ·rw [h]; rfl
  ·have h : (M.any fun e => decide (e.1.2 = G)) = true := h
   rw [h, Bool.or_true]
 rw [this]
end
theorem p_FnWordElements (x0 x1 : List Int) (f0 : Fits (.sl (.int .u8)) x0) (f1 : Fits (.sl (.int .u8)) x1) : laws_FnWordElements x0 x1 = some true := by
 unfold laws_FnWordElements
 by_cases hx : ((x0.length : Nat) : Int) > 1048576
 ·rw [decide_eq_true hx, cond_true]
 by_cases hy : ((x1.length : Nat) : Int) > 1048576
 ·rw [decide_eq_false hx, cond_false, decide_eq_true hy, cond_true]
 rw [decide_eq_false hx, cond_false, decide_eq_false hy, cond_false]
 obtain ⟨a, d1, hs⟩ := drawWords_is (bytes_of f0)
 cases hv : autOk a with
 | false =>
  obtain ⟨e1, e2⟩ := words_not hv hs
  obtain ⟨x, S, F, l⟩ := a
  rw [d1]
  simp only [Option.bind_some, e1, e2, List.length_nil, bne_self_eq_false, BEq.rfl, Bool.not_true, Bool.not_false, cond_true, cond_false]
 | true =>
  obtain ⟨n, ha⟩ := autOk_is hv
  obtain ⟨L, ok, hL, e1, e2, eo⟩ := words_full ha hv hs
  cases ok with
  | false =>
   obtain ⟨x, S, F, l⟩ := a
   rw [d1]
   simp only [Option.bind_some, e1, e2, bne_self_eq_false, BEq.rfl, Bool.not_true, Bool.not_false, cond_true, cond_false]
  | true =>
   obtain ⟨nd, hX, kA, kB, kC⟩ := eo rfl
   have hGW := hX _ (gw_clo ha) (gw_lett ha).1 (gw_lett ha).2
   have h4 := ha.n4
   have hsq := sq_le h4
   have hlen := hL.len
   obtain ⟨M, whole, hM, e3, e30, e3c⟩ := elements_impl ha hv hs
   obtain ⟨w, d2, hw61⟩ := drawSwap_is (bytes_of f1)
   -- each element is that of its word
   have l9 : loopF laws_FnWordElements_l9 (x1, (a.1, a.2.1, a.2.2.1, a.2.2.2, ()), L, L, L, (L.length : Int), (0 : Int), ()) = some (Sum.inr (x1, (a.1, a.2.1, a.2.2.1, a.2.2.2, ()), L, ())) := by
    obtain ⟨r1, l1, _⟩ := loop_inv (f := laws_FnWordElements_l9) (α := Unit) L.length (fun i _ => (x1, (a.1, a.2.1, a.2.2.1, a.2.2.2, ()), L, L, L, (L.length : Int), (i : Int), ())) (fun _ _ => ())
     (fun _ => Sum.inr (x1, (a.1, a.2.1, a.2.2.1, a.2.2.2, ()), L, ())) (fun _ _ => True) (fun _ _ _ _ => trivial)
     (fun i _ hi _ => by
      have hm : L.getD i el0 ∈ L := by rw [getD_get el0 hi]; exact List.getElem_mem hi
      obtain ⟨k1, k2, k3⟩ := hL.el _ hm
      obtain ⟨q1, q2, q3, q4⟩ := hGW _ hm
      obtain ⟨P, G, p1, p2, p3, p4⟩ := wordGrades_is ha hv hs (wordOk_of q3 (by omega))
      have hG : G = (L.getD i el0).1.2 := gm_uniq p3 q1 p4 q2
      subst hG
      have hd : laws_daMatrix ((n : Int), (L.getD i el0).1.2) ((L.getD i el0).1.1, (L.getD i el0).1.2) = some true := by
       simp only [laws_daMatrix, k1, BEq.rfl, cond_true, daSame2_is rfl (show (L.getD i el0).1.2.length ≤ 9223372036854775807 by rw [k2.1]; omega), Option.bind_some, decide_true]
      obtain ⟨x, S, F, l⟩ := a
      have p1 : impl_WordMatrix (x, S, F, l) (L.getD i el0).2 = some (((n : Int), P), true) := p1
      simp only [laws_FnWordElements_l9, lt_t hi, cond_true, if_pos (in_t hi), Int.toNat_natCast, Nat.zero_add, p1, p2, hd, Option.bind_some, List.drop_zero, List.take_length, BEq.rfl, Bool.not_true, cond_false]
      rw [w64_succ hi (by omega)])
     (fun _ _ => by simp only [laws_FnWordElements_l9, lt_f, cond_false, List.drop_zero, List.take_length]) () trivial
    exact l1
   -- no more elements of words than elements
   have hle : whole = true → L.length ≤ M.length := fun hw => nd_le nd fun e he => by
    obtain ⟨q1, q2, q3, q4⟩ := hGW _ he
    obtain ⟨A, c1, c2, c3⟩ := closed_gw ha (e3c hw) e.2.toList (by rw [toList_bytes]; exact q4) (by rw [toList_bytes]; exact q3)
    rw [gm_uniq q1 c2 q2 c3]
    exact c1
   -- the word's own matrix
   have own : ∃ m P fine g G good, impl_WordMatrix a w = some ((m, P), fine) ∧ impl_GradesOf (m, P) = some ((g, G), good) ∧ (fine = true → w.toList ≠ [] → g = (n : Int) ∧ G.length = n * n ∧ has L G = true ∧ (whole = true → has M G = true)) := by
    cases hw : wordOk w with
    | false =>
     exact ⟨_, _, _, _, _, _, wordMatrix_no hs hv (by omega) hw, gradesOf_no, fun h => by cases h⟩
    | true =>
     obtain ⟨P, G, p1, p2, p3, p4⟩ := wordGrades_is ha hv hs hw
     refine ⟨_, _, _, _, _, _, p1, p2, fun _ hne => ?_⟩
     have hab : ∀ b ∈ w.toList, b = 97 ∨ b = 98 := by rw [toList_bytes]; exact wordOk_AB hw
     obtain ⟨A, c1, c2, c3⟩ := words_gw ha kA kB kC _ w.toList rfl hne hab
     obtain rfl : G = A := gm_uniq p3 c2 p4 c3
     refine ⟨rfl, p3.1.1, c1, fun hwh => ?_⟩
     obtain ⟨B, b1, b2, b3⟩ := closed_gw ha (e3c hwh) w.toList hne hab
     obtain rfl : G = B := gm_uniq p3 b2 p4 b3
     exact b1
   obtain ⟨m, P, fine, g, G, good, w1, w2, w3⟩ := own
   obtain ⟨x, S, F, l⟩ := a
   have l9 : loopF laws_FnWordElements_l9 (x1, (x, S, F, l, ()), L, L, L, (L.length : Int), (0 : Int), ()) = some (Sum.inr (x1, (x, S, F, l, ()), L, ())) := l9
   rw [d1]
   simp only [Option.bind_some, e1, e2, bne_self_eq_false, BEq.rfl, Bool.not_true, cond_false, List.drop_zero, List.take_length, l9, d2, w1, w2, e3]
   have fin : (decide (((L.length : Nat) : Int) ≤ ((M.length : Nat) : Int)) = true) ∨ whole = false := by
    cases whole with
    | false => exact .inr rfl
    | true => exact .inl (decide_eq_true (by have := hle rfl; omega))
   have fin2 : (bif !whole then some true else some (decide (((L.length : Nat) : Int) ≤ ((M.length : Nat) : Int)))) = some true := by
    rcases fin with h | h
    ·rw [h]; cases whole <;> rfl
    ·rw [h]; rfl
   by_cases hw0 : w.toList = []
   ·have c0 : (w.toList == (⟨#[]⟩ : ByteArray).toList) = true := by rw [hw0]; simp [toList_bytes]
    simp only [c0, cond_true, in_loop g G whole hL h4 _ (.inl rfl), among_loop g G whole hM h4 _ (.inl rfl), Option.bind_some, List.drop_zero, List.take_length, fin2]
   ·have c0 : (w.toList == (⟨#[]⟩ : ByteArray).toList) = false := by
     rw [show (⟨#[]⟩ : ByteArray).toList = [] by simp [toList_bytes]]
     simpa using hw0
    cases fine with
    | false =>
     simp only [c0, cond_true, cond_false, Bool.not_false, in_loop g G whole hL h4 _ (.inl rfl), among_loop g G whole hM h4 _ (.inl rfl), Option.bind_some, List.drop_zero, List.take_length, fin2]
    | true =>
     obtain ⟨u1, u2, u3, u4⟩ := w3 rfl hw0
     cases whole with
     | false =>
      simp only [c0, cond_true, cond_false, Bool.not_true, Bool.not_false, in_loop g G false hL h4 _ (.inr ⟨u1, u2, u3⟩), among_loop g G false hM h4 _ (.inl rfl), Option.bind_some, List.drop_zero, List.take_length]
     | true =>
      simp only [c0, cond_true, cond_false, Bool.not_true, in_loop g G true hL h4 _ (.inr ⟨u1, u2, u3⟩), among_loop g G true hM h4 _ (.inr ⟨u1, u2, u4 rfl⟩), Option.bind_some, List.drop_zero, List.take_length]
      exact fin2
end Go.Proofs.Ytfdhmmnffahhgaa
