/- The elements of any automaton, and what is asked of them: both sides tell the same. -/
import Derived.Test.YtfdhmmnffahhgaaP34
set_option linter.unusedVariables false
set_option linter.unusedSimpArgs false
namespace Go.Proofs.Ytfdhmmnffahhgaa
open Go Go.Proofs.Ytfdhmmnffahhgaa.Am
def lett (c : ByteArray) (n : Nat) (l : List Stp) : List Int := (putSteps c n l l.length).map gr
theorem spec_letter {a : Aut} {n : Nat} (ha : AutIs a n) {p : List Elt × Bool} (hp : LOk n p.1) {w : List Elt} (hw : w.length ≤ 2) {k : Nat} (hk : k < 2) {c : ByteArray} (hc : List.getD [la, lb] k (⟨Array.empty⟩ : ByteArray) = c) :
  spec_l8Elements_l4 (true, (a.1, a.2.1, a.2.2.1, a.2.2.2, ()), (p.1, p.2, ()), w, [la, lb], (2 : Int), (k : Int), ()) = some (.inl (true, (a.1, a.2.1, a.2.2.1, a.2.2.2, ()), ((sput n (lett c n a.2.2.2) c p).1, (sput n (lett c n a.2.2.2) c p).2, ()), w ++ [(((n : Int), lett c n a.2.2.2), c)], [la, lb], (2 : Int), ((k + 1 : Nat) : Int), ())) := by
 have hr := putSteps_rng ha c
 have hm := l3Matrix_puts' ha c
 obtain ⟨x, S, F, l⟩ := a
 have hm : spec_l3Matrix (x, S, F, l) c = some ((n : Int), putSteps c n l l.length) := hm
 have hg := l6Grades_is ha.n4 hr.1
 have hA : GOk n (lett c n l) := gr_ok hr.1
 have e1 := sput_39 ha.n4 p hp hA c x S F l true (w ++ [(((n : Int), lett c n l), c)]) [la, lb] (2 : Int) (k : Int)
 simp only [spec_l8Elements_l4, decide_eq_true (show (k : Int) < 2 by omega), cond_true, Int.toNat_natCast, Nat.zero_add, hc, hm, Option.bind_some, List.drop_zero, List.take_length]
 rw [if_pos ⟨by omega, by simp; omega⟩, show spec_l6Grades ((n : Int), putSteps c n l l.length) = some ((n : Int), lett c n l) from hg]
 simp only [Option.bind_some, List.drop_zero, List.take_length, show List.take 1 [(((n : Int), lett c n l), c)] = [(((n : Int), lett c n l), c)] from rfl, List.take_of_length_le (show (w ++ [(((n : Int), lett c n l), c)]).length ≤ w.length + [(((n : Int), lett c n l), c)].length by simp), if_true]
 rw [if_pos ⟨trivial, by simp; omega⟩, e1]
 simp only [Option.bind_some, Nat.zero_add, List.drop_zero, List.take_length, if_true, w64_succ hk (by omega)]
theorem impl_letter {a : Aut} {n : Nat} (ha : AutIs a n) (hv : autOk a = true) (hs : Small a) {p : List Elt × Bool} (hp : LOk n p.1) {k : Nat} (hk : k < 2) {c : ByteArray} (hc : List.getD [la, lb] k (⟨Array.empty⟩ : ByteArray) = c) (hc2 : c = la ∨ c = lb) :
  impl_ElementsOf_at5_l5 ((a.1, a.2.1, a.2.2.1, a.2.2.2, ()), (p.1, p.2, ()), [la, lb], (2 : Int), (k : Int), ()) = some (.inl ((a.1, a.2.1, a.2.2.1, a.2.2.2, ()), ((iput n (lett c n a.2.2.2) c p).1, (iput n (lett c n a.2.2.2) c p).2, ()), [la, lb], (2 : Int), ((k + 1 : Nat) : Int), ())) := by
 have hr := putSteps_rng ha c
 have hm := valueOf_letter ha hv hs hc2
 obtain ⟨x, S, F, l⟩ := a
 have hm : impl_ValueOf (x, S, F, l) c = some (((n : Int), lett c n l), true) := hm
 have hA : GOk n (lett c n l) := gr_ok hr.1
 have e1 := iput_at5_at32 ha.n4 p hp hA c x S F l [la, lb] (2 : Int) (k : Int)
 simp only [impl_ElementsOf_at5_l5, decide_eq_true (show (k : Int) < 2 by omega), cond_true, Int.toNat_natCast, Nat.zero_add, hc, hm, Option.bind_some, List.drop_zero, List.take_length]
 rw [if_pos ⟨by omega, by simp; omega⟩, e1]
 simp only [Option.bind_some, Nat.zero_add, List.drop_zero, List.take_length, if_true, w64_succ hk (by omega)]
theorem LOk.nil (n : Nat) : LOk n [] := ⟨fun e he => (by cases he), (by simp)⟩
theorem own_is {L : List Elt} {n : Nat} (hL : LOk n L) (h4 : n ≤ 4) : spec_l13OwnListElement L = some L := by
 have hlen := hL.len
 have hsq := sq_le h4
 obtain ⟨r, g1, g2⟩ := loop_inv (f := spec_l13OwnListElement_l3) L.length (fun i (o : List Elt) => (o, L, (L.length : Int), (i : Int), ())) (fun i o => o ++ [L.getD i el0]) (fun o => (o, ())) (fun i o => o = L.take i)
  (fun i o hi ho => by subst ho; rw [take_snoc hi, getD_get el0 hi])
  (fun i o hi ho => by
   have hol : o.length = i := by subst ho; rw [List.length_take]; omega
   have hat := hL.at hi
   rcases he : L.getD i el0 with ⟨⟨m, E⟩, te⟩
   rw [he] at hat
   have hE : E.length = n * n := hat.2.1.1
   have e1 : spec_l13OwnElement ((m, E), te) = some ((m, E), te) := by
    simp only [spec_l13OwnElement, spec_l13OwnMatrix, List.length_nil, Nat.zero_add, List.drop_zero, List.nil_append, List.take_length]
    rw [if_pos ⟨trivial, by rw [hE]; omega⟩]
    simp only [Option.bind_some, List.take_length]
   simp only [spec_l13OwnListElement_l3, lt_t hi, cond_true, if_pos (in_t hi), Int.toNat_natCast, he, e1, Option.bind_some, List.drop_zero, List.take_length, Nat.zero_add, show List.take 1 [((m, E), te)] = [((m, E), te)] from rfl]
   rw [if_pos ⟨trivial, by simp; omega⟩, List.take_of_length_le (by simp), w64_succ hi (by omega)])
  (fun o ho => by simp only [spec_l13OwnListElement_l3, lt_f, cond_false, List.drop_zero, List.take_length])
  [] rfl
 have g1 : loopF spec_l13OwnListElement_l3 ([], L, (L.length : Int), (0 : Int), ()) = _ := g1
 rw [List.take_length] at g2
 simp only [spec_l13OwnListElement, List.drop_zero, List.take_nil]
 rw [g1, g2]
 simp only [Option.bind_some, List.drop_zero, List.take_length]
/-- the elements, told of steps alone -/
noncomputable def elemOf (n : Nat) (st : List Stp) : Option (List Elt × Bool) :=
 (loopF spec_l8Elements_l11 (true, ((sput n (lett lb n st) lb (sput n (lett la n st) la ([], false))).1, (sput n (lett lb n st) lb (sput n (lett la n st) la ([], false))).2, ()), [] ++ [(((n : Int), lett la n st), la)] ++ [(((n : Int), lett lb n st), lb)], (0 : Int), ())).map fun r => if r.1.2.1 then ([], false) else (r.1.1, true)
/-! ### the grade from a start to a final -/
section
variable {n : Nat} (h1 : 1 ≤ n) (h4 : n ≤ 4) {S F : List Int} (l : List Stp) (hS : ∀ q ∈ S, 0 ≤ q ∧ q ≤ (n : Int) - 1) (hF : ∀ q ∈ F, 0 ≤ q ∧ q ≤ (n : Int) - 1) (lS : S.length ≤ 1048576) (lF : F.length ≤ 1048576) {A : List Int} (hA : GOk n A)
include h4 hF lF hA
end
/-! ### the first element for which something holds -/
end Go.Proofs.Ytfdhmmnffahhgaa
