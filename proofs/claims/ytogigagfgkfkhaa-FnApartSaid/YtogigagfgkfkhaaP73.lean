/- Draws of two automata; the law of the first word that costs more. -/
import Derived.Test.YtogigagfgkfkhaaP11
import Derived.Test.YtogigagfgkfkhaaP42
import Derived.Test.YtogigagfgkfkhaaP64
set_option linter.unusedVariables false
set_option linter.unusedSimpArgs false
namespace Go.Proofs.Ytogigagfgkfkhaa
open Go Go.Proofs.Ytogigagfgkfkhaa.Am
abbrev B4 : Type := Bool × Bool × Bool × Bool
/-- one of four is written -/
def set4 {α : Type} (m : α × α × α × α) (k : Nat) (v : α) : α × α × α × α :=
 (bif Nat.beq k 0 then v else m.1, bif Nat.beq k (0 + 1) then v else m.2.1, bif Nat.beq k ((0 + 1) + 1) then v else m.2.2.1, bif Nat.beq k (((0 + 1) + 1) + 1) then v else m.2.2.2)
def get4 (m : B4) (k : Nat) : Bool := List.getD [m.1, m.2.1, m.2.2.1, m.2.2.2] k false
theorem reach_is {a : Aut} {n : Nat} (ha : AutIs a n) {W : List Int} (hW : ∀ q ∈ W, 0 ≤ q ∧ q ≤ (n : Int) - 1) (hl : W.length ≤ 1048576) (back : Bool) : ∃ m : B4, spec_l3Reach a W back = some (m.1, m.2.1, m.2.2.1, m.2.2.2) := by
 have h4 := ha.n4
 have hst := ha.steps
 have hlen := ha.len
 obtain ⟨x, S, F, l⟩ := a
 have hx : x = (n : Int) := ha.st
 subst hx
 have hst : ∀ s ∈ l, StepIs (n : Int) s := hst
 have hlen : l.length ≤ 24 := hlen
 obtain ⟨m, g1, _⟩ := loop_inv (f := spec_l3Reach_l3) W.length (fun i (m : B4) => (back, ((n : Int), S, F, l, ()), (false, false, false, false, ()), (m.1, m.2.1, m.2.2.1, m.2.2.2, ()), W, (W.length : Int), (i : Int), ()))
  (fun i m => set4 m (W.getD i 0).toNat true) (fun m => (back, ((n : Int), S, F, l, ()), (false, false, false, false, ()), (m.1, m.2.1, m.2.2.1, m.2.2.2, ()), ())) (fun _ _ => True) (fun _ _ _ _ => trivial)
  (fun i m hi _ => by
   have hq := hW _ (show W.getD i 0 ∈ W by rw [getD_g 0 hi]; exact List.getElem_mem hi)
   simp only [spec_l3Reach_l3, lt_t hi, cond_true, if_pos (in_t hi), Int.toNat_natCast]
   rw [if_pos ⟨hq.1, by omega⟩, w64_succ hi (by omega)]
   rfl)
  (fun m _ => by simp only [spec_l3Reach_l3, lt_f, cond_false]) (false, false, false, false) trivial
 have g1 : loopF spec_l3Reach_l3 (back, ((n : Int), S, F, l, ()), (false, false, false, false, ()), (false, false, false, false, ()), W, (W.length : Int), (0 : Int), ()) = _ := g1
 have inner : ∀ (m : B4) (u v : Int), ∃ r : B4, loopF spec_l3Reach_l10 (back, ((n : Int), S, F, l, ()), (false, false, false, false, ()), (m.1, m.2.1, m.2.2.1, m.2.2.2, ()), u, v, l, (l.length : Int), (0 : Int), ()) =
   some (back, ((n : Int), S, F, l, ()), (false, false, false, false, ()), (r.1, r.2.1, r.2.2.1, r.2.2.2, ()), u, v, ()) := by
  intro m u v
  obtain ⟨r, k1, _⟩ := loop_inv (f := spec_l3Reach_l10) l.length (fun i (m : B4) => (back, ((n : Int), S, F, l, ()), (false, false, false, false, ()), (m.1, m.2.1, m.2.2.1, m.2.2.2, ()), u, v, l, (l.length : Int), (i : Int), ()))
   (fun i m => bif back then (bif get4 m (l.getD i stp0).2.2.1.toNat then set4 m (l.getD i stp0).1.toNat true else m) else (bif get4 m (l.getD i stp0).1.toNat then set4 m (l.getD i stp0).2.2.1.toNat true else m))
   (fun m => (back, ((n : Int), S, F, l, ()), (false, false, false, false, ()), (m.1, m.2.1, m.2.2.1, m.2.2.2, ()), u, v, ())) (fun _ _ => True) (fun _ _ _ _ => trivial)
   (fun i m hi _ => by
    have hs := hst _ (show l.getD i stp0 ∈ l by rw [getD_g stp0 hi]; exact List.getElem_mem hi)
    have f0 := hs.f0
    have f1 := hs.f1
    have t0 := hs.t0
    have t1 := hs.t1
    simp only [spec_l3Reach_l10, lt_t hi, cond_true, if_pos (in_t hi), Int.toNat_natCast, w64_succ hi (show l.length ≤ 9223372036854775807 by omega)]
    cases back with
    | true =>
     simp only [cond_true, Bool.not_true, cond_false]
     rw [if_pos ⟨t0, Int.lt_of_le_of_lt t1 (show (n : Int) - 1 < ((4 : Nat) : Int) by omega)⟩]
     have e : List.getD [m.1, m.2.1, m.2.2.1, m.2.2.2] (l.getD i stp0).2.2.1.toNat false = get4 m (l.getD i stp0).2.2.1.toNat := rfl
     rw [e]
     cases get4 m (l.getD i stp0).2.2.1.toNat with
     | true =>
      simp only [cond_true]
      rw [if_pos ⟨f0, Int.lt_of_le_of_lt f1 (show (n : Int) - 1 < ((4 : Nat) : Int) by omega)⟩]
      rfl
     | false => rfl
    | false =>
     simp only [cond_true, Bool.not_false, cond_false]
     rw [if_pos ⟨f0, Int.lt_of_le_of_lt f1 (show (n : Int) - 1 < ((4 : Nat) : Int) by omega)⟩]
     have e : List.getD [m.1, m.2.1, m.2.2.1, m.2.2.2] (l.getD i stp0).1.toNat false = get4 m (l.getD i stp0).1.toNat := rfl
     rw [e]
     cases get4 m (l.getD i stp0).1.toNat with
     | true =>
      simp only [cond_true]
      rw [if_pos ⟨t0, Int.lt_of_le_of_lt t1 (show (n : Int) - 1 < ((4 : Nat) : Int) by omega)⟩]
      rfl
     | false => rfl)
   (fun m _ => by simp only [spec_l3Reach_l10, lt_f, cond_false]) m trivial
  exact ⟨r, k1⟩
 obtain ⟨r, k1, _⟩ := loop_rel (f := spec_l3Reach_l8) n (fun i (m : B4) => (back, ((n : Int), S, F, l, ()), (false, false, false, false, ()), (m.1, m.2.1, m.2.2.1, m.2.2.2, ()), (n : Int), (i : Int), ()))
  (fun m => ((false, false, false, false, ()), (m.1, m.2.1, m.2.2.1, m.2.2.2, ()), ())) (fun _ _ => True)
  (fun i m hi _ => by
   obtain ⟨r, k⟩ := inner m (n : Int) (i : Int)
   refine ⟨r, ?_, trivial⟩
   simp only [spec_l3Reach_l8, lt_t hi, cond_true, k, Option.bind_some, w64_succ hi (show n ≤ 9223372036854775807 by omega)])
  (fun m _ => by simp only [spec_l3Reach_l8, lt_f, cond_false]) m trivial
 have k1 : loopF spec_l3Reach_l8 (back, ((n : Int), S, F, l, ()), (false, false, false, false, ()), (m.1, m.2.1, m.2.2.1, m.2.2.2, ()), (n : Int), (0 : Int), ()) = _ := k1
 refine ⟨r, ?_⟩
 simp only [spec_l3Reach, g1, Option.bind_some, k1]
theorem useful_is {a : Aut} (hs : Small a) : (autOk a = false ∧ spec_UsefulOf a = some []) ∨ ∃ n r, AutIs a n ∧ spec_UsefulOf a = some r ∧ r.length ≤ 4 ∧ ∀ q ∈ r, 0 ≤ q ∧ q ≤ (n : Int) - 1 := by
 have hV := spec_AutomatonValid_is a (small_len hs).1 (small_len hs).2
 cases hv : autOk a with
 | false =>
  left
  obtain ⟨x, S, F, l⟩ := a
  exact ⟨rfl, by simp only [spec_UsefulOf, hV, hv, Option.bind_some, Bool.not_false, cond_true, List.drop_zero, List.take_nil]⟩
 | true =>
  right
  obtain ⟨n, ha⟩ := autOk_is hv
  have h4 := ha.n4
  obtain ⟨m, m1⟩ := reach_is ha ha.S hs.1 false
  obtain ⟨k, k1⟩ := reach_is ha ha.F hs.2.1 true
  obtain ⟨x, S, F, l⟩ := a
  have hx : x = (n : Int) := ha.st
  subst hx
  have m1 : spec_l3Reach ((n : Int), S, F, l) S false = _ := m1
  have k1 : spec_l3Reach ((n : Int), S, F, l) F true = _ := k1
  obtain ⟨r, g1, g2⟩ := loop_inv (f := spec_UsefulOf_l6) n (fun i (o : List Int) => (o, (m.1, m.2.1, m.2.2.1, m.2.2.2, ()), (k.1, k.2.1, k.2.2.1, k.2.2.2, ()), (n : Int), (i : Int), ()))
   (fun i o => bif get4 m i then (bif get4 k i then o ++ [(i : Int)] else o) else o) (fun o => (o, ())) (fun i o => o.length ≤ i ∧ ∀ q ∈ o, 0 ≤ q ∧ q ≤ (i : Int) - 1)
   (fun i o hi ho => by
    obtain ⟨h1, h2⟩ := ho
    have weak : o.length ≤ i + 1 ∧ ∀ q ∈ o, 0 ≤ q ∧ q ≤ ((i + 1 : Nat) : Int) - 1 := ⟨by omega, fun q hq => by have := h2 q hq; omega⟩
    cases get4 m i with
    | false => exact weak
    | true =>
     cases get4 k i with
     | false => exact weak
     | true =>
      refine ⟨by simp; omega, fun q hq => ?_⟩
      rcases List.mem_append.1 hq with h | h
      ·exact weak.2 q h
      ·rw [List.mem_singleton] at h
       omega)
   (fun i o hi ho => by
    obtain ⟨h1, h2⟩ := ho
    simp only [spec_UsefulOf_l6, lt_t hi, cond_true, Int.toNat_natCast, w64_succ hi (show n ≤ 9223372036854775807 by omega), List.drop_zero, List.take_length, Nat.zero_add, show ∀ z : Int, List.take 1 [z] = [z] from fun _ => rfl]
    rw [if_pos ⟨by omega, by omega⟩, if_pos ⟨by omega, by omega⟩]
    show (bif get4 m i then _ else _) = _
    cases get4 m i with
    | false => rfl
    | true =>
     simp only [cond_true]
     show (bif get4 k i then _ else _) = _
     cases get4 k i with
     | false => rfl
     | true =>
      simp only [cond_true]
      rw [if_pos (by simp; omega), List.take_of_length_le (by simp)])
   (fun o ho => by simp only [spec_UsefulOf_l6, lt_f, cond_false, List.drop_zero, List.take_length]) [] (by simp)
  have g1 : loopF spec_UsefulOf_l6 ([], (m.1, m.2.1, m.2.2.1, m.2.2.2, ()), (k.1, k.2.1, k.2.2.1, k.2.2.2, ()), (n : Int), (0 : Int), ()) = _ := g1
  refine ⟨n, r, ha, ?_, by omega, g2.2⟩
  simp only [spec_UsefulOf, hV, hv, Option.bind_some, Bool.not_true, cond_false, m1, k1, List.drop_zero, List.take_nil, g1, List.take_length]
theorem trim_any {a : Aut} (hs : Small a) : ∃ b ok, spec_TrimAutomaton a = some (b, ok) ∧ Small b := by
 have nil : ∀ {b : Bool}, Small ((0 : Int), [], [], []) := fun {_} => ⟨by simp, by simp, by simp⟩
 rcases useful_is hs with ⟨_, h⟩ | ⟨n, U, ha, h, hU, hq⟩
 ·obtain ⟨x, S, F, l⟩ := a
  refine ⟨((0 : Int), [], [], []), false, ?_, @nil true⟩
  simp only [spec_TrimAutomaton, h, Option.bind_some]
  rfl
 ·have h4 := ha.n4
  have hlen := ha.len
  have hst := ha.steps
  obtain ⟨x, S, F, l⟩ := a
  have lS : S.length ≤ 1048576 := hs.1
  have lF : F.length ≤ 1048576 := hs.2.1
  have hlen : l.length ≤ 24 := hlen
  have hst : ∀ s ∈ l, StepIs (n : Int) s := hst
  cases hz : (((U.length : Nat) : Int) == 0) with
  | true =>
   refine ⟨((0 : Int), [], [], []), false, ?_, @nil true⟩
   simp only [spec_TrimAutomaton, h, Option.bind_some, hz, cond_true]
  | false =>
   obtain ⟨p, g1, _⟩ := loop_inv (f := spec_TrimAutomaton_l6) U.length (fun i (m : Int × Int × Int × Int) => ((x, S, F, l, ()), ((0 : Int), [], [], [], ()), U, (m.1, m.2.1, m.2.2.1, m.2.2.2, ()), U, (U.length : Int), (i : Int), ()))
    (fun i m => set4 m (U.getD i 0).toNat (i : Int)) (fun m => ((x, S, F, l, ()), ((0 : Int), [], [], [], ()), U, (m.1, m.2.1, m.2.2.1, m.2.2.2, ()), ())) (fun _ _ => True) (fun _ _ _ _ => trivial)
    (fun i m hi _ => by
     have hq := hq _ (show U.getD i 0 ∈ U by rw [getD_g 0 hi]; exact List.getElem_mem hi)
     simp only [spec_TrimAutomaton_l6, lt_t hi, cond_true, if_pos (in_t hi), Int.toNat_natCast, List.drop_zero, List.take_nil, List.length_nil]
     rw [if_pos ⟨hq.1, by omega⟩, w64_succ hi (by omega)]
     rfl)
    (fun m _ => by simp only [spec_TrimAutomaton_l6, lt_f, cond_false, List.drop_zero, List.take_nil, List.length_nil]) (0, 0, 0, 0) trivial
   have g1 : loopF spec_TrimAutomaton_l6 ((x, S, F, l, ()), ((0 : Int), [], [], [], ()), U, ((0 : Int), (0 : Int), (0 : Int), (0 : Int), ()), U, (U.length : Int), (0 : Int), ()) = _ := g1
   obtain ⟨⟨s1, f1⟩, g2, g3⟩ := loop_rel (f := spec_TrimAutomaton_l12) U.length (fun i (o : List Int × List Int) => ((x, S, F, l, ()), ((0 : Int), [], [], [], ()), U, (p.1, p.2.1, p.2.2.1, p.2.2.2, ()), ((U.length : Int), o.1, o.2, [], ()), U, (U.length : Int), (i : Int), ()))
    (fun o => ((x, S, F, l, ()), ((0 : Int), [], [], [], ()), U, (p.1, p.2.1, p.2.2.1, p.2.2.2, ()), ((U.length : Int), o.1, o.2, [], ()), ())) (fun i o => o.1.length ≤ i ∧ o.2.length ≤ i)
    (fun i o hi ho => by
     obtain ⟨h1, h2⟩ := ho
     have hq := hq _ (show U.getD i 0 ∈ U by rw [getD_g 0 hi]; exact List.getElem_mem hi)
     simp only [spec_TrimAutomaton_l12, lt_t hi, cond_true, if_pos (in_t hi), Int.toNat_natCast, List.drop_zero, List.take_nil, List.length_nil, l4In_is (show S.length ≤ 1000000000 by omega), l4In_is (show F.length ≤ 1000000000 by omega), Option.bind_some, w64_succ hi (show U.length ≤ 9223372036854775807 by omega), List.take_length, Nat.zero_add, show ∀ z : Int, List.take 1 [z] = [z] from fun _ => rfl]
     cases S.any fun e => U.getD i 0 == e with
     | true =>
      simp only [cond_true]
      rw [if_pos ⟨hq.1, by omega⟩, if_pos (by simp; omega)]
      cases F.any fun e => U.getD i 0 == e with
      | true =>
       simp only [cond_true]
       rw [if_pos ⟨hq.1, by omega⟩, if_pos (by simp; omega), List.take_of_length_le (by simp), List.take_of_length_le (by simp)]
       exact ⟨(o.1 ++ [_], o.2 ++ [_]), rfl, by simp; omega, by simp; omega⟩
      | false =>
       simp only [cond_false]
       rw [List.take_of_length_le (by simp)]
       exact ⟨(o.1 ++ [_], o.2), rfl, by simp; omega, by show o.2.length ≤ i + 1; omega⟩
     | false =>
      simp only [cond_false]
      cases F.any fun e => U.getD i 0 == e with
      | true =>
       simp only [cond_true]
       rw [if_pos ⟨hq.1, by omega⟩, if_pos (by simp; omega), List.take_of_length_le (by simp)]
       exact ⟨(o.1, o.2 ++ [_]), rfl, by show o.1.length ≤ i + 1; omega, by simp; omega⟩
      | false => exact ⟨o, rfl, by omega, by omega⟩)
    (fun o ho => by simp only [spec_TrimAutomaton_l12, lt_f, cond_false, List.drop_zero, List.take_nil, List.length_nil, List.take_length]) ([], []) (by simp)
   have g2 : loopF spec_TrimAutomaton_l12 ((x, S, F, l, ()), ((0 : Int), [], [], [], ()), U, (p.1, p.2.1, p.2.2.1, p.2.2.2, ()), ((U.length : Int), [], [], [], ()), U, (U.length : Int), (0 : Int), ()) = _ := g2
   obtain ⟨o, k1, k2⟩ := loop_rel (f := spec_TrimAutomaton_l20) l.length (fun i (o : List Stp) => (((0 : Int), [], [], [], ()), U, (p.1, p.2.1, p.2.2.1, p.2.2.2, ()), ((U.length : Int), s1, f1, o, ()), l, (l.length : Int), (i : Int), ()))
    (fun o => (((0 : Int), [], [], [], ()), ((U.length : Int), s1, f1, o, ()), ())) (fun i o => o.length ≤ i)
    (fun i o hi ho => by
     have hs := hst _ (show l.getD i stp0 ∈ l by rw [getD_g stp0 hi]; exact List.getElem_mem hi)
     have f0 := hs.f0
     have f1 := hs.f1
     have t0 := hs.t0
     have t1 := hs.t1
     simp only [spec_TrimAutomaton_l20, lt_t hi, cond_true, if_pos (in_t hi), Int.toNat_natCast, List.drop_zero, List.take_nil, List.length_nil, l4In_is (show U.length ≤ 1000000000 by omega), Option.bind_some, w64_succ hi (show l.length ≤ 9223372036854775807 by omega), List.take_length, Nat.zero_add, show ∀ z : Stp, List.take 1 [z] = [z] from fun _ => rfl]
     cases U.any fun e => (l.getD i stp0).1 == e with
     | true =>
      simp only [cond_true]
      cases U.any fun e => (l.getD i stp0).2.2.1 == e with
      | true =>
       simp only [cond_true]
       rw [if_pos ⟨f0, Int.lt_of_le_of_lt f1 (show (n : Int) - 1 < ((4 : Nat) : Int) by omega)⟩, if_pos ⟨t0, Int.lt_of_le_of_lt t1 (show (n : Int) - 1 < ((4 : Nat) : Int) by omega)⟩, if_pos (by simp; omega), List.take_of_length_le (by simp)]
       exact ⟨o ++ [_], rfl, by simp; omega⟩
      | false => exact ⟨o, rfl, by omega⟩
     | false => exact ⟨o, rfl, by omega⟩)
    (fun o ho => by simp only [spec_TrimAutomaton_l20, lt_f, cond_false, List.drop_zero, List.take_nil, List.length_nil, List.take_length]) [] (by simp)
   have k1 : loopF spec_TrimAutomaton_l20 (((0 : Int), [], [], [], ()), U, (p.1, p.2.1, p.2.2.1, p.2.2.2, ()), ((U.length : Int), s1, f1, [], ()), l, (l.length : Int), (0 : Int), ()) = _ := k1
   have q1 : s1.length ≤ U.length := g3.1
   have q2 : f1.length ≤ U.length := g3.2
   refine ⟨((U.length : Int), s1, f1, o), true, ?_, by show s1.length ≤ _; omega, by show f1.length ≤ _; omega, by show o.length ≤ _; omega⟩
   simp only [spec_TrimAutomaton, h, Option.bind_some, hz, cond_false, List.drop_zero, List.take_length, List.take_nil, List.length_nil, g1, g2, k1]
theorem scale_any {a : Aut} (hs : Small a) (k : Int) : ∃ b ok, spec_ScaleAutomaton a k = some (b, ok) ∧ Small b := by
 have nil : Small ((0 : Int), [], [], []) := ⟨by simp, by simp, by simp⟩
 cases hv : autOk a with
 | false => exact ⟨_, _, scale_no hs hv k, nil⟩
 | true =>
  have hown := ownAut_is hs
  have hV := spec_AutomatonValid_is a (small_len hs).1 (small_len hs).2
  obtain ⟨x, S, F, l⟩ := a
  have lS : S.length ≤ 1048576 := hs.1
  have lF : F.length ≤ 1048576 := hs.2.1
  have ll : l.length ≤ 1048576 := hs.2.2
  by_cases hk : 0 ≤ k ∧ k ≤ 3
  ·obtain ⟨r, g1, g2⟩ := loop_inv (f := spec_ScaleAutomaton_l6) l.length (fun i (o : List Stp) => (k, ((0 : Int), [], [], [], ()), (x, S, F, o, ()), l, (l.length : Int), (i : Int), ()))
    (fun i o => o ++ [((l.getD i stp0).1, (l.getD i stp0).2.1, (l.getD i stp0).2.2.1, IntKind.wrap .i64 ((l.getD i stp0).2.2.2 * k))]) (fun o => (((0 : Int), [], [], [], ()), (x, S, F, o, ()), ())) (fun i o => o.length = i)
    (fun i o hi ho => by simp [ho])
    (fun i o hi ho => by
     simp only [spec_ScaleAutomaton_l6, lt_t hi, cond_true, if_pos (in_t hi), Int.toNat_natCast, List.drop_zero, List.take_nil, List.length_nil, List.take_length, Nat.zero_add, w64_succ hi (show l.length ≤ 9223372036854775807 by omega), show ∀ z : Stp, List.take 1 [z] = [z] from fun _ => rfl]
     rw [if_pos (by simp; omega), List.take_of_length_le (by simp)])
    (fun o ho => by simp only [spec_ScaleAutomaton_l6, lt_f, cond_false, List.drop_zero, List.take_nil, List.length_nil, List.take_length]) [] rfl
   have g1 : loopF spec_ScaleAutomaton_l6 (k, ((0 : Int), [], [], [], ()), (x, S, F, [], ()), l, (l.length : Int), (0 : Int), ()) = _ := g1
   have hV2 := spec_AutomatonValid_is (x, S, F, r) (show S.length ≤ _ by omega) (show F.length ≤ _ by omega)
   have hw : ∃ b ok, spec_l5Whole (x, S, F, r) = some (b, ok) ∧ Small b := by
    cases h : autOk (x, S, F, r) with
    | true => exact ⟨(x, S, F, r), true, by simp only [spec_l5Whole, hV2, h, Option.bind_some, Bool.not_true, cond_false], lS, lF, by show r.length ≤ 1048576; omega⟩
    | false => exact ⟨((0 : Int), [], [], []), false, by simp only [spec_l5Whole, hV2, h, Option.bind_some, Bool.not_false, cond_true], nil⟩
   obtain ⟨⟨bx, bS, bF, bl⟩, ok, w1, w2⟩ := hw
   refine ⟨(bx, bS, bF, bl), ok, ?_, w2⟩
   simp only [spec_ScaleAutomaton, hown, Option.bind_some, List.drop_zero, List.take_length, hV, hv, Bool.not_true, cond_false, spec_l1In_is, decide_eq_true hk, List.take_nil, g1, w1]
  ·refine ⟨((0 : Int), [], [], []), false, ?_, nil⟩
   simp only [spec_ScaleAutomaton, hown, Option.bind_some, List.drop_zero, List.take_length, hV, hv, Bool.not_true, cond_false, spec_l1In_is, decide_eq_false hk, Bool.not_false, cond_true]
theorem two_is {N : Int} {d : Dr} (h : DrOk N d) (hN : N ≤ 300) : ∃ a b n d', spec_l11Two d = some ((a, b, n), d', ()) ∧ Small a ∧ Small b := by
 obtain ⟨⟨x, S, F, l⟩, ⟨b1, k1⟩, p1, t1, s1⟩ := l3Any_is h (by omega)
 obtain ⟨r0, q0, _, _, _⟩ := pick_is s1 (by omega) (n := 4) (by omega)
 have s2 := s1.next
 obtain ⟨bb, kk⟩ := d
 have q0 : spec_l13Rd_pick (b1, k1) (4 : Int) = _ := q0
 have l8 : ∀ {M : Int} {d : Dr}, DrOk M d → M ≤ 100000 → ∃ v d', spec_l13Rd_num d (List.take 8 (List.drop 0 [(3 : Int), (2 : Int), (4 : Int), (1 : Int), (0 : Int), (5 : Int), (-1 : Int), (8 : Int)])) = some (v, d', ()) := by
  intro M d hd hM
  obtain ⟨v, _, e⟩ := num_is hd hM (l := List.take 8 (List.drop 0 [(3 : Int), (2 : Int), (4 : Int), (1 : Int), (0 : Int), (5 : Int), (-1 : Int), (8 : Int)])) (by decide) (by decide)
  exact ⟨v, _, e⟩
 unfold spec_l11Two
 dsimp only
 rw [p1]
 simp only [Option.bind_some]
 rw [q0]
 simp only [Option.bind_some]
 cases (r0 == 0) with
 | true =>
  obtain ⟨⟨bx, bS, bF, bl⟩, ok, e1, e2⟩ := trim_any t1.small
  obtain ⟨v, ⟨c1, c2⟩, e3⟩ := l8 s2 (by omega)
  refine ⟨(x, S, F, l), (bx, bS, bF, bl), v, (c1, c2), ?_, t1.small, e2⟩
  rw [cond_true, e1]
  simp only [Option.bind_some]
  rw [e3]
  simp only [Option.bind_some, List.drop_zero, List.take_length]
 | false =>
  rw [cond_false]
  cases (r0 == 1) with
  | true =>
   obtain ⟨r1, q1, _, _, _⟩ := pick_is s2 (by omega) (n := 2) (by omega)
   have s3 := s2.next
   have q1 : spec_l13Rd_pick (b1, k1 + 1) (2 : Int) = _ := q1
   obtain ⟨⟨bx, bS, bF, bl⟩, ok, e1, e2⟩ := scale_any t1.small (IntKind.wrap .i64 ((1 : Int) + r1))
   obtain ⟨v, ⟨c1, c2⟩, e3⟩ := l8 s3 (by omega)
   refine ⟨(x, S, F, l), (bx, bS, bF, bl), v, (c1, c2), ?_, t1.small, e2⟩
   rw [cond_true, q1]
   simp only [Option.bind_some]
   rw [e1]
   simp only [Option.bind_some]
   have e3 : spec_l13Rd_num (b1, k1 + 1 + 1) _ = _ := e3
   rw [e3]
   simp only [Option.bind_some]
  | false =>
   rw [cond_false]
   cases (r0 == 2) with
   | true =>
    obtain ⟨⟨bx, bS, bF, bl⟩, ⟨b2, k2⟩, e1, e2, s3⟩ := l3Any_is s2 (by omega)
    obtain ⟨v, ⟨c1, c2⟩, e3⟩ := l8 s3 (by omega)
    refine ⟨(x, S, F, l), (bx, bS, bF, bl), v, (c1, c2), ?_, t1.small, e2.small⟩
    rw [cond_true, e1]
    simp only [Option.bind_some]
    rw [e3]
    simp only [Option.bind_some]
   | false =>
    obtain ⟨v, ⟨c1, c2⟩, e3⟩ := l8 s2 (by omega)
    refine ⟨(x, S, F, l), (x, S, F, l), v, (c1, c2), ?_, t1.small, t1.small⟩
    rw [cond_false, e3]
    simp only [Option.bind_some]
end Go.Proofs.Ytogigagfgkfkhaa
