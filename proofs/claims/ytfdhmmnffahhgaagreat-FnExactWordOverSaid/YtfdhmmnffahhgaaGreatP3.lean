/- The laws' own helpers: sizes, copies, comparisons. -/
import Derived.Test.YtfdhmmnffahhgaaGreatP2
set_option linter.unusedVariables false
set_option linter.unusedSimpArgs false
namespace Go.Proofs.YtfdhmmnffahhgaaGreat
open Go Go.Proofs.YtfdhmmnffahhgaaGreat.Am
theorem loop_tot {σ ρ α : Type} {f : σ → Option (σ ⊕ ρ)} (n : Nat) (st : Nat → α → σ) (I : Nat → α → Prop) (R : ρ → Prop)
  (hs : ∀ i a, i < n → I i a → (∃ a', f (st i a) = some (.inl (st (i + 1) a')) ∧ I (i + 1) a') ∨ ∃ r, f (st i a) = some (.inr r) ∧ R r) (he : ∀ a, I n a → ∃ r, f (st n a) = some (.inr r) ∧ R r) :
  ∀ a, I 0 a → ∃ r, loopF f (st 0 a) = some r ∧ R r := by
 have key : ∀ k i a, i + k = n → I i a → ∃ r, loopF f (st i a) = some r ∧ R r := by
  intro k
  induction k with
  | zero =>
   intro i a hi ha
   obtain rfl : i = n := by omega
   obtain ⟨r, h1, h2⟩ := he a ha
   exact ⟨r, by rw [loopF_eq, h1]; rfl, h2⟩
  | succ k ih =>
   intro i a hi ha
   rcases hs i a (by omega) ha with ⟨a', h1, h2⟩ | ⟨r, h1, h2⟩
   ·rw [loopF_eq, h1]
    exact ih (i + 1) _ (by omega) h2
   ·exact ⟨r, by rw [loopF_eq, h1]; rfl, h2⟩
 intro a ha
 exact key n 0 a (by omega) ha
abbrev kStp : Kd := .pair (.int .i64) (.pair .str (.pair (.int .i64) (.int .i64)))
abbrev kAut : Kd := .pair (.int .i64) (.pair (.sl (.int .i64)) (.pair (.sl (.int .i64)) (.sl kStp)))
theorem maxLen_is : maxLen = 9223372036854775807 := rfl
theorem szIntS_is {a : List Int} {n : Int} (ha : a.length ≤ maxLen) (h0 : 0 ≤ n) (h1 : n ≤ 1048576) : laws_szIntS a n = some (if n - a.length < 0 then -1 else n - a.length) := by
 rw [maxLen_is] at ha
 simp only [laws_szIntS, w64 (show -9223372036854775808 ≤ n - (a.length : Int) by omega) (by omega)]
 by_cases h : n - (a.length : Int) < 0
 ·rw [decide_eq_true h, if_pos h]; rfl
 ·rw [decide_eq_false h, if_neg h]; rfl
theorem szStep_is {s : Stp} {n : Int} (ha : s.2.1.size ≤ maxLen) (h0 : 0 ≤ n) (h1 : n ≤ 1048576) : laws_szStep s n = some (if n - s.2.1.size < 0 then -1 else n - s.2.1.size) := by
 obtain ⟨x, l, y, z⟩ := s
 rw [maxLen_is] at ha
 have ha : l.size ≤ 9223372036854775807 := ha
 simp only [laws_szStep, w64 (show -9223372036854775808 ≤ n - (l.size : Int) by omega) (by omega)]
 by_cases h : n - (l.size : Int) < 0
 ·rw [decide_eq_true h, if_pos h]; rfl
 ·rw [decide_eq_false h, if_neg h]; rfl
theorem szStepS_is {l : List Stp} {n : Int} (hl : l.length ≤ maxLen) (hs : ∀ s ∈ l, s.2.1.size ≤ maxLen) (h0 : 0 ≤ n) (h1 : n ≤ 1048576) : ∃ r, laws_szStepS l n = some r ∧ r ≤ n ∧ (0 ≤ r → (l.length : Int) ≤ n) := by
 rw [maxLen_is] at hl
 simp only [laws_szStepS, w64 (show -9223372036854775808 ≤ n - (l.length : Int) by omega) (by omega)]
 by_cases h : n - (l.length : Int) < 0
 ·refine ⟨-1, by simp only [decide_eq_true h, cond_true], by omega, by omega⟩
 ·simp only [decide_eq_false h, cond_false]
  have := loop_tot (f := laws_szStepS_l5) l.length (fun i (a : Int) => (l, a, (i : Int), ())) (fun _ a => 0 ≤ a ∧ a ≤ n) (fun r => match r with | .inl x => x.1 ≤ n ∧ (0 ≤ x.1 → (l.length : Int) ≤ n) | .inr x => x.1 ≤ n ∧ (0 ≤ x.1 → (l.length : Int) ≤ n))
   (fun i a hi ha => by
    have hmem : l.getD i stp0 ∈ l := by
     rw [List.getD_eq_getElem?_getD, List.getElem?_eq_getElem hi]
     exact List.getElem_mem hi
    have hsz := hs _ hmem
    simp only [laws_szStepS_l5, lt_t hi, cond_true, if_pos (in_t hi), Int.toNat_natCast, szStep_is hsz ha.1 (by omega), Option.bind_some, w64_succ hi hl]
    by_cases hc : a - ((l.getD i stp0).2.1.size : Int) < 0
    ·right
     rw [if_pos hc]
     exact ⟨.inl (-1, ()), rfl, by show (-1 : Int) ≤ n; omega, by intro hh; exact absurd hh (by decide)⟩
    ·left
     rw [if_neg hc]
     refine ⟨a - ((l.getD i stp0).2.1.size : Int), ?_, by omega, by omega⟩
     simp only [decide_eq_false hc, cond_false])
   (fun a ha => ⟨.inr (a, ()), by simp only [laws_szStepS_l5, lt_f]; rfl, ha.2, fun _ => by omega⟩) (n - l.length) ⟨by omega, by omega⟩
  obtain ⟨r, g1, g2⟩ := this
  rw [show ((0 : Int)) = ((0 : Nat) : Int) from rfl, g1]
  cases r with
  | inl x => exact ⟨x.1, rfl, g2⟩
  | inr x => exact ⟨x.1, rfl, g2⟩
theorem fits_aut {a : Aut} (h : Fits kAut a) : a.2.1.length ≤ maxLen ∧ a.2.2.1.length ≤ maxLen ∧ a.2.2.2.length ≤ maxLen ∧ ∀ s ∈ a.2.2.2, s.2.1.size ≤ maxLen := by
 obtain ⟨h1, h2, h3, h4⟩ := h
 exact ⟨h2.1, h3.1, h4.1, fun s hs => (h4.2 s hs).2.1⟩
/-- what the bound tells -/
def Small (a : Aut) : Prop := a.2.1.length ≤ 1048576 ∧ a.2.2.1.length ≤ 1048576 ∧ a.2.2.2.length ≤ 1048576
theorem szAutomaton_is {a : Aut} {n : Int} (hf : Fits kAut a) (h0 : 0 ≤ n) (h1 : n ≤ 1048576) : ∃ r, laws_szAutomaton a n = some r ∧ r ≤ n ∧ (0 ≤ r → Small a) := by
 obtain ⟨hS, hF, hl, hs⟩ := fits_aut hf
 obtain ⟨k, S, F, l⟩ := a
 simp only [laws_szAutomaton, szIntS_is hS h0 h1, Option.bind_some]
 by_cases hc : n - (S.length : Int) < 0
 ·rw [if_pos hc]
  exact ⟨-1, rfl, by omega, by omega⟩
 ·rw [if_neg hc]
  simp only [decide_eq_false hc, cond_false, szIntS_is hF (show 0 ≤ n - (S.length : Int) by omega) (by omega), Option.bind_some]
  by_cases hd : n - (S.length : Int) - (F.length : Int) < 0
  ·rw [if_pos hd]
   exact ⟨-1, rfl, by omega, by omega⟩
  ·rw [if_neg hd]
   simp only [decide_eq_false hd, cond_false]
   obtain ⟨r, g1, g2, g3⟩ := szStepS_is (n := n - (S.length : Int) - (F.length : Int)) hl hs (by omega) (by omega)
   rw [g1]
   simp only [Option.bind_some]
   by_cases he : r < 0
   ·rw [decide_eq_true he]
    exact ⟨-1, rfl, by omega, by omega⟩
   ·rw [decide_eq_false he]
    refine ⟨r, rfl, by omega, fun h => ?_⟩
    have g4 : (l.length : Int) ≤ n - (S.length : Int) - (F.length : Int) := g3 h
    exact ⟨by show S.length ≤ _; omega, by show F.length ≤ _; omega, by show l.length ≤ _; omega⟩
theorem copy_list {α : Type} (z : α) : ∀ (xs : List α) (i : Nat), i < xs.length → (xs.take i ++ List.replicate (xs.length - i) z).set i (xs.getD i z) = xs.take (i + 1) ++ List.replicate (xs.length - (i + 1)) z := by
 intro xs i hi
 apply List.ext_getElem
 ·simp; omega
 ·intro j h1 h2
  rw [List.getElem_set]
  by_cases h : i = j
  ·subst h
   rw [if_pos rfl, List.getElem_append_left (by simp; omega), List.getElem_take, List.getD_eq_getElem?_getD, List.getElem?_eq_getElem hi]
   rfl
  ·rw [if_neg h]
   by_cases hj : j < i
   ·rw [List.getElem_append_left (by simp; omega), List.getElem_append_left (by simp; omega), List.getElem_take, List.getElem_take]
   ·rw [List.getElem_append_right (by simp; omega), List.getElem_append_right (by simp; omega), List.getElem_replicate, List.getElem_replicate]
theorem toIntS_is {a : List Int} (h : a.length ≤ 1048576) : laws_toIntS a = some a := by
 simp only [laws_toIntS, List.drop_zero, List.take_length, Int.toNat_natCast]
 rw [if_pos ⟨by omega, trivial, by omega⟩]
 have e : List.take a.length (List.replicate a.length (0 : Int)) = List.replicate a.length 0 := by simp
 rw [e]
 obtain ⟨r, h1, h2⟩ := loop_inv (f := laws_toIntS_l3) a.length (fun i (o : List Int) => (a, o, (i : Int), ())) (fun i o => o.set i (a.getD i 0)) (fun o => (o, ())) (fun i o => o = a.take i ++ List.replicate (a.length - i) 0)
  (fun i o hi ho => by subst ho; exact copy_list 0 a i hi)
  (fun i o hi ho => by
   have hol : o.length = a.length := by subst ho; simp; omega
   simp only [laws_toIntS_l3, lt_t hi, cond_true, if_pos (in_t hi), if_pos (show (0 : Int) ≤ (i : Int) ∧ (i : Int) < (o.length : Int) by omega), Int.toNat_natCast, List.drop_zero, Nat.zero_add, w64_succ hi (show a.length ≤ 9223372036854775807 by omega)]
   rw [List.take_of_length_le (by simp)])
  (fun o ho => by
   simp only [laws_toIntS_l3, lt_f, cond_false, List.drop_zero, List.take_length])
  (List.replicate a.length 0) (by simp)
 rw [show ((a, List.replicate a.length (0 : Int), (0 : Int), ()) : List Int × List Int × Int × Unit) = (a, List.replicate a.length (0 : Int), ((0 : Nat) : Int), ()) from rfl, h1]
 subst h2
 simp
theorem toStepS_is {a : List Stp} (h : a.length ≤ 1048576) : laws_toStepS a = some a := by
 simp only [laws_toStepS, List.drop_zero, List.take_length, Int.toNat_natCast]
 rw [if_pos ⟨by omega, trivial, by omega⟩]
 have e : List.take a.length (List.replicate a.length stp0) = List.replicate a.length stp0 := by simp
 rw [e]
 obtain ⟨r, h1, h2⟩ := loop_inv (f := laws_toStepS_l3) a.length (fun i (o : List Stp) => (a, o, (i : Int), ())) (fun i o => o.set i (a.getD i stp0)) (fun o => (o, ())) (fun i o => o = a.take i ++ List.replicate (a.length - i) stp0)
  (fun i o hi ho => by subst ho; exact copy_list stp0 a i hi)
  (fun i o hi ho => by
   have hol : o.length = a.length := by subst ho; simp; omega
   simp only [laws_toStepS_l3, laws_toStep, Option.bind_some, lt_t hi, cond_true, if_pos (in_t hi), if_pos (show (0 : Int) ≤ (i : Int) ∧ (i : Int) < (o.length : Int) by omega), Int.toNat_natCast, List.drop_zero, Nat.zero_add, w64_succ hi (show a.length ≤ 9223372036854775807 by omega)]
   rw [List.take_of_length_le (by simp)])
  (fun o ho => by
   simp only [laws_toStepS_l3, lt_f, cond_false, List.drop_zero, List.take_length])
  (List.replicate a.length stp0) (by simp)
 rw [show ((a, List.replicate a.length stp0, (0 : Int), ()) : List Stp × List Stp × Int × Unit) = (a, List.replicate a.length stp0, ((0 : Nat) : Int), ()) from rfl, h1]
 subst h2
 simp
theorem toAutomaton_is {a : Aut} (h : Small a) : laws_toAutomaton a = some a := by
 obtain ⟨n, S, F, l⟩ := a
 obtain ⟨h1, h2, h3⟩ := h
 simp only [laws_toAutomaton, toIntS_is h1, toIntS_is h2, toStepS_is h3, Option.bind_some, List.drop_zero, List.take_length]
theorem eqIntS_is {a : List Int} (h : a.length ≤ 1048576) : laws_eqIntS a a = some true := by
 simp only [laws_eqIntS, bne_self_eq_false, cond_false]
 have := loop_all (f := laws_eqIntS_l4) (fun i => (a, a, (i : Int), ())) a.length (fun _ => true) (.inl (false, ())) (.inr ()) (fun i hi => by
  simp only [laws_eqIntS_l4, lt_t hi, cond_true, if_pos (in_t hi), Int.toNat_natCast, bne_self_eq_false, cond_false, w64_succ hi (show a.length ≤ 9223372036854775807 by omega), if_true]) (by simp only [laws_eqIntS_l4, lt_f]; rfl)
 rw [show ((0 : Int)) = ((0 : Nat) : Int) from rfl, this]
 simp
theorem eqStep_is (s : Stp) : laws_eqStep s s = some true := by
 obtain ⟨x, l, y, z⟩ := s
 simp only [laws_eqStep, bne_self_eq_false, cond_false, BEq.rfl, Bool.not_true]
theorem eqStepS_is {a : List Stp} (h : a.length ≤ 1048576) : laws_eqStepS a a = some true := by
 simp only [laws_eqStepS, bne_self_eq_false, cond_false]
 have := loop_all (f := laws_eqStepS_l4) (fun i => (a, a, (i : Int), ())) a.length (fun _ => true) (.inl (false, ())) (.inr ()) (fun i hi => by
  simp only [laws_eqStepS_l4, lt_t hi, cond_true, if_pos (in_t hi), Int.toNat_natCast, eqStep_is, Option.bind_some, Bool.not_true, cond_false, w64_succ hi (show a.length ≤ 9223372036854775807 by omega), if_true]) (by simp only [laws_eqStepS_l4, lt_f]; rfl)
 rw [show ((0 : Int)) = ((0 : Nat) : Int) from rfl, this]
 simp
theorem eqAutomaton_is {a : Aut} (h : Small a) : laws_eqAutomaton a a = some true := by
 obtain ⟨n, S, F, l⟩ := a
 obtain ⟨h1, h2, h3⟩ := h
 simp only [laws_eqAutomaton, eqIntS_is h1, eqIntS_is h2, eqStepS_is h3, Option.bind_some, bne_self_eq_false, cond_false, Bool.not_true]
end Go.Proofs.YtfdhmmnffahhgaaGreat
