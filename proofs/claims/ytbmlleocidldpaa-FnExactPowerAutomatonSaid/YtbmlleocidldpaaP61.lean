/- Marks of automata that are handed back. -/
import Derived.Test.YtbmlleocidldpaaP16
set_option linter.unusedVariables false
set_option linter.unusedSimpArgs false
namespace Go.Proofs.Ytbmlleocidldpaa
open Go Go.Proofs.Ytbmlleocidldpaa.Am
noncomputable def mtxt (k : Int) : ByteArray := (laws_markText k).getD (⟨#[]⟩ : ByteArray)
theorem mtxt_is {k : Int} (h0 : 0 ≤ k) (h1 : k ≤ 1000000000) : laws_markText k = some (mtxt k) := by
  obtain ⟨o, ho⟩ := markText_is h0 h1
  unfold mtxt
  rw [ho]
  rfl
noncomputable def mst (k : Int) : Nat → List Stp
  | 0 => []
  | n + 1 => (k, mtxt (k + 1), k + 2, k + 3) :: mst (k + 4) n
theorem mst_len (k : Int) : ∀ n, (mst k n).length = n := by
  intro n
  induction n generalizing k with
  | zero => rfl
  | succ n ih => simp [mst, ih]
theorem mst_snoc (k : Int) : ∀ n : Nat, mst k (n + 1) = mst k n ++ [(k + 4 * (n : Nat), mtxt (k + 4 * (n : Nat) + 1), k + 4 * (n : Nat) + 2, k + 4 * (n : Nat) + 3)] := by
  intro n
  induction n generalizing k with
  | zero => simp [mst]
  | succ n ih =>
    rw [mst, ih (k + 4), mst]
    simp only [List.cons_append]
    have e : k + 4 + 4 * (n : Nat) = k + 4 * ((n + 1 : Nat) : Int) := by omega
    rw [e]
theorem mst_get (k : Int) : ∀ n i : Nat, i < n → (mst k n).getD i ((0 : Int), (⟨Array.empty⟩ : ByteArray), (0 : Int), (0 : Int)) = (k + 4 * (i : Nat), mtxt (k + 4 * (i : Nat) + 1), k + 4 * (i : Nat) + 2, k + 4 * (i : Nat) + 3) := by
  intro n
  induction n generalizing k with
  | zero => intro i h; omega
  | succ n ih =>
    intro i h
    cases i with
    | zero => simp [mst]
    | succ i =>
      simp only [mst, List.getD_cons_succ]
      rw [ih (k + 4) i (by omega)]
      have e : k + 4 + 4 * (i : Nat) = k + 4 * ((i + 1 : Nat) : Int) := by omega
      rw [e]
theorem getD_set_at {α : Type} (d : α) {l : List α} {i : Nat} (h : i < l.length) (x : α) : (l.set i x).getD i d = x := by
  rw [List.getD_eq_getElem?_getD, List.getElem?_set_self h]
  rfl
theorem mark_stepS (k : Int) (xs : List Stp) {i : Nat} (hi : i < xs.length) : (mst k i ++ xs.drop i).set i (k + 4 * (i : Nat), mtxt (k + 4 * (i : Nat) + 1), k + 4 * (i : Nat) + 2, k + 4 * (i : Nat) + 3) = mst k (i + 1) ++ xs.drop (i + 1) := by
  rw [List.drop_eq_getElem_cons hi]
  have h := set_mid (mst k i) (xs.drop (i + 1)) xs[i] (k + 4 * (i : Nat), mtxt (k + 4 * (i : Nat) + 1), k + 4 * (i : Nat) + 2, k + 4 * (i : Nat) + 3)
  rw [mst_len] at h
  rw [h, mst_snoc]
  simp
theorem markStepS_eq {xs : List Stp} {k : Int} (hl : xs.length ≤ 2000000) (h0 : 0 ≤ k) (h1 : k ≤ 100000000) : laws_markStepS xs k = some (k + 4 * xs.length, mst k xs.length, ()) := by
  have h := loop_inv (f := laws_markStepS_l2) xs.length (fun i (p : List Stp) => (p, k + 4 * (i : Nat), (i : Int), ())) (fun i _ => mst k (i + 1) ++ xs.drop (i + 1)) (fun p => (p, k + 4 * xs.length, ())) (fun i p => p = mst k i ++ xs.drop i)
    (fun i p hi hp => rfl)
    (fun i p hi hp => by
      have hlen : p.length = xs.length := by rw [hp, List.length_append, mst_len, List.length_drop]; omega
      have e : p.set i (k + 4 * (i : Nat), mtxt (k + 4 * (i : Nat) + 1), k + 4 * (i : Nat) + 2, k + 4 * (i : Nat) + 3) = mst k (i + 1) ++ xs.drop (i + 1) := by rw [hp]; exact mark_stepS k xs hi
      have ho := mtxt_is (k := k + 4 * (i : Nat) + 1) (by omega) (by omega)
      have hip : i < p.length := by omega
      have e2 : k + 4 * (i : Nat) + 1 + 1 = k + 4 * (i : Nat) + 2 := by omega
      have e3 : k + 4 * (i : Nat) + 2 + 1 = k + 4 * (i : Nat) + 3 := by omega
      have e4 : k + 4 * (i : Nat) + 3 + 1 = k + 4 * ((i + 1 : Nat) : Int) := by omega
      simp only [laws_markStepS_l2, hlen, lt_t hi, cond_true, if_pos (in_t hi), Int.toNat_natCast, Nat.zero_add, Option.bind_some, w64 (n := k + 4 * (i : Nat) + 1) (by omega) (by omega), e2, w64 (n := k + 4 * (i : Nat) + 2) (by omega) (by omega), e3, w64 (n := k + 4 * (i : Nat) + 3) (by omega) (by omega), e4, w64 (n := k + 4 * ((i + 1 : Nat) : Int)) (by omega) (by omega), ho, List.set_set, getD_set_at _ hip, List.length_set, if_true, w64_succ hi (show xs.length ≤ 9223372036854775807 by omega), e])
    (fun p hp => by
      have hlen : p.length = xs.length := by rw [hp, List.length_append, mst_len, List.length_drop]; omega
      simp only [laws_markStepS_l2, hlen, lt_f, cond_false, if_true])
    xs (by simp [mst])
  obtain ⟨r, g1, g2⟩ := h
  have g1 : loopF laws_markStepS_l2 (xs, k, (0 : Int), ()) = some (r, k + 4 * xs.length, ()) := by simpa using g1
  simp only [laws_markStepS, if_true, g1, Option.bind_some]
  rw [g2]
  simp
theorem heldStepS_is {n : Nat} {k : Int} (hl : n ≤ 2000000) (h0 : 0 ≤ k) (h1 : k ≤ 100000000) : laws_heldStepS (mst k n) k = some (k + 4 * n) := by
  have h := loop_inv (f := laws_heldStepS_l2) n (fun i (_ : Unit) => (mst k n, k + 4 * (i : Nat), (i : Int), ())) (fun i _ => ()) (fun _ => .inr (k + 4 * (n : Nat), ())) (fun i _ => True)
    (fun i p hi hp => trivial)
    (fun i p hi hp => by
      have ho := mtxt_is (k := k + 4 * (i : Nat) + 1) (by omega) (by omega)
      have e2 : k + 4 * (i : Nat) + 1 + 1 = k + 4 * (i : Nat) + 2 := by omega
      have e3 : k + 4 * (i : Nat) + 2 + 1 = k + 4 * (i : Nat) + 3 := by omega
      have e4 : k + 4 * (i : Nat) + 3 + 1 = k + 4 * ((i + 1 : Nat) : Int) := by omega
      simp only [laws_heldStepS_l2, mst_len, lt_t hi, cond_true, if_pos (in_t hi), Int.toNat_natCast, mst_get k n i hi, bne_self_eq_false, cond_false, w64 (n := k + 4 * (i : Nat) + 1) (by omega) (by omega), e2, w64 (n := k + 4 * (i : Nat) + 2) (by omega) (by omega), e3, w64 (n := k + 4 * (i : Nat) + 3) (by omega) (by omega), e4, w64 (n := k + 4 * ((i + 1 : Nat) : Int)) (by omega) (by omega), ho, Option.bind_some, BEq.rfl, Bool.not_true, w64_succ hi (show n ≤ 9223372036854775807 by omega)])
    (fun p hp => by simp only [laws_heldStepS_l2, mst_len, lt_f, cond_false])
    () trivial
  obtain ⟨r, g1, g2⟩ := h
  have g1 : loopF laws_heldStepS_l2 (mst k n, k, (0 : Int), ()) = some (.inr (k + 4 * n, ())) := by simpa using g1
  simp only [laws_heldStepS, g1, Option.bind_some]
/-- the marks of an automaton, and that they are held -/
theorem markAutomaton_eq {a : Aut} (h : Small a) : laws_markAutomaton a 1 = some ((1 : Int) + a.2.1.length + a.2.2.1.length + 4 * a.2.2.2.length, (a.1, mks 1 a.2.1.length, mks (1 + a.2.1.length) a.2.2.1.length, mst (1 + a.2.1.length + a.2.2.1.length) a.2.2.2.length), ()) := by
  obtain ⟨n, S, F, l⟩ := a
  obtain ⟨h1, h2, h3⟩ := h
  simp only at h1 h2 h3
  simp only [laws_markAutomaton, if_true, markIntS_is (xs := S) (k := 1) (by omega) (by omega) (by omega), Option.bind_some, markIntS_is (xs := F) (k := 1 + S.length) (by omega) (by omega) (by omega), markStepS_eq (xs := l) (k := 1 + S.length + F.length) (by omega) (by omega) (by omega)]
theorem heldAutomaton_is {m : Int} {s f l : Nat} (h1 : s ≤ 1048576) (h2 : f ≤ 1048576) (h3 : l ≤ 1048576) : laws_heldAutomaton (m, mks 1 s, mks (1 + s) f, mst (1 + s + f) l) 1 = some ((1 : Int) + s + f + 4 * l) := by
  simp only [laws_heldAutomaton, heldIntS_is (n := s) (k := 1) (by omega) (by omega) (by omega), Option.bind_some, decide_eq_false (show ¬ (1 + (s : Int)) < 0 by omega), cond_false, heldIntS_is (n := f) (k := 1 + s) (by omega) (by omega) (by omega), decide_eq_false (show ¬ (1 + (s : Int) + (f : Int)) < 0 by omega), heldStepS_is (n := l) (k := 1 + s + f) (by omega) (by omega) (by omega), decide_eq_false (show ¬ (1 + (s : Int) + (f : Int) + 4 * (l : Int)) < 0 by omega)]
theorem take_mks' (k : Int) (n : Nat) : List.take n (mks k n) = mks k n := List.take_of_length_le (by simp [mks_len])
theorem take_mst' (k : Int) (n : Nat) : List.take n (mst k n) = mst k n := List.take_of_length_le (by simp [mst_len])
end Go.Proofs.Ytbmlleocidldpaa
