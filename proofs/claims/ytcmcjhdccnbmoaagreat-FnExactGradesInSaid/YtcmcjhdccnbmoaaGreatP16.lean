/- Marks: what is written into lists and read back. -/
import Derived.Test.YtcmcjhdccnbmoaaGreatP15
set_option linter.unusedVariables false
set_option linter.unusedSimpArgs false
namespace Go.Proofs.YtcmcjhdccnbmoaaGreat
open Go Go.Proofs.YtcmcjhdccnbmoaaGreat.Am
/-- marks from a number on -/
def mks (k : Int) : Nat → List Int
 | 0 => []
 | n + 1 => k :: mks (k + 1) n
theorem mks_len (k : Int) : ∀ n, (mks k n).length = n := by
 intro n
 induction n generalizing k with
 | zero => rfl
 | succ n ih => simp [mks, ih]
theorem mks_snoc (k : Int) : ∀ n, mks k (n + 1) = mks k n ++ [k + n] := by
 intro n
 induction n generalizing k with
 | zero => simp [mks]
 | succ n ih =>
  rw [mks, ih (k + 1), mks]
  simp only [List.cons_append]
  congr 3
  omega
theorem mks_get (k : Int) : ∀ n i, i < n → (mks k n).getD i 0 = k + i := by
 intro n
 induction n generalizing k with
 | zero => intro i h; omega
 | succ n ih =>
  intro i h
  cases i with
  | zero => simp [mks]
  | succ i =>
   simp only [mks, List.getD_cons_succ]
   rw [ih (k + 1) i (by omega)]
   omega
theorem set_mid {α : Type} (l m : List α) (x y : α) : (l ++ x :: m).set l.length y = l ++ y :: m := by
 induction l with
 | nil => rfl
 | cons z l ih => simp [ih]
theorem mark_step (k : Int) (xs : List Int) {i : Nat} (hi : i < xs.length) : (mks k i ++ xs.drop i).set i (k + i) = mks k (i + 1) ++ xs.drop (i + 1) := by
 rw [List.drop_eq_getElem_cons hi]
 have h := set_mid (mks k i) (xs.drop (i + 1)) xs[i] (k + i)
 rw [mks_len] at h
 rw [h, mks_snoc]
 simp
theorem markIntS_is {xs : List Int} {k : Int} (hl : xs.length ≤ 2000000) (h0 : 0 ≤ k) (h1 : k ≤ 100000000) : laws_markIntS xs k = some (k + xs.length, mks k xs.length, ()) := by
 have h := loop_inv (f := laws_markIntS_l2) xs.length (fun i (p : List Int) => (p, k + i, (i : Int), ())) (fun i _ => mks k (i + 1) ++ xs.drop (i + 1)) (fun p => (p, k + xs.length, ())) (fun i p => p = mks k i ++ xs.drop i)
  (fun i p hi hp => rfl)
  (fun i p hi hp => by
   have hlen : p.length = xs.length := by rw [hp, List.length_append, mks_len, List.length_drop]; omega
   have e : p.set i (k + i) = mks k (i + 1) ++ xs.drop (i + 1) := by rw [hp]; exact mark_step k xs hi
   simp only [laws_markIntS_l2, hlen, lt_t hi, cond_true, if_pos (in_t hi), Int.toNat_natCast, Nat.zero_add, e]
   rw [if_pos (by rw [← e, List.length_set, hlen]), w64_succ hi (by omega), w64 (by omega) (by omega)]
   have : k + (i : Int) + 1 = k + ((i + 1 : Nat) : Int) := by omega
   rw [this])
  (fun p hp => by
   have hlen : p.length = xs.length := by rw [hp, List.length_append, mks_len, List.length_drop]; omega
   simp only [laws_markIntS_l2, hlen, lt_f, cond_false, if_true])
  xs (by simp [mks])
 obtain ⟨r, g1, g2⟩ := h
 have g1 : loopF laws_markIntS_l2 (xs, k, (0 : Int), ()) = some (r, k + xs.length, ()) := by simpa using g1
 simp only [laws_markIntS, if_true, g1, Option.bind_some]
 rw [g2]
 simp
theorem heldIntS_is {n : Nat} {k : Int} (hl : n ≤ 2000000) (h0 : 0 ≤ k) (h1 : k ≤ 100000000) : laws_heldIntS (mks k n) k = some (k + n) := by
 have h := loop_inv (f := laws_heldIntS_l2) n (fun i (_ : Unit) => (mks k n, k + i, (i : Int), ())) (fun i _ => ()) (fun _ => .inr (k + n, ())) (fun i _ => True)
  (fun i p hi hp => trivial)
  (fun i p hi hp => by
   have e := mks_get k n i hi
   simp only [laws_heldIntS_l2, mks_len, lt_t hi, cond_true, if_pos (in_t hi), Int.toNat_natCast, e, bne_self_eq_false, cond_false]
   rw [w64_succ hi (by omega), w64 (by omega) (by omega)]
   have : k + (i : Int) + 1 = k + ((i + 1 : Nat) : Int) := by omega
   rw [this])
  (fun p hp => by simp only [laws_heldIntS_l2, mks_len, lt_f, cond_false])
  () trivial
 obtain ⟨r, g1, g2⟩ := h
 have g1 : loopF laws_heldIntS_l2 (mks k n, k, (0 : Int), ()) = some (.inr (k + n, ())) := by simpa using g1
 simp only [laws_heldIntS, g1, Option.bind_some]
/-- the text of a mark is told, and short -/
theorem markText_in : ∀ (m : Nat) (v : ByteArray), v.size + m ≤ 9000000000 → ∃ o : ByteArray, loopF laws_markText_l4 ((m : Int), v, ()) = some (o, ()) ∧ o.size ≤ v.size + m := by
 intro m
 induction m using Nat.strongRecOn with
 | ind m ih =>
  intro v hv
  rw [loopF_eq]
  by_cases hm : m = 0
  ·subst hm
   exact ⟨v, by simp [laws_markText_l4], by omega⟩
  ·have hq : (m : Int).tdiv 10 = ((m / 10 : Nat) : Int) := rfl
   have hs : ∀ x : List Int, (strOfNums [x.getD 0 0]).size = 1 := fun x => rfl
   obtain ⟨o, h1, h2⟩ := ih (m / 10) (by omega) (strOfNums [IntKind.wrap .u8 (IntKind.wrap .i64 ((48 : Int) + (Int.tmod m (10 : Int))))] ++ v) (by
    rw [ByteArray.size_append]
    show 1 + v.size + m / 10 ≤ _
    omega)
   refine ⟨o, ?_, ?_⟩
   ·simp only [laws_markText_l4, decide_eq_true (show (m : Int) > 0 by omega), cond_true, if_neg (show ¬ (10 : Int) = 0 by decide), List.drop_zero, List.take_succ_cons, List.take_zero, hq, w64 (show (-9223372036854775808 : Int) ≤ ((m / 10 : Nat) : Int) by omega) (by omega)]
    rw [if_pos (by rw [strOfNums_size]; simp only [List.length_cons, List.length_nil]; omega)]
    exact h1
   ·rw [ByteArray.size_append] at h2
    have : (strOfNums [IntKind.wrap .u8 (IntKind.wrap .i64 ((48 : Int) + (Int.tmod m (10 : Int))))]).size = 1 := rfl
    omega
theorem markText_is {k : Int} (h0 : 0 ≤ k) (h1 : k ≤ 1000000000) : ∃ o, laws_markText k = some o := by
 by_cases hk : k ≤ 0
 ·simp only [laws_markText, decide_eq_true hk, cond_true]
  exact ⟨_, rfl⟩
 ·obtain ⟨o, g1, g2⟩ := markText_in k.toNat (⟨#[]⟩ : ByteArray) (by show 0 + k.toNat ≤ _; omega)
  rw [Int.toNat_of_nonneg h0] at g1
  have g2 : o.size ≤ 0 + k.toNat := g2
  simp only [laws_markText, decide_eq_false hk, cond_false, g1, Option.bind_some]
  rw [if_pos (by show 1 + o.size ≤ _; omega)]
  exact ⟨_, rfl⟩
theorem some_bind_ex {α β : Type} {Q : β → Prop} (x : α) (F : α → Option β) (J : α → Prop) (hx : J x) (h : ∀ y, J y → ∃ b, F y = some b ∧ Q b) : ∃ b, Option.bind (some x) F = some b ∧ Q b := h x hx
theorem markStepS_is {xs : List Stp} {k : Int} (hl : xs.length ≤ 2000000) (h0 : 0 ≤ k) (h1 : k ≤ 100000000) : ∃ ys, laws_markStepS xs k = some (k + 4 * xs.length, ys, ()) := by
 have h := loop_rel (f := laws_markStepS_l2) xs.length (fun i (p : List Stp) => (p, k + 4 * (i : Nat), (i : Int), ())) (fun p => (p, k + 4 * xs.length, ())) (fun i p => p.length = xs.length)
  (fun i p hi hp => by
   obtain ⟨o, ho⟩ := markText_is (k := k + 4 * (i : Nat) + 1) (by omega) (by omega)
   have e : k + 4 * (i : Int) + 1 + 1 + 1 + 1 = k + 4 * ((i + 1 : Nat) : Int) := by omega
   suffices hh : ∃ b, laws_markStepS_l2 (p, k + 4 * (i : Nat), (i : Int), ()) = some b ∧ ∃ a' : List Stp, b = .inl (a', k + 4 * ((i + 1 : Nat) : Int), ((i + 1 : Nat) : Int), ()) ∧ a'.length = xs.length by
    obtain ⟨b, g1, a', g2, g3⟩ := hh
    exact ⟨a', by rw [g1, g2], g3⟩
   simp only [laws_markStepS_l2, hp, lt_t hi, cond_true, if_pos (in_t hi)]
   refine some_bind_ex _ _ (fun y : List Stp => y.length = xs.length) (by simp only [List.length_set, hp]) fun r0 h0 => ?_
   rw [w64 (show (-9223372036854775808 : Int) ≤ k + 4 * (i : Nat) + 1 by omega) (show k + 4 * (i : Nat) + 1 ≤ 9223372036854775807 by omega), ho]
   refine some_bind_ex _ _ (fun _ => True) trivial fun r1 _ => ?_
   refine some_bind_ex _ _ (fun y : List Stp => y.length = xs.length) (by simp only [List.length_set, h0]) fun r2 h2 => ?_
   refine some_bind_ex _ _ (fun y : List Stp => y.length = xs.length) (by simp only [List.length_set, h2]) fun r3 h3 => ?_
   refine some_bind_ex _ _ (fun y : List Stp => y.length = xs.length) (by simp only [List.length_set, h3]) fun r4 h4 => ?_
   simp only [h4, if_true, w64_succ hi (show xs.length ≤ 9223372036854775807 by omega), w64 (n := k + 4 * (i : Nat) + 1 + 1) (by omega) (by omega), w64 (n := k + 4 * (i : Nat) + 1 + 1 + 1) (by omega) (by omega), w64 (n := k + 4 * (i : Nat) + 1 + 1 + 1 + 1) (by omega) (by omega), e, w64 (n := k + 4 * ((i + 1 : Nat) : Int)) (by omega) (by omega)]
   exact ⟨_, rfl, r4, rfl, h4⟩)
  (fun p hp => by
   have hp : p.length = xs.length := hp
   simp only [laws_markStepS_l2, hp, lt_f, cond_false, if_true])
  xs rfl
 obtain ⟨r, g1, g2⟩ := h
 have g1 : loopF laws_markStepS_l2 (xs, k, (0 : Int), ()) = some (r, k + 4 * xs.length, ()) := by simpa using g1
 exact ⟨r, by simp only [laws_markStepS, if_true, g1, Option.bind_some]⟩
theorem markAutomaton_is {a : Aut} (h : Small a) : ∃ k b, laws_markAutomaton a 1 = some (k, b, ()) ∧ 0 ≤ k := by
 obtain ⟨n, S, F, l⟩ := a
 obtain ⟨h1, h2, h3⟩ := h
 simp only at h1 h2 h3
 obtain ⟨ys, g⟩ := markStepS_is (xs := l) (k := 1 + S.length + F.length) (by omega) (by omega) (by omega)
 simp only [laws_markAutomaton, if_true, markIntS_is (xs := S) (k := 1) (by omega) (by omega) (by omega), Option.bind_some, markIntS_is (xs := F) (k := 1 + S.length) (by omega) (by omega) (by omega), g]
 exact ⟨_, _, rfl, by omega⟩
end Go.Proofs.YtcmcjhdccnbmoaaGreat
