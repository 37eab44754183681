/- The law of the first word that costs more. -/
import Derived.Test.YtcmcjhdccnbmoaaP73
set_option linter.unusedVariables false
set_option linter.unusedSimpArgs false
namespace Go.Proofs.Ytcmcjhdccnbmoaa
open Go Go.Proofs.Ytcmcjhdccnbmoaa.Am
theorem find_any (n : Nat) (p : Nat → Bool) : ((List.range n).find? p).isSome = (List.range n).any p := by
 rw [Bool.eq_iff_iff, List.find?_isSome, List.any_eq_true]
theorem any_or (n : Nat) (p q : Nat → Bool) : ((List.range n).any fun i => p i || q i) = ((List.range n).any p || (List.range n).any q) := by
 induction n with
 | zero => rfl
 | succ n ih =>
  rw [List.range_succ, List.any_append, List.any_append, List.any_append, ih]
  simp only [List.any_cons, List.any_nil, Bool.or_false]
  cases (List.range n).any p <;> cases (List.range n).any q <;> cases p n <;> cases q n <;> rfl
theorem find_succ (n : Nat) (p : Nat → Bool) : (List.range (n + 1)).find? p = match (List.range n).find? p with | some j => some j | none => if p n then some n else none := by
 rw [List.range_succ, List.find?_append]
 cases (List.range n).find? p with
 | some j => rfl
 | none =>
  simp only [Option.none_or, List.find?_cons, List.find?_nil]
  cases p n <;> rfl
theorem any_succ (n : Nat) (p : Nat → Bool) : (List.range (n + 1)).any p = ((List.range n).any p || p n) := by
 rw [List.range_succ, List.any_append]
 simp
/-- the first of some that is so, or none -/
def overW (g : Nat → ByteArray) (p : Nat → Bool) (i : Nat) : ByteArray := match (List.range i).find? p with | some j => g j | none => emp
theorem overW_succ (g : Nat → ByteArray) (p : Nat → Bool) (i : Nat) : overW g p (i + 1) = if (List.range i).any p then overW g p i else if p i then g i else overW g p i := by
 unfold overW
 rw [find_succ, ← find_any]
 cases (List.range i).find? p with
 | some j => rfl
 | none => cases p i <;> rfl
theorem p_FnFirstOver (x0 : List Int) (f0 : Fits (.sl (.int .u8)) x0) : laws_FnFirstOver x0 = some true := by
 unfold laws_FnFirstOver
 by_cases hx : ((x0.length : Nat) : Int) > 1048576
 ·rw [decide_eq_true hx, cond_true]
 rw [decide_eq_false hx, cond_false]
 obtain ⟨a, b, n, d1, sa, sb⟩ : ∃ a b n, spec_DrawFirstOver x0 = some (a, b, n) ∧ Small a ∧ Small b := by
  obtain ⟨⟨bb, kk⟩, p0, s0⟩ := l13Open_is (bytes_of f0)
  obtain ⟨⟨x, S, F, l⟩, ⟨x', S', F', l'⟩, n, ⟨c1, c2⟩, p1, t1, t2⟩ := two_is s0 (by omega)
  refine ⟨(x, S, F, l), (x', S', F', l'), n, ?_, t1, t2⟩
  unfold spec_DrawFirstOver
  rw [p0]
  simp only [Option.bind_some]
  rw [p1]
  rfl
 have e1 := impl_FirstOver_is sa sb n
 have e2 := spec_FirstOver_is sa sb n
 have e3 := impl_SameCosts_is sa sb n
 have e4 := (spec_SameCosts_is sa sb n).trans e3
 have v1 := impl_AutomatonValid_is a (small_len sa).1 (small_len sa).2
 have v2 := impl_AutomatonValid_is b (small_len sb).1 (small_len sb).2
 cases hh : (autOk a && (autOk b && shortN n)) with
 | false =>
  rw [hh] at e1 e2 e3 e4
  simp only [Bool.false_eq_true, if_false] at e1 e2 e3 e4
  have hw : ∃ W fine, impl_ShortWords n = some (W, fine) ∧ (fine && (autOk a && autOk b)) = false := by
   by_cases hn : 0 ≤ n ∧ n ≤ 7
   ·refine ⟨_, _, impl_ShortWords_is hn.1 hn.2, ?_⟩
    have : shortN n = true := decide_eq_true hn
    rw [this] at hh
    cases h1 : autOk a <;> cases h2 : autOk b <;> simp_all
   ·exact ⟨_, _, impl_ShortWords_no hn, rfl⟩
  obtain ⟨W, fine, w1, w2⟩ := hw
  obtain ⟨x, S, F, l⟩ := a
  obtain ⟨x', S', F', l'⟩ := b
  rw [d1]
  simp only [Option.bind_some, e1, e2, e3, e4, BEq.rfl, Bool.not_true, cond_false, w1, v1, v2]
  cases fine with
  | false => rfl
  | true =>
   cases h1 : autOk (x, S, F, l) with
   | false => rfl
   | true =>
    cases h2 : autOk (x', S', F', l') with
    | false => rfl
    | true => rw [h1, h2] at w2; cases w2
 | true =>
  rw [hh] at e1 e2 e3 e4
  simp only [if_true] at e1 e2 e3 e4
  obtain ⟨ha, hb, hn⟩ : autOk a = true ∧ autOk b = true ∧ shortN n = true := by
   simp only [Bool.and_eq_true] at hh
   exact hh
  have hn' : 0 ≤ n ∧ n ≤ 7 := of_decide_eq_true hn
  have hW : words n = (gen n.toNat).1 := by unfold words; rw [if_pos hn]
  have w1 := impl_ShortWords_is hn'.1 hn'.2
  rw [← hW] at w1
  have k1 : ∀ w, wordOk w = true → impl_CostOf a w = some (cst a w) := fun w hw => (cst_is sa ha hw).2.1
  have k2 : ∀ w, wordOk w = true → impl_CostOf b w = some (cst b w) := fun w hw => (cst_is sb hb hw).2.1
  have hlen := words_len n
  have hok := words_ok (n := n)
  generalize hwd : wd n = g at e1 e2 e3 e4
  have hwd : ∀ i, (words n).getD i be0 = g i := fun i => by rw [← hwd]
  generalize words n = W at w1 hlen hok hwd e1 e2 e3 e4
  obtain ⟨x, S, F, l⟩ := a
  obtain ⟨x', S', F', l'⟩ := b
  generalize hA : ((x, S, F, l) : Aut) = A at *
  generalize hB : ((x', S', F', l') : Aut) = B at *
  let over (i : Nat) : ByteArray := overW g (fun i => decide (cst A (g i) > cst B (g i))) i
  have step : ∀ (t : ByteArray) (ok sm : Bool) (i : Nat), i < W.length → laws_FnFirstOver_l15 ((x, S, F, l, ()), (x', S', F', l', ()), t, ok, sm, over i, (List.range i).any (fun i => decide (cst A (g i) < cst B (g i))), (List.range i).any (fun i => decide (cst A (g i) > cst B (g i))), W, (W.length : Int), (i : Int), ()) =
    some (.inl ((x, S, F, l, ()), (x', S', F', l', ()), t, ok, sm, over (i + 1), (List.range (i + 1)).any (fun i => decide (cst A (g i) < cst B (g i))), (List.range (i + 1)).any (fun i => decide (cst A (g i) > cst B (g i))), W, (W.length : Int), ((i + 1 : Nat) : Int), ())) := by
   intro t ok sm i hi
   have hw := hok _ (word_mem hi)
   have c1 : impl_CostOf (x, S, F, l) (W.getD i (⟨Array.empty⟩ : ByteArray)) = some (cst A (W.getD i be0)) := by rw [hA]; exact k1 _ hw
   have c2 : impl_CostOf (x', S', F', l') (W.getD i (⟨Array.empty⟩ : ByteArray)) = some (cst B (W.getD i be0)) := by rw [hB]; exact k2 _ hw
   rw [hwd] at c1 c2
   have hov : over (i + 1) = if (List.range i).any (fun i => decide (cst A (g i) > cst B (g i))) then over i else if decide (cst A (g i) > cst B (g i)) then g i else over i := overW_succ g _ i
   have hgi : W.getD i (⟨Array.empty⟩ : ByteArray) = g i := hwd i
   rw [hov, any_succ, any_succ]
   simp only [laws_FnFirstOver_l15, lt_t hi, cond_true, if_pos (in_t hi), Int.toNat_natCast, c1, c2, hgi, Option.bind_some, w64_succ hi (show W.length ≤ 9223372036854775807 by omega)]
   cases decide (cst A (g i) > cst B (g i)) <;> cases (List.range i).any (fun i => decide (cst A (g i) > cst B (g i))) <;> cases (List.range i).any (fun i => decide (cst A (g i) < cst B (g i))) <;> cases decide (cst A (g i) < cst B (g i)) <;> rfl
  have loop : ∀ (t : ByteArray) (ok sm : Bool), loopF laws_FnFirstOver_l15 ((x, S, F, l, ()), (x', S', F', l', ()), t, ok, sm, (⟨#[]⟩ : ByteArray), false, false, W, (W.length : Int), (0 : Int), ()) =
    some (t, ok, sm, over W.length, (List.range W.length).any (fun i => decide (cst A (g i) < cst B (g i))), (List.range W.length).any (fun i => decide (cst A (g i) > cst B (g i))), ()) := by
   intro t ok sm
   obtain ⟨_, g1, _⟩ := loop_inv (f := laws_FnFirstOver_l15) (α := Unit) W.length (fun i _ => ((x, S, F, l, ()), (x', S', F', l', ()), t, ok, sm, over i, (List.range i).any (fun i => decide (cst A (g i) < cst B (g i))), (List.range i).any (fun i => decide (cst A (g i) > cst B (g i))), W, (W.length : Int), (i : Int), ()))
    (fun _ _ => ()) (fun _ => (t, ok, sm, over W.length, (List.range W.length).any (fun i => decide (cst A (g i) < cst B (g i))), (List.range W.length).any (fun i => decide (cst A (g i) > cst B (g i))), ())) (fun _ _ => True) (fun _ _ _ _ => trivial)
    (fun i _ hi _ => step t ok sm i hi) (fun _ _ => by simp only [laws_FnFirstOver_l15, lt_f, cond_false]) () trivial
   exact g1
  have hne : ((List.range W.length).any fun i => cst A (g i) != cst B (g i)) = ((List.range W.length).any (fun i => decide (cst A (g i) > cst B (g i))) || (List.range W.length).any (fun i => decide (cst A (g i) < cst B (g i)))) := by
   rw [← any_or]
   congr 1
   funext i
   rw [Bool.eq_iff_iff]
   simp only [bne_iff_ne, ne_eq, Bool.or_eq_true, decide_eq_true_eq]
   omega
  have e3' : impl_SameCosts A B n = some (!((List.range W.length).any (fun i => decide (cst A (g i) > cst B (g i))) || (List.range W.length).any (fun i => decide (cst A (g i) < cst B (g i))))) := by
   rw [e3, ← hne, ← find_any]
   cases (List.range W.length).find? fun i => cst A (g i) != cst B (g i) <;> rfl
  have e4' : spec_SameCosts A B n = some (!((List.range W.length).any (fun i => decide (cst A (g i) > cst B (g i))) || (List.range W.length).any (fun i => decide (cst A (g i) < cst B (g i))))) := by
   rw [e4, ← hne, ← find_any]
   cases (List.range W.length).find? fun i => cst A (g i) != cst B (g i) <;> rfl
  have e1' : impl_FirstOver A B n = some (over W.length, (List.range W.length).any (fun i => decide (cst A (g i) > cst B (g i)))) := by
   rw [e1]
   show _ = some (overW g _ W.length, _)
   unfold overW
   rw [← find_any]
   cases (List.range W.length).find? fun i => decide (cst A (g i) > cst B (g i)) <;> rfl
  have e2' : spec_FirstOver A B n = some (over W.length, (List.range W.length).any (fun i => decide (cst A (g i) > cst B (g i)))) := by
   rw [e2]
   show _ = some (overW g _ W.length, _)
   unfold overW
   rw [← find_any]
   cases (List.range W.length).find? fun i => decide (cst A (g i) > cst B (g i)) <;> rfl
  rw [ha] at v1
  rw [hb] at v2
  subst hA
  subst hB
  rw [d1]
  simp only [Option.bind_some]
  rw [e1', e2', e3', e4']
  simp only [Option.bind_some, BEq.rfl, Bool.not_true, cond_false, w1, v1, v2, loop, cond_true]
  cases (List.range W.length).any (fun i => decide (cst (x, S, F, l) (g i) > cst (x', S', F', l') (g i))) <;> cases (List.range W.length).any (fun i => decide (cst (x, S, F, l) (g i) < cst (x', S', F', l') (g i))) <;> rfl
end Go.Proofs.Ytcmcjhdccnbmoaa
