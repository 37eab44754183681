/- The law of verdicts. -/
import Derived.Test.YtcmcjhdccnbmoaaGreatP36
import Derived.Test.YtcmcjhdccnbmoaaGreatP68
import Derived.Test.YtcmcjhdccnbmoaaGreatP71
set_option linter.unusedVariables false
set_option linter.unusedSimpArgs false
namespace Go.Proofs.YtcmcjhdccnbmoaaGreat
open Go Go.Proofs.YtcmcjhdccnbmoaaGreat.Am
theorem app_txt2 {p : List ByteArray} {x : ByteArray} (hp : p.length ≤ 2000000) : ((0 + p.length = p.length) ∧ ((p.length + (List.take 1 (List.drop 0 [x])).length) * 16 ≤ 140737488355328)) ∧ List.take (p.length + (List.take 1 (List.drop 0 [x])).length) (List.drop 0 (List.drop 0 p ++ List.take 1 (List.drop 0 [x]))) = p ++ [x] := by
 have e : List.take 1 (List.drop 0 [x]) = [x] := rfl
 rw [e]
 refine ⟨⟨by omega, by simp only [List.length_cons, List.length_nil]; omega⟩, ?_⟩
 simp only [List.drop_zero, List.length_cons, List.length_nil]
 exact List.take_of_length_le (by simp)
theorem free_step2 {a : Aut} {W : List ByteArray} {i : Nat} (hi : i < W.length) : ((W.take (i + 1)).filter fun w => cst a w == 0) = ((W.take i).filter fun w => cst a w == 0) ++ (if (cst a (W.getD i be0) == 0) = true then [W.getD i be0] else []) := by
 have e : W.getD i be0 = W[i] := by rw [List.getD_eq_getElem?_getD, List.getElem?_eq_getElem hi]; rfl
 rw [take_snoc hi, List.filter_append, e]
 congr 1
 cases h : (cst a W[i] == 0) with
 | true => simp [h]
 | false => simp [h]
theorem tk_all2 {α : Type} (p : List α) : List.take p.length (List.drop 0 p) = p := by simp
theorem bounded_is2 {a : Aut} {n : Nat} (ha : AutIs a n) (hv : autOk a = true) (hs : Small a) {L : List Elt} {ok : Bool} (hL : LOk n L) (e2 : impl_ElementsOf a = some (L, ok)) : impl_IsBounded a = some (ok && !(firstOf L (growP n a.2.1 a.2.2.1)).2, ok) := by
 have e3 := growingOf_is ha hv hs hL e2
 obtain ⟨x, S, F, l⟩ := a
 rcases hf : firstOf L (growP n S F) with ⟨t, b⟩
 have e3 : impl_GrowingOf (x, S, F, l) = some (firstOf L (growP n S F)) := e3
 rw [hf] at e3
 simp only [impl_IsBounded, e2, e3, Option.bind_some, hf]
 cases ok <;> simp
theorem cost_at2 {a : Aut} (hs : Small a) (ha : autOk a = true) {w : ByteArray} (hw : wordOk w = true) : impl_CostOf a w = some (cst a w) ∧ CostIs a (bytes w) (cst a w) := by
 obtain ⟨r, h2, h3⟩ := impl_CostOf_is hs ha hw
 have : cst a w = r := by unfold cst; rw [h2]; rfl
 rw [this]
 exact ⟨h2, h3⟩
theorem free_impl2 {a : Aut} (sa : Small a) (ha : autOk a = true) (n : Int) (hn : shortN n = true) : impl_FreeWords a n = some ((words n).filter fun w => cst a w == 0, true) := by
 have h1 := impl_AutomatonValid_is a (small_len sa).1 (small_len sa).2
 have k1 : ∀ w, wordOk w = true → impl_CostOf a w = some (cst a w) := fun w hw => (cost_at2 sa ha hw).1
 have hlen := words_len n
 have hst := @free_step2 a
 obtain ⟨x, S, F, l⟩ := a
 simp only [impl_FreeWords]
 have hn' : 0 ≤ n ∧ n ≤ 7 := by unfold shortN at hn; exact of_decide_eq_true hn
 have hW : words n = (gen n.toNat).1 := by unfold words; rw [if_pos hn]
 rw [impl_ShortWords_is hn'.1 hn'.2, ← hW]
 simp only [Option.bind_some, h1, ha, Bool.not_true, cond_false]
 obtain ⟨r, g1, g2⟩ := loop_inv (f := impl_FreeWords_l6) (words n).length (fun i (p : List ByteArray) => ((x, S, F, l, ()), p, words n, ((words n).length : Int), (i : Int), ())) (fun i p => p ++ (if (cst (x, S, F, l) ((words n).getD i be0) == 0) = true then [(words n).getD i be0] else [])) (fun p => (p, ())) (fun i p => p = ((words n).take i).filter fun w => cst (x, S, F, l) w == 0)
  (fun i p hi hp => by rw [hst hi, ← hp])
  (fun i p hi hp => by
   have hw := words_ok _ (word_mem hi)
   have hl : p.length ≤ 2000000 := by
    rw [hp]
    have := List.length_filter_le (fun w => cst (x, S, F, l) w == 0) ((words n).take i)
    rw [List.length_take] at this
    omega
   obtain ⟨a1, a2⟩ := app_txt2 (x := (words n).getD i be0) hl
   have hc : impl_CostOf (x, S, F, l) ((words n).getD i (⟨Array.empty⟩ : ByteArray)) = some (cst (x, S, F, l) ((words n).getD i be0)) := k1 _ hw
   simp only [impl_FreeWords_l6, lt_t hi, cond_true, if_pos (in_t hi), Int.toNat_natCast, hc, Option.bind_some, w64_succ hi (show (words n).length ≤ 9223372036854775807 by omega), tk_all2]
   rcases Bool.eq_false_or_eq_true (cst (x, S, F, l) ((words n).getD i be0) == 0) with hz | hz
   ·simp only [hz, cond_true, if_true]
    rw [if_pos a1, a2]
   ·simp only [hz, cond_false, Bool.false_eq_true, if_false, List.append_nil])
  (fun p hp => by simp only [impl_FreeWords_l6, lt_f, cond_false, tk_all2]) [] rfl
 have g1 : loopF impl_FreeWords_l6 ((x, S, F, l, ()), [], words n, ((words n).length : Int), (0 : Int), ()) = some (r, ()) := g1
 simp only [List.drop_zero, List.take_zero, g1, Option.bind_some, List.take_length]
 rw [g2, List.take_length]
/-- the verdict of what the grades are -/
def tv (b2 b1 b0 em : Bool) : ByteArray := bif b2 then tGrowing else bif b1 then tBounded else bif b0 then tFree else bif em then tFree else tNone
theorem tv_facts (b2 b1 b0 em : Bool) :
  ((ByteArray.toList (tv b2 b1 b0 em)) == (ByteArray.toList (⟨#[]⟩ : ByteArray))) = false ∧
  ((ByteArray.toList (tv b2 b1 b0 em)) == (ByteArray.toList (⟨#[(117 : UInt8), (110 : UInt8), (107 : UInt8), (110 : UInt8), (111 : UInt8), (119 : UInt8), (110 : UInt8)]⟩ : ByteArray))) = false ∧
  ((ByteArray.toList (tv b2 b1 b0 em)) == (ByteArray.toList (⟨#[(103 : UInt8), (114 : UInt8), (111 : UInt8), (119 : UInt8), (105 : UInt8), (110 : UInt8), (103 : UInt8)]⟩ : ByteArray))) = b2 ∧
  ((ByteArray.toList (tv b2 b1 b0 em)) == (ByteArray.toList (⟨#[(110 : UInt8), (111 : UInt8), (110 : UInt8), (101 : UInt8)]⟩ : ByteArray))) = (!b2 && !b1 && !b0 && !em) ∧
  ((ByteArray.toList (tv b2 b1 b0 em)) == (ByteArray.toList (⟨#[(102 : UInt8), (114 : UInt8), (101 : UInt8), (101 : UInt8)]⟩ : ByteArray))) = (!b2 && !b1 && (b0 || em)) := by
 simp only [toList_bytes]
 cases b2 <;> cases b1 <;> cases b0 <;> cases em <;> decide
theorem filter_at {α : Type} (p : α → Bool) (d : α) : ∀ (W : List α) (i : Nat), i < W.length → p (W.getD i d) = true → ((W.take i).filter p).length < (W.filter p).length ∧ (W.filter p).getD ((W.take i).filter p).length d = W.getD i d
 | [], i, h, _ => absurd h (by simp)
 | x :: W, 0, _, h => by
  have h : p x = true := h
  simp [h]
 | x :: W, i + 1, h, hp => by
  have h1 : i < W.length := by simpa using h
  have hp : p (W.getD i d) = true := hp
  obtain ⟨a1, a2⟩ := filter_at p d W i h1 hp
  rw [List.take_succ_cons]
  show _ ∧ _ = W.getD i d
  cases hx : p x with
  | true =>
   simp only [List.filter_cons, hx, if_true, List.length_cons]
   exact ⟨by omega, by rw [List.getD_cons_succ]; exact a2⟩
  | false =>
   simp only [List.filter_cons, hx, Bool.false_eq_true, if_false]
   exact ⟨a1, a2⟩
theorem drawVerdict_is {c : List Int} (hc : ∀ x ∈ c, 0 ≤ x ∧ x ≤ 255) : ∃ a, spec_DrawVerdictOf c = some a ∧ Small a := by
 obtain ⟨⟨b, k⟩, p0, s0⟩ := l13Open_is hc
 obtain ⟨r0, q0, _, _, _⟩ := pick_is s0 (by omega) (n := 8) (by omega)
 have s1 := s0.next
 unfold spec_DrawVerdictOf
 rw [p0]
 simp only [Option.bind_some]
 have q0 : spec_l13Rd_pick (b, k) (8 : Int) = _ := q0
 rw [q0]
 simp only [Option.bind_some]
 cases (r0 == 0) with
 | true =>
  obtain ⟨⟨x, S, F, l⟩, ⟨b1, k1⟩, p1, t1, s2⟩ := l3Any_is s1 (by omega)
  refine ⟨(x, S, F, l), ?_, t1.small⟩
  rw [cond_true, p1]
  rfl
 | false =>
  obtain ⟨⟨x, S, F, l⟩, ⟨b1, k1⟩, p1, t1, s2⟩ := l8Draw_is s1 (by omega)
  refine ⟨(x, S, F, l), ?_, t1.small⟩
  rw [cond_false, p1]
  rfl
/-- what a verdict tells of the costs of words -/
theorem verdict_costs {a : Aut} {n : Nat} (ha : AutIs a n) (hv : autOk a = true) (hs : Small a) {L : List Elt} (hL : LOk n L) (hcl : Closed n a.2.2.2 (fun A => has L A = true)) {gs : List Int} (hgs : gs = gset (gradesL n a.2.1 a.2.2.1 L))
  {b2 b1 b0 : Bool} (h2 : (gs.any fun e => (2 : Int) == e) = b2) (h1 : (gs.any fun e => (1 : Int) == e) = b1) (h0 : (gs.any fun e => (0 : Int) == e) = b0) {w : ByteArray} (hw : wordOk w = true) :
  ((!b2 && !b1 && !b0 && !emptyB a) = true → cst a w = Nv) ∧ ((!b2 && !b1 && (b0 || emptyB a)) = true → cst a w = 0 ∨ cst a w = Nv) := by
 obtain ⟨_, hc⟩ := cost_at2 hs hv hw
 have hr := hc.1
 have hmem : ∀ A, has L A = true → btw n A a.2.1 a.2.2.1 ∈ gs := by
  intro A hA
  obtain ⟨e, he, rfl⟩ := has_iff.1 hA
  have h0 : btw n e.1.2 a.2.1 a.2.2.1 ∈ gradesL n a.2.1 a.2.2.1 L := List.mem_map.2 ⟨e, he, rfl⟩
  have h1 := btw_rng (hL.el e he).2.1 a.2.1 a.2.2.1
  rw [hgs]
  unfold gset
  rw [List.mem_filter]
  refine ⟨?_, decide_eq_true h0⟩
  simp only [List.mem_cons, List.not_mem_nil, or_false]
  omega
 have hany : ∀ (g : Int) (b : Bool), (gs.any fun e => g == e) = b → b = false → ∀ A, has L A = true → btw n A a.2.1 a.2.2.1 ≠ g := by
  intro g b hb hb0 A hA e
  have := hmem A hA
  rw [e] at this
  rw [hb0] at hb
  have h3 : (gs.any fun e => g == e) = true := List.any_eq_true.2 ⟨g, this, BEq.rfl⟩
  rw [h3] at hb
  cases hb
 by_cases hb : bytes w = []
 ·rw [hb] at hc
  have he := cost_empty hc
  constructor
  ·intro h
   simp only [Bool.and_eq_true, Bool.not_eq_true'] at h
   rw [h.2] at he
   have := of_decide_eq_false he
   omega
  ·intro h
   by_cases hlt : cst a w < Nv
   ·rw [decide_eq_true hlt] at he
    obtain ⟨q, hq, h3⟩ := List.any_eq_true.1 he.symm
    obtain ⟨e, h4, h5⟩ := List.any_eq_true.1 h3
    obtain rfl := eq_of_beq h5
    have := ((hc.2 (cst a w)).1 (Int.le_refl _)).2 q hq q h4 0 ⟨rfl, rfl⟩
    omega
   ·omega
 ·obtain ⟨A, hA, hG⟩ := closed_words ha hcl (bytes w) hb (wordOk_AB hw)
  obtain ⟨k1, k2, k3⟩ := cost_btw ha hG hc
  have hg := hany
  have r1 := btw_rng hG.1 a.2.1 a.2.2.1
  constructor
  ·intro h
   simp only [Bool.and_eq_true, Bool.not_eq_true'] at h
   have n2 := hany 2 b2 h2 h.1.1.1 A hA
   have n1 := hany 1 b1 h1 h.1.1.2 A hA
   have n0 := hany 0 b0 h0 h.1.2 A hA
   by_cases hlt : cst a w < Nv
   ·have := k1 hlt; omega
   ·omega
  ·intro h
   simp only [Bool.and_eq_true, Bool.not_eq_true'] at h
   have n2 := hany 2 b2 h2 h.1.1 A hA
   have n1 := hany 1 b1 h1 h.1.2 A hA
   by_cases hlt : cst a w < Nv
   ·have := k1 hlt
    have := k3 (by omega)
    omega
   ·omega
theorem p_FnVerdict (x0 : List Int) (f0 : Fits (.sl (.int .u8)) x0) : laws_FnVerdict x0 = some true := by
 unfold laws_FnVerdict
 by_cases hx : ((x0.length : Nat) : Int) > 1048576
 ·rw [decide_eq_true hx, cond_true]
 rw [decide_eq_false hx, cond_false]
 obtain ⟨a, d1, hs⟩ := drawVerdict_is (bytes_of f0)
 have hA := impl_AutomatonValid_is a (small_len hs).1 (small_len hs).2
 cases hv : autOk a with
 | false =>
  obtain ⟨v1, v2⟩ := verdict_not hv hs
  rw [hv] at hA
  obtain ⟨x, S, F, l⟩ := a
  rw [d1]
  simp only [Option.bind_some, v1, v2, hA, BEq.rfl, Bool.not_true, cond_false, cond_true]
  rw [show ((ByteArray.toList (⟨#[]⟩ : ByteArray)) == (ByteArray.toList (⟨#[(117 : UInt8), (110 : UInt8), (107 : UInt8), (110 : UInt8), (111 : UInt8), (119 : UInt8), (110 : UInt8)]⟩ : ByteArray))) = false from by simp only [toList_bytes]; decide]
  rfl
 | true =>
  obtain ⟨n', ha'⟩ := autOk_is hv
  obtain ⟨n, L, ok, h4, hL, e1, e2, e0, eN, eA⟩ := elements_any hs
  rw [hv] at hA
  cases ok with
  | false =>
   obtain ⟨L', ok', _, e3, _, _, v1, v2⟩ := verdict_full ha' hv hs
   rw [e1] at e3
   obtain ⟨rfl, rfl⟩ := Prod.mk.inj (Option.some.inj e3)
   have v1 : spec_VerdictOf a = some tUnknown := v1
   have v2 : impl_VerdictOf a = some tUnknown := v2
   obtain ⟨x, S, F, l⟩ := a
   rw [d1]
   simp only [Option.bind_some, v1, v2, hA, BEq.rfl, Bool.not_true, cond_false, cond_true]
   rw [show ((ByteArray.toList tUnknown) == (ByteArray.toList (⟨#[]⟩ : ByteArray))) = false from by simp only [toList_bytes]; decide,
    show ((ByteArray.toList tUnknown) == (ByteArray.toList (⟨#[(117 : UInt8), (110 : UInt8), (107 : UInt8), (110 : UInt8), (111 : UInt8), (119 : UInt8), (110 : UInt8)]⟩ : ByteArray))) = true from by simp only [toList_bytes]; decide]
   rfl
  | true =>
   obtain ⟨_, ha, hV, hcl⟩ := eA (eN rfl)
   obtain ⟨L', ok', _, e3, _, _, v1, v2⟩ := verdict_full ha hv hs
   rw [e1] at e3
   obtain ⟨rfl, rfl⟩ := Prod.mk.inj (Option.some.inj e3)
   have hcost := fun (w : ByteArray) (hw : wordOk w = true) => verdict_costs ha hv hs hL hcl rfl rfl rfl rfl hw
   have hgrow : (firstOf L (growP n a.2.1 a.2.2.1)).2 = (gset (gradesL n a.2.1 a.2.2.1 L)).any fun e => (2 : Int) == e := by
    cases hf : (firstOf L (growP n a.2.1 a.2.2.1)).2 with
    | true =>
     obtain ⟨x, hx, hp, _⟩ := firstOf_some (L := L) (p := growP n a.2.1 a.2.2.1) (e := (firstOf L (growP n a.2.1 a.2.2.1)).1) (by rw [← hf])
     have hp : btw n x.1.2 a.2.1 a.2.2.1 = 2 := eq_of_beq hp
     refine (List.any_eq_true.2 ⟨2, ?_, BEq.rfl⟩).symm
     unfold gset
     rw [List.mem_filter]
     exact ⟨by simp, decide_eq_true (List.mem_map.2 ⟨x, hx, hp⟩)⟩
    | false =>
     refine Eq.symm ?_
     rw [List.any_eq_false]
     intro g hg h2
     have h2 : (2 : Int) = g := eq_of_beq h2
     subst h2
     unfold gset at hg
     obtain ⟨x, hx, hp⟩ := List.mem_map.1 (of_decide_eq_true (List.mem_filter.1 hg).2)
     have := firstOf_has (L := L) (p := growP n a.2.1 a.2.2.1) hx (by unfold growP; rw [hp]; rfl)
     rw [hf] at this
     cases this
   have hbd := bounded_is2 ha hv hs hL e2
   have hgo := growingOf_is ha hv hs hL e2
   have hfree := free_impl2 hs hv 5 rfl
   have hsw := impl_ShortWords_is (n := 5) (by omega) (by omega)
   have hW : words 5 = (gen (5 : Int).toNat).1 := by unfold words; rw [if_pos (show shortN 5 = true from rfl)]
   rw [← hW] at hsw
   have hlen := words_len 5
   have hcw := fun (w : ByteArray) (hw : wordOk w = true) => (cost_at2 hs hv hw).1
   generalize hb2 : ((gset (gradesL n a.2.1 a.2.2.1 L)).any fun e => (2 : Int) == e) = b2 at hcost hgrow
   generalize hb1 : ((gset (gradesL n a.2.1 a.2.2.1 L)).any fun e => (1 : Int) == e) = b1 at hcost
   generalize hb0 : ((gset (gradesL n a.2.1 a.2.2.1 L)).any fun e => (0 : Int) == e) = b0 at hcost
   have hverd : verd (gset (gradesL n a.2.1 a.2.2.1 L)) true (emptyB a) = tv b2 b1 b0 (emptyB a) := by
    unfold verd tv
    rw [hb2, hb1, hb0]
    rfl
   rw [hverd] at v1 v2
   generalize emptyB a = em at hcost v1 v2
   obtain ⟨t1, t2, t3, t4, t5⟩ := tv_facts b2 b1 b0 em
   generalize tv b2 b1 b0 em = t at v1 v2 t1 t2 t3 t4 t5
   obtain ⟨x, S, F, l⟩ := a
   have hx : x = (n : Int) := ha.st
   subst hx
   generalize hWd : words 5 = W at hfree hsw hlen
   have hok : ∀ w ∈ W, wordOk w = true := by rw [← hWd]; exact words_ok
   obtain ⟨r, g1, g2⟩ := loop_inv (f := laws_FnVerdict_l11) W.length (fun i (k : Nat) => (((n : Int), S, F, l, ()), t, W.filter (fun w => cst ((n : Int), S, F, l) w == 0), (k : Int), W, (W.length : Int), (i : Int), ()))
    (fun i k => if cst ((n : Int), S, F, l) (W.getD i be0) == 0 then k + 1 else k) (fun k => Sum.inr (((n : Int), S, F, l, ()), t, W.filter (fun w => cst ((n : Int), S, F, l) w == 0), (k : Int), ()))
    (fun i k => k = ((W.take i).filter fun w => cst ((n : Int), S, F, l) w == 0).length)
    (fun i k hi hk => by
     subst hk
     rw [free_step2 hi]
     cases h : (cst ((n : Int), S, F, l) (W.getD i be0) == 0) <;> simp)
    (fun i k hi hk => by
     have hw := hok _ (word_mem hi)
     have hc : impl_CostOf ((n : Int), S, F, l) (W.getD i (⟨Array.empty⟩ : ByteArray)) = some (cst ((n : Int), S, F, l) (W.getD i be0)) := hcw _ hw
     obtain ⟨c1, c2⟩ := hcost _ hw
     rw [← t4] at c1
     rw [← t5] at c2
     have hfl := List.length_filter_le (fun w => cst ((n : Int), S, F, l) w == 0) W
     simp only [laws_FnVerdict_l11, lt_t hi, cond_true, if_pos (in_t hi), Int.toNat_natCast, hc, Option.bind_some, w64_succ hi (show W.length ≤ 9223372036854775807 by omega), Nat.zero_add, List.drop_zero, List.take_length]
     generalize hcv : cst ((n : Int), S, F, l) (W.getD i be0) = c at c1 c2
     cases hz : (c == 0) with
     | true =>
      have hz0 : c = 0 := eq_of_beq hz
      obtain ⟨f1, f2⟩ := filter_at (fun w => cst ((n : Int), S, F, l) w == 0) be0 W i hi (by rw [hcv]; exact hz)
      rw [← hk] at f1 f2
      have f2 : (W.filter fun w => cst ((n : Int), S, F, l) w == 0).getD k (⟨Array.empty⟩ : ByteArray) = W.getD i (⟨Array.empty⟩ : ByteArray) := f2
      simp only [cond_true, if_true, decide_eq_false (show ¬ (k : Int) ≥ (((W.filter fun w => cst ((n : Int), S, F, l) w == 0).length : Nat) : Int) by omega), cond_false, if_pos (in_t f1), f2, BEq.rfl, Bool.not_true, w64_succ f1 (show _ ≤ 9223372036854775807 by omega)]
      cases hn : ((ByteArray.toList t) == (ByteArray.toList (⟨#[(110 : UInt8), (111 : UInt8), (110 : UInt8), (101 : UInt8)]⟩ : ByteArray))) with
      | true =>
       have := c1 hn
       rw [hz0] at this
       exact absurd this (by decide)
      | false =>
       simp only [cond_false, hz0, bne_self_eq_false]
       cases ((ByteArray.toList t) == (ByteArray.toList (⟨#[(102 : UInt8), (114 : UInt8), (101 : UInt8), (101 : UInt8)]⟩ : ByteArray))) <;> rfl
     | false =>
      have hz0 : (c != 0) = true := by rw [bne, hz]; rfl
      simp only [cond_false, Bool.false_eq_true, if_false]
      cases hn : ((ByteArray.toList t) == (ByteArray.toList (⟨#[(110 : UInt8), (111 : UInt8), (110 : UInt8), (101 : UInt8)]⟩ : ByteArray))) with
      | true =>
       have hN : c = 1000000 := c1 hn
       simp only [cond_true, hN, bne_self_eq_false, cond_false]
       cases ((ByteArray.toList t) == (ByteArray.toList (⟨#[(102 : UInt8), (114 : UInt8), (101 : UInt8), (101 : UInt8)]⟩ : ByteArray))) <;> rfl
      | false =>
       simp only [cond_false]
       cases hf : ((ByteArray.toList t) == (ByteArray.toList (⟨#[(102 : UInt8), (114 : UInt8), (101 : UInt8), (101 : UInt8)]⟩ : ByteArray))) with
       | true =>
        have hN : c = 1000000 := by
         rcases c2 hf with h | h
         ·rw [h] at hz; cases hz
         ·exact h
        simp only [cond_true, hN, bne_self_eq_false, cond_false]
        rfl
       | false => rfl)
    (fun k hk => by simp only [laws_FnVerdict_l11, lt_f, cond_false, List.drop_zero, List.take_length])
    0 rfl
   have g1 : loopF laws_FnVerdict_l11 (((n : Int), S, F, l, ()), t, W.filter (fun w => cst ((n : Int), S, F, l) w == 0), (0 : Int), W, (W.length : Int), (0 : Int), ()) = _ := g1
   rw [List.take_length] at g2
   subst g2
   have hgo : impl_GrowingOf ((n : Int), S, F, l) = some (firstOf L (growP n S F)) := hgo
   have hbd : impl_IsBounded ((n : Int), S, F, l) = some (true && !(firstOf L (growP n S F)).2, true) := hbd
   have hgrow : (firstOf L (growP n S F)).2 = b2 := hgrow
   rcases hfo : firstOf L (growP n S F) with ⟨e, b⟩
   rw [hfo] at hgo hbd hgrow
   have hgrow : b = b2 := hgrow
   subst hgrow
   rw [d1]
   simp only [Option.bind_some, v1, v2, BEq.rfl, Bool.not_true, cond_false, t1, t2, t3, hsw, hfree, List.drop_zero, List.take_length, g1, hbd, hgo, cond_true, Bool.true_and]
   cases b <;> rfl
end Go.Proofs.YtcmcjhdccnbmoaaGreat
