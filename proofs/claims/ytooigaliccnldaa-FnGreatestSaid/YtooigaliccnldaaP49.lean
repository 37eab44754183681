/- The law of greatest and least costs, put together. -/
import Derived.Test.YtooigaliccnldaaP48
set_option linter.unusedVariables false
set_option linter.unusedSimpArgs false
namespace Go.Proofs.Ytooigaliccnldaa
open Go Go.Proofs.Ytooigaliccnldaa.Am
theorem l19_is {m : Int} {S F : List Int} {l : List Stp} {W : List ByteArray} (hW : ∀ w ∈ W, impl_CostOf (m, S, F, l) w = some (cst (m, S, F, l) w)) (hl : W.length ≤ 255) (n : Int) (M Z C : List Int) (u v : Int) (k : Nat) :
    loopF laws_FnGreatest_l19 ((m, S, F, l, ()), n, M, Z, W, (m, C, ()), (k : Int), (1000000 : Int), (-1 : Int), u, v, W, ((W.length : Nat) : Int), (0 : Int), ()) = some ((m, S, F, l, ()), n, M, Z, W, (m, C, ()), (k : Int), (W.foldl (lh (m, S, F, l) k) (Nv, -1)).1, (W.foldl (lh (m, S, F, l) k) (Nv, -1)).2, u, v, ()) := by
  obtain ⟨r, g1, g2⟩ := loop_inv (f := laws_FnGreatest_l19) W.length (fun i (p : Int × Int) => ((m, S, F, l, ()), n, M, Z, W, (m, C, ()), (k : Int), p.1, p.2, u, v, W, ((W.length : Nat) : Int), (i : Int), ())) (fun i p => lh (m, S, F, l) k p (W.getD i be0)) (fun p => ((m, S, F, l, ()), n, M, Z, W, (m, C, ()), (k : Int), p.1, p.2, u, v, ())) (fun i p => p = (W.take i).foldl (lh (m, S, F, l) k) (Nv, -1))
    (fun i p hi hp => by
      have e : W.getD i be0 = W[i] := by rw [List.getD_eq_getElem?_getD, List.getElem?_eq_getElem hi]; rfl
      rw [take_snoc hi, List.foldl_append, ← hp, e]; rfl)
    (fun i p hi hp => by
      have hc := hW _ (word_mem hi)
      simp only [laws_FnGreatest_l19, lt_t hi, cond_true, if_pos (in_t hi), Int.toNat_natCast, hc, Option.bind_some, tk_id, w64_succ hi (show W.length ≤ 9223372036854775807 by omega)]
      by_cases hs : (W.getD i be0).size = k
      · have hs' : ((((W.getD i be0).size : Nat) : Int) == (k : Int)) = true := by rw [hs]; simp
        by_cases hc : cst (m, S, F, l) (W.getD i be0) < Nv
        · have eH : lh (m, S, F, l) k p (W.getD i be0) = (if cst (m, S, F, l) (W.getD i be0) < p.1 then cst (m, S, F, l) (W.getD i be0) else p.1, if cst (m, S, F, l) (W.getD i be0) > p.2 then cst (m, S, F, l) (W.getD i be0) else p.2) := by unfold lh; rw [if_pos ⟨hs, hc⟩]
          rw [hs', decide_eq_true (show cst (m, S, F, l) (W.getD i be0) < 1000000 from hc), eH]
          rfl
        · have eH : lh (m, S, F, l) k p (W.getD i be0) = p := by unfold lh; rw [if_neg (fun h => hc h.2)]
          rw [hs', decide_eq_false (show ¬ cst (m, S, F, l) (W.getD i be0) < 1000000 from hc), eH]
          rfl
      · have hs' : ((((W.getD i be0).size : Nat) : Int) == (k : Int)) = false := by rw [beq_eq_false_iff_ne]; omega
        have eH : lh (m, S, F, l) k p (W.getD i be0) = p := by unfold lh; rw [if_neg (fun h => hs h.1)]
        rw [hs', eH]
        rfl)
    (fun p _ => by simp only [laws_FnGreatest_l19, lt_f, cond_false, tk_id]) (Nv, -1) rfl
  rw [List.take_length] at g2
  have g1 : loopF laws_FnGreatest_l19 ((m, S, F, l, ()), n, M, Z, W, (m, C, ()), (k : Int), (1000000 : Int), (-1 : Int), u, v, W, ((W.length : Nat) : Int), (0 : Int), ()) = _ := g1
  rw [g1, g2]
theorem p_FnGreatest (x0 : List Int) (f0 : Fits (.sl (.int .u8)) x0) : laws_FnGreatest x0 = some true := by
  unfold laws_FnGreatest
  by_cases hx : ((x0.length : Nat) : Int) > 1048576
  · rw [decide_eq_true hx, cond_true]
  · rw [decide_eq_false hx, cond_false]
    obtain ⟨a, n, d1, sa⟩ := drawGreatest_is (bytes_of f0)
    obtain ⟨r, s1, s2, _⟩ := great_same sa n
    obtain ⟨r', t1, t2, _⟩ := least_same sa n
    have hwl := words_len n
    have k1 : autOk a = true → ∀ w, wordOk w = true → impl_CostOf a w = some (cst a w) ∧ 0 ≤ cst a w := fun ha w hw => ⟨(cst_is sa ha hw).2.1, (cst_is sa ha hw).2.2.1.1⟩
    cases hb : (autOk a && shortN n) with
    | false =>
      obtain ⟨e1, e2⟩ := best_no sa hb
      rw [e1] at s2
      rw [e2] at t2
      obtain rfl := Option.some.inj s2
      obtain rfl := Option.some.inj t2
      obtain ⟨x, S, F, l⟩ := a
      have h0 : laws_daSame ([] : List Int) [] = some true := daSame_is (by simp)
      rw [d1]
      simp only [Option.bind_some]
      rw [e1, e2, s1, t1]
      simp only [Option.bind_some, List.drop_zero, List.take_length, h0, Bool.not_true, cond_false, BEq.rfl, Bool.not_false, cond_true]
    | true =>
      obtain ⟨hv, hn⟩ := Bool.and_eq_true_iff.1 hb
      have hn' : 0 ≤ n ∧ n ≤ 7 := by unfold shortN at hn; exact of_decide_eq_true hn
      have e1 := most_is sa hb
      have e2 := leastf_is sa hb
      obtain ⟨o, o1, o2, o3⟩ := spec_LeastOf_is sa n hb
      have hws : ∀ w ∈ words n, w.size ≤ n.toNat ∧ 0 ≤ cst a w := by
        intro w hw
        refine ⟨?_, (k1 hv w (words_ok w hw)).2⟩
        unfold words at hw
        rw [if_pos hn] at hw
        exact ((gen_facts n.toNat).2.2.2 w hw).2
      have hLH := fun (k : Nat) (hk : k ≤ n.toNat) => LH.fold (a := a) hk (W := words n) (L := List.replicate (n.toNat + 1) Nv) (G := List.replicate (n.toNat + 1) Nv) (p := (Nv, -1)) hws ⟨by simp, by simp, by
        rw [getD_at0 0 (by simp; omega), List.getElem_replicate], Int.le_refl _, Int.le_refl _, by show (-1 : Int) < Nv; simp only [Nv]; omega, by
        rw [getD_at0 0 (by simp; omega), List.getElem_replicate]; rfl⟩
      rw [e1] at s2
      rw [e2] at t2
      obtain rfl := Option.some.inj s2
      obtain rfl := Option.some.inj t2
      rw [t1] at o1
      have hLo := (Prod.mk.inj (Option.some.inj o1)).1
      rw [← hLo] at o2 o3
      clear hLo o1
      generalize (words n).foldl (better1 a fun x y => decide (x > y)) (List.replicate (n.toNat + 1) Nv) = G at *
      generalize (words n).foldl (better1 a fun x y => decide (x < y)) (List.replicate (n.toNat + 1) Nv) = L at *
      have hG : G.length = n.toNat + 1 := (hLH 0 (by omega)).2.1
      obtain ⟨m, ha⟩ := autOk_is hv
      have hA := stepMatrix_is ha hv sa (c := la) (.inl rfl)
      have hB := stepMatrix_is ha hv sa (c := lb) (.inr rfl)
      have hMA := l3Matrix_puts' ha la
      have hMB := l3Matrix_puts' ha lb
      obtain ⟨A', a1, a2⟩ := l3Matrix_is (c := la) ha.st ha.n1 ha.n4 ha.len ha.ok
      obtain ⟨B', b1, b2⟩ := l3Matrix_is (c := lb) ha.st ha.n1 ha.n4 ha.len ha.ok
      rw [hMA] at a1
      rw [hMB] at b1
      have a1 := (Prod.mk.inj (Option.some.inj a1)).2
      have b1 := (Prod.mk.inj (Option.some.inj b1)).2
      rw [← a1, la_list] at a2
      rw [← b1, lb_list] at b2
      obtain ⟨C, c1, c2, c3⟩ := minMatrix_is ha.n1 ha.n4 a2.1 b2.1
      have hC := any_mat ha.steps a2 b2 c2 c3
      have hst := any_steps ha.steps
      have hleast := @least_any a sa hv m ha
      have hSm := ha.S
      have hFm := ha.F
      have h1 := ha.n1
      have h4 := ha.n4
      have hx := ha.st
      have lS := sa.1
      have lF := sa.2.1
      have hk1 : ∀ w ∈ words n, impl_CostOf a w = some (cst a w) := fun w hw => (k1 hv w (words_ok w hw)).1
      obtain ⟨x, S, F, l⟩ := a
      have hx : x = (m : Int) := hx
      subst hx
      have hD1 : laws_daSame G G = some true := daSame_is (by omega)
      have hD2 : laws_daSame L L = some true := daSame_is (by omega)
      have en : IntKind.wrap .i64 (n + 1) = ((n.toNat + 1 : Nat) : Int) := by rw [w64 (by omega) (by omega)]; omega
      obtain ⟨r, g1, g2⟩ := loop_inv (f := laws_FnGreatest_l15) (α := Unit) (n.toNat + 1) (fun i _ => (((m : Int), S, F, l, ()), n, G, L, words n, ((m : Int), C, ()), ((n.toNat + 1 : Nat) : Int), (i : Int), ())) (fun _ _ => ()) (fun _ => .inr (n, G, L, ())) (fun _ _ => True) (fun _ _ _ _ => trivial)
        (fun k _ hk _ => by
          obtain ⟨q1, q2, q3, q4, q5, q6, q7⟩ := hLH k (by omega)
          obtain ⟨P, p1, p2⟩ := powerMatrix_is h1 h4 hst hC (k := k) (by omega)
          obtain ⟨r, r1, r2, r3⟩ := ends_is h4 l hSm hFm lS lF p2.1 n G L (words n) C ((n.toNat + 1 : Nat) : Int) (k : Int) (k : Int)
          have hr : LeastAt ((m : Int), S, F, l) k r := hleast (by omega) ⟨r2, fun z => by
            rw [r3 z]
            refine and_congr_right fun hz => ?_
            constructor
            · intro g i hi j hj c hrun
              have i1 := hSm i hi
              have j1 := hFm j hj
              have := (p2.2 i.toNat j.toNat (by omega) (by omega) z).1 (g i hi j hj)
              exact this.2 c (by rw [show ((i.toNat : Nat) : Int) = i by omega, show ((j.toNat : Nat) : Int) = j by omega]; exact hrun)
            · intro g i hi j hj
              have i1 := hSm i hi
              have j1 := hFm j hj
              refine (p2.2 i.toNat j.toNat (by omega) (by omega) z).2 ⟨hz, fun c hrun => ?_⟩
              rw [show ((i.toNat : Nat) : Int) = i by omega, show ((j.toNat : Nat) : Int) = j by omega] at hrun
              exact g i hi j hj c hrun⟩
          have hrL : r = L.getD k 0 := eq_of_le_iff fun z => (hr.2 z).trans ((o3 k (by omega)).2 z).symm
          have hkL : (0 : Int) ≤ (k : Int) ∧ (k : Int) < ((L.length : Nat) : Int) := by omega
          have hkG : (0 : Int) ≤ (k : Int) ∧ (k : Int) < ((G.length : Nat) : Int) := by omega
          simp only [laws_FnGreatest_l15, lt_t hk, cond_true, tk_id]
          rw [l19_is hk1 hwl n G L C]
          generalize (words n).foldl (lh ((m : Int), S, F, l) k) (Nv, -1) = p at *
          simp only [Option.bind_some, tk_id, if_pos hkL, if_pos hkG, Int.toNat_natCast, Nat.zero_add, ← q3, q7, bne_self_eq_false, cond_false, p1, r1, hrL, w64_succ hk (show n.toNat + 1 ≤ 9223372036854775807 by omega)]
          by_cases hp : p.2 < 0
          · rw [decide_eq_false (show ¬ p.2 ≥ 0 by omega), decide_eq_true hp, if_pos hp]
            rfl
          · rw [decide_eq_true (show p.2 ≥ 0 by omega), decide_eq_false hp, if_neg hp]
            simp only [bne_self_eq_false, cond_false, cond_true])
        (fun _ _ => by simp only [laws_FnGreatest_l15, lt_f, cond_false, tk_id])
        () trivial
      have g1 : loopF laws_FnGreatest_l15 (((m : Int), S, F, l, ()), n, G, L, words n, ((m : Int), C, ()), ((n.toNat + 1 : Nat) : Int), (0 : Int), ()) = some (.inr (n, G, L, ())) := g1
      rw [d1]
      simp only [Option.bind_some]
      rw [e1, e2, s1, t1]
      simp only [Option.bind_some, tk_id, hD1, hD2, Bool.not_true, cond_false, BEq.rfl, short_words hn]
      rw [show impl_StepMatrix ((m : Int), S, F, l) (⟨#[(97 : UInt8)]⟩ : ByteArray) = _ from hA, show impl_StepMatrix ((m : Int), S, F, l) (⟨#[(98 : UInt8)]⟩ : ByteArray) = _ from hB]
      simp only [Option.bind_some, tk_id, en]
      rw [c1]
      simp only [Option.bind_some, tk_id, g1, en, hG, o2, BEq.rfl, cond_true]
end Go.Proofs.Ytooigaliccnldaa
