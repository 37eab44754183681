/- What the automaton of sums accepts; the law of what is apart. -/
import Derived.Test.YtogigagfgkfkhaaP92
import Derived.Test.YtogigagfgkfkhaaP73
set_option linter.unusedVariables false
set_option linter.unusedSimpArgs false
namespace Go.Proofs.Ytogigagfgkfkhaa
open Go Go.Proofs.Ytogigagfgkfkhaa.Am
theorem marks_of {n : Int} {l : List Int} (h1 : ∀ q ∈ l, 0 ≤ q ∧ q ≤ n - 1) (h2 : l.Pairwise (· < ·)) : marksOk n l = true := by
 unfold marksOk
 rw [List.all_eq_true]
 intro i hi
 have hi := List.mem_range.1 hi
 unfold marksP
 rw [Bool.and_eq_true]
 refine ⟨decide_eq_true (h1 _ (by rw [getD_g 0 hi]; exact List.getElem_mem hi)), ?_⟩
 rcases Nat.eq_zero_or_pos i with h0 | h0
 ·simp [h0]
 ·have h3 : i - 1 < l.length := by omega
  have h4 := List.pairwise_iff_getElem.1 h2 (i - 1) i h3 hi (by omega)
  rw [getD_g 0 hi, getD_g 0 h3]
  have : ¬ l[i - 1] ≥ l[i] := by omega
  rw [decide_eq_false this]
  simp
theorem marks_pw {n : Int} {l : List Int} (h : marksOk n l = true) : l.Pairwise (· < ·) := by
 rw [List.pairwise_iff_getElem]
 intro i j hi hj hij
 have := marks_lt h (j - i - 1) i (by omega)
 rw [show i + (j - i - 1) + 1 = j by omega, getD_g 0 hi, getD_g 0 hj] at this
 exact this
theorem marks_len {n : Nat} {l : List Int} (h : marksOk (n : Int) l = true) (hr : ∀ q ∈ l, 0 ≤ q ∧ q ≤ (n : Int) - 1) : l.length ≤ n := by
 have hm : ∀ i, i < l.length → l.getD i 0 ∈ l := fun i hi => by rw [getD_g 0 hi]; exact List.getElem_mem hi
 have key : ∀ i : Nat, i < l.length → (i : Int) ≤ l.getD i 0 := by
  intro i
  induction i with
  | zero => intro hi; exact (hr _ (hm 0 hi)).1
  | succ i ih =>
   intro hi
   have h1 := ih (by omega)
   have h2 := marks_lt h 0 i (by omega)
   simp only [Nat.add_zero] at h2
   omega
 by_cases h0 : l.length = 0
 ·omega
 have h1 := key (l.length - 1) (by omega)
 have h2 := (hr _ (hm (l.length - 1) (by omega))).2
 omega
theorem allS_mem {m : Nat} {K L : List Stp} {x : Stp} : x ∈ allS m K L ↔ ∃ s ∈ L, ∃ t ∈ K, s.2.1.toList = t.2.1.toList ∧ x = sm m s t := by
 unfold allS rwS
 constructor
 ·intro h
  obtain ⟨s, hs, h⟩ := List.mem_flatMap.1 h
  obtain ⟨t, ht, rfl⟩ := List.mem_map.1 h
  obtain ⟨h1, h2⟩ := List.mem_filter.1 ht
  exact ⟨s, hs, t, h1, eq_of_beq h2, rfl⟩
 ·rintro ⟨s, hs, t, ht, h, rfl⟩
  exact List.mem_flatMap.2 ⟨s, hs, List.mem_map.2 ⟨t, List.mem_filter.2 ⟨ht, by rw [h]; simp⟩, rfl⟩⟩
section
variable {n m : Nat} (hm : m ≤ 4)
include hm
theorem prs_marks {S T : List Int} (hS : ∀ p ∈ S, 0 ≤ p ∧ p ≤ (n : Int) - 1) (pS : S.Pairwise (· < ·)) (hT : ∀ q ∈ T, 0 ≤ q ∧ q ≤ (m : Int) - 1) (pT : T.Pairwise (· < ·)) : marksOk ((n : Int) * (m : Int)) (prs m S T) = true := by
 refine marks_of (fun x hx => ?_) ?_
 ·obtain ⟨p, hp, hx⟩ := List.mem_flatMap.1 hx
  obtain ⟨q, hq, rfl⟩ := List.mem_map.1 hx
  exact pr_rng hm (hS p hp) (hT q hq)
 ·unfold prs
  refine List.pairwise_flatMap.2 ⟨fun p hp => List.pairwise_map.2 (pT.imp fun {a b} h => by unfold pr; omega), pS.imp fun {p p'} h x hx y hy => ?_⟩
  obtain ⟨q, hq, rfl⟩ := List.mem_map.1 hx
  obtain ⟨q', hq', rfl⟩ := List.mem_map.1 hy
  exact pr_lt hm (hT q hq) (hT q' hq') h
variable {K L : List Stp} (hL : ∀ s ∈ L, StepIs (n : Int) s) (hK : ∀ t ∈ K, StepIs (m : Int) t)
include hL hK
theorem allS_pw (pL : L.Pairwise fun s t => ltS s t = true) (pK : K.Pairwise fun s t => ltS s t = true) : (allS m K L).Pairwise fun s t => stepC t s ≠ 0 := by
 have rg : ∀ t ∈ K, (0 ≤ t.1 ∧ t.1 ≤ (m : Int) - 1) ∧ (0 ≤ t.2.2.1 ∧ t.2.2.1 ≤ (m : Int) - 1) := fun t ht => ⟨⟨(hK t ht).f0, (hK t ht).f1⟩, (hK t ht).t0, (hK t ht).t1⟩
 unfold allS
 refine List.pairwise_flatMap.2 ⟨fun s hs => ?_, ?_⟩
 ·unfold rwS
  rw [List.pairwise_map]
  refine List.Pairwise.imp_of_mem (fun {t u} ht hu h h0 => ?_) (pK.filter _)
  obtain ⟨t1, t2⟩ := List.mem_filter.1 ht
  obtain ⟨u1, u2⟩ := List.mem_filter.1 hu
  obtain ⟨e1, e2, _⟩ := stepC_zero (s := sm m s u) (t := sm m s t) (hL s hs).l (hL s hs).l h0
  have a1 := (pr_inj (rg u u1).1 (rg t t1).1 hm e1).2
  have a2 := (pr_inj (rg u u1).2 (rg t t1).2 hm e2).2
  have := zero_same (s := t) (t := u) a1.symm a2.symm ((eq_of_beq t2).symm.trans (eq_of_beq u2))
  rw [this] at h
  cases h
 ·refine List.Pairwise.imp_of_mem (fun {s s'} hs hs' h x hx y hy h0 => ?_) pL
  obtain ⟨t, ht, rfl⟩ := List.mem_map.1 hx
  obtain ⟨u, hu, rfl⟩ := List.mem_map.1 hy
  have t1 := (List.mem_filter.1 ht).1
  have u1 := (List.mem_filter.1 hu).1
  obtain ⟨e1, e2, e3⟩ := stepC_zero (s := sm m s' u) (t := sm m s t) (hL s' hs').l (hL s hs).l h0
  have a1 := (pr_inj (rg u u1).1 (rg t t1).1 hm e1).1
  have a2 := (pr_inj (rg u u1).2 (rg t t1).2 hm e2).1
  have := zero_same (s := s) (t := s') a1.symm a2.symm e3.symm
  rw [this] at h
  cases h
omit hL in
theorem sum_run : ∀ {ws : List UInt8} {p q x c : Int}, (0 ≤ q ∧ q ≤ (m : Int) - 1) → Run (allS m K L) ws (pr m p q) x c → ∃ p' q' c1 c2, x = pr m p' q' ∧ (0 ≤ q' ∧ q' ≤ (m : Int) - 1) ∧ Run L ws p p' c1 ∧ Run K ws q q' c2
 | [], p, q, x, c, hq, h => ⟨p, q, 0, 0, h.1.symm, hq, ⟨rfl, rfl⟩, ⟨rfl, rfl⟩⟩
 | b :: ws, p, q, x, c, hq, h => by
  obtain ⟨y, hy, h1, h2, c', h3, rfl⟩ := h
  obtain ⟨s, hs, t, ht, he, rfl⟩ := allS_mem.1 hy
  obtain ⟨rfl, rfl⟩ := pr_inj ⟨(hK t ht).f0, (hK t ht).f1⟩ hq hm h2
  obtain ⟨p', q', c1, c2, k1, k2, k3, k4⟩ := sum_run ⟨(hK t ht).t0, (hK t ht).t1⟩ h3
  exact ⟨p', q', _, _, k1, k2, ⟨s, hs, h1, rfl, c1, k3, rfl⟩, ⟨t, ht, he ▸ h1, rfl, c2, k4, rfl⟩⟩
omit hm hL hK in
theorem run_sum : ∀ {ws : List UInt8} {p q p' q' c1 c2 : Int}, Run L ws p p' c1 → Run K ws q q' c2 → Run (allS m K L) ws (pr m p q) (pr m p' q') (c1 + c2)
 | [], p, q, p', q', c1, c2, ⟨h1, h2⟩, ⟨h3, h4⟩ => by subst h1 h2 h3 h4; exact ⟨rfl, rfl⟩
 | b :: ws, p, q, p', q', c1, c2, h, k => by
  obtain ⟨s, hs, h1, rfl, c, h3, rfl⟩ := h
  obtain ⟨t, ht, k1, rfl, d, k3, rfl⟩ := k
  refine ⟨sm m s t, allS_mem.2 ⟨s, hs, t, ht, h1.trans k1.symm, rfl⟩, h1, rfl, c + d, run_sum h3 k3, ?_⟩
  show s.2.2.2 + c + (t.2.2.2 + d) = s.2.2.2 + t.2.2.2 + (c + d)
  omega
end
theorem run_perm {l k : List Stp} (h : l.Perm k) : ∀ {ws : List UInt8} {i j c : Int}, Run l ws i j c → Run k ws i j c
 | [], _, _, _, h1 => h1
 | b :: ws, i, j, c, ⟨s, hs, h1, h2, c', h3, h4⟩ => ⟨s, h.mem_iff.1 hs, h1, h2, c', run_perm h h3, h4⟩
theorem cost_lt {a : Aut} {ws : List UInt8} {r : Int} (h : CostIs a ws r) : r < Nv ↔ ∃ i ∈ a.2.1, ∃ k ∈ a.2.2.1, ∃ c, Run a.2.2.2 ws i k c ∧ c < Nv := by
 constructor
 ·intro hlt
  apply Classical.byContradiction
  intro hno
  have : Nv ≤ r := (h.2 Nv).2 ⟨Int.le_refl _, fun i hi k hk c hr => by
   apply Classical.byContradiction
   intro hc
   exact hno ⟨i, hi, k, hk, c, hr, by omega⟩⟩
  omega
 ·rintro ⟨i, hi, k, hk, c, hr, hc⟩
  have := ((h.2 r).1 (Int.le_refl _)).2 i hi k hk c hr
  omega
theorem sum_is {a b : Aut} {n m : Nat} (ha : AutIs a n) (hb : AutIs b m) (sa : Small a) (sb : Small b) (va : autOk a = true) (vb : autOk b = true) : ∃ C ok, impl_SumAutomaton a b = some (C, ok) ∧ Small C ∧ (ok = true → autOk C = true ∧ ∀ (ws : List UInt8) (r1 r2 r : Int), ws.length ≤ 1000 → CostIs a ws r1 → CostIs b ws r2 → CostIs C ws r → (r < Nv ↔ r1 < Nv ∧ r2 < Nv)) := by
 have hV1 := impl_AutomatonValid_is a (small_len sa).1 (small_len sa).2
 have hV2 := impl_AutomatonValid_is b (small_len sb).1 (small_len sb).2
 obtain ⟨x, S, F, L⟩ := a
 obtain ⟨y, T, G, K⟩ := b
 obtain rfl : x = (n : Int) := ha.st
 obtain rfl : y = (m : Int) := hb.st
 obtain ⟨q1, q2, q3, q4, _⟩ := autOk_parts va
 obtain ⟨u1, u2, u3, u4, _⟩ := autOk_parts vb
 have h4 := ha.n4
 have k4 := hb.n4
 have hS : ∀ p ∈ S, 0 ≤ p ∧ p ≤ (n : Int) - 1 := ha.S
 have hF : ∀ p ∈ F, 0 ≤ p ∧ p ≤ (n : Int) - 1 := ha.F
 have hT : ∀ p ∈ T, 0 ≤ p ∧ p ≤ (m : Int) - 1 := hb.S
 have hG : ∀ p ∈ G, 0 ≤ p ∧ p ≤ (m : Int) - 1 := hb.F
 have hL : ∀ s ∈ L, StepIs (n : Int) s := ha.steps
 have hK : ∀ s ∈ K, StepIs (m : Int) s := hb.steps
 have lS := marks_len q1 hS
 have lF := marks_len q2 hF
 have lT := marks_len u1 hT
 have lG := marks_len u2 hG
 have hφ : ∀ p q : Int, (0 ≤ p ∧ p ≤ 3) → (0 ≤ q ∧ q ≤ 3) → (fun y4 : Unit × Int × Int × Unit => impl_SumAutomaton_1 y4.2.1 y4.2.2.1 ((m : Int), T, G, K)) ((), p, q, ()) = some (pr m p q) := by
  intro p q hp hq
  simp only [impl_SumAutomaton_1]
  rw [pr_w k4 hp hq]
 have r3 : ∀ {k : Nat} {l : List Int}, k ≤ 4 → (∀ p ∈ l, 0 ≤ p ∧ p ≤ (k : Int) - 1) → ∀ p ∈ l, 0 ≤ p ∧ p ≤ 3 := fun hk h p hp => by have := h p hp; omega
 have e1 := pair_all (φ := fun y3 : Unit × Int × Int × Unit => impl_SumAutomaton_1 y3.2.1 y3.2.2.1 ((m : Int), T, G, K)) (S := S) (T := T) hφ (r3 h4 hS) (by omega) (r3 k4 hT) (by omega)
 have e2 := pair_all (φ := fun y3 : Unit × Int × Int × Unit => impl_SumAutomaton_1 y3.2.1 y3.2.2.1 ((m : Int), T, G, K)) (S := F) (T := G) hφ (r3 h4 hF) (by omega) (r3 k4 hG) (by omega)
 have e3 := sum_all (φ := fun y3 : Unit × Int × Int × Unit => impl_SumAutomaton_1 y3.2.1 y3.2.2.1 ((m : Int), T, G, K)) (S := S) (F := F) (T := T) (G := G) (ψ := fun y2 => impl_SumAutomaton_2 y2.1 y2.2.1 (fun y3 => impl_SumAutomaton_1 y3.2.1 y3.2.2.1 ((m : Int), T, G, K))) k4 hφ hL q3 hK u3 h4
 have hw : IntKind.wrap .i64 ((n : Int) * (m : Int)) = (n : Int) * (m : Int) := mul_w k4 (by omega)
 obtain ⟨M, hM, hp⟩ := sorted_of (allS_pw (n := n) k4 hL hK (steps_srt q4) (steps_srt u4))
 have hlen : (allS m K L).length ≤ 24 * 24 := Nat.le_trans (allS_len L) (Nat.mul_le_mul q3 u3)
 have lp : ∀ {A B : List Int}, A.length ≤ 4 → B.length ≤ 4 → (prs m A B).length ≤ 16 := fun h h' => by rw [prs_len]; exact Nat.mul_le_mul h h'
 have l1 := lp (A := S) (B := T) (by omega) (by omega)
 have l2 := lp (A := F) (B := G) (by omega) (by omega)
 have hmade := made_is (x := (n : Int) * (m : Int)) (S := prs m S T) (F := prs m F G) (prs_marks (n := n) k4 hS (marks_pw q1) hT (marks_pw u1)) (prs_marks (n := n) k4 hF (marks_pw q2) hG (marks_pw u2)) hM hp (by omega) (by omega) (by omega)
 have himpl : impl_SumAutomaton ((n : Int), S, F, L) ((m : Int), T, G, K) = some (if autOk ((n : Int) * (m : Int), prs m S T, prs m F G, M) = true then (((n : Int) * (m : Int), prs m S T, prs m F G, M), true) else (((0 : Int), [], [], []), false)) := by
  have e0 : (List.take 0 (List.drop 0 ([] : List Stp))) = [] := rfl
  simp only [impl_SumAutomaton, hV1, hV2, va, vb, Option.bind_some, Bool.not_true, cond_false, e0]
  rw [e3]
  simp only [Option.bind_some]
  rw [e1]
  simp only [Option.bind_some]
  rw [e2]
  simp only [Option.bind_some, hw, List.drop_zero, List.take_length, hmade]
 rw [himpl]
 have hMl : M.length = (allS m K L).length := hp.length_eq.symm
 cases hC : autOk ((n : Int) * (m : Int), prs m S T, prs m F G, M) with
 | false => exact ⟨_, _, rfl, ⟨by show (0 : Nat) ≤ _; omega, by show (0 : Nat) ≤ _; omega, by show (0 : Nat) ≤ _; omega⟩, fun h => by cases h⟩
 | true =>
  refine ⟨_, _, rfl, ⟨by show (prs m S T).length ≤ _; omega, by show (prs m F G).length ≤ _; omega, by show M.length ≤ _; omega⟩, fun _ => ⟨hC, fun ws r1 r2 r hws c1 c2 c3 => ?_⟩⟩
  obtain ⟨k, hCk⟩ := autOk_is hC
  have small : ∀ {k : Int} {l : List Stp} (hl : ∀ s ∈ l, StepIs k s) {i j c : Int}, Run l ws i j c → c < Nv := by
   intro k l hl i j c hr
   have := run_le3 hl hr
   show c < (1000000 : Int)
   omega
  rw [cost_lt c1, cost_lt c2, cost_lt c3]
  constructor
  ·rintro ⟨i, hi, j, hj, c, hr, hc⟩
   obtain ⟨p, hp1, hi⟩ := List.mem_flatMap.1 (show i ∈ prs m S T from hi)
   obtain ⟨q, hq1, rfl⟩ := List.mem_map.1 hi
   obtain ⟨p2, hp2, hj⟩ := List.mem_flatMap.1 (show j ∈ prs m F G from hj)
   obtain ⟨q2, hq2, rfl⟩ := List.mem_map.1 hj
   obtain ⟨p', q', d1, d2, g1, g2, g3, g4⟩ := sum_run k4 hK (hT q hq1) (run_perm hp.symm hr)
   obtain ⟨rfl, rfl⟩ := pr_inj (hG q2 hq2) g2 k4 g1
   exact ⟨⟨p, hp1, p2, hp2, d1, g3, small hL g3⟩, ⟨q, hq1, q2, hq2, d2, g4, small hK g4⟩⟩
  ·rintro ⟨⟨p, hp1, p2, hp2, d1, g3, _⟩, ⟨q, hq1, q2, hq2, d2, g4, _⟩⟩
   have hr := run_perm hp (run_sum g3 g4)
   exact ⟨pr m p q, List.mem_flatMap.2 ⟨p, hp1, List.mem_map.2 ⟨q, hq1, rfl⟩⟩, pr m p2 q2, List.mem_flatMap.2 ⟨p2, hp2, List.mem_map.2 ⟨q2, hq2, rfl⟩⟩, _, hr, small hCk.steps hr⟩
end Go.Proofs.Ytogigagfgkfkhaa
