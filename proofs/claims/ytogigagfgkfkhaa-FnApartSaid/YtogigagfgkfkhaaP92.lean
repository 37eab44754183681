/- The automaton of sums. -/
import Derived.Test.YtogigagfgkfkhaaP88
import Derived.Test.YtogigagfgkfkhaaP17
set_option linter.unusedVariables false
set_option linter.unusedSimpArgs false
namespace Go.Proofs.Ytogigagfgkfkhaa
open Go Go.Proofs.Ytogigagfgkfkhaa.Am
def pr (m : Nat) (p q : Int) : Int := p * (m : Int) + q
theorem mul_r {m : Nat} (h4 : m ≤ 4) {p : Int} (hp : 0 ≤ p ∧ p ≤ 4) : 0 ≤ p * (m : Int) ∧ p * (m : Int) ≤ 16 := by
 have hm : m = 0 ∨ m = 1 ∨ m = 2 ∨ m = 3 ∨ m = 4 := by omega
 rcases hm with rfl | rfl | rfl | rfl | rfl <;> omega
theorem mul_w {m : Nat} (h4 : m ≤ 4) {p : Int} (hp : 0 ≤ p ∧ p ≤ 4) : IntKind.wrap .i64 (p * (m : Int)) = p * (m : Int) := by
 have := mul_r h4 hp
 exact w64 (by omega) (by omega)
theorem pr_w {m : Nat} (h4 : m ≤ 4) {p q : Int} (hp : 0 ≤ p ∧ p ≤ 3) (hq : 0 ≤ q ∧ q ≤ 3) : IntKind.wrap .i64 (IntKind.wrap .i64 (p * (m : Int)) + q) = pr m p q := by
 have := mul_r h4 (p := p) (by omega)
 rw [mul_w h4 (by omega), w64 (by omega) (by omega)]
 rfl
theorem pr_inj {m : Nat} {p q p' q' : Int} (hq : 0 ≤ q ∧ q ≤ (m : Int) - 1) (hq' : 0 ≤ q' ∧ q' ≤ (m : Int) - 1) (h4 : m ≤ 4) (h : pr m p q = pr m p' q') : p = p' ∧ q = q' := by
 unfold pr at h
 have hm : m = 0 ∨ m = 1 ∨ m = 2 ∨ m = 3 ∨ m = 4 := by omega
 rcases hm with rfl | rfl | rfl | rfl | rfl <;> omega
theorem pr_rng {n m : Nat} (h4 : m ≤ 4) {p q : Int} (hp : 0 ≤ p ∧ p ≤ (n : Int) - 1) (hq : 0 ≤ q ∧ q ≤ (m : Int) - 1) : 0 ≤ pr m p q ∧ pr m p q ≤ (n : Int) * (m : Int) - 1 := by
 unfold pr
 have hm : m = 0 ∨ m = 1 ∨ m = 2 ∨ m = 3 ∨ m = 4 := by omega
 rcases hm with rfl | rfl | rfl | rfl | rfl <;> omega
theorem pr_lt {m : Nat} (h4 : m ≤ 4) {p q p' q' : Int} (hq : 0 ≤ q ∧ q ≤ (m : Int) - 1) (hq' : 0 ≤ q' ∧ q' ≤ (m : Int) - 1) (h : p < p') : pr m p q < pr m p' q' := by
 unfold pr
 have hm : m = 0 ∨ m = 1 ∨ m = 2 ∨ m = 3 ∨ m = 4 := by omega
 rcases hm with rfl | rfl | rfl | rfl | rfl <;> omega
/-- both steps at once -/
def sm (m : Nat) (s t : Stp) : Stp := (pr m s.1 t.1, s.2.1, pr m s.2.2.1 t.2.2.1, s.2.2.2 + t.2.2.2)
def rwS (m : Nat) (s : Stp) (K : List Stp) : List Stp := (K.filter fun t => s.2.1.toList == t.2.1.toList).map (sm m s)
def allS (m : Nat) (K L : List Stp) : List Stp := L.flatMap fun s => rwS m s K
def prs (m : Nat) (S T : List Int) : List Int := S.flatMap fun p => T.map fun q => pr m p q
theorem take_next {α : Type} (d : α) {l : List α} {k : Nat} (hk : k < l.length) : l.take (k + 1) = l.take k ++ [l.getD k d] := by
 rw [getD_g d hk, List.take_succ_eq_append_getElem hk]
theorem rwS_snoc {m : Nat} {s : Stp} {K : List Stp} {k : Nat} (hk : k < K.length) : rwS m s (K.take (k + 1)) = bif s.2.1.toList == (K.getD k stp0).2.1.toList then rwS m s (K.take k) ++ [sm m s (K.getD k stp0)] else rwS m s (K.take k) := by
 unfold rwS
 rw [take_next stp0 hk, List.filter_append, List.map_append]
 generalize K.getD k stp0 = x
 cases h : s.2.1.toList == x.2.1.toList with
 | true =>
  have : [x].filter (fun t => s.2.1.toList == t.2.1.toList) = [x] := by simp only [List.filter, h]
  rw [this, cond_true]
  rfl
 | false =>
  have : [x].filter (fun t => s.2.1.toList == t.2.1.toList) = [] := by simp only [List.filter, h]
  rw [this, cond_false, List.map_nil, List.append_nil]
theorem rwS_len {m : Nat} {s : Stp} (K : List Stp) : (rwS m s K).length ≤ K.length := by
 unfold rwS
 rw [List.length_map]
 exact List.length_filter_le _ _
theorem allS_snoc {m : Nat} {K L : List Stp} {k : Nat} (hk : k < L.length) : allS m K (L.take (k + 1)) = allS m K (L.take k) ++ rwS m (L.getD k stp0) K := by
 unfold allS
 rw [take_next stp0 hk, List.flatMap_append]
 simp
theorem allS_len {m : Nat} {K : List Stp} : ∀ L : List Stp, (allS m K L).length ≤ L.length * K.length
 | [] => by simp [allS]
 | s :: L => by
  have := allS_len (m := m) (K := K) L
  have h := rwS_len (m := m) (s := s) K
  unfold allS at this ⊢
  rw [List.flatMap_cons, List.length_append, List.length_cons, Nat.succ_mul]
  omega
theorem prs_snoc {m : Nat} {S T : List Int} {k : Nat} (hk : k < S.length) : prs m (S.take (k + 1)) T = prs m (S.take k) T ++ T.map fun q => pr m (S.getD k 0) q := by
 unfold prs
 rw [take_next 0 hk, List.flatMap_append]
 simp
theorem prs_len {m : Nat} {T : List Int} : ∀ S : List Int, (prs m S T).length = S.length * T.length
 | [] => by simp [prs]
 | s :: S => by
  have := prs_len (m := m) (T := T) S
  unfold prs at this ⊢
  rw [List.flatMap_cons, List.length_append, List.length_cons, Nat.succ_mul, List.length_map, this]
  omega
abbrev Fn2 := (Unit × Int × Int × Unit) → Option Int
abbrev FnL := (List Int × List Int × Unit) → Option (List Int)
section
variable {n m : Nat} {S F T G : List Int} {L K : List Stp} {φ : Fn2} {ψ : FnL} (hn : n ≤ 4) (hm : m ≤ 4)
 (hφ : ∀ p q : Int, (0 ≤ p ∧ p ≤ 3) → (0 ≤ q ∧ q ≤ 3) → φ ((), p, q, ()) = some (pr m p q))
include hm hφ
theorem sum_row (hK : ∀ t ∈ K, StepIs (m : Int) t) (lK : K.length ≤ 24) {s : Stp} (hs : StepIs (n : Int) s) (hn : n ≤ 4) (I : List Stp) (hI : I.length ≤ 1000) (i : Nat) :
  loopF impl_SumAutomaton_l10 (((n : Int), S, F, L), ((m : Int), T, G, K), ((0 : Int), [], [], [], ()), φ, ψ, I, (s.1, s.2.1, s.2.2.1, s.2.2.2, ()), L, ((L.length : Nat) : Int), (i : Int), K, ((K.length : Nat) : Int), (0 : Int), ()) =
   some (((n : Int), S, F, L), ((m : Int), T, G, K), ((0 : Int), [], [], [], ()), φ, ψ, I ++ rwS m s K, L, ((L.length : Nat) : Int), (i : Int), ()) := by
 obtain ⟨r, g1, g2⟩ := loop_inv (f := impl_SumAutomaton_l10) K.length (fun k (o : List Stp) => (((n : Int), S, F, L), ((m : Int), T, G, K), ((0 : Int), [], [], [], ()), φ, ψ, o, (s.1, s.2.1, s.2.2.1, s.2.2.2, ()), L, ((L.length : Nat) : Int), (i : Int), K, ((K.length : Nat) : Int), (k : Int), ()))
  (fun k o => bif s.2.1.toList == (K.getD k stp0).2.1.toList then o ++ [sm m s (K.getD k stp0)] else o) (fun o => (((n : Int), S, F, L), ((m : Int), T, G, K), ((0 : Int), [], [], [], ()), φ, ψ, o, L, ((L.length : Nat) : Int), (i : Int), ())) (fun k o => o = I ++ rwS m s (K.take k))
  (fun k o hk ho => by
   rw [ho, rwS_snoc hk]
   cases s.2.1.toList == (K.getD k stp0).2.1.toList <;> simp)
  (fun k o hk ho => by
   have hol : o.length ≤ I.length + k := by
    rw [ho, List.length_append]
    have := rwS_len (m := m) (s := s) (K.take k)
    rw [List.length_take] at this
    omega
   have ht := hK (K.getD k stp0) (by rw [getD_g stp0 hk]; exact List.getElem_mem hk)
   have hs1 := hs.f0; have hs2 := hs.f1; have hs3 := hs.t0; have hs4 := hs.t1; have hs5 := hs.c0; have hs6 := hs.c1
   have ht1 := ht.f0; have ht2 := ht.f1; have ht3 := ht.t0; have ht4 := ht.t1; have ht5 := ht.c0; have ht6 := ht.c1
   have e1 := hφ s.1 (K.getD k stp0).1 (by omega) (by omega)
   have e2 := hφ s.2.2.1 (K.getD k stp0).2.2.1 (by omega) (by omega)
   have e3 : IntKind.wrap .i64 (s.2.2.2 + (K.getD k stp0).2.2.2) = s.2.2.2 + (K.getD k stp0).2.2.2 := w64 (by omega) (by omega)
   have hd : (K.getD k ((0 : Int), (⟨Array.empty⟩ : ByteArray), (0 : Int), (0 : Int))) = K.getD k stp0 := rfl
   simp only [impl_SumAutomaton_l10, lt_t hk, cond_true, if_pos (in_t hk), Int.toNat_natCast, w64_succ hk (show K.length ≤ 9223372036854775807 by omega), hd, e1, e2, e3, Option.bind_some]
   cases s.2.1.toList == (K.getD k stp0).2.1.toList with
   | false => simp only [cond_false, List.drop_zero, List.take_length, List.length_nil, List.take_nil]
   | true =>
    simp only [cond_true, List.drop_zero]
    have e : ∀ x : Stp, List.take 1 [x] = [x] := fun _ => rfl
    simp only [e, List.length_cons, List.length_nil, List.take_length, List.take_nil]
    rw [if_pos ⟨by omega, by omega⟩]
    rw [List.take_of_length_le (by simp)]
    rfl)
  (fun o ho => by simp only [impl_SumAutomaton_l10, lt_f, cond_false, List.drop_zero, List.take_length, List.length_nil, List.take_nil])
  I (by simp [rwS])
 have g1 : loopF impl_SumAutomaton_l10 (((n : Int), S, F, L), ((m : Int), T, G, K), ((0 : Int), [], [], [], ()), φ, ψ, I, (s.1, s.2.1, s.2.2.1, s.2.2.2, ()), L, ((L.length : Nat) : Int), (i : Int), K, ((K.length : Nat) : Int), (0 : Int), ()) = _ := g1
 rw [g1, g2, List.take_length]
theorem sum_all (hL : ∀ s ∈ L, StepIs (n : Int) s) (lL : L.length ≤ 24) (hK : ∀ t ∈ K, StepIs (m : Int) t) (lK : K.length ≤ 24) (hn : n ≤ 4) :
  loopF impl_SumAutomaton_l7 (((n : Int), S, F, L), ((m : Int), T, G, K), ((0 : Int), [], [], [], ()), φ, ψ, [], L, ((L.length : Nat) : Int), (0 : Int), ()) =
   some (((n : Int), S, F, L), ((m : Int), T, G, K), ((0 : Int), [], [], [], ()), ψ, allS m K L, ()) := by
 obtain ⟨r, g1, g2⟩ := loop_inv (f := impl_SumAutomaton_l7) L.length (fun i (o : List Stp) => (((n : Int), S, F, L), ((m : Int), T, G, K), ((0 : Int), [], [], [], ()), φ, ψ, o, L, ((L.length : Nat) : Int), (i : Int), ()))
  (fun i o => o ++ rwS m (L.getD i stp0) K) (fun o => (((n : Int), S, F, L), ((m : Int), T, G, K), ((0 : Int), [], [], [], ()), ψ, o, ())) (fun i o => o = allS m K (L.take i))
  (fun i o hi ho => by rw [ho, allS_snoc hi])
  (fun i o hi ho => by
   have hol : o.length ≤ i * K.length := by
    rw [ho]
    have := allS_len (m := m) (K := K) (L.take i)
    rwa [List.length_take, Nat.min_eq_left (by omega)] at this
   have hmul : i * K.length ≤ 24 * 24 := Nat.mul_le_mul (by omega) lK
   have hr := sum_row (S := S) (F := F) (T := T) (G := G) (L := L) (ψ := ψ) hm hφ hK lK (hL (L.getD i stp0) (by rw [getD_g stp0 hi]; exact List.getElem_mem hi)) hn o (by omega) i
   have hd : (L.getD i ((0 : Int), (⟨Array.empty⟩ : ByteArray), (0 : Int), (0 : Int))) = L.getD i stp0 := rfl
   simp only [impl_SumAutomaton_l7, lt_t hi, cond_true, if_pos (in_t hi), Int.toNat_natCast, List.drop_zero, List.take_length, List.length_nil, List.take_nil, hd]
   rw [hr]
   simp only [Option.bind_some, List.drop_zero, List.take_length, List.length_nil, List.take_nil, w64_succ hi (show L.length ≤ 9223372036854775807 by omega)])
  (fun o ho => by simp only [impl_SumAutomaton_l7, lt_f, cond_false, List.drop_zero, List.take_length, List.length_nil, List.take_nil])
  [] (by simp [allS])
 have g1 : loopF impl_SumAutomaton_l7 (((n : Int), S, F, L), ((m : Int), T, G, K), ((0 : Int), [], [], [], ()), φ, ψ, [], L, ((L.length : Nat) : Int), (0 : Int), ()) = _ := g1
 rw [g1, g2, List.take_length]
omit hm in
theorem pair_row (hT : ∀ q ∈ T, 0 ≤ q ∧ q ≤ 3) (lT : T.length ≤ 100) {p : Int} (hp : 0 ≤ p ∧ p ≤ 3) (I : List Int) (hI : I.length ≤ 10000) (i : Nat) :
  loopF impl_SumAutomaton_2_l6 (T, φ, I, p, S, ((S.length : Nat) : Int), (i : Int), T, ((T.length : Nat) : Int), (0 : Int), ()) = some (T, φ, I ++ T.map (fun q => pr m p q), S, ((S.length : Nat) : Int), (i : Int), ()) := by
 obtain ⟨r, g1, g2⟩ := loop_inv (f := impl_SumAutomaton_2_l6) T.length (fun k (o : List Int) => (T, φ, o, p, S, ((S.length : Nat) : Int), (i : Int), T, ((T.length : Nat) : Int), (k : Int), ()))
  (fun k o => o ++ [pr m p (T.getD k 0)]) (fun o => (T, φ, o, S, ((S.length : Nat) : Int), (i : Int), ())) (fun k o => o = I ++ (T.take k).map fun q => pr m p q)
  (fun k o hk ho => by rw [ho, take_next 0 hk]; simp)
  (fun k o hk ho => by
   have hol : o.length ≤ I.length + k := by
    rw [ho, List.length_append, List.length_map, List.length_take]
    omega
   have e1 := hφ p (T.getD k 0) hp (hT _ (by rw [getD_g 0 hk]; exact List.getElem_mem hk))
   have e : ∀ x : Int, List.take 1 [x] = [x] := fun _ => rfl
   simp only [impl_SumAutomaton_2_l6, lt_t hk, cond_true, if_pos (in_t hk), Int.toNat_natCast, w64_succ hk (show T.length ≤ 9223372036854775807 by omega), e1, Option.bind_some, List.drop_zero, e, List.length_cons, List.length_nil]
   rw [if_pos ⟨by omega, by omega⟩]
   rw [List.take_of_length_le (by simp)])
  (fun o ho => by simp only [impl_SumAutomaton_2_l6, lt_f, cond_false, List.drop_zero, List.take_length])
  I (by simp)
 have g1 : loopF impl_SumAutomaton_2_l6 (T, φ, I, p, S, ((S.length : Nat) : Int), (i : Int), T, ((T.length : Nat) : Int), (0 : Int), ()) = _ := g1
 rw [g1, g2, List.take_length]
omit hm in
theorem pair_all (hS : ∀ p ∈ S, 0 ≤ p ∧ p ≤ 3) (lS : S.length ≤ 4) (hT : ∀ q ∈ T, 0 ≤ q ∧ q ≤ 3) (lT : T.length ≤ 4) : impl_SumAutomaton_2 S T φ = some (prs m S T) := by
 obtain ⟨r, g1, g2⟩ := loop_inv (f := impl_SumAutomaton_2_l3) S.length (fun i (o : List Int) => (T, φ, o, S, ((S.length : Nat) : Int), (i : Int), ()))
  (fun i o => o ++ T.map fun q => pr m (S.getD i 0) q) (fun o => (o, ())) (fun i o => o = prs m (S.take i) T)
  (fun i o hi ho => by rw [ho, prs_snoc hi])
  (fun i o hi ho => by
   have hol : o.length = (S.take i).length * T.length := by rw [ho]; exact prs_len _
   rw [List.length_take, Nat.min_eq_left (by omega)] at hol
   have hmul : i * T.length ≤ 4 * 4 := Nat.mul_le_mul (by omega) lT
   have hr := pair_row (S := S) hφ hT (by omega) (hS (S.getD i 0) (by rw [getD_g 0 hi]; exact List.getElem_mem hi)) o (by omega) i
   simp only [impl_SumAutomaton_2_l3, lt_t hi, cond_true, if_pos (in_t hi), Int.toNat_natCast, List.drop_zero, List.take_length]
   rw [hr]
   simp only [Option.bind_some, List.drop_zero, List.take_length, w64_succ hi (show S.length ≤ 9223372036854775807 by omega)])
  (fun o ho => by simp only [impl_SumAutomaton_2_l3, lt_f, cond_false, List.drop_zero, List.take_length])
  [] (by simp [prs])
 have g1 : loopF impl_SumAutomaton_2_l3 (T, φ, [], S, ((S.length : Nat) : Int), (0 : Int), ()) = _ := g1
 have e : (List.take 0 (List.drop 0 ([] : List Int))) = [] := rfl
 simp only [impl_SumAutomaton_2, e]
 rw [g1, g2, List.take_length]
 simp only [Option.bind_some, List.drop_zero, List.take_length]
end
end Go.Proofs.Ytogigagfgkfkhaa
