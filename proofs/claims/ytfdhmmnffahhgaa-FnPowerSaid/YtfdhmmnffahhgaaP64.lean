/- The automaton of factors, on: both sides make the same; its law. -/
import Derived.Test.YtfdhmmnffahhgaaP63
set_option linter.unusedVariables false
set_option linter.unusedSimpArgs false
namespace Go.Proofs.Ytfdhmmnffahhgaa
open Go Go.Proofs.Ytfdhmmnffahhgaa.Am
theorem impl_all {x : Int} {S F : List Int} {l : List Stp} (sS : S.length ≤ 1048576) (sF : F.length ≤ 1048576) (sl : l.length ≤ 24) (I : List Stp) (hI : I.length ≤ 24) :
  loopF impl_PowerAutomaton_l5 ((x, S, F, l, ()), ((0 : Int), [], [], [], ()), I, l, ((l.length : Nat) : Int), (0 : Int), ()) = some ((x, S, F, l, ()), ((0 : Int), [], [], [], ()), allI S F I l, ()) := by
 obtain ⟨r, g1, g2⟩ := loop_inv (f := impl_PowerAutomaton_l5) l.length (fun i (o : List Stp) => ((x, S, F, l, ()), ((0 : Int), [], [], [], ()), o, l, ((l.length : Nat) : Int), (i : Int), ()))
  (fun i o => rowI S (l.getD i stp0) o F) (fun o => ((x, S, F, l, ()), ((0 : Int), [], [], [], ()), o, ())) (fun i o => o = allI S F I (l.take i))
  (fun i o hi ho => by rw [ho, allI_snoc hi])
  (fun i o hi ho => by
   have hol : o.length ≤ I.length + i * F.length := by rw [ho]; exact allI_len l i (by omega)
   have hm : i * F.length ≤ 24 * 1048576 := Nat.mul_le_mul (by omega) sF
   have hr := impl_row (x := x) (S := S) (F := F) (l := l) sS sF o (by omega) (l.getD i stp0) i
   have hr : loopF impl_PowerAutomaton_l8 ((x, S, F, l, ()), ((0 : Int), [], [], [], ()), o, ((List.getD l i ((0 : Int), (⟨Array.empty⟩ : ByteArray), (0 : Int), (0 : Int))).1, (List.getD l i ((0 : Int), (⟨Array.empty⟩ : ByteArray), (0 : Int), (0 : Int))).2.1, (List.getD l i ((0 : Int), (⟨Array.empty⟩ : ByteArray), (0 : Int), (0 : Int))).2.2.1, (List.getD l i ((0 : Int), (⟨Array.empty⟩ : ByteArray), (0 : Int), (0 : Int))).2.2.2, ()), l, ((l.length : Nat) : Int), (i : Int), F, ((F.length : Nat) : Int), (0 : Int), ()) = _ := hr
   simp only [impl_PowerAutomaton_l5, lt_t hi, cond_true, if_pos (in_t hi), Int.toNat_natCast, List.drop_zero, List.take_length, List.length_nil, List.take_nil]
   rw [hr]
   simp only [Option.bind_some, List.drop_zero, List.take_length, List.length_nil, List.take_nil, w64_succ hi (show l.length ≤ 9223372036854775807 by omega)])
  (fun o ho => by simp only [impl_PowerAutomaton_l5, lt_f, cond_false, List.drop_zero, List.take_length, List.length_nil, List.take_nil])
  I (by simp [allI])
 have g1 : loopF impl_PowerAutomaton_l5 ((x, S, F, l, ()), ((0 : Int), [], [], [], ()), I, l, ((l.length : Nat) : Int), (0 : Int), ()) = _ := g1
 rw [g1, g2, List.take_length]
theorem spec_row {x : Int} {S F : List Int} {l : List Stp} (sS : S.length ≤ 1048576) (sF : F.length ≤ 1048576) {I P : List Stp} (hI : I.length ≤ 50000000) (h : IP I P) (s : Stp) (L : List Stp) (i : Nat) :
  loopF spec_PowerAutomaton_l10 ((x, S, F, l, ()), ((0 : Int), [], [], [], ()), (x, S, F, P, ()), (s.1, s.2.1, s.2.2.1, s.2.2.2, ()), L, ((L.length : Nat) : Int), (i : Int), F, ((F.length : Nat) : Int), (0 : Int), ()) = some ((x, S, F, l, ()), ((0 : Int), [], [], [], ()), (x, S, F, rowP S s P F, ()), L, ((L.length : Nat) : Int), (i : Int), ()) := by
 obtain ⟨r, g1, g2⟩ := loop_inv (f := spec_PowerAutomaton_l10) F.length (fun k (o : List Stp) => ((x, S, F, l, ()), ((0 : Int), [], [], [], ()), (x, S, F, o, ()), (s.1, s.2.1, s.2.2.1, s.2.2.2, ()), L, ((L.length : Nat) : Int), (i : Int), F, ((F.length : Nat) : Int), (k : Int), ()))
  (fun k o => bif has1 S s then ins (cand s (F.getD k 0)) o else o) (fun o => ((x, S, F, l, ()), ((0 : Int), [], [], [], ()), (x, S, F, o, ()), L, ((L.length : Nat) : Int), (i : Int), ())) (fun k o => o = rowP S s P (F.take k))
  (fun k o hk ho => by rw [ho, rowP_snoc hk])
  (fun k o hk ho => by
   have hip : IP (rowI S s I (F.take k)) o := by rw [ho]; exact h.row
   have hol : o.length ≤ I.length + k := by rw [← hip.perm.length_eq]; exact rowI_len F k (by omega)
   have hc := l4In_is (l := S) (by omega) s.1
   have hc : spec_l4In S s.1 = some (has1 S s) := hc
   simp only [spec_PowerAutomaton_l10, lt_t hk, cond_true, if_pos (in_t hk), Int.toNat_natCast, hc, Option.bind_some, w64_succ hk (show F.length ≤ 9223372036854775807 by omega)]
   cases has1 S s with
   | false => simp only [cond_false, List.drop_zero, List.take_length, List.length_nil, List.take_nil]
   | true =>
    have hp := l3Put_eq (l := o) (by omega) hip.cost (F.getD k 0) s.2.2.1 s.2.1
    simp only [cond_true, List.drop_zero, List.take_length]
    rw [hp]
    simp only [Option.bind_some, List.drop_zero, List.take_length, List.length_nil, List.take_nil]
    rfl)
  (fun o ho => by simp only [spec_PowerAutomaton_l10, lt_f, cond_false, List.drop_zero, List.take_length, List.length_nil, List.take_nil])
  P (by simp [rowP])
 have g1 : loopF spec_PowerAutomaton_l10 ((x, S, F, l, ()), ((0 : Int), [], [], [], ()), (x, S, F, P, ()), (s.1, s.2.1, s.2.2.1, s.2.2.2, ()), L, ((L.length : Nat) : Int), (i : Int), F, ((F.length : Nat) : Int), (0 : Int), ()) = _ := g1
 rw [g1, g2, List.take_length]
theorem spec_all {x : Int} {S F : List Int} {l : List Stp} (sS : S.length ≤ 1048576) (sF : F.length ≤ 1048576) {L : List Stp} (sl : L.length ≤ 24) {I P : List Stp} (hI : I.length ≤ 24) (h : IP I P) :
  loopF spec_PowerAutomaton_l7 ((x, S, F, l, ()), ((0 : Int), [], [], [], ()), (x, S, F, P, ()), L, ((L.length : Nat) : Int), (0 : Int), ()) = some (((0 : Int), [], [], [], ()), (x, S, F, allP S F P L, ()), ()) := by
 obtain ⟨r, g1, g2⟩ := loop_inv (f := spec_PowerAutomaton_l7) L.length (fun i (o : List Stp) => ((x, S, F, l, ()), ((0 : Int), [], [], [], ()), (x, S, F, o, ()), L, ((L.length : Nat) : Int), (i : Int), ()))
  (fun i o => rowP S (L.getD i stp0) o F) (fun o => (((0 : Int), [], [], [], ()), (x, S, F, o, ()), ())) (fun i o => o = allP S F P (L.take i))
  (fun i o hi ho => by rw [ho, allP_snoc hi])
  (fun i o hi ho => by
   have hip : IP (allI S F I (L.take i)) o := by rw [ho]; exact h.all
   have hol : (allI S F I (L.take i)).length ≤ I.length + i * F.length := allI_len L i (by omega)
   have hm : i * F.length ≤ 24 * 1048576 := Nat.mul_le_mul (by omega) sF
   have hr := spec_row (x := x) (S := S) (F := F) (l := l) sS sF (by omega) hip (L.getD i stp0) L i
   have hr : loopF spec_PowerAutomaton_l10 ((x, S, F, l, ()), ((0 : Int), [], [], [], ()), (x, S, F, o, ()), ((List.getD L i ((0 : Int), (⟨Array.empty⟩ : ByteArray), (0 : Int), (0 : Int))).1, (List.getD L i ((0 : Int), (⟨Array.empty⟩ : ByteArray), (0 : Int), (0 : Int))).2.1, (List.getD L i ((0 : Int), (⟨Array.empty⟩ : ByteArray), (0 : Int), (0 : Int))).2.2.1, (List.getD L i ((0 : Int), (⟨Array.empty⟩ : ByteArray), (0 : Int), (0 : Int))).2.2.2, ()), L, ((L.length : Nat) : Int), (i : Int), F, ((F.length : Nat) : Int), (0 : Int), ()) = _ := hr
   simp only [spec_PowerAutomaton_l7, lt_t hi, cond_true, if_pos (in_t hi), Int.toNat_natCast, List.drop_zero, List.take_length, List.length_nil, List.take_nil]
   rw [hr]
   simp only [Option.bind_some, List.drop_zero, List.take_length, List.length_nil, List.take_nil, w64_succ hi (show L.length ≤ 9223372036854775807 by omega)])
  (fun o ho => by simp only [spec_PowerAutomaton_l7, lt_f, cond_false, List.drop_zero, List.take_length, List.length_nil, List.take_nil])
  P (by simp [allP])
 have g1 : loopF spec_PowerAutomaton_l7 ((x, S, F, l, ()), ((0 : Int), [], [], [], ()), (x, S, F, P, ()), L, ((L.length : Nat) : Int), (0 : Int), ()) = _ := g1
 rw [g1, g2, List.take_length]
/-! ### costs put to nothing -/
theorem stepOk_zs {n : Int} {s : Stp} (h : stepOk n s = true) : stepOk n (zs s) = true := by
 unfold stepOk at h ⊢
 simp only [Bool.and_eq_true] at h ⊢
 exact ⟨h.1, h.2.1, rfl, h.2.2.2⟩
theorem getD_map0 {l : List Stp} {i : Nat} (hi : i < l.length) : (l.map zs).getD i stp0 = zs (l.getD i stp0) := by
 rw [getD_g stp0 (show i < (l.map zs).length by simpa using hi), getD_g stp0 hi]
 simp
theorem stepsOk_zs {n : Int} {l : List Stp} (h : stepsOk n l = true) : stepsOk n (l.map zs) = true := by
 unfold stepsOk at h ⊢
 rw [List.all_eq_true] at h ⊢
 intro i hi
 rw [List.length_map] at hi
 have hi' := List.mem_range.1 hi
 have h1 := h i hi
 unfold stepsP at h1 ⊢
 rw [Bool.and_eq_true] at h1 ⊢
 rw [getD_map0 hi', getD_map0 (show i - 1 < l.length by omega)]
 refine ⟨stepOk_zs h1.1, ?_⟩
 have h2 := h1.2
 rw [befB_lt] at h2 ⊢
 exact h2
theorem autOk_parts {x : Int} {S F : List Int} {l : List Stp} (h : autOk (x, S, F, l) = true) : marksOk x S = true ∧ marksOk x F = true ∧ l.length ≤ 24 ∧ stepsOk x l = true ∧ autOk (x, S, F, l.map zs) = true := by
 unfold autOk at h ⊢
 simp only [Bool.and_eq_true, decide_eq_true_eq] at h ⊢
 obtain ⟨h1, h2, h3, h4, h5⟩ := h
 exact ⟨h2, h3, h4, h5, h1, h2, h3, by simpa using h4, stepsOk_zs h5⟩
theorem ownAut_is {a : Aut} (h : Small a) : spec_l13OwnAutomaton a = some a := by
 obtain ⟨x, S, F, l⟩ := a
 obtain ⟨h1, h2, h3⟩ := h
 simp only at h1 h2 h3
 unfold spec_l13OwnAutomaton
 dsimp only
 rw [if_pos ⟨rfl, by omega⟩, if_pos ⟨rfl, by omega⟩, if_pos ⟨rfl, by omega⟩]
 simp
theorem scale0_is {a : Aut} (hs : Small a) (hv : autOk a = true) : spec_ScaleAutomaton a 0 = some ((a.1, a.2.1, a.2.2.1, a.2.2.2.map zs), true) := by
 have hown := ownAut_is hs
 have hV := spec_AutomatonValid_is a (small_len hs).1 (small_len hs).2
 obtain ⟨x, S, F, l⟩ := a
 obtain ⟨h1, h2, h3⟩ := hs
 simp only at h1 h2 h3
 obtain ⟨_, _, q3, _, q5⟩ := autOk_parts hv
 have hV2 := spec_AutomatonValid_is (x, S, F, l.map zs) (show S.length ≤ _ by omega) (show F.length ≤ _ by omega)
 obtain ⟨r, g1, g2⟩ := loop_inv (f := spec_ScaleAutomaton_l6) l.length (fun i (o : List Stp) => ((0 : Int), ((0 : Int), [], [], [], ()), (x, S, F, o, ()), l, ((l.length : Nat) : Int), (i : Int), ()))
  (fun i o => o ++ [zs (l.getD i stp0)]) (fun o => (((0 : Int), [], [], [], ()), (x, S, F, o, ()), ())) (fun i o => o = (l.take i).map zs)
  (fun i o hi ho => by rw [ho, take_snoc hi, List.map_append, getD_g stp0 hi]; rfl)
  (fun i o hi ho => by
   have hol : o.length = i := by rw [ho, List.length_map, List.length_take]; omega
   have e : ∀ c : Int, IntKind.wrap .i64 (c * 0) = 0 := fun c => by rw [Int.mul_zero]; rfl
   simp only [spec_ScaleAutomaton_l6, lt_t hi, cond_true, if_pos (in_t hi), Int.toNat_natCast, Nat.zero_add, e]
   show (if True ∧ (o.length + (List.take 1 (List.drop 0 [zs (l.getD i stp0)])).length) * 40 ≤ 140737488355328 then some (Sum.inl ((0 : Int), ((0 : Int), List.take ([] : List Int).length (List.drop 0 ([] : List Int)), List.take ([] : List Int).length (List.drop 0 ([] : List Int)), List.take ([] : List Stp).length (List.drop 0 ([] : List Stp)), ()), (x, List.take S.length (List.drop 0 S), List.take F.length (List.drop 0 F), List.take (o.length + (List.take 1 (List.drop 0 [zs (l.getD i stp0)])).length) (List.drop 0 (List.drop 0 o ++ List.take 1 (List.drop 0 [zs (l.getD i stp0)]))), ()), List.take l.length (List.drop 0 l), ((l.length : Nat) : Int), IntKind.wrap .i64 ((i : Int) + 1), ())) else none) = _
   rw [show List.take 1 (List.drop 0 [zs (l.getD i stp0)]) = [zs (l.getD i stp0)] from rfl, if_pos ⟨trivial, by show (o.length + 1) * 40 ≤ _; omega⟩, w64_succ hi (by omega)]
   simp only [List.drop_zero, List.take_length, List.length_nil, List.take_nil]
   rw [List.take_of_length_le (by simp)])
  (fun o ho => by simp only [spec_ScaleAutomaton_l6, lt_f, cond_false, List.drop_zero, List.take_length, List.length_nil, List.take_nil])
  [] rfl
 have g1 : loopF spec_ScaleAutomaton_l6 ((0 : Int), ((0 : Int), [], [], [], ()), (x, S, F, [], ()), l, ((l.length : Nat) : Int), (0 : Int), ()) = some (((0 : Int), [], [], [], ()), (x, S, F, r, ()), ()) := g1
 rw [List.take_length] at g2
 subst g2
 have hin : spec_l1In (0 : Int) (0 : Int) (3 : Int) = some true := rfl
 unfold spec_ScaleAutomaton
 dsimp only
 rw [hown]
 simp only [Option.bind_some, List.drop_zero, List.take_length, hV, hv, Bool.not_true, cond_false, hin, List.take_zero, g1]
 simp only [spec_l5Whole, hV2, q5, Option.bind_some, Bool.not_true, cond_false]
theorem scale_no {a : Aut} (hs : Small a) (hv : autOk a = false) (n : Int) : spec_ScaleAutomaton a n = some (((0 : Int), [], [], []), false) := by
 have hown := ownAut_is hs
 have hV := spec_AutomatonValid_is a (small_len hs).1 (small_len hs).2
 obtain ⟨x, S, F, l⟩ := a
 unfold spec_ScaleAutomaton
 dsimp only
 rw [hown]
 simp only [Option.bind_some, List.drop_zero, List.take_length, hV, hv, Bool.not_false, cond_true]
theorem row_zs {S F : List Int} : ∀ {l : List Stp} {P : List Stp}, allP S F P (l.map zs) = allP S F P l
 | [], _ => rfl
 | s :: l, P => row_zs (l := l) (P := rowP S s P F)
/-- the automaton of factors -/
theorem power_same {a : Aut} (hs : Small a) : ∃ R ok, spec_PowerAutomaton a = some (R, ok) ∧ impl_PowerAutomaton a = some (R, ok) ∧ Small R ∧ (ok = true → autOk R = true) := by
 have hV := impl_AutomatonValid_is a (small_len hs).1 (small_len hs).2
 have hown := ownAut_is hs
 cases hv : autOk a with
 | false =>
  have hsc := scale_no hs hv 0
  obtain ⟨x, S, F, l⟩ := a
  refine ⟨((0 : Int), [], [], []), false, ?_, ?_, ⟨by show (0 : Nat) ≤ _; omega, by show (0 : Nat) ≤ _; omega, by show (0 : Nat) ≤ _; omega⟩, fun h => by cases h⟩
  ·unfold spec_PowerAutomaton
   dsimp only
   rw [hown]
   simp only [Option.bind_some, List.drop_zero, List.take_length, hsc, Bool.not_false, cond_true]
  ·unfold impl_PowerAutomaton
   dsimp only
   rw [hV]
   simp only [Option.bind_some, hv, Bool.not_false, cond_true]
 | true =>
  have hsc := scale0_is hs hv
  obtain ⟨x, S, F, l⟩ := a
  obtain ⟨h1, h2, h3⟩ := hs
  simp only at h1 h2 h3
  have hsc : spec_ScaleAutomaton (x, S, F, l) 0 = some ((x, S, F, l.map zs), true) := hsc
  obtain ⟨q1, q2, q3, q4, q5⟩ := autOk_parts hv
  have hlz : (l.map zs).length = l.length := List.length_map _
  have h0 : IP (l.map zs) (l.map zs) := by
   refine ⟨List.Perm.refl _, ?_, ?_⟩
   ·exact steps_srt (stepsOk_zs q4)
   ·intro s hs
    obtain ⟨t, _, rfl⟩ := List.mem_map.1 hs
    exact Int.zero_le_ofNat 1
  have hall := h0.all (S := S) (F := F) (l := l)
  have hst := stepped_is (l := l) (by omega) (φ := fun y1 => impl_PowerAutomaton_1 y1.1) (z := zs) (fun s => rfl)
  have hi := impl_all (x := x) (S := S) (F := F) (l := l) h1 h2 q3 (l.map zs) (by omega)
  have hsp := spec_all (x := x) (S := S) (F := F) (l := l) h1 h2 (L := l.map zs) (by omega) (I := l.map zs) (P := l.map zs) (by omega) h0
  rw [row_zs] at hsp
  have hlen : (allI S F (l.map zs) l).length ≤ 24 + 24 * 1048576 := by
   have := allI_len (S := S) (F := F) (I := l.map zs) l l.length (Nat.le_refl _)
   rw [List.take_length] at this
   have hm : l.length * F.length ≤ 24 * 1048576 := Nat.mul_le_mul q3 h2
   omega
  have hm := made_is (x := x) (S := S) (F := F) q1 q2 hall.srt hall.perm h1 h2 (by omega)
  have hV2 := spec_AutomatonValid_is (x, S, F, allP S F (l.map zs) l) (show S.length ≤ _ by omega) (show F.length ≤ _ by omega)
  generalize allP S F (l.map zs) l = P at hsp hm hV2
  have hspec : spec_PowerAutomaton (x, S, F, l) = some (if autOk (x, S, F, P) = true then ((x, S, F, P), true) else (((0 : Int), [], [], []), false)) := by
   unfold spec_PowerAutomaton
   dsimp only
   rw [hown]
   simp only [Option.bind_some, List.drop_zero, List.take_length, hsc, Bool.not_true, cond_false, hsp]
   simp only [spec_l5Whole, hV2, Option.bind_some]
   cases autOk (x, S, F, P) <;> rfl
  have himpl : impl_PowerAutomaton (x, S, F, l) = some (if autOk (x, S, F, P) = true then ((x, S, F, P), true) else (((0 : Int), [], [], []), false)) := by
   unfold impl_PowerAutomaton
   dsimp only
   rw [hV]
   simp only [Option.bind_some, hv, Bool.not_true, cond_false, hst, List.drop_zero, List.take_length, hi, hm]
  rw [hspec, himpl]
  cases hP : autOk (x, S, F, P) with
  | true =>
   obtain ⟨_, _, p3, _, _⟩ := autOk_parts hP
   exact ⟨_, _, rfl, rfl, ⟨h1, h2, by show P.length ≤ _; omega⟩, fun _ => hP⟩
  | false =>
   exact ⟨_, _, rfl, rfl, ⟨by show (0 : Nat) ≤ _; omega, by show (0 : Nat) ≤ _; omega, by show (0 : Nat) ≤ _; omega⟩, fun h => by cases h⟩
end Go.Proofs.Ytfdhmmnffahhgaa
