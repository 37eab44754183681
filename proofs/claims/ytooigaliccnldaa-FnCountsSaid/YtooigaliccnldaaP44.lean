/- The law of splits. -/
import Derived.Test.YtooigaliccnldaaP43
set_option linter.unusedVariables false
set_option linter.unusedSimpArgs false
namespace Go.Proofs.Ytooigaliccnldaa
open Go Go.Proofs.Ytooigaliccnldaa.Am
theorem l4Draw_is {N : Int} {d : Dr} (h : DrOk N d) (hN : N ≤ 80000) {m : Int} (h0 : 0 ≤ m) (hm : m ≤ 50) : ∃ w d', spec_l4Draw d m = some (w, d', ()) ∧ w.size ≤ 60 ∧ DrOk (N + 100) d' := by
  obtain ⟨b, k⟩ := d
  have w1 : IntKind.wrap .i64 (m + 1) = m + 1 := w64 (by omega) (by omega)
  obtain ⟨r0, p0, a1, a2, _⟩ := pick_is h (by omega) (n := m + 1) (by omega)
  have a2 := a2 (by omega)
  have s1 := h.next
  obtain ⟨r, g1, g2⟩ := loop_rel (f := spec_l4Draw_l3) r0.toNat (fun i (s : Dr × ByteArray) => ((s.1.1, s.1.2, ()), s.2, r0, (i : Int), ())) (fun s => ((s.1.1, s.1.2, ()), s.2, ())) (fun i s => DrOk (N + 1 + i) s.1 ∧ s.2.size ≤ i)
    (fun i s hi hs => by
      obtain ⟨⟨b, k⟩, t⟩ := s
      obtain ⟨hs, ht⟩ := hs
      have hs : DrOk (N + 1 + i) (b, k) := hs
      have ht : t.size ≤ i := ht
      obtain ⟨v, hv, p1⟩ := of_is hs (by omega) (l := List.take 2 (List.drop 0 [(⟨#[(97 : UInt8)]⟩ : ByteArray), (⟨#[(98 : UInt8)]⟩ : ByteArray)])) (by decide) (by decide)
      have hvs : v.size = 1 := by
        have hv : v ∈ [(⟨#[(97 : UInt8)]⟩ : ByteArray), (⟨#[(98 : UInt8)]⟩ : ByteArray)] := hv
        rcases List.mem_cons.1 hv with rfl | hv
        · rfl
        · rw [List.mem_singleton.1 hv]; rfl
      refine ⟨((b, k + 1), t ++ v), ?_, hs.next.mono (by omega), by show (t ++ v).size ≤ i + 1; rw [ByteArray.size_append]; omega⟩
      simp only [spec_l4Draw_l3, show decide ((i : Int) < r0) = true from decide_eq_true (by omega), cond_true, p1, Option.bind_some, w64_succ hi (show r0.toNat ≤ 9223372036854775807 by omega)]
      rw [if_pos (by omega)])
    (fun s hs => by simp only [spec_l4Draw_l3, show decide (((r0.toNat : Nat) : Int) < r0) = false from decide_eq_false (by omega), cond_false])
    ((b, k + 1), (⟨#[]⟩ : ByteArray)) ⟨s1.mono (by omega), Nat.le_refl _⟩
  obtain ⟨⟨b', k'⟩, t⟩ := r
  have g1 : loopF spec_l4Draw_l3 ((b, k + 1, ()), (⟨#[]⟩ : ByteArray), r0, (0 : Int), ()) = some ((b', k', ()), t, ()) := g1
  refine ⟨t, (b', k'), ?_, by have : t.size ≤ r0.toNat := g2.2; omega, g2.1.mono (by omega)⟩
  simp only [spec_l4Draw, w1, p0, Option.bind_some, g1]
theorem l4Word_is {N : Int} {d : Dr} (h : DrOk N d) (hN : N ≤ 70000) : ∃ w d', spec_l4Word d = some (w, d', ()) ∧ w.size ≤ 61 ∧ DrOk (N + 200) d' := by
  obtain ⟨b, k⟩ := d
  obtain ⟨r0, p0, _, _, _⟩ := pick_is h (by omega) (n := 24) (by omega)
  have s1 := h.next
  unfold spec_l4Word
  dsimp only
  rw [p0]
  simp only [Option.bind_some]
  cases (r0 == 0) with
  | true =>
    obtain ⟨w, ⟨b1, k1⟩, p1, hw, s2⟩ := l4Draw_is s1 (by omega) (m := 4) (by omega) (by omega)
    obtain ⟨v, hv, p2⟩ := of_is s2 (by omega) (l := List.take 3 (List.drop 0 [(⟨#[(99 : UInt8)]⟩ : ByteArray), (⟨#[(32 : UInt8)]⟩ : ByteArray), (⟨#[(65 : UInt8)]⟩ : ByteArray)])) (by decide) (by decide)
    have hvs : v.size = 1 := by
      have hv : v ∈ [(⟨#[(99 : UInt8)]⟩ : ByteArray), (⟨#[(32 : UInt8)]⟩ : ByteArray), (⟨#[(65 : UInt8)]⟩ : ByteArray)] := hv
      rcases List.mem_cons.1 hv with rfl | hv
      · rfl
      · rcases List.mem_cons.1 hv with rfl | hv
        · rfl
        · rw [List.mem_singleton.1 hv]; rfl
    rw [cond_true, p1]
    simp only [Option.bind_some]
    rw [p2]
    simp only [Option.bind_some]
    rw [if_pos (by omega)]
    exact ⟨_, _, rfl, by rw [ByteArray.size_append]; omega, s2.next.mono (by omega)⟩
  | false =>
    obtain ⟨w, ⟨b1, k1⟩, p1, hw, s2⟩ := l4Draw_is s1 (by omega) (m := 9) (by omega) (by omega)
    rw [cond_false, p1]
    exact ⟨w, (b1, k1), rfl, by omega, s2.mono (by omega)⟩
theorem drawSplit_is {c : List Int} (hc : ∀ x ∈ c, 0 ≤ x ∧ x ≤ 255) : ∃ a w, spec_DrawSplitOf c = some (a, w) ∧ Small a ∧ w.size ≤ 61 := by
  obtain ⟨⟨b, k⟩, p0, s0⟩ := l13Open_is hc
  obtain ⟨⟨x, S, F, l⟩, ⟨b1, k1⟩, p1, t1, s1⟩ := l3Any_is s0 (by omega)
  obtain ⟨w, ⟨b2, k2⟩, p2, hw, s2⟩ := l4Word_is s1 (by omega)
  refine ⟨(x, S, F, l), w, ?_, t1.small, hw⟩
  simp only [spec_DrawSplitOf, p0, Option.bind_some, spec_l4Some, p1, p2]
theorem gr_parts {a : Aut} {w : ByteArray} : ∀ (fs : List ByteArray) (i : Nat), i ≤ w.size → Gr a fs ((bytes w).drop i) → (fs.map bytes).flatten = (bytes w).drop i ∧ ∀ f ∈ fs, bytes f ≠ [] ∧ acc a (bytes f) = true ∧ ∃ i' j', f = w.extract i' j'
  | [], i, hi, h => ⟨by simp only [Gr] at h; rw [h]; rfl, fun f hf => by cases hf⟩
  | f :: fs, i, hi, h => by
    simp only [Gr] at h
    obtain ⟨j0, h1, h2, h3, h4⟩ := h
    rw [List.drop_drop] at h4
    rw [List.length_drop, bytes_len] at h1
    obtain ⟨k1, k2⟩ := gr_parts fs (i + (j0 + 1)) (by omega) h4
    have hf : f = w.extract i (i + 1 + j0) := by
      refine bytes_eq ?_
      rw [h3, bytes_extract, show i + 1 + j0 - i = j0 + 1 by omega]
    have hp := List.find?_some h2
    unfold cutP at hp
    rw [Bool.and_eq_true] at hp
    refine ⟨?_, fun g hg => ?_⟩
    · rw [List.map_cons, List.flatten_cons, k1, h3, ← List.drop_drop]
      exact List.take_append_drop _ _
    · rcases List.mem_cons.1 hg with rfl | hg
      · refine ⟨?_, by rw [h3]; exact hp.1, i, i + 1 + j0, hf⟩
        intro e
        have := congrArg List.length (h3.symm.trans e)
        rw [List.length_take, List.length_drop, bytes_len, List.length_nil] at this
        omega
      · exact k2 g hg
theorem toList_ne {f : ByteArray} (h : bytes f ≠ []) : (ByteArray.toList f == ByteArray.toList (⟨#[]⟩ : ByteArray)) = false := by
  rw [toList_bytes, toList_bytes, beq_eq_false_iff_ne]
  exact h
theorem p_FnSplitOf (x0 : List Int) (f0 : Fits (.sl (.int .u8)) x0) : laws_FnSplitOf x0 = some true := by
  unfold laws_FnSplitOf
  by_cases hx : ((x0.length : Nat) : Int) > 1048576
  · rw [decide_eq_true hx, cond_true]
  · rw [decide_eq_false hx, cond_false]
    obtain ⟨a, w, d1, sa, hw61⟩ := drawSplit_is (bytes_of f0)
    have hws : w.size ≤ 9223372036854775807 := by omega
    have f1 := impl_FactorsOf_is sa hws
    have f2 := spec_FactorsOf_is sa hws
    obtain ⟨r, q1, q2, _⟩ := split_same sa hws
    rcases spec_SplitOf_is sa hws with ⟨h1, h2, fs, h3, h4, h5⟩ | ⟨h1, h3⟩
    · rw [h3] at q1
      obtain rfl := Option.some.inj q1
      have h1' := h1
      unfold askedN at h1'
      rw [Bool.and_eq_true, Bool.and_eq_true, decide_eq_true_eq] at h1'
      obtain ⟨ha, hw, h40⟩ := h1'
      rw [if_pos h1] at f1 f2
      obtain ⟨g1, g2⟩ := gr_parts fs 0 (by omega) (by rw [List.drop_zero]; exact h5)
      rw [List.drop_zero] at g1
      obtain ⟨_, _, _, _, hcnt⟩ := least_at sa ha hw h40
      have hcw : impl_CostOf a w = some (cl a (bytes w)) := by rw [← cst_cl]; exact (cst_is sa ha hw).2.1
      have hone : bytes w ≠ [] → cl a (bytes w) < Nv → cv a (bytes w) = 1 := by
        intro hne hlt
        have hle := ((hcnt.2 (cv a (bytes w))).1 (Int.le_refl _)).2 [bytes w] (fun f hf => by rw [List.mem_singleton.1 hf]; exact ⟨hne, decide_eq_true hlt⟩) (by simp)
        have hle : cv a (bytes w) ≤ 1 := hle
        have h0 : fs ≠ [] := by
          rintro rfl
          exact hne g1.symm
        have := List.length_pos_iff.2 h0
        omega
      have hcost : ∀ f ∈ fs, impl_CostOf a f = some (cl a (bytes f)) ∧ cl a (bytes f) < Nv := by
        intro f hf
        obtain ⟨_, k2, i', j', rfl⟩ := g2 f hf
        have := (cost_at sa ha hw i' j').2
        rw [← bytes_extract] at this
        exact ⟨this, of_decide_eq_true k2⟩
      have hrng : ∀ f ∈ fs, f.size ≤ w.size := by
        intro f hf
        obtain ⟨_, _, i', j', rfl⟩ := g2 f hf
        exact ext_size w i' j'
      have hwl := bytes_len w
      obtain ⟨x, S, F, l⟩ := a
      have hsz : fs.length ≤ 1000000 := by simp only [Nv] at h2; omega
      obtain ⟨r, k1, k2⟩ := loop_inv (f := laws_FnSplitOf_l11) fs.length (fun i (t : ByteArray) => ((x, S, F, l, ()), w, fs, fs, cv (x, S, F, l) (bytes w), t, fs, ((fs.length : Nat) : Int), (i : Int), ())) (fun i t => t ++ fs.getD i be0) (fun t => .inr ((x, S, F, l, ()), w, fs, cv (x, S, F, l) (bytes w), t, ())) (fun i t => bytes t = ((fs.take i).map bytes).flatten ∧ t.size ≤ i * 61)
        (fun i t hi ht => by
          have hm : fs.getD i be0 ∈ fs := word_mem hi
          have := hrng _ hm
          have e : fs.getD i be0 = fs[i] := by rw [List.getD_eq_getElem?_getD, List.getElem?_eq_getElem hi]; rfl
          refine ⟨?_, by rw [ByteArray.size_append]; have := ht.2; omega⟩
          rw [take_snoc hi, List.map_append, List.flatten_append, ← ht.1, e]
          simp [bytes, ByteArray.data_append])
        (fun i t hi ht => by
          have hm : fs.getD i be0 ∈ fs := word_mem hi
          obtain ⟨c1, c2⟩ := hcost _ hm
          have hne := toList_ne (g2 _ hm).1
          have hsz2 := hrng _ hm
          have hb : (cl (x, S, F, l) (bytes (fs.getD i be0)) == (1000000 : Int)) = false := by
            rw [beq_eq_false_iff_ne]
            simp only [Nv] at c2
            omega
          simp only [laws_FnSplitOf_l11, lt_t hi, cond_true, if_pos (in_t hi), Int.toNat_natCast, Nat.zero_add, BEq.rfl, Bool.not_true, cond_false, hne, c1, Option.bind_some, hb, List.drop_zero, List.take_length, w64_succ hi (show fs.length ≤ 9223372036854775807 by omega)]
          rw [if_pos (by show t.size + (fs.getD i be0).size ≤ 9223372036854775807; have := ht.2; omega)])
        (fun t _ => by simp only [laws_FnSplitOf_l11, lt_f, cond_false])
        (⟨#[]⟩ : ByteArray) ⟨rfl, Nat.zero_le _⟩
      rw [List.take_length] at k2
      have hr : r = w := bytes_eq (k2.1.trans g1)
      subst hr
      have k1 : loopF laws_FnSplitOf_l11 ((x, S, F, l, ()), r, fs, fs, cv (x, S, F, l) (bytes r), (⟨#[]⟩ : ByteArray), fs, ((fs.length : Nat) : Int), (0 : Int), ()) = _ := k1
      have hkl : (cv (x, S, F, l) (bytes r) == ((fs.length : Nat) : Int)) = true := by rw [beq_iff_eq]; exact h4.symm
      rw [d1]
      simp only [Option.bind_some]
      rw [q2, h3, f1]
      simp only [Option.bind_some, bne_self_eq_false, cond_false, BEq.rfl, Bool.not_true, f2, List.drop_zero, List.take_length, k1, cond_true, hkl]
      by_cases hne : bytes r = []
      · have : (ByteArray.toList r == ByteArray.toList (⟨#[]⟩ : ByteArray)) = true := by rw [toList_bytes, toList_bytes, beq_iff_eq]; exact hne
        rw [this, cond_true]
      · rw [toList_ne hne, cond_false, hcw]
        simp only [Option.bind_some]
        by_cases hlt : cl (x, S, F, l) (bytes r) < Nv
        · rw [hone hne hlt]
          cases (cl (x, S, F, l) (bytes r) == (1000000 : Int)) <;> rfl
        · have hrg := cl_rng sa ha hw 0 r.size
          rw [List.drop_zero, List.take_of_length_le (by rw [bytes_len]; omega)] at hrg
          have : (cl (x, S, F, l) (bytes r) == (1000000 : Int)) = true := by
            rw [beq_iff_eq]
            simp only [Nv] at hlt hrg
            omega
          rw [this, cond_true]
    · rw [h3] at q1
      obtain rfl := Option.some.inj q1
      have hk : ∃ k, impl_FactorsOf a w = some k ∧ spec_FactorsOf a w = some k ∧ (k = -1 ∨ k = 1000000) := by
        rw [f1, f2]
        refine ⟨_, rfl, rfl, ?_⟩
        by_cases hh : askedN a w = true
        · rw [if_pos hh]; exact .inr (h1 hh)
        · rw [if_neg hh]; exact .inl rfl
      obtain ⟨k, k1, k2, k3⟩ := hk
      obtain ⟨x, S, F, l⟩ := a
      rw [d1]
      simp only [Option.bind_some]
      rw [q2, h3, k1]
      simp only [Option.bind_some, bne_self_eq_false, cond_false, BEq.rfl, Bool.not_true, k2, Bool.not_false, cond_true]
      rcases k3 with rfl | rfl <;> rfl
end Go.Proofs.Ytooigaliccnldaa
