/- Splits by the program; the laws of free words, greatest costs and splits. -/
import Derived.Test.YtooigaliccnldaaP19
set_option linter.unusedVariables false
set_option linter.unusedSimpArgs false
namespace Go.Proofs.Ytooigaliccnldaa
open Go Go.Proofs.Ytooigaliccnldaa.Am
theorem bytes_eq {u w : ByteArray} (h : bytes u = bytes w) : u = w := by
  rw [← bytes_inj (w := u), ← bytes_inj (w := w), h]
section valid
variable {a : Aut} (sa : Small a) (ha : autOk a = true)
include sa ha
theorem split_inner {w : ByteArray} (hw : wordOk w = true) (h40 : w.size ≤ 40) {o : List Int} (hol : o.length = w.size + 1) (ho : ∀ t, t ≤ w.size → o.getD t 0 = cv a ((bytes w).drop t) ∧ 0 ≤ o.getD t 0 ∧ o.getD t 0 ≤ Nv)
    (out : List ByteArray) {i j0 : Nat} (hi : i < w.size) (hj0 : j0 < w.size - i) (hp : cutP a ((bytes w).drop i) j0 = true) (hn : ∀ j, j < j0 → cutP a ((bytes w).drop i) j = false) :
    ∀ (d j : Nat), j + d = j0 → loopF impl_SplitOf_l9 (w, (a.1, a.2.1, a.2.2.1, a.2.2.2, ()), o, out, (i : Int), ((i + 1 + j : Nat) : Int), ()) = some (w, (a.1, a.2.1, a.2.2.1, a.2.2.2, ()), o, out, (i : Int), ((i + 1 + j0 : Nat) : Int), ()) := by
  have step : ∀ j, j ≤ j0 → impl_SplitOf_l9 (w, (a.1, a.2.1, a.2.2.1, a.2.2.2, ()), o, out, (i : Int), ((i + 1 + j : Nat) : Int), ()) =
      some (if cutP a ((bytes w).drop i) j = true then .inr (w, (a.1, a.2.1, a.2.2.1, a.2.2.2, ()), o, out, (i : Int), ((i + 1 + j : Nat) : Int), ()) else .inl (w, (a.1, a.2.1, a.2.2.1, a.2.2.2, ()), o, out, (i : Int), ((i + 1 + (j + 1) : Nat) : Int), ())) := by
    intro j hj
    have h1 := ho i (by omega)
    have h2 := ho (i + 1 + j) (by omega)
    have hc := (cost_at sa ha hw i (i + 1 + j)).2
    have hr := cl_rng sa ha hw i (i + 1 + j)
    rw [show i + 1 + j - i = j + 1 by omega] at hc hr
    have e1 : (bytes w).drop (i + 1 + j) = ((bytes w).drop i).drop (j + 1) := by rw [List.drop_drop]; congr 1; omega
    have ew : IntKind.wrap .i64 (((i + 1 + j : Nat) : Int) + 1) = ((i + 1 + (j + 1) : Nat) : Int) := by rw [w64 (by omega) (by omega)]; omega
    unfold impl_SplitOf_l9
    simp only
    rw [if_pos ⟨by omega, by rw [hol]; omega⟩, if_pos ⟨by omega, by rw [hol]; omega⟩]
    simp only [Nat.zero_add, Int.toNat_natCast, tk_all, ew]
    rw [w64 (n := o.getD i 0 - 1) (by simp only [Nv] at h1; omega) (by simp only [Nv] at h1; omega), h1.1, h2.1, e1]
    unfold cutP
    rcases Bool.eq_false_or_eq_true (cv a (((bytes w).drop i).drop (j + 1)) == cv a ((bytes w).drop i) - 1) with hb | hb
    · have hb' : (cv a (((bytes w).drop i).drop (j + 1)) != cv a ((bytes w).drop i) - 1) = false := by rw [bne, hb]; rfl
      simp only [hb', hb, cond_false, Bool.and_true]
      rw [if_pos ⟨by omega, by omega, by omega⟩, show ((a.1, a.2.1, a.2.2.1, a.2.2.2) : Aut) = a from rfl, hc]
      simp only [Option.bind_some]
      unfold acc
      by_cases hz : cl a (((bytes w).drop i).take (j + 1)) = 1000000
      · have hz' : (cl a (((bytes w).drop i).take (j + 1)) == (1000000 : Int)) = true := by simpa using hz
        rw [hz', decide_eq_false (show ¬ cl a (((bytes w).drop i).take (j + 1)) < Nv by simp only [Nv]; omega)]
        rfl
      · have hz' : (cl a (((bytes w).drop i).take (j + 1)) == (1000000 : Int)) = false := by simpa using hz
        rw [hz', decide_eq_true (show cl a (((bytes w).drop i).take (j + 1)) < Nv by simp only [Nv] at *; omega)]
        rfl
    · have hb' : (cv a (((bytes w).drop i).drop (j + 1)) != cv a ((bytes w).drop i) - 1) = true := by rw [bne, hb]; rfl
      simp only [hb', hb, cond_true, Bool.and_false, Bool.false_eq_true, if_false]
  intro d
  induction d with
  | zero =>
    intro j hj
    obtain rfl : j = j0 := by omega
    rw [loopF_eq, step j (Nat.le_refl _), if_pos hp]
    rfl
  | succ d ih =>
    intro j hj
    rw [loopF_eq, step j (by omega), if_neg (by rw [hn j (by omega)]; simp)]
    exact ih (j + 1) (by omega)
theorem split_outer {w : ByteArray} (hw : wordOk w = true) (h40 : w.size ≤ 40) {o : List Int} (hol : o.length = w.size + 1) (ho : ∀ t, t ≤ w.size → o.getD t 0 = cv a ((bytes w).drop t) ∧ 0 ≤ o.getD t 0 ∧ o.getD t 0 ≤ Nv) :
    ∀ (fs out : List ByteArray) (i : Nat), i ≤ w.size → out.length ≤ i → Gr a fs ((bytes w).drop i) → loopF impl_SplitOf_l7 (w, (a.1, a.2.1, a.2.2.1, a.2.2.2, ()), o, out, (i : Int), ()) = some (out ++ fs, ())
  | [], out, i, hi, _, hg => by
    simp only [Gr] at hg
    have := congrArg List.length hg
    rw [List.length_drop, bytes_len, List.length_nil] at this
    rw [loopF_eq]
    simp only [impl_SplitOf_l7, decide_eq_false (show ¬ (i : Int) < (w.size : Int) by omega), cond_false, tk_all, Option.bind_some, List.append_nil]
  | f :: fs, out, i, hi, hout, hg => by
    simp only [Gr] at hg
    obtain ⟨j0, h1, h2, h3, h4⟩ := hg
    rw [List.length_drop, bytes_len] at h1
    rw [List.length_drop, bytes_len] at h2
    have hp := List.find?_some h2
    have hn : ∀ j, j < j0 → cutP a ((bytes w).drop i) j = false := by
      intro j hj
      have := (List.find?_range_eq_some.1 h2).2.2 j hj
      simpa using this
    have hin := split_inner sa ha hw h40 hol ho out (i := i) (by omega) h1 hp hn j0 0 (by omega)
    rw [List.drop_drop] at h4
    have hf : w.extract i (i + 1 + j0) = f := by
      refine bytes_eq ?_
      rw [h3, bytes_extract, show i + 1 + j0 - i = j0 + 1 by omega]
    obtain ⟨a1, a2⟩ := app_txt (p := out) (x := f) (by omega)
    rw [loopF_eq]
    have ew : IntKind.wrap .i64 ((i : Int) + 1) = ((i + 1 + 0 : Nat) : Int) := by rw [w64 (by omega) (by omega)]; omega
    simp only [impl_SplitOf_l7, decide_eq_true (show (i : Int) < (w.size : Int) by omega), cond_true, tk_all, ew, hin, Option.bind_some]
    rw [if_pos ⟨by omega, by omega, by omega⟩]
    simp only [Int.toNat_natCast, hf]
    rw [if_pos a1, a2]
    simp only [Option.bind_some]
    have := split_outer hw h40 hol ho fs (out ++ [f]) (i + 1 + j0) (by omega) (by rw [List.length_append, List.length_singleton]; omega) (by rw [show i + 1 + j0 = i + (j0 + 1) by omega]; exact h4)
    rw [this, List.append_assoc]
    rfl
end valid
theorem split_same {a : Aut} (sa : Small a) {w : ByteArray} (hws : w.size ≤ 9223372036854775807) : ∃ r, spec_SplitOf a w = some r ∧ impl_SplitOf a w = some r ∧ r.1.length ≤ 40 := by
  have hf := impl_FactorsOf_is sa hws
  rcases spec_SplitOf_is sa hws with ⟨h1, h2, fs, h3, h4, h5⟩ | ⟨h1, h2⟩
  · refine ⟨_, h3, ?_, ?_⟩
    · have h1' := h1
      unfold askedN at h1'
      rw [Bool.and_eq_true, Bool.and_eq_true, decide_eq_true_eq] at h1'
      obtain ⟨ha, hw, h40⟩ := h1'
      obtain ⟨o, o1, o2, o3⟩ := factors_is sa ha hw h40
      have hcv := fun t => cv_is sa ha hw h40 t w.size
      have ho : ∀ t, t ≤ w.size → o.getD t 0 = cv a ((bytes w).drop t) ∧ 0 ≤ o.getD t 0 ∧ o.getD t 0 ≤ Nv := fun t ht => by
        have q := hcv t
        rw [List.take_of_length_le (by rw [List.length_drop, bytes_len]; omega)] at q
        exact ⟨(o3 t ht).same q, (o3 t ht).1⟩
      have hl := split_outer sa ha hw h40 o2 ho fs [] 0 (by omega) (by simp) (by rw [List.drop_zero]; exact h5)
      have hc0 := (ho 0 (by omega))
      rw [List.drop_zero] at hc0
      rw [if_pos h1] at hf
      obtain ⟨x, S, F, l⟩ := a
      simp only [impl_SplitOf, hf, Option.bind_some, decide_eq_false (show ¬ cv (x, S, F, l) (bytes w) < 0 by omega), cond_false]
      rw [show (cv (x, S, F, l) (bytes w) == (1000000 : Int)) = false from by simp only [Nv] at h2; simp; omega, o1]
      have hl : loopF impl_SplitOf_l7 (w, (x, S, F, l, ()), o, [], (0 : Int), ()) = some (fs, ()) := hl
      simp only [cond_false, Option.bind_some, tk_all, List.take_zero, hl]
    · have h1' := h1
      unfold askedN at h1'
      rw [Bool.and_eq_true, Bool.and_eq_true, decide_eq_true_eq] at h1'
      obtain ⟨ha, hw, h40⟩ := h1'
      have hb : ∀ (fs : List ByteArray) (ws : List UInt8), Gr a fs ws → fs.length ≤ ws.length := by
        intro fs
        induction fs with
        | nil => intro ws _; simp
        | cons f fs ih =>
          intro ws h
          simp only [Gr] at h
          obtain ⟨i, g1, _, _, g4⟩ := h
          have := ih _ g4
          rw [List.length_drop] at this
          rw [List.length_cons]
          omega
      have := hb fs _ h5
      rw [bytes_len] at this
      show fs.length ≤ 40
      omega
  · refine ⟨_, h2, ?_, by simp⟩
    obtain ⟨x, S, F, l⟩ := a
    simp only [impl_SplitOf, hf, Option.bind_some]
    rcases Bool.eq_false_or_eq_true (askedN (x, S, F, l) w) with hk | hk
    · rw [if_pos hk, h1 hk]
      rfl
    · rw [if_neg (by rw [hk]; simp)]
      rfl
end Go.Proofs.Ytooigaliccnldaa
