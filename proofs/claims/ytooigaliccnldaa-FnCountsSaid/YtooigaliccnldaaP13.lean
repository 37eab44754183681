/- The number of factors: both sides tell the same; the hardest word. -/
import Derived.Test.YtooigaliccnldaaP12
set_option linter.unusedVariables false
set_option linter.unusedSimpArgs false
namespace Go.Proofs.Ytooigaliccnldaa
open Go Go.Proofs.Ytooigaliccnldaa.Am
/-- the least number of factors, as a number -/
noncomputable def cv (a : Aut) (ws : List UInt8) : Int := ((spec_l10Least a ⟨ws.toArray⟩).getD []).getD ws.length 0
theorem spec_WordValid_is {w : ByteArray} (hw : w.size ≤ 9223372036854775807) : spec_WordValid w = some (wordOk w) := by
  simp only [spec_WordValid]
  have := loop_all (f := spec_WordValid_l2) (fun i => (w, (w.size : Int), (i : Int), ())) w.size (letterP w) (.inl (false, ())) (.inr (w, ())) (fun i hi => by
    simp only [spec_WordValid_l2, lt_t hi, cond_true, if_pos (in_t hi), Int.toNat_natCast, w64_succ hi hw, letterP, bne]
    rcases Bool.eq_false_or_eq_true ((((w.data.getD i 0).toNat : Nat) : Int) == 97) with a | a <;> rcases Bool.eq_false_or_eq_true ((((w.data.getD i 0).toNat : Nat) : Int) == 98) with b | b <;> simp only [a, b] <;> rfl) (by simp only [spec_WordValid_l2, lt_f]; rfl)
  rw [show ((0 : Int)) = ((0 : Nat) : Int) from rfl, this]
  unfold wordOk
  cases (List.range w.size).all (letterP w) with
  | true =>
    simp only [if_true, Option.bind_some, Bool.true_and]
    congr 1
    rw [Bool.eq_iff_iff, decide_eq_true_eq, decide_eq_true_eq]
    omega
  | false => rfl
section valid
variable {a : Aut} (sa : Small a) (ha : autOk a = true)
include sa ha
theorem least_at {w : ByteArray} (hw : wordOk w = true) (h40 : w.size ≤ 40) : ∃ o, spec_l10Least a w = some o ∧ o.length = w.size + 1 ∧ o.getD w.size 0 = cv a (bytes w) ∧ CntIs a (bytes w) (cv a (bytes w)) := by
  obtain ⟨o, h1, h2, h3⟩ := l10Least_is sa ha hw h40
  have e : o.getD w.size 0 = cv a (bytes w) := by
    unfold cv
    rw [bytes_inj, h1, bytes_len]
    rfl
  refine ⟨o, h1, h2, e, ?_⟩
  have := h3 w.size (Nat.le_refl _)
  rw [List.take_of_length_le (by rw [bytes_len]; omega), e] at this
  exact this
theorem cv_is {w : ByteArray} (hw : wordOk w = true) (h40 : w.size ≤ 40) (i j : Nat) : CntIs a (((bytes w).drop i).take (j - i)) (cv a (((bytes w).drop i).take (j - i))) := by
  have hs : (w.extract i j).size ≤ 40 := by rw [← bytes_len, bytes_extract, List.length_take, List.length_drop, bytes_len]; omega
  obtain ⟨_, _, _, _, h⟩ := least_at sa ha (wordOk_extract hw i j) hs
  rw [bytes_extract] at h
  exact h
theorem factors_in {w : ByteArray} (hw : wordOk w = true) (h40 : w.size ≤ 40) {o : List Int} {i : Nat} (hi : i < w.size) (hol : o.length = w.size + 1) (hN : o.getD i 0 = Nv) (ho : ∀ t, i < t → t ≤ w.size → CntIs a ((bytes w).drop t) (o.getD t 0)) :
    ∃ o', loopF impl_factors_l7 (w, (a.1, a.2.1, a.2.2.1, a.2.2.2, ()), o, (i : Int), ((i + 1 : Nat) : Int), ()) = some (w, (a.1, a.2.1, a.2.2.1, a.2.2.2, ()), o', (i : Int), ()) ∧ o'.length = w.size + 1 ∧ (∀ t, t ≠ i → o'.getD t 0 = o.getD t 0) ∧ CntIs a ((bytes w).drop i) (o'.getD i 0) := by
  have hc := cost_at sa ha hw
  obtain ⟨r, g1, g2⟩ := loop_rel (f := impl_factors_l7) (w.size - i) (fun m (u : List Int) => (w, (a.1, a.2.1, a.2.2.1, a.2.2.2, ()), u, (i : Int), ((i + 1 + m : Nat) : Int), ())) (fun u => (w, (a.1, a.2.1, a.2.2.1, a.2.2.2, ()), u, (i : Int), ()))
    (fun m u => u.length = w.size + 1 ∧ (∀ t, t ≠ i → u.getD t 0 = o.getD t 0) ∧ (0 ≤ u.getD i 0 ∧ u.getD i 0 ≤ Nv) ∧ ∀ z, z ≤ u.getD i 0 ↔ z ≤ Nv ∧ ∀ t, 0 < t → t ≤ m → acc a (((bytes w).drop i).take t) = true → z ≤ o.getD (i + t) 0 + 1)
    (fun m u hm hu => by
      obtain ⟨u1, u2, u3, u4⟩ := hu
      have ht : i + 1 + m ≤ w.size := by omega
      have hok := (ho (i + 1 + m) (by omega) ht).1
      have eo : u.getD (i + 1 + m) 0 = o.getD (i + 1 + m) 0 := u2 _ (by omega)
      have hslice : ((bytes w).drop i).take (i + 1 + m - i) = ((bytes w).drop i).take (m + 1) := by congr 1; omega
      have hci := (hc i (i + 1 + m)).2
      rw [hslice] at hci
      by_cases hlt : o.getD (i + 1 + m) 0 < Nv
      · cases hacc : acc a (((bytes w).drop i).take (m + 1)) with
        | true =>
          have hd : decide (cl a (((bytes w).drop i).take (m + 1)) < (1000000 : Int)) = true := hacc
          refine ⟨u.set i (if o.getD (i + 1 + m) 0 + 1 < u.getD i 0 then o.getD (i + 1 + m) 0 + 1 else u.getD i 0), ?_, by rw [List.length_set]; exact u1, fun t ht' => ?_, ?_, fun z => ?_⟩
          · simp only [impl_factors_l7, Int.toNat_natCast, Nat.zero_add, List.drop_zero, List.take_length, eo]
            rw [decide_eq_true (show ((i + 1 + m : Nat) : Int) ≤ (w.size : Int) by omega)]
            simp only [cond_true]
            rw [if_pos ⟨by omega, by rw [u1]; omega⟩, decide_eq_true (show o.getD (i + 1 + m) 0 < 1000000 from hlt)]
            simp only [cond_true]
            rw [if_pos ⟨by omega, by omega, by omega⟩, show ((a.1, a.2.1, a.2.2.1, a.2.2.2) : Aut) = a from rfl, hci]
            simp only [Option.bind_some, hd, cond_true]
            rw [if_pos ⟨by omega, by rw [u1]; omega⟩, if_pos ⟨by omega, by rw [u1]; omega⟩, if_pos ⟨by omega, by rw [u1]; omega⟩]
            simp only [Nv] at hlt hok
            rw [w64 (show -9223372036854775808 ≤ o.getD (i + 1 + m) 0 + 1 by omega) (by omega), w64 (show -9223372036854775808 ≤ ((i + 1 + m : Nat) : Int) + 1 by omega) (by omega), List.take_of_length_le (by rw [List.length_set]; exact Nat.le_refl _)]
            rfl
          · rw [getD_set (by omega), if_neg (Ne.symm ht')]; exact u2 t ht'
          · rw [getD_set (by omega), if_pos rfl]
            simp only [Nv] at *
            split <;> omega
          · rw [getD_set (by omega), if_pos rfl, min_is, u4 z]
            constructor
            · rintro ⟨⟨h1, h2⟩, h3⟩
              refine ⟨h1, fun t h0 hle hac => ?_⟩
              by_cases e : t = m + 1
              · subst e; rw [show i + (m + 1) = i + 1 + m by omega]; exact h3
              · exact h2 t h0 (by omega) hac
            · rintro ⟨h1, h2⟩
              refine ⟨⟨h1, fun t h0 hle hac => h2 t h0 (by omega) hac⟩, ?_⟩
              have := h2 (m + 1) (by omega) (by omega) hacc
              rw [show i + (m + 1) = i + 1 + m by omega] at this
              exact this
        | false =>
          have hd : decide (cl a (((bytes w).drop i).take (m + 1)) < (1000000 : Int)) = false := hacc
          refine ⟨u, ?_, u1, u2, u3, fun z => ?_⟩
          · simp only [impl_factors_l7, Int.toNat_natCast, Nat.zero_add, List.drop_zero, List.take_length, eo]
            rw [decide_eq_true (show ((i + 1 + m : Nat) : Int) ≤ (w.size : Int) by omega)]
            simp only [cond_true]
            rw [if_pos ⟨by omega, by rw [u1]; omega⟩, decide_eq_true (show o.getD (i + 1 + m) 0 < 1000000 from hlt)]
            simp only [cond_true]
            rw [if_pos ⟨by omega, by omega, by omega⟩, show ((a.1, a.2.1, a.2.2.1, a.2.2.2) : Aut) = a from rfl, hci]
            simp only [Option.bind_some, hd, cond_false]
            rw [w64 (show -9223372036854775808 ≤ ((i + 1 + m : Nat) : Int) + 1 by omega) (by omega)]
            rfl
          · rw [u4 z]
            refine and_congr_right fun _ => ⟨fun h t h0 hle hac => ?_, fun h t h0 hle hac => h t h0 (by omega) hac⟩
            by_cases e : t = m + 1
            · subst e; rw [hacc] at hac; cases hac
            · exact h t h0 (by omega) hac
      · refine ⟨u, ?_, u1, u2, u3, fun z => ?_⟩
        · simp only [impl_factors_l7, Int.toNat_natCast, Nat.zero_add, List.drop_zero, List.take_length, eo]
          rw [decide_eq_true (show ((i + 1 + m : Nat) : Int) ≤ (w.size : Int) by omega)]
          simp only [cond_true]
          rw [if_pos ⟨by omega, by rw [u1]; omega⟩, decide_eq_false (show ¬ o.getD (i + 1 + m) 0 < 1000000 from hlt)]
          simp only [cond_false]
          rw [w64 (show -9223372036854775808 ≤ ((i + 1 + m : Nat) : Int) + 1 by omega) (by omega)]
          rfl
        · rw [u4 z]
          refine and_congr_right fun hz => ⟨fun h t h0 hle hac => ?_, fun h t h0 hle hac => h t h0 (by omega) hac⟩
          by_cases e : t = m + 1
          · subst e
            rw [show i + (m + 1) = i + 1 + m by omega]
            omega
          · exact h t h0 (by omega) hac)
    (fun u hu => by
      simp only [impl_factors_l7, List.drop_zero, List.take_length]
      rw [decide_eq_false (show ¬ ((i + 1 + (w.size - i) : Nat) : Int) ≤ (w.size : Int) by omega)]
      rfl)
    o ⟨hol, fun _ _ => rfl, by rw [hN]; exact ⟨by decide, by decide⟩, fun z => by rw [hN]; exact ⟨fun h => ⟨h, fun t h0 hle => by omega⟩, fun h => h.1⟩⟩
  refine ⟨r, g1, g2.1, g2.2.1, ?_⟩
  refine CntIs.first (o := fun t => o.getD (i + t) 0) (fun hn => ?_) (fun t h0 hle => ?_) g2.2.2.1 (fun z => ?_)
  · have := congrArg List.length hn
    rw [List.length_drop, bytes_len, List.length_nil] at this
    omega
  · rw [List.drop_drop]
    rw [List.length_drop, bytes_len] at hle
    exact ho (i + t) (by omega) (by omega)
  · rw [g2.2.2.2 z, List.length_drop, bytes_len]
theorem factors_is {w : ByteArray} (hw : wordOk w = true) (h40 : w.size ≤ 40) : ∃ o, impl_factors a w = some o ∧ o.length = w.size + 1 ∧ ∀ t, t ≤ w.size → CntIs a ((bytes w).drop t) (o.getD t 0) := by
  have hin := @factors_in a sa ha w hw h40
  obtain ⟨x, S, F, l⟩ := a
  have hrep := Repeat_is (1000000 : Int) (n := ((w.size + 1 : Nat) : Int)) (by omega) (by omega)
  rw [Int.toNat_natCast] at hrep
  simp only [impl_factors, List.drop_zero, show List.take 1 [(1000000 : Int)] = [1000000] from rfl, w64 (show -9223372036854775808 ≤ (w.size : Int) + 1 by omega) (by omega)]
  rw [show ((w.size : Int) + 1) = ((w.size + 1 : Nat) : Int) by omega, hrep]
  simp only [Option.bind_some, Int.toNat_natCast, Nat.zero_add]
  rw [if_pos ⟨by omega, by rw [List.length_replicate]; omega⟩, List.take_of_length_le (by rw [List.length_set]; exact Nat.le_refl _), w64 (show -9223372036854775808 ≤ (w.size : Int) - 1 by omega) (by omega)]
  obtain ⟨r, g1, g2⟩ := loop_rel (f := impl_factors_l4) w.size (fun j (o : List Int) => (w, (x, S, F, l, ()), o, (w.size : Int) - 1 - (j : Int), ())) (fun o => (o, ()))
    (fun j o => o.length = w.size + 1 ∧ (∀ t, t < w.size - j → o.getD t 0 = Nv) ∧ ∀ t, w.size - j ≤ t → t ≤ w.size → CntIs (x, S, F, l) ((bytes w).drop t) (o.getD t 0))
    (fun j o hj ho => by
      obtain ⟨h1, h2, h3⟩ := ho
      obtain ⟨o', f1, f2, f3, f4⟩ := hin (o := o) (i := w.size - 1 - j) (by omega) h1 (h2 _ (by omega)) (fun t ht hle => h3 t (by omega) hle)
      have f1 : loopF impl_factors_l7 (w, (x, S, F, l, ()), o, ((w.size - 1 - j : Nat) : Int), ((w.size - 1 - j + 1 : Nat) : Int), ()) = some (w, (x, S, F, l, ()), o', ((w.size - 1 - j : Nat) : Int), ()) := f1
      refine ⟨o', ?_, f2, fun t ht => ?_, fun t ht hle => ?_⟩
      · simp only [impl_factors_l4, List.drop_zero, List.take_length]
        rw [show (w.size : Int) - 1 - (j : Int) = ((w.size - 1 - j : Nat) : Int) by omega, decide_eq_true (by omega), w64_succ (show w.size - 1 - j < 41 by omega) (by omega), f1]
        simp only [cond_true, Option.bind_some, List.take_length]
        rw [w64 (show -9223372036854775808 ≤ ((w.size - 1 - j : Nat) : Int) - 1 by omega) (by omega), show (((w.size - 1 - j : Nat) : Int) - 1) = (w.size : Int) - 1 - ((j + 1 : Nat) : Int) by omega]
      · rw [f3 t (by omega)]; exact h2 t (by omega)
      · by_cases e : t = w.size - 1 - j
        · subst e; exact f4
        · rw [f3 t e]; exact h3 t (by omega) hle)
    (fun o ho => by
      simp only [impl_factors_l4, List.drop_zero, List.take_length]
      rw [decide_eq_false (by omega)]
      rfl)
    ((List.replicate (w.size + 1) 1000000).set w.size 0) ⟨by simp, fun t ht => by
        rw [getD_set (by simp), if_neg (by omega), List.getD_eq_getElem?_getD, List.getElem?_eq_getElem (by simp; omega)]
        simp, fun t ht hle => by
        obtain rfl : t = w.size := by omega
        rw [getD_set (by simp), if_pos rfl, List.drop_of_length_le (by rw [bytes_len]; omega)]
        exact CntIs.nil _⟩
  have g1 : loopF impl_factors_l4 (w, (x, S, F, l, ()), (List.replicate (w.size + 1) (1000000 : Int)).set w.size 0, (w.size : Int) - 1 - ((0 : Nat) : Int), ()) = _ := g1
  rw [show (w.size : Int) - 1 - ((0 : Nat) : Int) = (w.size : Int) - 1 by omega] at g1
  rw [g1]
  exact ⟨r, by simp only [Option.bind_some, List.take_length], g2.1, fun t hle => g2.2.2 t (by omega) hle⟩
end valid
def askedN (a : Aut) (w : ByteArray) : Bool := autOk a && (wordOk w && decide (w.size ≤ 40))
theorem impl_FactorsOf_is {a : Aut} (sa : Small a) {w : ByteArray} (hws : w.size ≤ 9223372036854775807) : impl_FactorsOf a w = some (if askedN a w = true then cv a (bytes w) else -1) := by
  have h1 := impl_AutomatonValid_is a (small_len sa).1 (small_len sa).2
  have h2 := impl_WordValid_is hws
  have hf := @factors_is a sa
  have hl := @least_at a sa
  obtain ⟨x, S, F, l⟩ := a
  simp only [impl_FactorsOf, h1, h2, Option.bind_some, askedN]
  rcases Bool.eq_false_or_eq_true (autOk (x, S, F, l)) with ha | ha
  · rcases Bool.eq_false_or_eq_true (wordOk w) with hw | hw
    · by_cases h40 : w.size ≤ 40
      · obtain ⟨o, o1, o2, o3⟩ := hf ha hw h40
        obtain ⟨_, _, _, _, o4⟩ := hl ha hw h40
        have o5 := o3 0 (Nat.zero_le _)
        rw [List.drop_zero] at o5
        simp only [ha, hw, decide_eq_false (show ¬ (w.size : Int) > 40 by omega), decide_eq_true h40, Bool.not_true, cond_false, o1, Option.bind_some]
        rw [if_pos ⟨by omega, by rw [o2]; omega⟩]
        have e : o.getD (0 + (0 : Int).toNat) 0 = cv (x, S, F, l) (bytes w) := o5.same o4
        rw [e]
        rfl
      · simp only [ha, hw, decide_eq_true (show (w.size : Int) > 40 by omega), decide_eq_false h40]
        rfl
    · simp only [ha, hw]
      rfl
  · simp only [ha]
    rfl
end Go.Proofs.Ytooigaliccnldaa
