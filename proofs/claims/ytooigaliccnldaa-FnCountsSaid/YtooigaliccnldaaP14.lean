/- Splits of words, the spec's way; the number of factors and the hardest word: both sides tell the same. -/
import Derived.Test.YtooigaliccnldaaP13
set_option linter.unusedVariables false
set_option linter.unusedSimpArgs false
namespace Go.Proofs.Ytooigaliccnldaa
open Go Go.Proofs.Ytooigaliccnldaa.Am
theorem extract_size (w : ByteArray) (i j : Nat) : (w.extract i j).size = min (j - i) (w.size - i) := by
  rw [← bytes_len, bytes_extract, List.length_take, List.length_drop, bytes_len]
theorem bytes_rest (w : ByteArray) (e : Nat) : bytes (w.extract e w.size) = (bytes w).drop e := by
  rw [bytes_extract, List.take_of_length_le (by rw [List.length_drop, bytes_len]; omega)]
theorem bytes_head (w : ByteArray) (e : Nat) : bytes (w.extract 0 e) = (bytes w).take e := by
  rw [bytes_extract, List.drop_zero, Nat.sub_zero]
/-- a first factor that leaves one less -/
noncomputable def cutP (a : Aut) (ws : List UInt8) (i : Nat) : Bool := acc a (ws.take (i + 1)) && (cv a (ws.drop (i + 1)) == cv a ws - 1)
/-- the factors, from the left -/
def Gr (a : Aut) : List ByteArray → List UInt8 → Prop
  | [], ws => ws = []
  | f :: fs, ws => ∃ i, i < ws.length ∧ (List.range ws.length).find? (cutP a ws) = some i ∧ bytes f = ws.take (i + 1) ∧ Gr a fs (ws.drop (i + 1))
section valid
variable {a : Aut} (sa : Small a) (ha : autOk a = true)
include sa ha
theorem cut_had {w : ByteArray} (hw : wordOk w = true) (h40 : w.size ≤ 40) (hne : 0 < w.size) (hlt : cv a (bytes w) < Nv) : ∃ i, i < w.size ∧ (List.range w.size).find? (cutP a (bytes w)) = some i ∧ cutP a (bytes w) i = true := by
  obtain ⟨_, _, _, _, hc⟩ := least_at sa ha hw h40
  obtain ⟨fs, f1, f2, f3⟩ := hc.had hlt
  have hfound : ∃ i, i < w.size ∧ cutP a (bytes w) i = true := by
    cases fs with
    | nil =>
      rw [List.flatten_nil] at f2
      have := congrArg List.length f2
      rw [bytes_len, List.length_nil] at this
      omega
    | cons g gs =>
      have hg := f1 g List.mem_cons_self
      have hgp : 0 < g.length := List.length_pos_iff.2 hg.1
      rw [List.flatten_cons] at f2
      have hlen := congrArg List.length f2
      rw [List.length_append, bytes_len] at hlen
      have e1 : g = (bytes w).take g.length := by rw [← f2, List.take_left]
      have e2 : gs.flatten = (bytes w).drop g.length := by rw [← f2, List.drop_left]
      refine ⟨g.length - 1, by omega, ?_⟩
      unfold cutP
      rw [show g.length - 1 + 1 = g.length by omega, Bool.and_eq_true, beq_iff_eq]
      refine ⟨by rw [← e1]; exact hg.2, ?_⟩
      have hd := cv_is sa ha hw h40 g.length w.size
      rw [List.take_of_length_le (by rw [List.length_drop, bytes_len]; omega)] at hd
      have q1 := ((hd.2 _).1 (Int.le_refl _)).2 gs (fun f hf => f1 f (List.mem_cons_of_mem _ hf)) e2
      have q2 : cv a (bytes w) - 1 ≤ cv a ((bytes w).drop g.length) := by
        rw [hd.2]
        refine ⟨by have := hc.1; omega, fun hs hf hfl => ?_⟩
        have := ((hc.2 _).1 (Int.le_refl _)).2 (g :: hs) (fun f hf' => by
          rcases List.mem_cons.1 hf' with rfl | hf'
          · exact hg
          · exact hf f hf') (by
          rw [List.flatten_cons, hfl]
          conv => lhs; rw [e1]
          rw [List.length_take, bytes_len, Nat.min_eq_left (by omega), List.take_append_drop])
        rw [List.length_cons] at this
        omega
      rw [List.length_cons] at f3
      omega
  obtain ⟨i, hi, hp⟩ := hfound
  cases hq : (List.range w.size).find? (cutP a (bytes w)) with
  | none => rw [find_none] at hq; rw [hq i hi] at hp; cases hp
  | some j =>
    have h1 := List.find?_some hq
    have h2 := List.mem_range.1 (List.mem_of_find?_eq_some hq)
    exact ⟨j, h2, rfl, h1⟩
theorem split_in {w : ByteArray} (hw : wordOk w = true) (h40 : w.size ≤ 40) (out : List ByteArray) (ho : out.length ≤ 1000) :
    loopF spec_SplitOf_l10 ((a.1, a.2.1, a.2.2.1, a.2.2.2, ()), out, w, cv a (bytes w), (1 : Int), ()) = some (match (List.range w.size).find? (cutP a (bytes w)) with
      | some i => ((a.1, a.2.1, a.2.2.1, a.2.2.2, ()), out ++ [w.extract 0 (i + 1)], w.extract (i + 1) w.size, ())
      | none => ((a.1, a.2.1, a.2.2.1, a.2.2.2, ()), out, w, ())) := by
  have hcv : 0 ≤ cv a (bytes w) ∧ cv a (bytes w) ≤ Nv := by
    obtain ⟨_, _, _, _, hc⟩ := least_at sa ha hw h40
    exact hc.1
  simp only [Nv] at hcv
  have := loop_find (f := spec_SplitOf_l10) (fun i => ((a.1, a.2.1, a.2.2.1, a.2.2.2, ()), out, w, cv a (bytes w), ((i + 1 : Nat) : Int), ())) w.size (cutP a (bytes w))
    (fun i => ((a.1, a.2.1, a.2.2.1, a.2.2.2, ()), out ++ [w.extract 0 (i + 1)], w.extract (i + 1) w.size, ())) ((a.1, a.2.1, a.2.2.1, a.2.2.2, ()), out, w, ()) (fun i hi => by
      obtain ⟨o, o1, o2, o3, _⟩ := least_at sa ha (wordOk_extract hw (i + 1) w.size) (by rw [extract_size]; omega)
      rw [bytes_rest] at o3
      rw [extract_size] at o2 o3
      have hsz : min (w.size - (i + 1)) (w.size - (i + 1)) = w.size - (i + 1) := Nat.min_self _
      rw [hsz] at o2 o3
      have hc := (cost_at sa ha hw 0 (i + 1)).1
      rw [List.drop_zero, Nat.sub_zero] at hc
      have wi : IntKind.wrap .i64 ((w.size : Int) - ((i + 1 : Nat) : Int)) = ((w.size - (i + 1) : Nat) : Int) := by rw [w64 (by omega) (by omega)]; omega
      have hin : (0 : Int) ≤ ((i + 1 : Nat) : Int) ∧ ((i + 1 : Nat) : Int) ≤ (w.size : Int) := ⟨by omega, by omega⟩
      simp only [spec_SplitOf_l10, Int.toNat_natCast, Nat.zero_add, List.drop_zero, List.take_length]
      rw [decide_eq_true hin.2, if_pos hin, show ((a.1, a.2.1, a.2.2.1, a.2.2.2) : Aut) = a from rfl, o1]
      simp only [cond_true, Option.bind_some, wi, Int.toNat_natCast, o3]
      rw [if_pos ⟨by omega, by rw [o2]; omega⟩, if_pos hin, hc]
      simp only [Option.bind_some, w64 (show -9223372036854775808 ≤ cv a (bytes w) - 1 by omega) (by omega), w64_succ (show i + 1 < 42 by omega) (by omega), cutP, acc]
      rcases Bool.eq_false_or_eq_true (decide (cl a ((bytes w).take (i + 1)) < (1000000 : Int))) with h1 | h1
      · rcases Bool.eq_false_or_eq_true (cv a ((bytes w).drop (i + 1)) == cv a (bytes w) - 1) with h2 | h2
        · simp only [h1, h2, cond_true, Bool.and_self, if_true]
          rw [show List.take 1 [w.extract 0 (i + 1)] = [w.extract 0 (i + 1)] from rfl, if_pos hin, if_pos ⟨trivial, by simp; omega⟩, if_pos hin, List.take_of_length_le (by simp)]
        · simp only [h1, h2, cond_true, cond_false, Bool.and_false, Bool.false_eq_true, if_false]
      · simp only [h1, cond_false, Bool.false_and, Bool.false_eq_true, if_false])
    (by
      simp only [spec_SplitOf_l10, List.drop_zero, List.take_length]
      rw [decide_eq_false (by omega)]
      rfl)
  exact this
theorem split_loop : ∀ (m : Nat) {w : ByteArray} (hw : wordOk w = true) (h40 : w.size ≤ 40) (hm : w.size ≤ m) (hlt : cv a (bytes w) < Nv) (out : List ByteArray) (ho : out.length + w.size ≤ 1000),
    ∃ fs, loopF spec_SplitOf_l5 ((a.1, a.2.1, a.2.2.1, a.2.2.2, ()), out, w, ()) = some (.inr (out ++ fs, ())) ∧ (fs.length : Int) = cv a (bytes w) ∧ Gr a fs (bytes w) := by
  intro m
  have base : ∀ {w : ByteArray}, wordOk w = true → w.size ≤ 40 → w.size = 0 → ∀ out : List ByteArray, ∃ fs, loopF spec_SplitOf_l5 ((a.1, a.2.1, a.2.2.1, a.2.2.2, ()), out, w, ()) = some (.inr (out ++ fs, ())) ∧ (fs.length : Int) = cv a (bytes w) ∧ Gr a fs (bytes w) := by
    intro w hw h40 h0 out
    have hb : bytes w = [] := List.length_eq_zero_iff.1 (by rw [bytes_len]; exact h0)
    obtain ⟨_, _, _, _, hc⟩ := least_at sa ha hw h40
    rw [hb] at hc ⊢
    refine ⟨[], ?_, (CntIs.nil a).same hc, rfl⟩
    rw [loopF_eq]
    have e : (ByteArray.toList w == ByteArray.toList (⟨#[]⟩ : ByteArray)) = true := by rw [toList_bytes, toList_bytes, show w.data.toList = [] from hb]; rfl
    simp only [spec_SplitOf_l5, e, Bool.not_true, cond_false, Option.bind_some, List.drop_zero, List.take_length, List.append_nil]
  induction m with
  | zero => intro w hw h40 hm _ out _; exact base hw h40 (by omega) out
  | succ m ih =>
    intro w hw h40 hm hlt out ho
    by_cases h0 : w.size = 0
    · exact base hw h40 h0 out
    · obtain ⟨i, hi, hf, hp⟩ := cut_had sa ha hw h40 (by omega) hlt
      obtain ⟨o, o1, o2, o3, o4⟩ := least_at sa ha hw h40
      have hp' := hp
      unfold cutP at hp'
      rw [Bool.and_eq_true, beq_iff_eq] at hp'
      have hcr := o4.1
      obtain ⟨fs, g1, g2, g3⟩ := ih (wordOk_extract hw (i + 1) w.size) (by rw [extract_size]; omega) (by rw [extract_size]; omega) (by rw [bytes_rest, hp'.2]; omega) (out ++ [w.extract 0 (i + 1)]) (by rw [extract_size, List.length_append, List.length_singleton]; omega)
      rw [bytes_rest] at g2 g3
      refine ⟨w.extract 0 (i + 1) :: fs, ?_, ?_, i, by rw [bytes_len]; exact hi, by rw [bytes_len]; exact hf, bytes_head w (i + 1), g3⟩
      · rw [loopF_eq]
        have e : (ByteArray.toList w == ByteArray.toList (⟨#[]⟩ : ByteArray)) = false := by
          rw [toList_bytes, toList_bytes]
          have : w.data.toList ≠ [] := fun hn => h0 (by rw [← bytes_len]; show w.data.toList.length = 0; rw [hn]; rfl)
          simpa using this
        have hin := split_in sa ha hw h40 out (by omega)
        rw [hf] at hin
        simp only [spec_SplitOf_l5, e, Bool.not_false, cond_true, Nat.zero_add, Int.toNat_natCast, List.drop_zero, List.take_length]
        rw [show ((a.1, a.2.1, a.2.2.1, a.2.2.2) : Aut) = a from rfl, o1]
        simp only [Option.bind_some, o3]
        rw [if_pos ⟨by omega, by rw [o2]; omega⟩]
        have en : (cv a (bytes w) == (1000000 : Int)) = false := by
          rw [beq_eq_false_iff_ne]
          simp only [Nv] at hlt
          omega
        simp only [en, cond_false, hin, Option.bind_some, List.take_length]
        rw [g1, List.append_assoc]
        rfl
      · rw [List.length_cons]
        omega
end valid
theorem spec_l4Asked_is {a : Aut} (sa : Small a) {w : ByteArray} (hws : w.size ≤ 9223372036854775807) : spec_l4Asked a w = some (autOk a && wordOk w) := by
  have h1 := spec_AutomatonValid_is a (small_len sa).1 (small_len sa).2
  have h2 := spec_WordValid_is hws
  obtain ⟨x, S, F, l⟩ := a
  simp only [spec_l4Asked, h1, h2, Option.bind_some]
  cases autOk (x, S, F, l) <;> rfl
theorem spec_SplitOf_is {a : Aut} (sa : Small a) {w : ByteArray} (hws : w.size ≤ 9223372036854775807) :
    (askedN a w = true ∧ cv a (bytes w) < Nv ∧ ∃ fs, spec_SplitOf a w = some (fs, true) ∧ (fs.length : Int) = cv a (bytes w) ∧ Gr a fs (bytes w)) ∨ ((askedN a w = true → cv a (bytes w) = Nv) ∧ spec_SplitOf a w = some ([], false)) := by
  have h1 := spec_l4Asked_is sa hws
  have hl := @split_loop a sa
  have hla := @least_at a sa
  unfold askedN
  obtain ⟨x, S, F, l⟩ := a
  simp only [spec_SplitOf, h1, Option.bind_some]
  rcases Bool.eq_false_or_eq_true (autOk (x, S, F, l)) with ha | ha
  · rcases Bool.eq_false_or_eq_true (wordOk w) with hw | hw
    · by_cases h40 : w.size ≤ 40
      · obtain ⟨o, o1, o2, o3, o4⟩ := hla ha hw h40
        by_cases hlt : cv (x, S, F, l) (bytes w) < Nv
        · left
          obtain ⟨fs, g1, g2, g3⟩ := hl ha w.size hw h40 (Nat.le_refl _) hlt [] (by simp; omega)
          have g1 : loopF spec_SplitOf_l5 ((x, S, F, l, ()), [], w, ()) = some (.inr (fs, ())) := g1
          refine ⟨by simp only [ha, hw, decide_eq_true h40]; rfl, hlt, fs, ?_, g2, g3⟩
          simp only [ha, hw, Bool.and_self, Bool.not_true, cond_false, decide_eq_false (show ¬ (w.size : Int) > 40 by omega), List.take_zero, g1, Option.bind_some, List.drop_zero, List.take_length]
        · right
          have hc : cv (x, S, F, l) (bytes w) = Nv := by have := o4.1; omega
          refine ⟨fun _ => hc, ?_⟩
          have hne : 0 < w.size := by
            rcases Nat.eq_zero_or_pos w.size with h0 | h0
            · exfalso
              have hb : bytes w = [] := List.length_eq_zero_iff.1 (by rw [bytes_len]; exact h0)
              rw [hb] at o4 hc
              have := (CntIs.nil (x, S, F, l)).same o4
              rw [hc] at this
              exact absurd this (by decide)
            · exact h0
          have e : (ByteArray.toList w == ByteArray.toList (⟨#[]⟩ : ByteArray)) = false := by
            rw [toList_bytes, toList_bytes]
            have : w.data.toList ≠ [] := fun hn => by
              have : w.size = 0 := by rw [← bytes_len]; show w.data.toList.length = 0; rw [hn]; rfl
              omega
            simpa using this
          simp only [ha, hw, Bool.and_self, Bool.not_true, cond_false, decide_eq_false (show ¬ (w.size : Int) > 40 by omega), List.take_zero]
          rw [loopF_eq]
          simp only [spec_SplitOf_l5, e, Bool.not_false, cond_true, Nat.zero_add, Int.toNat_natCast, List.drop_zero, List.take_zero, o1, Option.bind_some, o3]
          rw [if_pos ⟨by omega, by rw [o2]; omega⟩, hc]
          rfl
      · right
        refine ⟨fun h => (by rw [ha, hw, decide_eq_false h40] at h; cases h), ?_⟩
        simp only [ha, hw, Bool.and_self, Bool.not_true, cond_false, decide_eq_true (show (w.size : Int) > 40 by omega), cond_true, List.take_zero]
    · right
      refine ⟨fun h => (by rw [ha, hw] at h; cases h), ?_⟩
      simp only [ha, hw, Bool.and_false, Bool.not_false, cond_true, List.take_zero]
  · right
    refine ⟨fun h => (by rw [ha] at h; cases h), ?_⟩
    simp only [ha, Bool.false_and, Bool.not_false, cond_true, List.take_zero]
theorem spec_FactorsOf_is {a : Aut} (sa : Small a) {w : ByteArray} (hws : w.size ≤ 9223372036854775807) : spec_FactorsOf a w = some (if askedN a w = true then cv a (bytes w) else -1) := by
  have h1 := spec_l4Asked_is sa hws
  have h2 := spec_SplitOf_is sa hws
  unfold askedN at *
  obtain ⟨x, S, F, l⟩ := a
  rcases h2 with ⟨g1, g2, fs, g3, g4, _⟩ | ⟨g1, g2⟩
  · have g1' := g1
    simp only [Bool.and_eq_true, decide_eq_true_eq] at g1'
    obtain ⟨ha, hw, h40⟩ := g1'
    simp only [spec_FactorsOf, h1, g3, Option.bind_some, ha, hw, Bool.and_self, Bool.not_true, cond_false, decide_eq_false (show ¬ (w.size : Int) > 40 by omega), decide_eq_true h40, if_true, g4]
  · simp only [spec_FactorsOf, h1, g2, Option.bind_some]
    rcases Bool.eq_false_or_eq_true (autOk (x, S, F, l)) with ha | ha
    · rcases Bool.eq_false_or_eq_true (wordOk w) with hw | hw
      · by_cases h40 : w.size ≤ 40
        · rw [g1 (by rw [ha, hw, decide_eq_true h40]; rfl)]
          simp only [ha, hw, Bool.and_self, Bool.not_true, cond_false, decide_eq_false (show ¬ (w.size : Int) > 40 by omega), decide_eq_true h40, Bool.not_false, cond_true, if_true]
        · simp only [ha, hw, Bool.and_self, Bool.not_true, cond_false, decide_eq_true (show (w.size : Int) > 40 by omega), cond_true, decide_eq_false h40, Bool.and_false, Bool.false_eq_true, if_false]
      · simp only [ha, hw, Bool.and_false, Bool.false_and, Bool.not_false, cond_true, Bool.false_eq_true, if_false]
    · simp only [ha, Bool.false_and, Bool.not_false, cond_true, Bool.false_eq_true, if_false]
end Go.Proofs.Ytooigaliccnldaa
