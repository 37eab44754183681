/- Both sides expand a text to the same word. -/
import Derived.Test.YtfdhmmnffahhgaaGreatP76
set_option linter.unusedVariables false
set_option linter.unusedSimpArgs false
namespace Go.Proofs.YtfdhmmnffahhgaaGreat
open Go Go.Proofs.YtfdhmmnffahhgaaGreat.Am
theorem rep_lib (w : List UInt8) : ∀ m, Lib.repeatL w m = rep m w
 | 0 => rfl
 | m + 1 => by
  show w ++ Lib.repeatL w m = _
  rw [rep_lib w m, rep_succ]
theorem B_mk (l : List UInt8) : (⟨l.toArray⟩ : ByteArray) = B l := by simp [B]
theorem repeat_is {w : List UInt8} {m : Nat} (hm : m ≤ 1000) (h : m * w.length ≤ 1000) : strings_Repeat (B w) (m : Int) = some (B (rep m w)) := by
 have h1 : (B w).size * m ≤ 140737488355328 := by rw [B_size, Nat.mul_comm]; omega
 show repS (B w) (m : Int) = _
 unfold repS
 rw [if_pos ⟨by omega, by rw [Int.toNat_natCast]; exact h1, by omega⟩, Int.toNat_natCast]
 show some (⟨(Lib.repeatL w m).toArray⟩ : ByteArray) = _
 rw [rep_lib, B_mk]
/-- the word of an expansion, if it is not too long -/
def xpR (w : List UInt8) : ByteArray × Bool := if w.length ≤ 1000 then (B w, true) else ((⟨#[]⟩ : ByteArray), false)
abbrev RecX := Pts → Int → Option (ByteArray × Bool)
theorem tdiv_nat (a b : Nat) : Int.tdiv (a : Int) (b : Int) = ((a / b : Nat) : Int) := rfl
theorem room {o k m : Nat} (hk : 0 < k) (ho : o ≤ 1000) (hk2 : k ≤ 1000) : decide ((m : Int) > IntKind.wrap .i64 (Int.tdiv (IntKind.wrap .i64 ((1000 : Int) - (o : Int))) (k : Int))) = decide (1000 < o + m * k) := by
 have e1 : IntKind.wrap .i64 ((1000 : Int) - (o : Int)) = ((1000 - o : Nat) : Int) := by
  rw [w64 (by omega) (by omega)]
  omega
 have hle : (1000 - o) / k ≤ 1000 := Nat.le_trans (Nat.div_le_self _ _) (by omega)
 have h := Nat.div_lt_iff_lt_mul (x := 1000 - o) (y := m) hk
 rw [e1, tdiv_nat]
 generalize (1000 - o) / k = q at hle h
 rw [w64 (by omega) (by omega)]
 rw [decide_eq_decide]
 constructor
 ·intro h1
  have := h.1 (by omega)
  omega
 ·intro h1
  have := h.2 (by omega)
  omega
theorem xp_loop {m : Nat} (hm : 1 ≤ m) {φ : RecX} {N : Nat} (hφ : ∀ {t1 w1 : List UInt8} {l1 : Pts}, Xo m t1 l1 w1 → l1 ≠ [] → t1.length < N → φ l1 (m : Int) = some (xpR w1)) {t w : List UInt8} {l : Pts} (h : Xo m t l w) :
  t.length ≤ N → ∀ (L : Pts) (k : Nat) (o : List UInt8), L.drop k = l → L.length ≤ 1000 → k ≤ L.length → o.length ≤ 1000 →
   loopF (impl_expand_l3 φ) ((m : Int), B o, L, ((L.length : Nat) : Int), (k : Int), ()) = some (if (o ++ w).length ≤ 1000 then .inr (B (o ++ w), ()) else .inl ((⟨#[]⟩ : ByteArray), false, ())) := by
 induction h with
 | nil =>
  intro _ L k o hL h1 hk ho
  have hk2 : L.length ≤ k := List.drop_eq_nil_iff.1 hL
  obtain rfl : k = L.length := by omega
  rw [loopF_eq]
  simp only [impl_expand_l3, lt_f, cond_false, Option.bind_some, List.append_nil]
  rw [if_pos ho]
 | @lt c t w l hc _ ih =>
  intro hN L k o hL h1 hk ho
  simp only [List.length_cons] at hN
  obtain ⟨g1, g2, g3⟩ := drop_cons ((⟨Array.empty⟩ : ByteArray), PT.mk []) hL
  have hr := room (o := o.length) (k := 1) (m := 1) (by omega) ho (by omega)
  have hr : decide ((1 : Int) > IntKind.wrap .i64 (Int.tdiv (IntKind.wrap .i64 ((1000 : Int) - ((o.length : Nat) : Int))) ((([c].length : Nat)) : Int))) = decide (1000 < o.length + 1 * 1) := hr
  rw [loopF_eq]
  simp only [impl_expand_l3, lt_t g1, cond_true, if_pos (in_t g1), Int.toNat_natCast, g2, B_ne, cond_false, B_size, hr]
  rw [if_neg (show ¬ (([c].length : Nat) : Int) = 0 by simp)]
  by_cases hf : 1000 < o.length + 1 * 1
  ·rw [decide_eq_true hf, cond_true]
   simp only [Option.bind_some]
   rw [if_neg (by simp; omega)]
  ·rw [decide_eq_false hf, cond_false]
   have e := repeat_is (w := [c]) (m := 1) (by omega) (by simp)
   have e : strings_Repeat (B [c]) (1 : Int) = some (B [c]) := e
   rw [e]
   simp only [Option.bind_some, B_size, B_app]
   rw [if_pos (by simp; omega)]
   simp only [Option.bind_some, w64_succ g1 (show L.length ≤ 9223372036854775807 by omega)]
   rw [ih (by omega) L (k + 1) (o ++ [c]) g3 h1 (by omega) (by simp; omega)]
   rw [List.append_assoc]
   rfl
 | @rp t1 t2 w1 w2 l1 l2 h1' hn _ _ ih =>
  intro hN L k o hL h1 hk ho
  simp only [List.length_cons, List.length_append] at hN
  obtain ⟨g1, g2, g3⟩ := drop_cons ((⟨Array.empty⟩ : ByteArray), PT.mk []) hL
  have hin := hφ h1' hn (by omega)
  have hin : φ (PT.l (PT.mk l1)) (m : Int) = some (xpR w1) := hin
  have hne := h1'.ne hm hn
  have hpos : 0 < w1.length := List.length_pos_iff.2 hne
  have hrl := rep_len m w1
  have htot : (o ++ (rep m w1 ++ w2)).length = o.length + m * w1.length + w2.length := by
   rw [List.length_append, List.length_append, hrl]
   omega
  rw [loopF_eq]
  simp only [impl_expand_l3, lt_t g1, cond_true, if_pos (in_t g1), Int.toNat_natCast, g2, B_eq, hin, Option.bind_some]
  by_cases hw : w1.length ≤ 1000
  ·have hx : xpR w1 = (B w1, true) := by unfold xpR; rw [if_pos hw]
   have hr := room (o := o.length) (k := w1.length) (m := m) hpos ho hw
   simp only [hx, Bool.not_true, cond_false, B_size, hr]
   rw [if_neg (show ¬ ((w1.length : Nat) : Int) = 0 by omega)]
   by_cases hf : 1000 < o.length + m * w1.length
   ·rw [decide_eq_true hf, cond_true]
    simp only [Option.bind_some]
    rw [if_neg (by omega)]
   ·rw [decide_eq_false hf, cond_false]
    have hmk : m ≤ m * w1.length := Nat.le_mul_of_pos_right _ hpos
    rw [repeat_is (by omega) (by omega)]
    simp only [Option.bind_some, B_size, B_app]
    rw [if_pos (by omega)]
    simp only [Option.bind_some, w64_succ g1 (show L.length ≤ 9223372036854775807 by omega)]
    rw [ih (by omega) L (k + 1) (o ++ rep m w1) g3 h1 (by omega) (by rw [List.length_append]; omega)]
    rw [List.append_assoc]
  ·have hx : xpR w1 = ((⟨#[]⟩ : ByteArray), false) := by unfold xpR; rw [if_neg hw]
   have hmk : w1.length ≤ m * w1.length := Nat.le_mul_of_pos_left _ hm
   simp only [hx, Bool.not_false, cond_true, Option.bind_some]
   rw [if_neg (by omega)]
theorem xp_fuel {m : Nat} (hm : 1 ≤ m) : ∀ (N : Nat) {t w : List UInt8} {l : Pts}, Xo m t l w → l ≠ [] → t.length < N → N ≤ 200 → impl_expand_fuel N l (m : Int) = some (xpR w)
 | 0, t, w, l, _, _, hN, _ => absurd hN (by omega)
 | N + 1, t, w, l, h, hn, hN, hN' => by
  have hlen := h.fo.len
  have e := xp_loop hm (φ := impl_expand_fuel N) (N := N) (fun {t1 w1 l1} h1 h2 h3 => xp_fuel hm N h1 h2 h3 (by omega)) h (by omega) l 0 [] (by simp) (by omega) (by omega) (by simp)
  have e : loopF (impl_expand_l3 (impl_expand_fuel N)) ((m : Int), (⟨#[]⟩ : ByteArray), l, ((l.length : Nat) : Int), (0 : Int), ()) = some (if w.length ≤ 1000 then .inr (B w, ()) else .inl ((⟨#[]⟩ : ByteArray), false, ())) := e
  show impl_expand_step (impl_expand_fuel N) l (m : Int) = _
  unfold impl_expand_step xpR
  rw [e]
  by_cases hw : w.length ≤ 1000
  ·rw [if_pos hw, if_pos hw]; rfl
  ·rw [if_neg hw, if_neg hw]; rfl
theorem expand_impl {m : Nat} (hm : 1 ≤ m) {t w : List UInt8} {l : Pts} (h : Xo m t l w) (hl : l ≠ []) (h120 : t.length ≤ 120) : impl_ExpandExpression (B t) (m : Int) = some (xpR w) := by
 have e := xp_fuel hm 200 h hl (by omega) (by omega)
 have e : impl_expand l (m : Int) = some (xpR w) := e
 simp only [impl_ExpandExpression, parts_is h.fo hl h120, Option.bind_some, Bool.not_true, cond_false, decide_eq_false (show ¬ (m : Int) < 1 by omega), List.drop_zero, List.take_length, e]
/-! ### the other side -/
end Go.Proofs.YtfdhmmnffahhgaaGreat
