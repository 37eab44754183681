/- Decimal texts of numbers, and of lists of them: both sides tell the same. -/
import Derived.Test.YtgmgnijklampiaaDoorP82
set_option linter.unusedVariables false
set_option linter.unusedSimpArgs false
namespace Go.Proofs.YtgmgnijklampiaaDoor
open Go Go.Proofs.YtgmgnijklampiaaDoor.Am
theorem dig_is {d : Nat} (h : d < 10) : strOfNums [IntKind.wrap .u8 (IntKind.wrap .i64 ((48 : Int) + (d : Int)))] = BL [UInt8.ofNat (48 + d)] := by
 have : d = 0 ∨ d = 1 ∨ d = 2 ∨ d = 3 ∨ d = 4 ∨ d = 5 ∨ d = 6 ∨ d = 7 ∨ d = 8 ∨ d = 9 := by omega
 rcases this with rfl | rfl | rfl | rfl | rfl | rfl | rfl | rfl | rfl | rfl <;> rfl
theorem dd_small {u : Nat} (h : u < 10) : Lib.decDigits u = [UInt8.ofNat (48 + u)] := by rw [Lib.decDigits, dif_pos h]
theorem dd_big {u : Nat} (h : ¬ u < 10) : Lib.decDigits u = Lib.decDigits (u / 10) ++ [UInt8.ofNat (48 + u % 10)] := by rw [Lib.decDigits, dif_neg h]
theorem dd_len : ∀ (k u : Nat), u < 10 ^ (k + 1) → 0 < (Lib.decDigits u).length ∧ (Lib.decDigits u).length ≤ k + 1
 | 0, u, h => by
  rw [dd_small (by simpa using h)]
  simp
 | k + 1, u, h => by
  by_cases hu : u < 10
  ·rw [dd_small hu]
   simp
  ·have := dd_len k (u / 10) (by rw [Nat.pow_succ] at h; exact Nat.div_lt_of_lt_mul (by rw [Nat.mul_comm]; exact h))
   rw [dd_big hu, List.length_append]
   simp
   omega
theorem dec_in (φ : Int → Option ByteArray) : ∀ (k m : Nat) (v : List UInt8), m < 10 ^ (k + 1) → m ≤ 9223372036854775807 → v.length + k ≤ 1000 →
  ∃ (d : Nat) (r : List UInt8), loopF (spec_l13Dec_l6 φ) ((m : Int), BL v, ()) = some ((d : Int), BL r, ()) ∧ d < 10 ∧ UInt8.ofNat (48 + d) :: r = Lib.decDigits m ++ v ∧ r.length ≤ 1000
 | 0, m, v, hm, hm2, hv => by
  have hm : m < 10 := by simpa using hm
  refine ⟨m, v, ?_, hm, ?_, by omega⟩
  ·rw [loopF_eq]
   simp only [spec_l13Dec_l6, decide_eq_false (show ¬ (m : Int) > 9 by omega), cond_false, Option.bind_some]
  ·rw [dd_small hm]
   rfl
 | k + 1, m, v, hm, hm2, hv => by
  by_cases h9 : m < 10
  ·refine ⟨m, v, ?_, h9, ?_, by omega⟩
   ·rw [loopF_eq]
    simp only [spec_l13Dec_l6, decide_eq_false (show ¬ (m : Int) > 9 by omega), cond_false, Option.bind_some]
   ·rw [dd_small h9]
    rfl
  ·have hq : (m : Int).tdiv 10 = ((m / 10 : Nat) : Int) := rfl
   have hr : (m : Int).tmod 10 = ((m % 10 : Nat) : Int) := rfl
   obtain ⟨d, r, h1, h2, h3, h4⟩ := dec_in φ k (m / 10) (UInt8.ofNat (48 + m % 10) :: v) (by rw [Nat.pow_succ] at hm; exact Nat.div_lt_of_lt_mul (by rw [Nat.mul_comm]; exact hm)) (by omega) (by rw [List.length_cons]; omega)
   refine ⟨d, r, ?_, h2, ?_, h4⟩
   ·rw [loopF_eq]
    simp only [spec_l13Dec_l6, decide_eq_true (show (m : Int) > 9 by omega), cond_true, if_neg (show ¬ (10 : Int) = 0 by decide), List.drop_zero, List.take_succ_cons, List.take_zero, hq, hr, w64 (show (-9223372036854775808 : Int) ≤ ((m / 10 : Nat) : Int) by omega) (by omega), dig_is (show m % 10 < 10 by omega), BL_app]
    rw [if_pos (by rw [BL_size, BL_size]; simp only [List.length_cons, List.length_nil]; omega)]
    exact h1
   ·rw [h3, dd_big h9, List.append_assoc]
    rfl
theorem dec_pos (φ : Int → Option ByteArray) {n : Int} (h0 : 0 ≤ n) (h1 : n ≤ 9223372036854775807) : spec_l13Dec_step φ n = some (BL (Lib.decDigits n.toNat)) := by
 obtain ⟨d, r, g1, g2, g3, g4⟩ := dec_in φ 18 n.toNat [] (by omega) (by omega) (by simp)
 rw [Int.toNat_of_nonneg h0] at g1
 have g1 : loopF (spec_l13Dec_l6 φ) (n, (⟨#[]⟩ : ByteArray), ()) = some ((d : Int), BL r, ()) := g1
 simp only [spec_l13Dec_step, decide_eq_false (show ¬ n < -9223372036854775807 by omega), cond_false, decide_eq_false (show ¬ n < 0 by omega), g1, Option.bind_some, List.drop_zero, List.take_succ_cons, List.take_zero, dig_is g2, BL_app]
 rw [if_pos (by rw [BL_size, BL_size]; simp only [List.length_cons, List.length_nil]; omega)]
 rw [List.append_nil] at g3
 rw [← g3]
 rfl
theorem least_text : Lib.itoa (-9223372036854775808) = [45, 57, 50, 50, 51, 51, 55, 50, 48, 51, 54, 56, 53, 52, 55, 55, 53, 56, 48, 56] := by
 have e : Lib.itoa (-9223372036854775808) = 45 :: Lib.decDigits 9223372036854775808 := rfl
 rw [e]
 simp [Lib.decDigits]
theorem dec_is {n : Int} (h0 : -9223372036854775808 ≤ n) (h1 : n ≤ 9223372036854775807) : spec_l13Dec n = some (BL (Lib.itoa n)) := by
 show spec_l13Dec_step (spec_l13Dec_fuel 199) n = _
 by_cases hp : 0 ≤ n
 ·rw [dec_pos _ hp h1]
  unfold Lib.itoa
  rw [if_neg (by omega)]
 ·by_cases hm : n = -9223372036854775808
  ·subst hm
   rw [least_text]
   rfl
  ·have hk : spec_l13Dec_fuel 199 (0 - n) = some (BL (Lib.decDigits (0 - n).toNat)) := dec_pos (spec_l13Dec_fuel 198) (by omega) (by omega)
   have hl := (dd_len 18 (0 - n).toNat (by omega)).2
   simp only [spec_l13Dec_step, decide_eq_false (show ¬ n < -9223372036854775807 by omega), cond_false, decide_eq_true (show n < 0 by omega), cond_true, w64 (show -9223372036854775808 ≤ 0 - n by omega) (by omega), hk, Option.bind_some]
   rw [if_pos (by rw [BL_size]; show 1 + _ ≤ _; omega)]
   unfold Lib.itoa
   rw [if_pos (by omega), show (0 - n).toNat = n.natAbs by omega]
   exact congrArg some (BL_app [45] _)
theorem itoa_len {n : Int} (h0 : -9223372036854775808 ≤ n) (h1 : n ≤ 9223372036854775807) : 0 < (Lib.itoa n).length ∧ (Lib.itoa n).length ≤ 20 := by
 unfold Lib.itoa
 split
 ·have := dd_len 18 n.natAbs (by omega)
  rw [List.length_cons]
  omega
 ·have := dd_len 18 n.toNat (by omega)
  omega
/-! ### lists of numbers -/
def numsT (xs : List Int) : List UInt8 := Lib.join (xs.map Lib.itoa) [32]
theorem join_snoc (L : List (List UInt8)) (x : List UInt8) (h : L ≠ []) : Lib.join (L ++ [x]) [32] = Lib.join L [32] ++ [32] ++ x := by
 cases L with
 | nil => exact absurd rfl h
 | cons y r =>
  rw [List.cons_append, Lib.join_cons, Lib.join_cons]
  unfold Lib.joinTail
  simp
def Num (xs : List Int) : Prop := ∀ x ∈ xs, -9223372036854775808 ≤ x ∧ x ≤ 9223372036854775807
theorem Num.at {xs : List Int} (h : Num xs) {i : Nat} (hi : i < xs.length) : -9223372036854775808 ≤ xs.getD i 0 ∧ xs.getD i 0 ≤ 9223372036854775807 := by
 rw [getD_get 0 hi]
 exact h _ (List.getElem_mem hi)
theorem Num.take {xs : List Int} (h : Num xs) (i : Nat) : Num (xs.take i) := fun x hx => h x (List.mem_of_mem_take hx)
theorem numsT_len : ∀ {xs : List Int}, Num xs → (numsT xs).length ≤ 21 * xs.length := by
 have key : ∀ (xs : List Int), Num xs → (Lib.joinTail [32] (xs.map Lib.itoa)).length ≤ 21 * xs.length := by
  intro xs
  induction xs with
  | nil => intro _; simp [Lib.joinTail]
  | cons x xs ih =>
   intro h
   have h1 := ih fun y hy => h y (List.mem_cons_of_mem _ hy)
   obtain ⟨a, b⟩ := h x List.mem_cons_self
   have h2 := (itoa_len a b).2
   unfold Lib.joinTail at h1 ⊢
   rw [List.map_cons, List.map_cons, List.flatten_cons, List.length_append, List.length_append, List.length_cons]
   simp only [List.length_cons, List.length_nil]
   omega
 intro xs h
 cases xs with
 | nil => show (Lib.join [] [32]).length ≤ _; rw [Lib.join_nil]; simp
 | cons x xs =>
  have h1 := key xs fun y hy => h y (List.mem_cons_of_mem _ hy)
  obtain ⟨a, b⟩ := h x List.mem_cons_self
  have h2 := (itoa_len a b).2
  unfold numsT
  rw [List.map_cons, Lib.join_cons, List.length_append, List.length_cons]
  omega
theorem spec_nums {xs : List Int} (h : Num xs) (hl : xs.length ≤ 1048576) : spec_l3Numbers xs = some (BL (numsT xs)) := by
 obtain ⟨r, g1, g2⟩ := loop_inv (f := spec_l3Numbers_l3) xs.length (fun i (o : ByteArray) => (o, xs, (xs.length : Int), (i : Int), ())) (fun i _ => BL (numsT (xs.take (i + 1)))) (fun o => (o, ())) (fun i o => o = BL (numsT (xs.take i)))
  (fun i o hi ho => rfl)
  (fun i o hi ho => by
   obtain ⟨a, b⟩ := h.at hi
   have hd := dec_is a b
   have h2 := (itoa_len a b).2
   have h3 := numsT_len (h.take i)
   rw [List.length_take] at h3
   have h3' : (numsT (xs.take i)).length ≤ 22020096 := by omega
   subst ho
   simp only [spec_l3Numbers_l3, lt_t hi, cond_true, if_pos (in_t hi), Int.toNat_natCast, hd, Option.bind_some, w64_succ hi (show xs.length ≤ 9223372036854775807 by omega)]
   by_cases h0 : i = 0
   ·subst h0
    have e0 : numsT (xs.take 0) ++ Lib.itoa xs[0] = numsT (xs.take 0 ++ [xs[0]]) := by
     unfold numsT
     rw [List.take_zero, List.nil_append, List.map_nil, Lib.join_nil, List.nil_append, List.map_cons, List.map_nil, Lib.join_one]
    simp only [decide_eq_false (show ¬ ((0 : Nat) : Int) > 0 by omega), cond_false]
    rw [if_pos (by rw [BL_size, BL_size]; omega), BL_app, take_snoc hi, getD_get 0 hi, e0]
   ·have hne : (xs.take i).map Lib.itoa ≠ [] := by
     intro e
     have := congrArg List.length e
     rw [List.length_map, List.length_take, List.length_nil] at this
     omega
    have c1 : (BL (numsT (xs.take i))).size + (⟨#[(32 : UInt8)]⟩ : ByteArray).size ≤ 9223372036854775807 := by
     rw [BL_size]
     show _ + 1 ≤ _
     omega
    have e32 : (BL (numsT (xs.take i)) ++ (⟨#[(32 : UInt8)]⟩ : ByteArray)) = BL (numsT (xs.take i) ++ [32]) := BL_app _ [32]
    simp only [decide_eq_true (show (i : Int) > 0 by omega), cond_true, if_pos c1, e32]
    rw [if_pos (by rw [BL_size, BL_size, List.length_append]; simp only [List.length_cons, List.length_nil]; omega), BL_app, take_snoc hi, getD_get 0 hi]
    unfold numsT
    rw [List.map_append, List.map_cons, List.map_nil, join_snoc _ _ hne])
  (fun o ho => by simp only [spec_l3Numbers_l3, lt_f, cond_false])
  (⟨#[]⟩ : ByteArray) rfl
 have g1 : loopF spec_l3Numbers_l3 ((⟨#[]⟩ : ByteArray), xs, (xs.length : Int), (0 : Int), ()) = _ := g1
 simp only [spec_l3Numbers, g1, Option.bind_some]
 rw [g2, List.take_length]
theorem impl_nums {xs : List Int} (h : Num xs) (hl : xs.length ≤ 1048576) : impl_numbers xs = some (BL (numsT xs)) := by
 obtain ⟨r, g1, g2⟩ := loop_inv (f := impl_numbers_l3) xs.length (fun i (o : List ByteArray) => (o, xs, (xs.length : Int), (i : Int), ())) (fun i _ => (xs.take (i + 1)).map fun x => BL (Lib.itoa x)) (fun o => (o, ())) (fun i o => o = (xs.take i).map fun x => BL (Lib.itoa x))
  (fun i o hi ho => rfl)
  (fun i o hi ho => by
   obtain ⟨a, b⟩ := h.at hi
   have hd : strconv_Itoa (xs.getD i 0) = some (BL (Lib.itoa (xs.getD i 0))) := by
    show itoaS _ = _
    unfold itoaS
    rw [if_pos ⟨a, b⟩, BL_mk]
   have hol : o.length ≤ 1048576 := by rw [ho, List.length_map, List.length_take]; omega
   rw [take_snoc hi, List.map_append, ← ho]
   simp only [impl_numbers_l3, lt_t hi, cond_true, if_pos (in_t hi), Int.toNat_natCast, hd, Option.bind_some, Nat.zero_add, List.drop_zero, show ∀ z : ByteArray, List.take 1 [z] = [z] from fun _ => rfl, w64_succ hi (show xs.length ≤ 9223372036854775807 by omega)]
   rw [if_pos ⟨trivial, by simp; omega⟩, List.take_of_length_le (by simp), getD_get 0 hi]
   rfl)
  (fun o ho => by simp only [impl_numbers_l3, lt_f, cond_false, List.drop_zero, List.take_length])
  [] rfl
 have g1 : loopF impl_numbers_l3 ([], xs, (xs.length : Int), (0 : Int), ()) = _ := g1
 rw [List.take_length] at g2
 have hj : strings_Join (xs.map fun x => BL (Lib.itoa x)) (⟨#[(32 : UInt8)]⟩ : ByteArray) = some (BL (numsT xs)) := by
  show joinS _ _ = _
  have e : (xs.map fun x => BL (Lib.itoa x)).map (·.data.toList) = xs.map Lib.itoa := by
   rw [List.map_map]
   rfl
  have hn := numsT_len h
  unfold joinS
  rw [e]
  have e2 : Lib.join (xs.map Lib.itoa) (⟨#[(32 : UInt8)]⟩ : ByteArray).data.toList = numsT xs := rfl
  rw [e2, if_pos ⟨by rw [List.length_map]; omega, by omega⟩, BL_mk]
 simp only [impl_numbers, List.drop_zero, List.take_zero, g1, g2, Option.bind_some, List.take_length, hj]
def fmtN (xs : List Int) : ByteArray := if xs = [] then BL [45] else BL (numsT xs)
theorem fmtN_both {xs : List Int} (h : Num xs) (hl : xs.length ≤ 1048576) : spec_FormatNumbers xs = some (fmtN xs) ∧ impl_FormatNumbers xs = some (fmtN xs) := by
 unfold fmtN
 by_cases h0 : xs = []
 ·subst h0
  exact ⟨rfl, rfl⟩
 ·have e : (((xs.length : Nat) : Int) == 0) = false := by
   have : xs.length ≠ 0 := fun e => h0 (List.length_eq_zero_iff.1 e)
   rw [beq_eq_false_iff_ne]
   omega
  rw [if_neg h0]
  simp only [spec_FormatNumbers, impl_FormatNumbers, e, cond_false, spec_nums h hl, impl_nums h hl, Option.bind_some]
  exact ⟨trivial, trivial⟩
end Go.Proofs.YtgmgnijklampiaaDoor
