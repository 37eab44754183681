/- Texts tell lists and words apart; the law of texts. -/
import Derived.Test.YtgmgnijklampiaaDoorP89
import Derived.Test.YtgmgnijklampiaaDoorP59
import Derived.Test.YtgmgnijklampiaaDoorP40
set_option linter.unusedVariables false
set_option linter.unusedSimpArgs false
namespace Go.Proofs.YtgmgnijklampiaaDoor
open Go Go.Proofs.YtgmgnijklampiaaDoor.Am
/-! ### decimal texts differ -/
theorem dig_nat {d : Nat} (h : d < 10) : (UInt8.ofNat (48 + d)).toNat = 48 + d := by
 have : d = 0 ∨ d = 1 ∨ d = 2 ∨ d = 3 ∨ d = 4 ∨ d = 5 ∨ d = 6 ∨ d = 7 ∨ d = 8 ∨ d = 9 := by omega
 rcases this with rfl | rfl | rfl | rfl | rfl | rfl | rfl | rfl | rfl | rfl <;> rfl
theorem dd_byte (u : Nat) : ∀ b ∈ Lib.decDigits u, 48 ≤ b.toNat ∧ b.toNat ≤ 57 := by
 induction u using Nat.strongRecOn with
 | ind u ih =>
  intro b hb
  by_cases hu : u < 10
  ·rw [dd_small hu] at hb
   rw [List.mem_singleton.1 hb, dig_nat hu]
   omega
  ·rw [dd_big hu] at hb
   rcases List.mem_append.1 hb with hb | hb
   ·exact ih (u / 10) (by omega) b hb
   ·rw [List.mem_singleton.1 hb, dig_nat (by omega)]
    omega
def valD (l : List UInt8) : Nat := l.foldl (fun a b => a * 10 + (b.toNat - 48)) 0
theorem valD_dd (u : Nat) : valD (Lib.decDigits u) = u := by
 induction u using Nat.strongRecOn with
 | ind u ih =>
  by_cases hu : u < 10
  ·rw [dd_small hu]
   show 0 * 10 + ((UInt8.ofNat (48 + u)).toNat - 48) = u
   rw [dig_nat hu]
   omega
  ·have h1 := ih (u / 10) (by omega)
   rw [dd_big hu]
   unfold valD at h1 ⊢
   rw [List.foldl_append, h1]
   show u / 10 * 10 + ((UInt8.ofNat (48 + u % 10)).toNat - 48) = u
   rw [dig_nat (by omega)]
   omega
theorem dd_inj {u v : Nat} (h : Lib.decDigits u = Lib.decDigits v) : u = v := by rw [← valD_dd u, h, valD_dd]
theorem dd_ne (u : Nat) : Lib.decDigits u ≠ [] := by
 by_cases hu : u < 10
 ·rw [dd_small hu]; simp
 ·rw [dd_big hu]; simp
theorem itoa_inj {n m : Int} (h : Lib.itoa n = Lib.itoa m) : n = m := by
 have first : ∀ (u v : Nat) , 45 :: Lib.decDigits u ≠ Lib.decDigits v := by
  intro u v h
  have := dd_byte v 45 (by rw [← h]; exact List.mem_cons_self)
  exact absurd this.1 (by decide)
 unfold Lib.itoa at h
 split at h
 ·split at h
  ·have := dd_inj (List.cons.inj h).2
   omega
  ·exact absurd h (first _ _)
 ·split at h
  ·exact absurd h.symm (first _ _)
  ·have := dd_inj h
   omega
theorem itoa_byte {n : Int} : ∀ b ∈ Lib.itoa n, b ≠ 32 := by
 intro b hb
 have : b = 45 ∨ (48 ≤ b.toNat ∧ b.toNat ≤ 57) := by
  unfold Lib.itoa at hb
  split at hb
  ·rcases List.mem_cons.1 hb with rfl | hb
   ·exact .inl rfl
   ·exact .inr (dd_byte _ b hb)
  ·exact .inr (dd_byte _ b hb)
 rintro rfl
 rcases this with h | h
 ·exact absurd h (by decide)
 ·exact absurd h.1 (by decide)
theorem itoa_dash {n : Int} (t : List UInt8) : Lib.itoa n ++ t ≠ [45] := by
 intro h
 unfold Lib.itoa at h
 split at h
 ·have h : Lib.decDigits n.natAbs ++ t = [] := (List.cons.inj h).2
  rw [List.append_eq_nil_iff] at h
  exact dd_ne _ h.1
 ·have hm := List.mem_cons_self (a := (45 : UInt8)) (l := [])
  obtain ⟨b, r, hbr⟩ : ∃ b r, Lib.decDigits n.toNat = b :: r := by
   cases hd : Lib.decDigits n.toNat with
   | nil => exact absurd hd (dd_ne _)
   | cons b r => exact ⟨b, r, rfl⟩
  have h2 := dd_byte n.toNat b (by rw [hbr]; exact List.mem_cons_self)
  rw [hbr] at h
  obtain ⟨rfl, _⟩ := List.cons.inj h
  exact absurd h2.1 (by decide)
theorem cut_eq : ∀ {x y t s : List UInt8}, (∀ b ∈ x, b ≠ 32) → (∀ b ∈ y, b ≠ 32) → (t = [] ∨ ∃ r, t = 32 :: r) → (s = [] ∨ ∃ r, s = 32 :: r) → x ++ t = y ++ s → x = y ∧ t = s
 | [], [], _, _, _, _, _, _, h => ⟨rfl, h⟩
 | [], b :: y, t, s, _, hy, ht, _, h => by
  rcases ht with rfl | ⟨r, rfl⟩
  ·cases h
  ·have := (List.cons.inj h).1
   exact absurd this.symm (hy b List.mem_cons_self)
 | a :: x, [], t, s, hx, _, _, hs, h => by
  rcases hs with rfl | ⟨r, rfl⟩
  ·cases h
  ·have := (List.cons.inj h).1
   exact absurd this (hx a List.mem_cons_self)
 | a :: x, b :: y, t, s, hx, hy, ht, hs, h => by
  obtain ⟨h1, h2⟩ := List.cons.inj h
  obtain ⟨h3, h4⟩ := cut_eq (fun c hc => hx c (List.mem_cons_of_mem _ hc)) (fun c hc => hy c (List.mem_cons_of_mem _ hc)) ht hs h2
  exact ⟨by rw [h1, h3], h4⟩
theorem tail_form (xs : List Int) : Lib.joinTail [32] (xs.map Lib.itoa) = [] ∨ ∃ r, Lib.joinTail [32] (xs.map Lib.itoa) = 32 :: r := by
 cases xs with
 | nil => exact .inl rfl
 | cons x xs => exact .inr ⟨_, rfl⟩
theorem tail_inj : ∀ {xs ys : List Int}, Lib.joinTail [32] (xs.map Lib.itoa) = Lib.joinTail [32] (ys.map Lib.itoa) → xs = ys
 | [], [], _ => rfl
 | [], y :: ys, h => by cases h
 | x :: xs, [], h => by cases h
 | x :: xs, y :: ys, h => by
  have h : Lib.itoa x ++ Lib.joinTail [32] (xs.map Lib.itoa) = Lib.itoa y ++ Lib.joinTail [32] (ys.map Lib.itoa) := (List.cons.inj h).2
  obtain ⟨h1, h2⟩ := cut_eq itoa_byte itoa_byte (tail_form xs) (tail_form ys) h
  rw [itoa_inj h1, tail_inj h2]
theorem numsT_cons (x : Int) (xs : List Int) : numsT (x :: xs) = Lib.itoa x ++ Lib.joinTail [32] (xs.map Lib.itoa) := by
 unfold numsT
 rw [List.map_cons, Lib.join_cons]
theorem fmtN_list (xs : List Int) : (fmtN xs).data.toList = if xs = [] then [45] else numsT xs := by
 unfold fmtN
 split <;> rfl
theorem fmtN_inj {xs ys : List Int} (h : (fmtN xs).data.toList = (fmtN ys).data.toList) : xs = ys := by
 rw [fmtN_list, fmtN_list] at h
 cases xs with
 | nil =>
  cases ys with
  | nil => rfl
  | cons y ys =>
   rw [if_pos rfl, if_neg (by simp), numsT_cons] at h
   exact absurd h.symm (itoa_dash _)
 | cons x xs =>
  cases ys with
  | nil =>
   rw [if_neg (by simp), if_pos rfl, numsT_cons] at h
   exact absurd h (itoa_dash _)
  | cons y ys =>
   rw [if_neg (by simp), if_neg (by simp), numsT_cons, numsT_cons] at h
   obtain ⟨h1, h2⟩ := cut_eq itoa_byte itoa_byte (tail_form xs) (tail_form ys) h
   rw [itoa_inj h1, tail_inj h2]
theorem fmtN_beq (xs ys : List Int) : ((fmtN xs).toList == (fmtN ys).toList) = decide (xs = ys) := by
 rw [toList_bytes, toList_bytes, Bool.eq_iff_iff, beq_iff_eq, decide_eq_true_eq]
 exact ⟨fmtN_inj, fun h => by rw [h]⟩
/-! ### two lists are the same -/
theorem daSameG {l m : List Int} (hl : l.length ≤ 1000000) (hm : m.length ≤ 1000000) : laws_daSame l m = some (decide (l = m)) := by
 have hmin : (if ((m.length : Nat) : Int) < ((l.length : Nat) : Int) then ((m.length : Nat) : Int) else ((l.length : Nat) : Int)) = ((min l.length m.length : Nat) : Int) := by
  split <;> omega
 have g := loop_find (f := laws_daSame_l2) (fun i => (l, m, ((min l.length m.length : Nat) : Int), (i : Int), ())) (min l.length m.length) (fun i => decide (l.getD i 0 ≠ m.getD i 0)) (fun i => Sum.inl (false, ())) (Sum.inr (l, m, ()))
  (fun i hi => by
   simp only [laws_daSame_l2, lt_t hi, cond_true, if_pos (in_t (show i < l.length by omega)), if_pos (in_t (show i < m.length by omega)), Int.toNat_natCast, w64_succ hi (show min l.length m.length ≤ 9223372036854775807 by omega)]
   by_cases e : l.getD i 0 = m.getD i 0
   ·rw [show (l.getD i 0 != m.getD i 0) = false from bne_eq_false_iff_eq.2 e, decide_eq_false (fun h => h e)]
    rfl
   ·rw [show (l.getD i 0 != m.getD i 0) = true by simpa using e, decide_eq_true e]
    rfl)
  (by simp only [laws_daSame_l2, lt_f, cond_false])
 have g : loopF laws_daSame_l2 (l, m, ((min l.length m.length : Nat) : Int), (0 : Int), ()) = _ := g
 unfold laws_daSame
 rw [hmin, g]
 cases hf : (List.range (min l.length m.length)).find? fun i => decide (l.getD i 0 ≠ m.getD i 0) with
 | some i =>
  have h1 := List.find?_some hf
  have h1 := of_decide_eq_true h1
  simp only [Option.bind_some]
  rw [decide_eq_false (fun e => h1 (by rw [e]))]
 | none =>
  have h1 := List.find?_eq_none.1 hf
  simp only [Option.bind_some]
  by_cases hlm : l.length = m.length
  ·have e : l = m := by
    refine List.ext_getElem hlm fun i h2 h3 => ?_
    have h4 := h1 i (List.mem_range.2 (by omega))
    rw [← getD_get 0 h2, ← getD_get 0 h3]
    simpa using h4
   rw [decide_eq_true e, hlm]
   simp
  ·rw [decide_eq_false (fun e => hlm (by rw [e]))]
   have : (((l.length : Nat) : Int) == ((m.length : Nat) : Int)) = false := by
    rw [beq_eq_false_iff_ne]
    omega
   rw [this]
/-! ### words -/
def shw (w : ByteArray) : ByteArray := bif w.toList == (⟨#[]⟩ : ByteArray).toList then (⟨#[(45 : UInt8)]⟩ : ByteArray) else w
theorem shw_both (w : ByteArray) : impl_ShowWord w = some (shw w) ∧ spec_ShowWord w = some (shw w) := by
 unfold shw
 constructor
 ·simp only [impl_ShowWord]
  cases w.toList == (⟨#[]⟩ : ByteArray).toList <;> rfl
 ·simp only [spec_ShowWord]
  cases w.toList == (⟨#[]⟩ : ByteArray).toList <;> rfl
theorem shw_beq {w v : ByteArray} (hw : ∀ b ∈ w.data.toList, b ≠ 45) (hv : ∀ b ∈ v.data.toList, b ≠ 45) : ((shw w).toList == (shw v).toList) = (w.toList == v.toList) := by
 have e : ∀ w : ByteArray, (∀ b ∈ w.data.toList, b ≠ 45) → (shw w).data.toList = if w.data.toList = [] then [45] else w.data.toList := by
  intro w _
  unfold shw
  rw [toList_bytes, toList_bytes]
  by_cases h : w.data.toList = []
  ·rw [if_pos h, h]
   rfl
  ·rw [if_neg h, show (w.data.toList == (⟨#[]⟩ : ByteArray).data.toList) = false by simpa using h]
   rfl
 rw [toList_bytes, toList_bytes, toList_bytes, toList_bytes, e w hw, e v hv]
 have n1 : w.data.toList ≠ [45] := fun h => hw 45 (by rw [h]; exact List.mem_cons_self) rfl
 have n2 : v.data.toList ≠ [45] := fun h => hv 45 (by rw [h]; exact List.mem_cons_self) rfl
 generalize w.data.toList = x at n1
 generalize v.data.toList = y at n2
 rw [Bool.eq_iff_iff, beq_iff_eq, beq_iff_eq]
 by_cases hx : x = []
 ·by_cases hy : y = []
  ·rw [if_pos hx, if_pos hy, hx, hy]
   simp
  ·rw [if_pos hx, if_neg hy, hx]
   exact ⟨fun h => absurd h.symm n2, fun h => absurd h.symm hy⟩
 ·by_cases hy : y = []
  ·rw [if_neg hx, if_pos hy, hy]
   exact ⟨fun h => absurd h n1, fun h => absurd h hx⟩
  ·rw [if_neg hx, if_neg hy]
theorem l4Draw2_is {N : Int} {d : Dr} (h : DrOk N d) (hN : N ≤ 80000) {m : Int} (h0 : 0 ≤ m) (hm : m ≤ 60) : ∃ t d', spec_l4Draw d m = some (t, d', ()) ∧ (t.size : Int) ≤ m ∧ (∀ b ∈ t.data.toList, b ≠ 45) ∧ DrOk (N + 100) d' := by
 obtain ⟨b, k⟩ := d
 have w1 : IntKind.wrap .i64 (m + 1) = m + 1 := w64 (by omega) (by omega)
 obtain ⟨r0, p0, a1, a2, _⟩ := pick_is h (by omega) (n := m + 1) (by omega)
 have a2 := a2 (by omega)
 have s1 := h.next
 obtain ⟨r, g1, g2⟩ := loop_rel (f := spec_l4Draw_l3) r0.toNat (fun i (s : Dr × ByteArray) => ((s.1.1, s.1.2, ()), s.2, r0, (i : Int), ())) (fun s => ((s.1.1, s.1.2, ()), s.2, ())) (fun i s => DrOk (N + 1 + i) s.1 ∧ s.2.size ≤ i ∧ ∀ b ∈ s.2.data.toList, b ≠ 45)
  (fun i s hi hs => by
   obtain ⟨⟨b, k⟩, t⟩ := s
   obtain ⟨hs, ht, hb⟩ := hs
   have hs : DrOk (N + 1 + i) (b, k) := hs
   have ht : t.size ≤ i := ht
   have hb : ∀ b ∈ t.data.toList, b ≠ 45 := hb
   obtain ⟨v, hv, p1⟩ := of_is hs (by omega) (l := List.take 2 (List.drop 0 [(⟨#[(97 : UInt8)]⟩ : ByteArray), (⟨#[(98 : UInt8)]⟩ : ByteArray)])) (by decide) (by decide)
   have hvs : v.size = 1 ∧ ∀ b ∈ v.data.toList, b ≠ 45 := by
    have hv : v ∈ [(⟨#[(97 : UInt8)]⟩ : ByteArray), (⟨#[(98 : UInt8)]⟩ : ByteArray)] := hv
    rcases List.mem_cons.1 hv with rfl | hv
    ·exact ⟨rfl, by decide⟩
    ·rw [List.mem_singleton.1 hv]; exact ⟨rfl, by decide⟩
   refine ⟨((b, k + 1), t ++ v), ?_, hs.next.mono (by omega), by show (t ++ v).size ≤ i + 1; rw [ByteArray.size_append]; omega, fun c hc => ?_⟩
   ·simp only [spec_l4Draw_l3, show decide ((i : Int) < r0) = true from decide_eq_true (by omega), cond_true, p1, Option.bind_some, w64_succ hi (show r0.toNat ≤ 9223372036854775807 by omega)]
    rw [if_pos (by omega)]
   ·have hc : c ∈ (t ++ v).data.toList := hc
    rw [ByteArray.data_append, Array.toList_append] at hc
    rcases List.mem_append.1 hc with hc | hc
    ·exact hb c hc
    ·exact hvs.2 c hc)
  (fun s hs => by simp only [spec_l4Draw_l3, show decide (((r0.toNat : Nat) : Int) < r0) = false from decide_eq_false (by omega), cond_false])
  ((b, k + 1), (⟨#[]⟩ : ByteArray)) ⟨s1.mono (by omega), Nat.le_refl _, by intro b hb; cases hb⟩
 obtain ⟨⟨b', k'⟩, t⟩ := r
 have g1 : loopF spec_l4Draw_l3 ((b, k + 1, ()), (⟨#[]⟩ : ByteArray), r0, (0 : Int), ()) = some ((b', k', ()), t, ()) := g1
 refine ⟨t, (b', k'), ?_, by have : t.size ≤ r0.toNat := g2.2.1; omega, g2.2.2, g2.1.mono (by omega)⟩
 simp only [spec_l4Draw, w1, p0, Option.bind_some, g1]
theorem l4Word2_is {N : Int} {d : Dr} (h : DrOk N d) (hN : N ≤ 70000) : ∃ w d', spec_l4Word d = some (w, d', ()) ∧ ∀ b ∈ w.data.toList, b ≠ 45 := by
 obtain ⟨b, k⟩ := d
 obtain ⟨r0, p0, _, _, _⟩ := pick_is h (by omega) (n := 24) (by omega)
 have s1 := h.next
 unfold spec_l4Word
 dsimp only
 rw [p0]
 simp only [Option.bind_some]
 cases (r0 == 0) with
 | true =>
  obtain ⟨w, ⟨b1, k1⟩, p1, hw, hb, s2⟩ := l4Draw2_is s1 (by omega) (m := 4) (by omega) (by omega)
  obtain ⟨v, hv, p2⟩ := of_is s2 (by omega) (l := List.take 3 (List.drop 0 [(⟨#[(99 : UInt8)]⟩ : ByteArray), (⟨#[(32 : UInt8)]⟩ : ByteArray), (⟨#[(65 : UInt8)]⟩ : ByteArray)])) (by decide) (by decide)
  have hvs : v.size = 1 ∧ ∀ b ∈ v.data.toList, b ≠ 45 := by
   have hv : v ∈ [(⟨#[(99 : UInt8)]⟩ : ByteArray), (⟨#[(32 : UInt8)]⟩ : ByteArray), (⟨#[(65 : UInt8)]⟩ : ByteArray)] := hv
   rcases List.mem_cons.1 hv with rfl | hv
   ·exact ⟨rfl, by decide⟩
   ·rcases List.mem_cons.1 hv with rfl | hv
    ·exact ⟨rfl, by decide⟩
    ·rw [List.mem_singleton.1 hv]; exact ⟨rfl, by decide⟩
  rw [cond_true, p1]
  simp only [Option.bind_some]
  rw [p2]
  simp only [Option.bind_some]
  rw [if_pos (by omega)]
  refine ⟨_, _, rfl, fun c hc => ?_⟩
  rw [ByteArray.data_append, Array.toList_append] at hc
  rcases List.mem_append.1 hc with hc | hc
  ·exact hb c hc
  ·exact hvs.2 c hc
 | false =>
  obtain ⟨w, ⟨b1, k1⟩, p1, hw, hb, s2⟩ := l4Draw2_is s1 (by omega) (m := 9) (by omega) (by omega)
  rw [cond_false, p1]
  exact ⟨w, (b1, k1), rfl, hb⟩
theorem drawShow_is {c : List Int} (hc : ∀ x ∈ c, 0 ≤ x ∧ x ≤ 255) : ∃ w, spec_DrawShowWord c = some w ∧ ∀ b ∈ w.data.toList, b ≠ 45 := by
 obtain ⟨⟨b, k⟩, p0, s0⟩ := l13Open_is hc
 obtain ⟨w, ⟨b1, k1⟩, p1, p2⟩ := l4Word2_is s0 (by omega)
 refine ⟨w, ?_, p2⟩
 unfold spec_DrawShowWord
 rw [p0]
 simp only [Option.bind_some]
 rw [p1]
 rfl
/-! ### lists that are drawn -/
theorem drawNums_is {c : List Int} (hc : ∀ x ∈ c, 0 ≤ x ∧ x ≤ 255) : ∃ xs, spec_DrawFormatNumbers c = some xs ∧ Num xs ∧ xs.length ≤ 5 := by
 obtain ⟨⟨b, k⟩, p0, s0⟩ := l13Open_is hc
 obtain ⟨r0, q0, a1, a2, _⟩ := pick_is s0 (by omega) (n := 5) (by omega)
 have a2 := a2 (by omega)
 have s1 := s0.next
 obtain ⟨r, g1, g2⟩ := loop_rel (f := spec_DrawFormatNumbers_l4) r0.toNat (fun i (s : Dr × List Int) => ((s.1.1, s.1.2, ()), s.2, r0, (i : Int), ())) (fun s => (s.2, ())) (fun i s => DrOk (1 + i) s.1 ∧ s.2.length = i ∧ Num s.2)
  (fun i s hi hs => by
   obtain ⟨⟨b, k⟩, t⟩ := s
   obtain ⟨hs, ht, hn⟩ := hs
   have hs : DrOk (1 + i) (b, k) := hs
   have ht : t.length = i := ht
   obtain ⟨v, hv, p1⟩ := num_is hs (by omega) (l := List.take 7 (List.drop 0 [(0 : Int), (1 : Int), (-1 : Int), (12 : Int), (3 : Int), (-9223372036854775808 : Int), (1000000 : Int)])) (by decide) (by decide)
   have hvr : -9223372036854775808 ≤ v ∧ v ≤ 9223372036854775807 := by
    have hv : v ∈ [(0 : Int), (1 : Int), (-1 : Int), (12 : Int), (3 : Int), (-9223372036854775808 : Int), (1000000 : Int)] := hv
    simp only [List.mem_cons, List.not_mem_nil, or_false] at hv
    omega
   refine ⟨((b, k + 1), t ++ [v]), ?_, hs.next.mono (by omega), by show (t ++ [v]).length = i + 1; rw [List.length_append, ht]; rfl, fun x hx => ?_⟩
   ·simp only [spec_DrawFormatNumbers_l4, show decide ((i : Int) < r0) = true from decide_eq_true (by omega), cond_true]
    rw [p1]
    simp only [Option.bind_some, Nat.zero_add, List.drop_zero, show List.take 1 [v] = [v] from rfl, w64_succ hi (show r0.toNat ≤ 9223372036854775807 by omega)]
    rw [if_pos ⟨trivial, by simp; omega⟩, List.take_of_length_le (by simp)]
   ·have hx : x ∈ t ++ [v] := hx
    rcases List.mem_append.1 hx with hx | hx
    ·exact hn x hx
    ·rw [List.mem_singleton.1 hx]; exact hvr)
  (fun s hs => by simp only [spec_DrawFormatNumbers_l4, show decide (((r0.toNat : Nat) : Int) < r0) = false from decide_eq_false (by omega), cond_false, List.drop_zero, List.take_length])
  ((b, k + 1), []) ⟨s1.mono (by omega), rfl, fun x hx => by cases hx⟩
 obtain ⟨⟨b', k'⟩, t⟩ := r
 have g1 : loopF spec_DrawFormatNumbers_l4 ((b, k + 1, ()), [], r0, (0 : Int), ()) = some (t, ()) := g1
 refine ⟨t, ?_, g2.2.2, by have : t.length = r0.toNat := g2.2.1; omega⟩
 unfold spec_DrawFormatNumbers
 rw [p0]
 simp only [Option.bind_some]
 rw [q0]
 simp only [Option.bind_some, List.drop_zero, List.take_zero]
 rw [g1]
 simp only [Option.bind_some, List.drop_zero, List.take_length]
/-! ### elements that are drawn -/
theorem l6Bad_is {N : Int} {d : Dr} (h : DrOk N d) (hN : N ≤ 80000) {m : Int} {A : List Int} (h1 : 1 ≤ A.length) (h2 : A.length ≤ 16) : ∃ s B d', spec_l6Bad d (m, A) = some ((s, B), d', ()) ∧ B.length ≤ 16 ∧ DrOk (N + 2) d' := by
 obtain ⟨b, k⟩ := d
 obtain ⟨r0, p0, _, _, _⟩ := pick_is h (by omega) (n := 24) (by omega)
 have s1 : DrOk (N + 1) (b, k + 1) := h.next
 unfold spec_l6Bad
 dsimp only
 rw [p0]
 simp only [Option.bind_some]
 cases (r0 == 0) with
 | true =>
  obtain ⟨v, hv, p1⟩ := num_is s1 (by omega) (l := List.take 3 (List.drop 0 [(4 : Int), (-1 : Int), (1000000 : Int)])) (by decide) (by decide)
  rw [cond_true, p1]
  simp only [Option.bind_some]
  have hd : (List.take (A.length - Int.toNat (1 : Int)) (List.drop (Int.toNat (1 : Int)) A)).length = A.length - 1 := by
   rw [List.length_take, List.length_drop]
   show min (A.length - 1) (A.length - 1) = _
   omega
  rw [if_pos ⟨by decide, by omega⟩, if_pos ⟨rfl, by rw [hd]; omega⟩]
  refine ⟨_, _, _, rfl, ?_, s1.next.mono (by omega)⟩
  rw [List.length_take, hd]
  omega
 | false =>
  rw [cond_false]
  cases (r0 == 1) with
  | true =>
   obtain ⟨v, hv, p1⟩ := num_is s1 (by omega) (l := List.take 3 (List.drop 0 [(0 : Int), (5 : Int), (1 : Int)])) (by decide) (by decide)
   rw [cond_true, p1]
   exact ⟨_, _, _, rfl, h2, s1.next.mono (by omega)⟩
  | false =>
   rw [cond_false]
   exact ⟨_, _, _, rfl, h2, s1.mono (by omega)⟩
theorem drawElement_is {c : List Int} (hc : ∀ x ∈ c, 0 ≤ x ∧ x ≤ 255) : ∃ s A t, spec_DrawFormatElement c = some ((s, A), t) ∧ A.length ≤ 16 ∧ t.size ≤ 65 := by
 obtain ⟨⟨b, k⟩, p0, s0⟩ := l13Open_is hc
 obtain ⟨r0, q0, a1, a2, _⟩ := pick_is s0 (by omega) (n := 4) (by omega)
 have a2 := a2 (by omega)
 have s1 : DrOk (0 + 1) (b, k + 1) := s0.next
 obtain ⟨B, ⟨b2, k2⟩, e1, e2, s2⟩ := l6Draw_is s1 (by omega) (q := 1 + r0.toNat) (by omega)
 have hq : IntKind.wrap .i64 ((1 : Int) + r0) = ((1 + r0.toNat : Nat) : Int) := by
  rw [w64 (by omega) (by omega)]
  omega
 have hB : 1 ≤ B.length ∧ B.length ≤ 16 := by
  rw [e2]
  have : 1 + r0.toNat = 1 ∨ 1 + r0.toNat = 2 ∨ 1 + r0.toNat = 3 ∨ 1 + r0.toNat = 4 := by omega
  rcases this with e | e | e | e <;> rw [e] <;> decide
 obtain ⟨s, C, ⟨b3, k3⟩, f1, f2, s3⟩ := l6Bad_is s2 (by omega) (m := ((1 + r0.toNat : Nat) : Int)) hB.1 hB.2
 obtain ⟨t, ⟨b4, k4⟩, g1, g2, _⟩ := l7Text_is s3 (by omega)
 refine ⟨s, C, t, ?_, f2, g2⟩
 unfold spec_DrawFormatElement
 rw [p0]
 simp only [Option.bind_some, spec_l6Some]
 rw [q0]
 simp only [Option.bind_some]
 rw [hq, e1]
 simp only [Option.bind_some, List.drop_zero, List.take_length]
 rw [f1]
 simp only [Option.bind_some]
 rw [g1]
 rfl
theorem fmtE_both (s : Int) {A : List Int} {t : ByteArray} (lA : A.length ≤ 1048576) (lt : t.size ≤ 1048576) : ∃ r, spec_FormatElement ((s, A), t) = some r ∧ impl_FormatElement ((s, A), t) = some r := by
 obtain ⟨e1, e2, e3⟩ := fmtG_both s lA
 have c1 : t.size + (⟨#[(32 : UInt8)]⟩ : ByteArray).size ≤ 9223372036854775807 := by
  show t.size + 1 ≤ _
  omega
 have c2 : (t ++ (⟨#[(32 : UInt8)]⟩ : ByteArray)).size + (fmtG s A).size ≤ 9223372036854775807 := by
  rw [ByteArray.size_append]
  show t.size + 1 + _ ≤ _
  omega
 refine ⟨(t ++ (⟨#[(32 : UInt8)]⟩ : ByteArray)) ++ fmtG s A, ?_, ?_⟩
 ·simp only [spec_FormatElement, if_pos c1, e1, Option.bind_some, if_pos c2]
 ·simp only [impl_FormatElement, if_pos c1, e2, Option.bind_some, if_pos c2]
theorem p_FnTexts (x0 x1 : List Int) (f0 : Fits (.sl (.int .u8)) x0) (f1 : Fits (.sl (.int .u8)) x1) : laws_FnTexts x0 x1 = some true := by
 unfold laws_FnTexts
 by_cases hx : ((x0.length : Nat) : Int) > 1048576
 ·rw [decide_eq_true hx, cond_true]
 by_cases hy : ((x1.length : Nat) : Int) > 1048576
 ·rw [decide_eq_false hx, cond_false, decide_eq_true hy, cond_true]
 rw [decide_eq_false hx, cond_false, decide_eq_false hy, cond_false]
 obtain ⟨s, A, t, d1, hA, ht⟩ := drawElement_is (bytes_of f0)
 obtain ⟨xs, d2, n2, l2⟩ := drawNums_is (bytes_of f0)
 obtain ⟨w, d3, n3⟩ := drawShow_is (bytes_of f0)
 obtain ⟨ys, d4, n4, l4⟩ := drawNums_is (bytes_of f1)
 obtain ⟨v, d5, n5⟩ := drawShow_is (bytes_of f1)
 obtain ⟨r, r1, r2⟩ := fmtE_both s (t := t) (show A.length ≤ 1048576 by omega) (by omega)
 obtain ⟨e1, e2⟩ := fmtN_both n2 (by omega)
 obtain ⟨e3, e4⟩ := fmtN_both n4 (by omega)
 obtain ⟨g1, g2⟩ := shw_both w
 obtain ⟨g3, g4⟩ := shw_both v
 have hd := daSameG (l := xs) (m := ys) (by omega) (by omega)
 rw [d1]
 simp only [Option.bind_some]
 rw [d2, d3, d4, d5]
 simp only [Option.bind_some, r1, r2, BEq.rfl, cond_true, List.drop_zero, List.take_length, e1, e2, e4, g1, g2, g3, hd, fmtN_beq, shw_beq n3 n5]
end Go.Proofs.YtgmgnijklampiaaDoor
