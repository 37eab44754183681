/- Reading an automaton comes to an end, and what is read is small. -/
import Derived.Test.YtogigagfgkfkhaaP40
set_option linter.unusedVariables false
set_option linter.unusedSimpArgs false
namespace Go.Proofs.Ytogigagfgkfkhaa
open Go Go.Proofs.Ytogigagfgkfkhaa.Am
def Tiny (a : Aut) : Prop := a.2.1.length ≤ 2000 ∧ a.2.2.1.length ≤ 2000 ∧ a.2.2.2.length ≤ 2000
theorem Tiny.small {a : Aut} (h : Tiny a) : Small a := ⟨by have := h.1; omega, by have := h.2.1; omega, by have := h.2.2; omega⟩
theorem Tiny.zero : Tiny ((0 : Int), ([] : List Int), ([] : List Int), ([] : List Stp)) := ⟨by simp, by simp, by simp⟩
theorem ext_size (s : ByteArray) (i j : Nat) : (s.extract i j).size ≤ s.size := by
 rw [ByteArray.size_extract]
 omega
theorem l13Cut_is {s : ByteArray} (hs : s.size ≤ 1000) (c : Int) : ∃ o, spec_l13Cut s c = some o ∧ o.length ≤ s.size + 1 ∧ ∀ x ∈ o, x.size ≤ s.size := by
 obtain ⟨r, g1, g2⟩ := loop_rel (f := spec_l13Cut_l4) (s.size + 1) (fun i (p : List ByteArray × Nat) => (s, c, p.1, (p.2 : Int), (i : Int), ())) (fun p => (p.1, ())) (fun i p => p.2 ≤ i ∧ p.1.length ≤ i ∧ ∀ x ∈ p.1, x.size ≤ s.size)
  (fun i p hi hp => by
   obtain ⟨o, k⟩ := p
   obtain ⟨h1, h2, h3⟩ := hp
   have h1 : k ≤ i := h1
   have h2 : o.length ≤ i := h2
   obtain ⟨a1, a2⟩ := snoc_ok 16 (p := o) (x := s.extract k i) (by omega) (by omega)
   have hw := w64_succ hi (show s.size + 1 ≤ 9223372036854775807 by omega)
   have hd : decide ((i : Int) ≤ ((s.size : Nat) : Int)) = true := decide_eq_true (by omega)
   have hc : (0 : Int) ≤ (k : Int) ∧ (k : Int) ≤ (i : Int) ∧ (i : Int) ≤ ((s.size : Nat) : Int) := by omega
   have hnew : (i + 1) ≤ i + 1 ∧ (o ++ [s.extract k i]).length ≤ i + 1 ∧ ∀ x ∈ o ++ [s.extract k i], x.size ≤ s.size := by
    refine ⟨Nat.le_refl _, by simp; omega, fun x hx => ?_⟩
    rcases List.mem_append.1 hx with hx | hx
    ·exact h3 x hx
    ·rw [List.mem_singleton.1 hx]; exact ext_size _ _ _
   by_cases he : i = s.size
   ·refine ⟨(o ++ [s.extract k i], i + 1), ?_, hnew⟩
    simp only [spec_l13Cut_l4, hd, cond_true, show ((i : Int) == ((s.size : Nat) : Int)) = true by rw [he]; simp, if_pos hc, Int.toNat_natCast, hw]
    rw [if_pos a1, a2]
   ·have hlt : i < s.size := by omega
    simp only [spec_l13Cut_l4, hd, cond_true, show ((i : Int) == ((s.size : Nat) : Int)) = false by rw [beq_eq_false_iff_ne]; omega, cond_false, if_pos (in_t hlt), Int.toNat_natCast, hw]
    cases hb : ((((UInt8.toNat (Array.getD (ByteArray.data s) i (0 : UInt8))) : Nat) : Int) == c) with
    | true =>
     refine ⟨(o ++ [s.extract k i], i + 1), ?_, hnew⟩
     simp only [cond_true, if_pos hc]
     rw [if_pos a1, a2]
    | false =>
     refine ⟨(o, k), ?_, by show k ≤ i + 1; omega, by show o.length ≤ i + 1; omega, h3⟩
     simp only [cond_false, tk_id])
  (fun p hp => by simp only [spec_l13Cut_l4, show decide (((s.size + 1 : Nat) : Int) ≤ ((s.size : Nat) : Int)) = false from decide_eq_false (by omega), cond_false, tk_id])
  ([], 0) ⟨Nat.le_refl _, by simp, fun x hx => by cases hx⟩
 obtain ⟨o, k⟩ := r
 have g1 : loopF spec_l13Cut_l4 (s, c, [], (0 : Int), (0 : Int), ()) = some (o, ()) := g1
 refine ⟨o, ?_, g2.2.1, g2.2.2⟩
 simp only [spec_l13Cut, show List.take 0 (List.drop 0 []) = ([] : List ByteArray) from rfl, g1, Option.bind_some, tk_id]
theorem num_loop {t : ByteArray} (ht : t.size ≤ 1000) (b : Bool) : ∃ r, loopF spec_l13Num_l8 (t, b, (0 : Int), (0 : Int), ()) = some r := by
 obtain ⟨r, g1, _⟩ := loop_tot (f := spec_l13Num_l8) t.size (fun i (v : Int) => (t, b, v, (i : Int), ())) (fun _ _ => True) (fun _ => True)
  (fun i v hi _ => by
   simp only [spec_l13Num_l8, show decide ((i : Int) < ((t.size : Nat) : Int)) = true from decide_eq_true (by omega), cond_true, if_pos (in_t hi), w64_succ hi (show t.size ≤ 9223372036854775807 by omega)]
   cases decide ((((UInt8.toNat (Array.getD (ByteArray.data t) (Int.toNat (i : Int)) (0 : UInt8))) : Nat) : Int) < (48 : Int)) with
   | true => exact .inr ⟨_, rfl, trivial⟩
   | false =>
    simp only [cond_false]
    cases decide ((((UInt8.toNat (Array.getD (ByteArray.data t) (Int.toNat (i : Int)) (0 : UInt8))) : Nat) : Int) > (57 : Int)) with
    | true => exact .inr ⟨_, rfl, trivial⟩
    | false => exact .inl ⟨_, rfl, trivial⟩)
  (fun v _ => ⟨.inr (b, v, ()), by simp only [spec_l13Num_l8, show decide (((t.size : Nat) : Int) < ((t.size : Nat) : Int)) = false from decide_eq_false (by omega), cond_false], trivial⟩)
  0 trivial
 exact ⟨r, g1⟩
theorem num_end {t : ByteArray} (ht : t.size ≤ 1000) (b : Bool) : ∃ v c, (Option.bind (loopF spec_l13Num_l8 (t, b, (0 : Int), (0 : Int), ())) fun r0 => (match r0 with
   | .inl (d1, d2, _) => some (d1, d2)
   | .inr (d3, d4, _) => bif d3 then some ((IntKind.wrap .i64 ((0 : Int) - d4)), true) else some (d4, true))) = some ((v : Int), (c : Bool)) := by
 obtain ⟨r, hr⟩ := num_loop ht b
 rw [hr]
 rcases r with ⟨d1, d2, _⟩ | ⟨d3, d4, _⟩
 ·exact ⟨_, _, rfl⟩
 ·cases d3 <;> exact ⟨_, _, rfl⟩
theorem num_head {t : ByteArray} (ht : t.size ≤ 1000) (c b : Bool) : ∃ v u, (bif ((((ByteArray.size t) : Nat) : Int) == (0 : Int)) then some ((0 : Int), false)
  else bif (decide ((((ByteArray.size t) : Nat) : Int) > (17 : Int))) then some ((0 : Int), false)
   else if (((0 : Int) ≤ (0 : Int)) ∧ ((0 : Int) < (((ByteArray.size t) : Nat) : Int))) then
     bif ((((UInt8.toNat (Array.getD (ByteArray.data t) (Int.toNat (0 : Int)) (0 : UInt8))) : Nat) : Int) == (48 : Int)) then
      bif (decide ((((ByteArray.size t) : Nat) : Int) > (1 : Int))) then some ((0 : Int), false)
      else bif c then some ((0 : Int), false)
       else Option.bind (loopF spec_l13Num_l8 (t, b, (0 : Int), (0 : Int), ())) fun r0 => (match r0 with
        | .inl (d1, d2, _) => some (d1, d2)
        | .inr (d3, d4, _) => bif d3 then some ((IntKind.wrap .i64 ((0 : Int) - d4)), true) else some (d4, true))
     else Option.bind (loopF spec_l13Num_l8 (t, b, (0 : Int), (0 : Int), ())) fun r0 => (match r0 with
        | .inl (d1, d2, _) => some (d1, d2)
        | .inr (d3, d4, _) => bif d3 then some ((IntKind.wrap .i64 ((0 : Int) - d4)), true) else some (d4, true))
    else none) = some ((v : Int), (u : Bool)) := by
 have hE := num_end ht b
 by_cases h0 : t.size = 0
 ·exact ⟨0, false, by rw [show ((((ByteArray.size t) : Nat) : Int) == (0 : Int)) = true by rw [h0]; rfl, cond_true]⟩
 ·rw [show ((((ByteArray.size t) : Nat) : Int) == (0 : Int)) = false by rw [beq_eq_false_iff_ne]; omega, cond_false, if_pos ⟨by omega, by omega⟩]
  cases decide ((((ByteArray.size t) : Nat) : Int) > (17 : Int)) with
  | true => exact ⟨_, _, rfl⟩
  | false =>
   rw [cond_false]
   cases ((((UInt8.toNat (Array.getD (ByteArray.data t) (Int.toNat (0 : Int)) (0 : UInt8))) : Nat) : Int) == (48 : Int)) with
   | false => exact hE
   | true =>
    rw [cond_true]
    cases decide ((((ByteArray.size t) : Nat) : Int) > (1 : Int)) with
    | true => exact ⟨_, _, rfl⟩
    | false =>
     rw [cond_false]
     cases c with
     | true => exact ⟨_, _, rfl⟩
     | false => exact hE
theorem l13Num_is {s : ByteArray} (hs : s.size ≤ 1000) : ∃ v b, spec_l13Num s = some (v, b) := by
 unfold spec_l13Num
 by_cases h0 : ((s.size : Nat) : Int) > 0
 ·rw [decide_eq_true h0, cond_true, if_pos ⟨by omega, by omega⟩]
  have h1 : (0 : Int) ≤ 1 ∧ (1 : Int) ≤ ((s.size : Nat) : Int) := by omega
  cases hb : ((((UInt8.toNat (Array.getD (ByteArray.data s) (Int.toNat (0 : Int)) (0 : UInt8))) : Nat) : Int) == (45 : Int)) with
  | true =>
   rw [cond_true, if_pos h1]
   exact num_head (t := s.extract (Int.toNat 1) s.size) (by have := ext_size s (Int.toNat 1) s.size; omega) true true
  | false =>
   rw [cond_false]
   exact num_head hs false false
 ·rw [decide_eq_false h0, cond_false]
  have e : ((((ByteArray.size s) : Nat) : Int) == (0 : Int)) = true := by
   have : s.size = 0 := by omega
   rw [this]; rfl
  rw [e, cond_true]
  exact ⟨_, _, rfl⟩
theorem l3Read_is {s : ByteArray} (hs : s.size ≤ 1000) : ∃ o b, spec_l3Read s = some (o, b) ∧ o.length ≤ 1001 := by
 unfold spec_l3Read
 cases (ByteArray.toList s == ByteArray.toList (⟨#[]⟩ : ByteArray)) with
 | true => exact ⟨[], true, rfl, by simp⟩
 | false =>
  rw [cond_false]
  obtain ⟨o, g1, g2, g3⟩ := l13Cut_is hs 32
  rw [g1]
  simp only [Option.bind_some, tk_id]
  obtain ⟨r, k1, k2⟩ := loop_tot (f := spec_l3Read_l5) o.length (fun i (v : List Int) => (v, o, ((o.length : Nat) : Int), (i : Int), ())) (fun i v => v.length ≤ i) (fun r => match r with | .inl (d2, _, _) => d2.length ≤ 1001 | .inr (d4, _) => d4.length ≤ 1001)
   (fun i v hi hv => by
    obtain ⟨x, b, n1⟩ := l13Num_is (s := List.getD o i (⟨Array.empty⟩ : ByteArray)) (by
     rw [getD_at0 _ hi]
     have := g3 _ (List.getElem_mem hi)
     omega)
    simp only [spec_l3Read_l5, lt_t hi, cond_true, if_pos (in_t hi), Int.toNat_natCast, Nat.zero_add, n1, Option.bind_some, w64_succ hi (show o.length ≤ 9223372036854775807 by omega), tk_id]
    cases b with
    | false => exact .inr ⟨_, rfl, by simp⟩
    | true =>
     obtain ⟨a1, a2⟩ := snoc_ok 8 (p := v) (x := x) (by omega) (by omega)
     refine .inl ⟨v ++ [x], ?_, by simp; omega⟩
     simp only [Nat.zero_add] at a1
     simp only [Bool.not_true, cond_false]
     rw [if_pos a1, a2])
   (fun v hv => ⟨.inr (v, ()), by simp only [spec_l3Read_l5, lt_f, cond_false, tk_id], by show v.length ≤ 1001; omega⟩)
   [] (by simp)
  have k1 : loopF spec_l3Read_l5 (List.take 0 (List.drop 0 []), o, ((o.length : Nat) : Int), (0 : Int), ()) = some r := k1
  rw [k1]
  rcases r with ⟨d2, d3, _⟩ | ⟨d4, _⟩
  ·exact ⟨d2, d3, by simp only [Option.bind_some, tk_id], k2⟩
  ·exact ⟨d4, true, by simp only [Option.bind_some, tk_id], k2⟩
theorem parse_loop {L : List ByteArray} (hL : L.length ≤ 1001) (hz : ∀ x ∈ L, x.size ≤ 1000) (x : Int) {S F : List Int} (b : Bool) : ∃ r, loopF spec_ParseAutomaton_l11 (((0 : Int), [], [], [], ()), (x, S, F, [], ()), b, L, ((L.length : Nat) : Int), (0 : Int), ()) = some r ∧
  match r with
  | .inl ((d9, d10, d11, d12, _), _, _) => d9 = 0 ∧ d10 = [] ∧ d11 = [] ∧ d12 = []
  | .inr (_, (d18, d19, d20, d21, _), _, _) => d18 = x ∧ d19 = S ∧ d20 = F ∧ d21.length ≤ 1001 := by
 obtain ⟨r, k1, k2⟩ := loop_tot (f := spec_ParseAutomaton_l11) L.length (fun i (p : List Stp × Bool) => (((0 : Int), [], [], [], ()), (x, S, F, p.1, ()), p.2, L, ((L.length : Nat) : Int), (i : Int), ())) (fun i p => p.1.length ≤ i)
  (fun r => match r with
   | .inl ((d9, d10, d11, d12, _), _, _) => d9 = 0 ∧ d10 = [] ∧ d11 = [] ∧ d12 = []
   | .inr (_, (d18, d19, d20, d21, _), _, _) => d18 = x ∧ d19 = S ∧ d20 = F ∧ d21.length ≤ 1001)
  (fun i p hi hp => by
   obtain ⟨l, f⟩ := p
   have hl : l.length ≤ i := hp
   have hsz : (List.getD L i (⟨Array.empty⟩ : ByteArray)).size ≤ 1000 := by
    rw [getD_at0 _ hi]
    exact hz _ (List.getElem_mem hi)
   simp only [spec_ParseAutomaton_l11, lt_t hi, cond_true, if_pos (in_t hi), Int.toNat_natCast, Nat.zero_add, w64_succ hi (show L.length ≤ 9223372036854775807 by omega), tk_id]
   generalize List.getD L i (⟨Array.empty⟩ : ByteArray) = c at *
   by_cases h5 : c.size = 5
   ·have e5 : ((((c.size : Nat) : Int)) != (5 : Int)) = false := by rw [h5]; rfl
    rw [e5, cond_false, if_pos ⟨by omega, by omega⟩]
    cases ((((UInt8.toNat (Array.getD (ByteArray.data c) (Int.toNat (3 : Int)) (0 : UInt8))) : Nat) : Int) != (58 : Int)) with
    | true => exact .inr ⟨_, rfl, rfl, rfl, rfl, rfl⟩
    | false =>
     obtain ⟨v0, b0, n0⟩ := l13Num_is (s := c.extract 0 (Int.toNat 1)) (by have := ext_size c 0 (Int.toNat 1); omega)
     obtain ⟨v1, b1, n1⟩ := l13Num_is (s := c.extract (Int.toNat 2) (Int.toNat 3)) (by have := ext_size c (Int.toNat 2) (Int.toNat 3); omega)
     obtain ⟨v2, b2, n2⟩ := l13Num_is (s := c.extract (Int.toNat 4) c.size) (by have := ext_size c (Int.toNat 4) c.size; omega)
     rw [cond_false, if_pos ⟨by omega, by omega⟩, n0]
     simp only [Option.bind_some]
     rw [if_pos ⟨by omega, by omega, by omega⟩, n1]
     simp only [Option.bind_some]
     rw [if_pos ⟨by omega, by omega⟩, n2]
     simp only [Option.bind_some]
     have hin : (0 : Int) ≤ 1 ∧ (1 : Int) ≤ 2 ∧ (2 : Int) ≤ ((c.size : Nat) : Int) := by omega
     obtain ⟨a1, a2⟩ := snoc_ok 40 (p := l) (x := (v0, c.extract (Int.toNat 1) (Int.toNat 2), v1, v2)) (by omega) (by omega)
     simp only [Nat.zero_add] at a1
     simp only [if_pos hin, if_pos a1, a2]
     have hlen : (l ++ [(v0, c.extract (Int.toNat 1) (Int.toNat 2), v1, v2)]).length ≤ i + 1 := by simp; omega
     refine .inl ⟨(l ++ [(v0, c.extract (Int.toNat 1) (Int.toNat 2), v1, v2)], bif f then bif b0 then bif b1 then b2 else false else false else false), ?_, hlen⟩
     cases f <;> cases b0 <;> cases b1 <;> rfl
   ·have e5 : ((((c.size : Nat) : Int)) != (5 : Int)) = true := by rw [bne_iff_ne]; omega
    rw [e5, cond_true]
    exact .inr ⟨_, rfl, rfl, rfl, rfl, rfl⟩)
  (fun p hp => ⟨.inr (((0 : Int), [], [], [], ()), (x, S, F, p.1, ()), p.2, ()), by simp only [spec_ParseAutomaton_l11, lt_f, cond_false, tk_id], rfl, rfl, rfl, by
   have : p.1.length ≤ L.length := hp
   show p.1.length ≤ 1001
   omega⟩)
  ([], b) (by simp)
 exact ⟨r, k1, k2⟩
end Go.Proofs.Ytogigagfgkfkhaa
