/- Drawn arguments: each draw comes to an end, and what it draws is small. -/
import Derived.Test.YtogigagfgkfkhaaP3
set_option linter.unusedVariables false
set_option linter.unusedSimpArgs false
namespace Go.Proofs.Ytogigagfgkfkhaa
open Go Go.Proofs.Ytogigagfgkfkhaa.Am
theorem getD_at0 {α : Type} (d : α) {l : List α} {i : Nat} (h : i < l.length) : l.getD i d = l[i] := by rw [List.getD_eq_getElem?_getD, List.getElem?_eq_getElem h]; rfl
abbrev Dr := List Int × Int
structure DrOk (N : Int) (d : Dr) : Prop where
 b : ∀ x ∈ d.1, 0 ≤ x ∧ x ≤ 255
 len : d.1.length ≤ 2000
 p0 : 0 ≤ d.2
 p1 : d.2 ≤ N
theorem DrOk.next {N : Int} {d : Dr} (h : DrOk N d) : DrOk (N + 1) (d.1, d.2 + 1) := ⟨h.b, h.len, by have := h.p0; show 0 ≤ d.2 + 1; omega, by have := h.p1; show d.2 + 1 ≤ N + 1; omega⟩
theorem DrOk.mono {N M : Int} {d : Dr} (h : DrOk N d) (hM : N ≤ M) : DrOk M d := ⟨h.b, h.len, h.p0, by have := h.p1; omega⟩
theorem xor_rng {A B : Int} (hA : 0 ≤ A ∧ A < 4294967296) (hB : 0 ≤ B ∧ B < 4294967296) : (BitVec.ofInt (IntKind.bits .i64) A ^^^ BitVec.ofInt (IntKind.bits .i64) B).toNat < 4294967296 := by
 have e : ∀ {C : Int}, 0 ≤ C ∧ C < 4294967296 → (BitVec.ofInt (IntKind.bits .i64) C).toNat < 2 ^ 32 := by
  intro C hC
  have : (BitVec.ofInt 64 C).toNat < 2 ^ 32 := by
   rw [BitVec.toNat_ofInt]
   omega
  exact this
 have h := Nat.xor_lt_two_pow (e hA) (e hB)
 rw [BitVec.toNat_xor]
 exact h
theorem wrap_rec (T : Int) : (Decidable.rec (fun y0 => (T % ((2 : Int) ^ (IntKind.bits .i64)))) (fun y1 => ((T % ((2 : Int) ^ (IntKind.bits .i64))) - ((2 : Int) ^ (IntKind.bits .i64)))) (instDecidableEqBool ((IntKind.signed .i64) && (decide ((T % ((2 : Int) ^ (IntKind.bits .i64))) ≥ ((2 : Int) ^ ((IntKind.bits .i64) - 1))))) true) : Int) = IntKind.wrap .i64 T := rfl
theorem tmod_in {x n : Int} (hx : 0 ≤ x) (hn : 1 ≤ n) : 0 ≤ Int.tmod x n ∧ Int.tmod x n < n := ⟨Int.tmod_nonneg _ hx, Int.tmod_lt_of_pos _ (by omega)⟩
theorem pick_is {N : Int} {d : Dr} (h : DrOk N d) (hN : N ≤ 100000) {n : Int} (hn : n ≤ 1000) : ∃ r, spec_l13Rd_pick d n = some (r, (d.1, d.2 + 1), ()) ∧ 0 ≤ r ∧ (1 ≤ n → r < n) ∧ (n < 1 → r = 0) := by
 obtain ⟨l, k⟩ := d
 have h0 : 0 ≤ k := h.p0
 have h1 : k ≤ N := h.p1
 have hb : ∀ x ∈ l, 0 ≤ x ∧ x ≤ 255 := h.b
 have hlen : l.length ≤ 2000 := h.len
 have wk : IntKind.wrap .i64 (k + 1) = k + 1 := w64 (by omega) (by omega)
 have wk1 : IntKind.wrap .i64 (k + 1 - 1) = k := by rw [w64 (by omega) (by omega)]; omega
 unfold spec_l13Rd_pick
 dsimp only
 rw [wk]
 by_cases c0 : n < 1
 ·exact ⟨0, by rw [decide_eq_true c0, cond_true], by omega, by omega, fun _ => rfl⟩
 rw [decide_eq_false c0, cond_false, wk1]
 by_cases c1 : l.length = 0
 ·refine ⟨0, ?_, by omega, by omega, fun _ => rfl⟩
  rw [show ((((l.length : Nat) : Int) == (0 : Int)) = true) by rw [c1]; rfl, cond_true]
 rw [show ((((l.length : Nat) : Int) == (0 : Int)) = false) by rw [beq_eq_false_iff_ne]; omega, cond_false]
 have hat : ∀ i : Nat, i < l.length → 0 ≤ l.getD i 0 ∧ l.getD i 0 ≤ 255 := by
  intro i hi
  rw [getD_at0 0 hi]
  exact hb _ (List.getElem_mem hi)
 have n0 : ¬ n = 0 := by omega
 have L0 : ¬ ((l.length : Nat) : Int) = 0 := by omega
 by_cases c2 : k < ((l.length : Nat) : Int)
 ·have hk := hat k.toNat (by omega)
  rw [decide_eq_true c2, cond_true, if_pos ⟨h0, c2⟩, if_neg n0, w64 (n := l.getD k.toNat 0) (by omega) (by omega)]
  have := tmod_in hk.1 (show 1 ≤ n by omega)
  exact ⟨_, rfl, this.1, fun _ => this.2, fun h => absurd h c0⟩
 ·rw [decide_eq_false c2, cond_false, if_neg L0]
  have t1 := tmod_in h0 (show 1 ≤ ((l.length : Nat) : Int) by omega)
  have w7 : IntKind.wrap .i64 (k * 7) = k * 7 := w64 (by omega) (by omega)
  have w73 : IntKind.wrap .i64 (k * 7 + 3) = k * 7 + 3 := w64 (by omega) (by omega)
  have t2 := tmod_in (show 0 ≤ k * 7 + 3 by omega) (show 1 ≤ ((l.length : Nat) : Int) by omega)
  rw [if_pos t1, if_neg L0, w7, w73, if_pos t2, if_neg L0, if_neg (by omega), if_neg n0, wrap_rec]
  have b1 := hat (Int.tmod k ((l.length : Nat) : Int)).toNat (by omega)
  have b2 := hat (Int.tmod (k * 7 + 3) ((l.length : Nat) : Int)).toNat (by omega)
  generalize l.getD (Int.tmod k ((l.length : Nat) : Int)).toNat 0 = u at *
  generalize l.getD (Int.tmod (k * 7 + 3) ((l.length : Nat) : Int)).toNat 0 = v at *
  have q0 : 0 ≤ Int.tdiv k ((l.length : Nat) : Int) := Int.tdiv_nonneg h0 (by omega)
  have q1 : Int.tdiv k ((l.length : Nat) : Int) ≤ k := Int.tdiv_le_self _ h0
  generalize Int.tdiv k ((l.length : Nat) : Int) = q at *
  rw [w64 (n := u) (by omega) (by omega), w64 (n := v) (by omega) (by omega), w64 (n := u * 131) (by omega) (by omega), w64 (n := v * 1117) (by omega) (by omega), w64 (n := k * 29) (by omega) (by omega), w64 (n := q) (by omega) (by omega), w64 (n := q * 53) (by omega) (by omega),
   w64 (n := u * 131 + v * 1117) (by omega) (by omega), w64 (n := u * 131 + v * 1117 + k * 29) (by omega) (by omega), w64 (n := u * 131 + v * 1117 + k * 29 + q * 53) (by omega) (by omega)]
  have hX : 0 ≤ u * 131 + v * 1117 + k * 29 + q * 53 ∧ u * 131 + v * 1117 + k * 29 + q * 53 < 4294967296 := by omega
  generalize u * 131 + v * 1117 + k * 29 + q * 53 = X at *
  have d0 : 0 ≤ Int.tdiv X 64 := Int.tdiv_nonneg hX.1 (by omega)
  have d1 : Int.tdiv X 64 ≤ X := Int.tdiv_le_self _ hX.1
  rw [w64 (n := Int.tdiv X 64) (by omega) (by omega)]
  have hx := xor_rng hX (show 0 ≤ Int.tdiv X 64 ∧ Int.tdiv X 64 < 4294967296 by omega)
  generalize (BitVec.ofInt (IntKind.bits .i64) X ^^^ BitVec.ofInt (IntKind.bits .i64) (Int.tdiv X 64)).toNat = Y at *
  rw [w64 (n := (Y : Int)) (by omega) (by omega)]
  have := tmod_in (show 0 ≤ (Y : Int) by omega) (show 1 ≤ n by omega)
  exact ⟨_, rfl, this.1, fun _ => this.2, fun h => absurd h c0⟩
theorem of_is {N : Int} {d : Dr} (h : DrOk N d) (hN : N ≤ 100000) {l : List ByteArray} (h0 : 0 < l.length) (hl : l.length ≤ 1000) : ∃ v ∈ l, spec_l13Rd_of d l = some (v, (d.1, d.2 + 1), ()) := by
 obtain ⟨r, h1, h2, h3, _⟩ := pick_is h hN (n := ((l.length : Nat) : Int)) (by omega)
 have h3 := h3 (by omega)
 obtain ⟨x, k⟩ := d
 refine ⟨l.getD r.toNat (⟨Array.empty⟩ : ByteArray), ?_, ?_⟩
 ·rw [getD_at0 _ (show r.toNat < l.length by omega)]
  exact List.getElem_mem _
 ·simp only [spec_l13Rd_of, h1, Option.bind_some]
  rw [if_pos ⟨h2, h3⟩]
theorem num_is {N : Int} {d : Dr} (h : DrOk N d) (hN : N ≤ 100000) {l : List Int} (h0 : 0 < l.length) (hl : l.length ≤ 1000) : ∃ v ∈ l, spec_l13Rd_num d l = some (v, (d.1, d.2 + 1), ()) := by
 obtain ⟨r, h1, h2, h3, _⟩ := pick_is h hN (n := ((l.length : Nat) : Int)) (by omega)
 have h3 := h3 (by omega)
 obtain ⟨x, k⟩ := d
 refine ⟨l.getD r.toNat (0 : Int), ?_, ?_⟩
 ·rw [getD_at0 _ (show r.toNat < l.length by omega)]
  exact List.getElem_mem _
 ·simp only [spec_l13Rd_num, h1, Option.bind_some]
  rw [if_pos ⟨h2, h3⟩]
theorem snoc_ok {α : Type} (m : Nat) {p : List α} {x : α} (hp : p.length ≤ 1000000) (hm : m ≤ 100) : ((0 + p.length = p.length) ∧ ((p.length + (List.take 1 (List.drop 0 [x])).length) * m ≤ 140737488355328)) ∧ List.take (p.length + (List.take 1 (List.drop 0 [x])).length) (List.drop 0 (List.drop 0 p ++ List.take 1 (List.drop 0 [x]))) = p ++ [x] := by
 have e : List.take 1 (List.drop 0 [x]) = [x] := rfl
 rw [e]
 refine ⟨⟨by omega, ?_⟩, ?_⟩
 ·have : (p.length + [x].length) * m ≤ 1000001 * 100 := Nat.mul_le_mul (by simp only [List.length_cons, List.length_nil]; omega) hm
  omega
 ·simp only [List.drop_zero]
  exact List.take_of_length_le (by simp)
theorem tk_id {α : Type} (p : List α) : List.take p.length (List.drop 0 p) = p := by simp
/-! ### states, steps -/
theorem l3Some_is {N : Int} {d : Dr} (h : DrOk N d) (hN : N ≤ 90000) {n : Int} (h0 : 0 ≤ n) (hn : n ≤ 100) : ∃ o d', spec_l3Some d n = some (o, d', ()) ∧ o.length ≤ 100 ∧ DrOk (N + 100) d' := by
 obtain ⟨r, g1, g2⟩ := loop_rel (f := spec_l3Some_l3) n.toNat (fun i (s : Dr × List Int) => ((s.1.1, s.1.2, ()), s.2, n, (i : Int), ())) (fun s => ((s.1.1, s.1.2, ()), s.2, ())) (fun i s => DrOk (N + i) s.1 ∧ s.2.length ≤ i)
  (fun i s hi hs => by
   obtain ⟨⟨l, k⟩, o⟩ := s
   obtain ⟨r, p1, p2, _, _⟩ := pick_is hs.1 (by omega) (n := 2) (by omega)
   have ho : o.length ≤ i := hs.2
   obtain ⟨a1, a2⟩ := snoc_ok 8 (p := o) (x := (i : Int)) (by omega) (by omega)
   have hw := w64_succ hi (show n.toNat ≤ 9223372036854775807 by omega)
   have hd : decide ((i : Int) < n) = true := decide_eq_true (by omega)
   have hnx : DrOk (N + ((i + 1 : Nat) : Int)) (l, k + 1) := hs.1.next.mono (by omega)
   by_cases hr : r = 0
   ·refine ⟨((l, k + 1), o ++ [(i : Int)]), ?_, hnx, by simp; omega⟩
    simp only [spec_l3Some_l3, hd, cond_true, p1, Option.bind_some, hr, BEq.rfl, hw, tk_id]
    rw [if_pos a1, a2]
   ·refine ⟨((l, k + 1), o), ?_, hnx, by show o.length ≤ i + 1; omega⟩
    simp only [spec_l3Some_l3, hd, cond_true, p1, Option.bind_some, show (r == 0) = false by simpa using hr, cond_false, hw, tk_id])
  (fun s hs => by
   simp only [spec_l3Some_l3, show decide (((n.toNat : Nat) : Int) < n) = false from decide_eq_false (by omega), cond_false, tk_id])
  (d, []) ⟨h.mono (by omega), by simp⟩
 obtain ⟨l, k⟩ := d
 obtain ⟨⟨l', k'⟩, o⟩ := r
 have g1 : loopF spec_l3Some_l3 ((l, k, ()), [], n, (0 : Int), ()) = some ((l', k', ()), o, ()) := g1
 refine ⟨o, (l', k'), ?_, by have := g2.2; show o.length ≤ 100; have : o.length ≤ n.toNat := this; omega, g2.1.mono (by omega)⟩
 simp only [spec_l3Some, show List.take 0 (List.drop 0 []) = ([] : List Int) from rfl, g1, Option.bind_some, tk_id]
theorem l3Put_is {l : List Stp} (hl : l.length ≤ 100000) (s : Stp) : ∃ o, spec_l3Put l s = some o ∧ o.length ≤ l.length + 1 := by
 obtain ⟨x, y, z, c⟩ := s
 obtain ⟨r, g1, j, hj, g2⟩ := loop_tot (f := spec_l3Put_l2) l.length (fun i (_ : Unit) => (l, (x, y, z, c, ()), (i : Int), ())) (fun _ _ => True) (fun r => ∃ j : Nat, j ≤ l.length ∧ r = (l, (x, y, z, c, ()), (j : Int), ()))
  (fun i _ hi _ => by
   simp only [spec_l3Put_l2, lt_t hi, cond_true, if_pos (in_t hi), Int.toNat_natCast, spec_l3Before_is, Option.bind_some, w64_succ hi (show l.length ≤ 9223372036854775807 by omega)]
   cases befB (List.getD l i ((0 : Int), (⟨Array.empty⟩ : ByteArray), (0 : Int), (0 : Int))) (x, y, z, c) with
   | true => exact .inl ⟨(), rfl, trivial⟩
   | false => exact .inr ⟨_, rfl, i, by omega, rfl⟩)
  (fun _ _ => ⟨_, by simp only [spec_l3Put_l2, lt_f, cond_false], l.length, Nat.le_refl _, rfl⟩)
  () trivial
 subst g2
 have g1 : loopF spec_l3Put_l2 (l, (x, y, z, c, ()), (0 : Int), ()) = some (l, (x, y, z, c, ()), (j : Int), ()) := g1
 have e1 : List.take ((Int.toNat (j : Int)) - 0) (List.drop 0 l) = l.take j := by simp
 have e1l : (l.take j).length = j := by rw [List.length_take]; omega
 have e2 : List.take 1 (List.drop 0 [(x, y, z, c)]) = [(x, y, z, c)] := rfl
 have tail : ∃ o, (if (((0 : Int) ≤ (j : Int)) ∧ ((j : Int) ≤ (((List.length l) : Nat) : Int))) then
    if (((0 + 0) = (List.length ([] : List Stp))) ∧ (((0 + (List.length (l.take j))) * 40) ≤ 140737488355328)) then
     if (((0 + (0 + (List.length (l.take j)))) = (List.length ((List.drop 0 []) ++ (l.take j)))) ∧ ((((0 + (List.length (l.take j))) + (List.length [(x, y, z, c)])) * 40) ≤ 140737488355328)) then
      if (((0 : Int) ≤ (j : Int)) ∧ ((j : Int) ≤ (((List.length l) : Nat) : Int))) then
       if (((0 + ((0 + (List.length (l.take j))) + (List.length [(x, y, z, c)]))) = (List.length ((List.drop 0 ((List.drop 0 []) ++ (l.take j))) ++ [(x, y, z, c)]))) ∧ (((((0 + (List.length (l.take j))) + (List.length [(x, y, z, c)])) + (List.length (List.take ((List.length l) - j) (List.drop j l)))) * 40) ≤ 140737488355328)) then
        some (List.take (((0 + (List.length (l.take j))) + (List.length [(x, y, z, c)])) + (List.length (List.take ((List.length l) - j) (List.drop j l)))) (List.drop 0 ((List.drop 0 ((List.drop 0 ((List.drop 0 []) ++ (l.take j))) ++ [(x, y, z, c)])) ++ (List.take ((List.length l) - j) (List.drop j l)))))
       else none
      else none
     else none
    else none
   else none) = some o ∧ o.length ≤ l.length + 1 := by
  have hd : (List.take ((List.length l) - j) (List.drop j l)).length = l.length - j := by rw [List.length_take, List.length_drop]; omega
  rw [if_pos ⟨by omega, by omega⟩, if_pos ⟨rfl, by rw [e1l]; omega⟩, if_pos ⟨by simp, by rw [e1l]; simp only [List.length_cons, List.length_nil]; omega⟩, if_pos ⟨by omega, by omega⟩, if_pos ⟨by simp, by rw [e1l, hd]; simp only [List.length_cons, List.length_nil]; omega⟩]
  refine ⟨_, rfl, ?_⟩
  rw [List.length_take, e1l, hd]
  simp only [List.length_cons, List.length_nil]
  omega
 unfold spec_l3Put
 dsimp only
 rw [g1]
 simp only [Option.bind_some, e1, e2, Int.toNat_natCast]
 by_cases hlt : j < l.length
 ·rw [lt_t hlt, cond_true, if_pos (in_t hlt)]
  simp only [spec_l3Before_is, Option.bind_some]
  cases befB (x, y, z, c) (List.getD l j ((0 : Int), (⟨Array.empty⟩ : ByteArray), (0 : Int), (0 : Int))) with
  | false =>
   rw [Bool.not_false, cond_true, if_pos ⟨rfl, by omega⟩, if_pos ⟨by omega, by omega⟩, if_pos ⟨by omega, by omega⟩]
   refine ⟨_, rfl, ?_⟩
   rw [List.length_take]
   omega
  | true =>
   rw [Bool.not_true, cond_false]
   exact tail
 ·rw [show decide ((j : Int) < ((l.length : Nat) : Int)) = false from decide_eq_false (by omega), cond_false]
  exact tail
end Go.Proofs.Ytogigagfgkfkhaa
