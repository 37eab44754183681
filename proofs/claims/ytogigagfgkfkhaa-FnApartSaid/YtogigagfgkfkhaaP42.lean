/- Draws of automata and of words come to an end, and what is drawn is small. -/
import Derived.Test.YtogigagfgkfkhaaP41
set_option linter.unusedVariables false
set_option linter.unusedSimpArgs false
namespace Go.Proofs.Ytogigagfgkfkhaa
open Go Go.Proofs.Ytogigagfgkfkhaa.Am
theorem parse_is {s : ByteArray} (hs : s.size ≤ 1000) : ∃ a b, spec_ParseAutomaton s = some (a, b) ∧ Tiny a := by
 obtain ⟨o, g1, g2, g3⟩ := l13Cut_is hs 59
 unfold spec_ParseAutomaton
 rw [g1]
 simp only [Option.bind_some]
 by_cases h4 : o.length = 4
 ·have e4 : ((((o.length : Nat) : Int)) != (4 : Int)) = false := by rw [h4]; rfl
  rw [e4, cond_false]
  have hp : ∀ i, i < 4 → (List.getD o (0 + i) (⟨Array.empty⟩ : ByteArray)).size ≤ 1000 := by
   intro i hi
   rw [getD_at0 _ (by omega)]
   have := g3 _ (List.getElem_mem (show 0 + i < o.length by omega))
   omega
  have hc : ∀ (i : Int), 0 ≤ i → i < 4 → (0 : Int) ≤ i ∧ i < ((o.length : Nat) : Int) := fun i h1 h2 => by omega
  have i0 := hc 0 (by omega) (by omega)
  have i1 := hc 1 (by omega) (by omega)
  have i2 := hc 2 (by omega) (by omega)
  have i3 := hc 3 (by omega) (by omega)
  obtain ⟨x, b0, n0⟩ := l13Num_is (hp 0 (by omega))
  obtain ⟨S, b1, n1, lS⟩ := l3Read_is (hp 1 (by omega))
  obtain ⟨F, b2, n2, lF⟩ := l3Read_is (hp 2 (by omega))
  obtain ⟨q, k1, k2, k3⟩ := l13Cut_is (hp 3 (by omega)) 32
  have hp3 := hp 3 (by omega)
  have ql : q.length ≤ 1001 := by omega
  have qz : ∀ y ∈ q, y.size ≤ 1000 := fun y hy => by have := k3 y hy; omega
  simp only [if_pos i0, if_pos i1, if_pos i2, if_pos i3, show Int.toNat 0 = 0 from rfl, show Int.toNat 1 = 1 from rfl, show Int.toNat 2 = 2 from rfl, show Int.toNat 3 = 3 from rfl, n0, n1, n2, k1, Option.bind_some, tk_id]
  have hT : ∀ l : List Stp, l.length ≤ 1001 → Tiny (x, S, F, l) := fun l hl => ⟨by show S.length ≤ 2000; omega, by show F.length ≤ 2000; omega, by show l.length ≤ 2000; omega⟩
  have hV : ∀ l : List Stp, spec_AutomatonValid (x, S, F, l) = some (autOk (x, S, F, l)) := fun l => spec_AutomatonValid_is _ (by show S.length ≤ _; omega) (by show F.length ≤ _; omega)
  have key : ∀ f : Bool, ∃ a b, (Option.bind (loopF spec_ParseAutomaton_l11 (((0 : Int), [], [], [], ()), (x, S, F, (List.take 0 (List.drop 0 [])), ()), f, q, ((q.length : Nat) : Int), (0 : Int), ())) fun r8 => (match r8 with
     | .inl ((d9, d10, d11, d12, _), d13, _) => some ((d9, d10, d11, d12), d13)
     | .inr ((d14, d15, d16, d17, _), (d18, d19, d20, d21, _), d22, _) =>
      bif (!d22) then some (((0 : Int), [], [], []), false)
      else Option.bind (spec_AutomatonValid (d18, d19, d20, d21)) fun r23 =>
       bif (!r23) then some (((0 : Int), [], [], []), false)
       else some ((d18, d19, d20, d21), true))) = some ((a : Aut), (b : Bool)) ∧ Tiny a := by
   intro f
   obtain ⟨r, p1, p2⟩ := parse_loop ql qz x (S := S) (F := F) f
   have p1 : loopF spec_ParseAutomaton_l11 (((0 : Int), [], [], [], ()), (x, S, F, List.take 0 (List.drop 0 []), ()), f, q, ((q.length : Nat) : Int), (0 : Int), ()) = some r := p1
   rw [p1]
   rcases r with ⟨⟨d9, d10, d11, d12, _⟩, d13, _⟩ | ⟨⟨d14, d15, d16, d17, _⟩, ⟨d18, d19, d20, d21, _⟩, d22, _⟩
   ·obtain ⟨rfl, rfl, rfl, rfl⟩ := p2
    exact ⟨_, _, rfl, Tiny.zero⟩
   ·obtain ⟨rfl, rfl, rfl, hl⟩ := p2
    simp only [Option.bind_some, tk_id, hV]
    cases d22 with
    | false => exact ⟨_, _, rfl, Tiny.zero⟩
    | true =>
     cases autOk (d18, d19, d20, d21) with
     | false => exact ⟨_, _, rfl, Tiny.zero⟩
     | true => exact ⟨_, _, rfl, hT _ hl⟩
  cases b0 with
  | false =>
   simp only [cond_false]
   cases (ByteArray.toList (List.getD o (0 + 3) (⟨Array.empty⟩ : ByteArray)) == ByteArray.toList (⟨#[]⟩ : ByteArray)) with
   | true => exact ⟨_, _, rfl, Tiny.zero⟩
   | false => simp only [Bool.not_false, cond_true]; exact key false
  | true =>
   cases b1 with
   | false =>
    simp only [cond_true, cond_false]
    cases (ByteArray.toList (List.getD o (0 + 3) (⟨Array.empty⟩ : ByteArray)) == ByteArray.toList (⟨#[]⟩ : ByteArray)) with
    | true => exact ⟨_, _, rfl, Tiny.zero⟩
    | false => simp only [Bool.not_false, cond_true]; exact key false
   | true =>
    simp only [cond_true]
    cases (ByteArray.toList (List.getD o (0 + 3) (⟨Array.empty⟩ : ByteArray)) == ByteArray.toList (⟨#[]⟩ : ByteArray)) with
    | false => simp only [Bool.not_false, cond_true]; exact key b2
    | true =>
     simp only [Bool.not_true, cond_false]
     cases b2 with
     | false => exact ⟨_, _, rfl, Tiny.zero⟩
     | true =>
      have e0 : (List.take 0 (List.drop 0 []) : List Stp) = [] := rfl
      simp only [Bool.not_true, cond_false, e0, hV, Option.bind_some]
      cases autOk (x, S, F, []) with
      | false => exact ⟨_, _, rfl, Tiny.zero⟩
      | true => exact ⟨_, _, rfl, hT _ (by simp)⟩
 ·have e4 : ((((o.length : Nat) : Int)) != (4 : Int)) = true := by rw [bne_iff_ne]; omega
  rw [e4, cond_true]
  exact ⟨_, _, rfl, Tiny.zero⟩
theorem known_pick {L : List ByteArray} (hL : L.all (fun x => decide (x.size ≤ 1000)) = true) (j : Nat) : (List.getD L j (⟨Array.empty⟩ : ByteArray)).size ≤ 1000 := by
 by_cases hj : j < L.length
 ·rw [getD_at0 _ hj]
  exact of_decide_eq_true (List.all_eq_true.1 hL _ (List.getElem_mem hj))
 ·rw [List.getD_eq_getElem?_getD, List.getElem?_eq_none (by omega)]
  show (0 : Nat) ≤ 1000
  omega
theorem l3Known_is {k : Int} (h0 : 0 ≤ k) : ∃ a, spec_l3Known k = some a ∧ Tiny a := by
 have t := tmod_in h0 (show 1 ≤ ((9 : Nat) : Int) by omega)
 unfold spec_l3Known
 rw [if_neg (by omega), if_pos t]
 obtain ⟨⟨x, S, F, l⟩, b, p1, p2⟩ := parse_is (known_pick (L := [(⟨#[(49 : UInt8), (59 : UInt8), (48 : UInt8), (59 : UInt8), (48 : UInt8), (59 : UInt8), (48 : UInt8), (97 : UInt8), (48 : UInt8), (58 : UInt8), (49 : UInt8), (32 : UInt8), (48 : UInt8), (98 : UInt8), (48 : UInt8), (58 : UInt8), (48 : UInt8)]⟩ : ByteArray), (⟨#[(50 : UInt8), (59 : UInt8), (48 : UInt8), (59 : UInt8), (49 : UInt8), (59 : UInt8), (48 : UInt8), (97 : UInt8), (48 : UInt8), (58 : UInt8), (48 : UInt8), (32 : UInt8), (48 : UInt8), (97 : UInt8), (49 : UInt8), (58 : UInt8), (49 : UInt8), (32 : UInt8), (49 : UInt8), (98 : UInt8), (49 : UInt8), (58 : UInt8), (48 : UInt8)]⟩ : ByteArray), (⟨#[(50 : UInt8), (59 : UInt8), (48 : UInt8), (32 : UInt8), (49 : UInt8), (59 : UInt8), (48 : UInt8), (32 : UInt8), (49 : UInt8), (59 : UInt8), (48 : UInt8), (97 : UInt8), (48 : UInt8), (58 : UInt8), (49 : UInt8), (32 : UInt8), (48 : UInt8), (98 : UInt8), (48 : UInt8), (58 : UInt8), (48 : UInt8), (32 : UInt8), (49 : UInt8), (97 : UInt8), (49 : UInt8), (58 : UInt8), (48 : UInt8), (32 : UInt8), (49 : UInt8), (98 : UInt8), (49 : UInt8), (58 : UInt8), (49 : UInt8)]⟩ : ByteArray), (⟨#[(51 : UInt8), (59 : UInt8), (48 : UInt8), (59 : UInt8), (48 : UInt8), (32 : UInt8), (50 : UInt8), (59 : UInt8), (48 : UInt8), (97 : UInt8), (48 : UInt8), (58 : UInt8), (48 : UInt8), (32 : UInt8), (48 : UInt8), (97 : UInt8), (49 : UInt8), (58 : UInt8), (48 : UInt8), (32 : UInt8), (48 : UInt8), (98 : UInt8), (48 : UInt8), (58 : UInt8), (49 : UInt8), (32 : UInt8), (49 : UInt8), (97 : UInt8), (49 : UInt8), (58 : UInt8), (49 : UInt8), (32 : UInt8), (49 : UInt8), (98 : UInt8), (50 : UInt8), (58 : UInt8), (48 : UInt8), (32 : UInt8), (50 : UInt8), (97 : UInt8), (50 : UInt8), (58 : UInt8), (48 : UInt8), (32 : UInt8), (50 : UInt8), (98 : UInt8), (50 : UInt8), (58 : UInt8), (48 : UInt8)]⟩ : ByteArray), (⟨#[(50 : UInt8), (59 : UInt8), (48 : UInt8), (59 : UInt8), (48 : UInt8), (59 : UInt8), (48 : UInt8), (97 : UInt8), (49 : UInt8), (58 : UInt8), (49 : UInt8), (32 : UInt8), (49 : UInt8), (98 : UInt8), (48 : UInt8), (58 : UInt8), (48 : UInt8)]⟩ : ByteArray), (⟨#[(51 : UInt8), (59 : UInt8), (48 : UInt8), (59 : UInt8), (50 : UInt8), (59 : UInt8), (48 : UInt8), (97 : UInt8), (48 : UInt8), (58 : UInt8), (48 : UInt8), (32 : UInt8), (48 : UInt8), (98 : UInt8), (48 : UInt8), (58 : UInt8), (48 : UInt8), (32 : UInt8), (48 : UInt8), (98 : UInt8), (49 : UInt8), (58 : UInt8), (48 : UInt8), (32 : UInt8), (49 : UInt8), (97 : UInt8), (49 : UInt8), (58 : UInt8), (49 : UInt8), (32 : UInt8), (49 : UInt8), (98 : UInt8), (50 : UInt8), (58 : UInt8), (48 : UInt8), (32 : UInt8), (50 : UInt8), (97 : UInt8), (50 : UInt8), (58 : UInt8), (48 : UInt8), (32 : UInt8), (50 : UInt8), (98 : UInt8), (50 : UInt8), (58 : UInt8), (48 : UInt8)]⟩ : ByteArray), (⟨#[(49 : UInt8), (59 : UInt8), (48 : UInt8), (59 : UInt8), (48 : UInt8), (59 : UInt8), (48 : UInt8), (97 : UInt8), (48 : UInt8), (58 : UInt8), (48 : UInt8)]⟩ : ByteArray), (⟨#[(50 : UInt8), (59 : UInt8), (48 : UInt8), (59 : UInt8), (48 : UInt8), (32 : UInt8), (49 : UInt8), (59 : UInt8), (48 : UInt8), (97 : UInt8), (48 : UInt8), (58 : UInt8), (48 : UInt8), (32 : UInt8), (48 : UInt8), (98 : UInt8), (49 : UInt8), (58 : UInt8), (49 : UInt8), (32 : UInt8), (49 : UInt8), (97 : UInt8), (48 : UInt8), (58 : UInt8), (48 : UInt8), (32 : UInt8), (49 : UInt8), (98 : UInt8), (49 : UInt8), (58 : UInt8), (48 : UInt8)]⟩ : ByteArray), (⟨#[(50 : UInt8), (59 : UInt8), (48 : UInt8), (59 : UInt8), (49 : UInt8), (59 : UInt8), (48 : UInt8), (97 : UInt8), (49 : UInt8), (58 : UInt8), (50 : UInt8), (32 : UInt8), (49 : UInt8), (97 : UInt8), (49 : UInt8), (58 : UInt8), (48 : UInt8), (32 : UInt8), (49 : UInt8), (98 : UInt8), (48 : UInt8), (58 : UInt8), (49 : UInt8)]⟩ : ByteArray)]) (by decide) (0 + (Int.toNat (Int.tmod k ((9 : Nat) : Int)))))
 rw [p1]
 exact ⟨(x, S, F, l), by simp only [Option.bind_some, tk_id], p2⟩
theorem draw_loop {N : Int} {d : Dr} (h : DrOk N d) (hN : N ≤ 80000) {n m : Int} (h1 : 1 ≤ n) (h3 : n ≤ 100) (hm : 0 ≤ m) (hm2 : m ≤ 1000) (S F : List Int) : ∃ d' l, loopF spec_l3Draw_l8 ((d.1, d.2, ()), ((0 : Int), [], [], [], ()), n, (n, S, F, [], ()), m, (0 : Int), ()) = some ((d'.1, d'.2, ()), ((0 : Int), [], [], [], ()), (n, S, F, l, ()), ()) ∧ l.length ≤ 1000 ∧ DrOk (N + 4000) d' := by
 obtain ⟨r, g1, g2⟩ := loop_rel (f := spec_l3Draw_l8) m.toNat (fun i (s : Dr × List Stp) => ((s.1.1, s.1.2, ()), ((0 : Int), [], [], [], ()), n, (n, S, F, s.2, ()), m, (i : Int), ())) (fun s => ((s.1.1, s.1.2, ()), ((0 : Int), [], [], [], ()), (n, S, F, s.2, ()), ())) (fun i s => DrOk (N + 4 * i) s.1 ∧ s.2.length ≤ i)
  (fun i s hi hs => by
   obtain ⟨⟨b, k⟩, l⟩ := s
   obtain ⟨hs, hl⟩ := hs
   have hs : DrOk (N + 4 * i) (b, k) := hs
   have hl : l.length ≤ i := hl
   obtain ⟨r0, p0, _, _, _⟩ := pick_is hs (by omega) (n := n) (by omega)
   have s1 := hs.next
   obtain ⟨r1, _, p1⟩ := of_is s1 (by omega) (l := List.take 2 (List.drop 0 [(⟨#[(97 : UInt8)]⟩ : ByteArray), (⟨#[(98 : UInt8)]⟩ : ByteArray)])) (by decide) (by decide)
   have s2 := s1.next
   obtain ⟨r2, p2, _, _, _⟩ := pick_is s2 (by omega) (n := n) (by omega)
   have s3 := s2.next
   obtain ⟨r3, _, p3⟩ := num_is s3 (by omega) (l := List.take 6 (List.drop 0 [(0 : Int), (1 : Int), (0 : Int), (1 : Int), (2 : Int), (0 : Int)])) (by decide) (by decide)
   have s4 := s3.next
   obtain ⟨o, p4, p5⟩ := l3Put_is (l := l) (by omega) (r0, r1, r2, r3)
   refine ⟨((b, k + 1 + 1 + 1 + 1), o), ?_, s4.mono (by omega), by show o.length ≤ i + 1; omega⟩
   simp only [spec_l3Draw_l8, show decide ((i : Int) < m) = true from decide_eq_true (by omega), cond_true, p0, p1, p2, p3, p4, Option.bind_some, tk_id, w64_succ hi (show m.toNat ≤ 9223372036854775807 by omega)])
  (fun s hs => by simp only [spec_l3Draw_l8, show decide (((m.toNat : Nat) : Int) < m) = false from decide_eq_false (by omega), cond_false, tk_id])
  (d, []) ⟨h.mono (by omega), by simp⟩
 obtain ⟨d', l⟩ := r
 exact ⟨d', l, g1, by have := g2.2; show l.length ≤ 1000; have : l.length ≤ m.toNat := this; omega, g2.1.mono (by omega)⟩
theorem draw_tail {N : Int} {d : Dr} (h : DrOk N d) (hN : N ≤ 60000) {q : Int} (q1 : 1 ≤ q) (q3 : q ≤ 3) : ∃ a d', (Option.bind (spec_l13Rd_pick (d.1, d.2) q) fun (r32, (r33, r34), _) =>
    Option.bind (spec_l3Some (r33, r34) (IntKind.wrap .i64 ((1 : Int) + r32))) fun (r35, (r36, r37), _) =>
     Option.bind (spec_l3Some (r36, r37) (IntKind.wrap .i64 ((1 : Int) + r32))) fun (r38, (r39, r40), _) =>
      Option.bind (spec_l13Rd_pick (r39, r40) (IntKind.wrap .i64 ((IntKind.wrap .i64 ((2 : Int) * (IntKind.wrap .i64 ((1 : Int) + r32)))) + (1 : Int)))) fun (r41, (r42, r43), _) =>
       Option.bind (loopF spec_l3Draw_l8 ((r42, r43, ()), ((0 : Int), [], [], [], ()), (IntKind.wrap .i64 ((1 : Int) + r32)), ((IntKind.wrap .i64 ((1 : Int) + r32)), (List.take (List.length r35) (List.drop 0 r35)), (List.take (List.length r38) (List.drop 0 r38)), (List.take 0 (List.drop 0 [])), ()), (IntKind.wrap .i64 ((1 : Int) + r41)), (0 : Int), ())) fun ((r44, r45, _), (r46, r47, r48, r49, _), (r50, r51, r52, r53, _), _) =>
        some ((r50, (List.take (List.length r51) (List.drop 0 r51)), (List.take (List.length r52) (List.drop 0 r52)), (List.take (List.length r53) (List.drop 0 r53))), (r44, r45), ())) = some (a, d', ()) ∧ Tiny a ∧ DrOk (N + 5000) d' := by
 obtain ⟨r0, p0, a1, a2, _⟩ := pick_is h (by omega) (n := q) (by omega)
 have a2 := a2 (by omega)
 have s1 := h.next
 have w1 : IntKind.wrap .i64 ((1 : Int) + r0) = 1 + r0 := w64 (by omega) (by omega)
 obtain ⟨S, d1, p1, l1, s2⟩ := l3Some_is s1 (by omega) (n := 1 + r0) (by omega) (by omega)
 obtain ⟨F, d2, p2, l2, s3⟩ := l3Some_is s2 (by omega) (n := 1 + r0) (by omega) (by omega)
 have w2 : IntKind.wrap .i64 ((2 : Int) * (1 + r0)) = 2 * (1 + r0) := w64 (by omega) (by omega)
 have w3 : IntKind.wrap .i64 (2 * (1 + r0) + 1) = 2 * (1 + r0) + 1 := w64 (by omega) (by omega)
 obtain ⟨r4, p4, a3, a4, _⟩ := pick_is s3 (by omega) (n := 2 * (1 + r0) + 1) (by omega)
 have a4 := a4 (by omega)
 have s4 := s3.next
 have w4 : IntKind.wrap .i64 ((1 : Int) + r4) = 1 + r4 := w64 (by omega) (by omega)
 obtain ⟨d', l, p5, l3, s5⟩ := draw_loop s4 (by omega) (n := 1 + r0) (m := 1 + r4) (by omega) (by omega) (by omega) (by omega) S F
 obtain ⟨d1b, d1p⟩ := d1
 obtain ⟨d2b, d2p⟩ := d2
 obtain ⟨b', p'⟩ := d'
 have p5 : loopF spec_l3Draw_l8 ((d2b, d2p + 1, ()), ((0 : Int), [], [], [], ()), 1 + r0, (1 + r0, S, F, List.take 0 (List.drop 0 []), ()), 1 + r4, (0 : Int), ()) = some ((b', p', ()), ((0 : Int), [], [], [], ()), (1 + r0, S, F, l, ()), ()) := p5
 refine ⟨(1 + r0, S, F, l), (b', p'), ?_, ⟨by show S.length ≤ 2000; omega, by show F.length ≤ 2000; omega, by show l.length ≤ 2000; omega⟩, s5.mono (by omega)⟩
 simp only [p0, Option.bind_some, w1, p1, p2, w2, w3, p4, w4, tk_id, p5]
theorem l3Draw_is {N : Int} {d : Dr} (h : DrOk N d) (hN : N ≤ 50000) {q : Int} (q1 : 1 ≤ q) (q3 : q ≤ 3) : ∃ a d', spec_l3Draw d q = some (a, d', ()) ∧ Tiny a ∧ DrOk (N + 5500) d' := by
 obtain ⟨b, k⟩ := d
 obtain ⟨r0, p0, a1, a2, _⟩ := pick_is h (by omega) (n := 3) (by omega)
 have s1 := h.next
 unfold spec_l3Draw
 dsimp only
 rw [p0]
 simp only [Option.bind_some]
 cases (r0 == 0) with
 | false =>
  obtain ⟨a, d', e1, e2, e3⟩ := draw_tail s1 (by omega) q1 q3
  exact ⟨a, d', e1, e2, e3.mono (by omega)⟩
 | true =>
  obtain ⟨r1, p1, a3, a4, _⟩ := pick_is s1 (by omega) (n := 9) (by omega)
  have s2 := s1.next
  obtain ⟨⟨x, S, F, l⟩, p2, t2⟩ := l3Known_is a3
  rw [cond_true, p1]
  simp only [Option.bind_some]
  rw [p2]
  simp only [Option.bind_some]
  cases decide (x ≤ q) with
  | true => exact ⟨(x, S, F, l), _, by simp only [cond_true, tk_id], t2, s2.mono (by omega)⟩
  | false =>
   rw [cond_false]
   obtain ⟨a, d', e1, e2, e3⟩ := draw_tail s2 (by omega) q1 q3
   exact ⟨a, d', e1, e2, e3.mono (by omega)⟩
def Tinier (a : Aut) : Prop := a.2.1.length ≤ 3000 ∧ a.2.2.1.length ≤ 3000 ∧ a.2.2.2.length ≤ 3000
theorem Tinier.small {a : Aut} (h : Tinier a) : Small a := ⟨by have := h.1; omega, by have := h.2.1; omega, by have := h.2.2; omega⟩
theorem l3Bad_is {N : Int} {d : Dr} (h : DrOk N d) (hN : N ≤ 80000) {a : Aut} (ha : Tiny a) : ∃ a' d', spec_l3Bad d a = some (a', d', ()) ∧ Tinier a' ∧ DrOk (N + 10) d' := by
 obtain ⟨b, k⟩ := d
 obtain ⟨x, S, F, l⟩ := a
 obtain ⟨t1, t2, t3⟩ := ha
 have t1 : S.length ≤ 2000 := t1
 have t2 : F.length ≤ 2000 := t2
 have t3 : l.length ≤ 2000 := t3
 obtain ⟨r0, p0, _, _, _⟩ := pick_is h (by omega) (n := 36) (by omega)
 have s1 := h.next
 unfold spec_l3Bad
 dsimp only
 rw [p0]
 simp only [Option.bind_some]
 have n3 : (0 < (List.take 3 (List.drop 0 [(0 : Int), (4 : Int), (-1 : Int)])).length) ∧ (List.take 3 (List.drop 0 [(0 : Int), (4 : Int), (-1 : Int)])).length ≤ 1000 := by decide
 cases (r0 == 0) with
 | true =>
  obtain ⟨r1, _, p1⟩ := num_is s1 (by omega) (l := List.take 5 (List.drop 0 [(0 : Int), (5 : Int), (-1 : Int), (1 : Int), (9223372036854775807 : Int)])) (by decide) (by decide)
  rw [cond_true, p1]
  exact ⟨_, _, rfl, ⟨by show S.length ≤ 3000; omega, by show F.length ≤ 3000; omega, by show l.length ≤ 3000; omega⟩, s1.next.mono (by omega)⟩
 | false =>
  rw [cond_false]
  cases (r0 == 1) with
  | true =>
   obtain ⟨r1, p1, _, _, _⟩ := pick_is s1 (by omega) (n := 2) (by omega)
   have s2 := s1.next
   obtain ⟨r2, _, p2⟩ := of_is s2 (by omega) (l := List.take 3 (List.drop 0 [(⟨#[(97 : UInt8)]⟩ : ByteArray), (⟨#[(99 : UInt8)]⟩ : ByteArray), (⟨#[]⟩ : ByteArray)])) (by decide) (by decide)
   have s3 := s2.next
   obtain ⟨r3, _, p3⟩ := num_is s3 (by omega) n3.1 n3.2
   have s4 := s3.next
   obtain ⟨r4, _, p4⟩ := num_is s4 (by omega) n3.1 n3.2
   have s5 := s4.next
   obtain ⟨a1, a2⟩ := snoc_ok 40 (p := l) (x := (r1, r2, r3, r4)) (by omega) (by omega)
   rw [cond_true, if_pos ⟨rfl, by omega⟩, p1]
   simp only [Option.bind_some]
   rw [p2]
   simp only [Option.bind_some]
   rw [p3]
   simp only [Option.bind_some]
   rw [p4]
   simp only [Option.bind_some, List.drop_zero, List.nil_append, Nat.zero_add]
   simp only [Nat.zero_add, List.drop_zero] at a1 a2
   rw [if_pos a1, a2]
   exact ⟨_, _, rfl, ⟨by show S.length ≤ 3000; omega, by show F.length ≤ 3000; omega, by show (l ++ _).length ≤ 3000; simp; omega⟩, s5.mono (by omega)⟩
  | false =>
   rw [cond_false]
   cases (r0 == 2) with
   | true =>
    obtain ⟨r1, _, p1⟩ := num_is s1 (by omega) n3.1 n3.2
    obtain ⟨a1, a2⟩ := snoc_ok 8 (p := S) (x := r1) (by omega) (by omega)
    rw [cond_true, if_pos ⟨rfl, by omega⟩, p1]
    simp only [Option.bind_some, List.drop_zero, List.nil_append, Nat.zero_add]
    simp only [Nat.zero_add, List.drop_zero] at a1 a2
    rw [if_pos a1, a2]
    exact ⟨_, _, rfl, ⟨by show (S ++ _).length ≤ 3000; simp; omega, by show F.length ≤ 3000; omega, by show l.length ≤ 3000; omega⟩, s1.next.mono (by omega)⟩
   | false => exact ⟨_, _, rfl, ⟨by show S.length ≤ 3000; omega, by show F.length ≤ 3000; omega, by show l.length ≤ 3000; omega⟩, s1.mono (by omega)⟩
theorem l3Any_is {N : Int} {d : Dr} (h : DrOk N d) (hN : N ≤ 50000) : ∃ a d', spec_l3Any d = some (a, d', ()) ∧ Tinier a ∧ DrOk (N + 5510) d' := by
 obtain ⟨⟨x, S, F, l⟩, ⟨b1, k1⟩, p1, t1, s1⟩ := l3Draw_is h hN (q := 3) (by omega) (by omega)
 obtain ⟨⟨x', S', F', l'⟩, ⟨b2, k2⟩, p2, t2, s2⟩ := l3Bad_is s1 (by omega) t1
 obtain ⟨b, k⟩ := d
 refine ⟨(x', S', F', l'), (b2, k2), ?_, t2, s2.mono (by omega)⟩
 simp only [spec_l3Any, p1, Option.bind_some, tk_id, p2]
theorem l13Open_is {c : List Int} (hc : ∀ x ∈ c, 0 ≤ x ∧ x ≤ 255) : ∃ d, spec_l13Open c = some d ∧ DrOk 0 d := by
 unfold spec_l13Open
 by_cases h : ((c.length : Nat) : Int) > 2000
 ·rw [decide_eq_true h, cond_true, if_pos ⟨by omega, by omega⟩]
  refine ⟨_, rfl, fun x hx => hc x (List.mem_of_mem_drop (List.mem_of_mem_take hx)), ?_, Int.le_refl _, Int.le_refl _⟩
  show (List.take _ (List.drop 0 c)).length ≤ 2000
  rw [List.length_take]
  have : (Int.toNat 2000 - 0) = 2000 := rfl
  omega
 ·rw [decide_eq_false h, cond_false]
  exact ⟨_, rfl, hc, by show c.length ≤ 2000; omega, Int.le_refl _, Int.le_refl _⟩
theorem bytes_of {c : List Int} (f : Fits (.sl (.int .u8)) c) : ∀ x ∈ c, 0 ≤ x ∧ x ≤ 255 := by
 intro x hx
 have h : (Lit.int .u8 x).wf = true := f.2 x hx
 have h := Bool.and_eq_true_iff.1 h
 exact ⟨of_decide_eq_true h.1, of_decide_eq_true h.2⟩
end Go.Proofs.Ytogigagfgkfkhaa
