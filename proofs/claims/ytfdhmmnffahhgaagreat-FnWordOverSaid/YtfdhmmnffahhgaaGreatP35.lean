/- The elements of any automaton, and what is asked of them: both sides tell the same. -/
import Derived.Test.YtfdhmmnffahhgaaGreatP34
set_option linter.unusedVariables false
set_option linter.unusedSimpArgs false
namespace Go.Proofs.YtfdhmmnffahhgaaGreat
open Go Go.Proofs.YtfdhmmnffahhgaaGreat.Am
def lett (c : ByteArray) (n : Nat) (l : List Stp) : List Int := (yl4 c n l l.length).map gr
theorem zv1 {a : Aut} {n : Nat} (ha : AutIs a n) {p : List Elt × Bool} (hp : LOk n p.1) {w : List Elt} (hw : w.length ≤ 2) {k : Nat} (hk : k < 2) {c : ByteArray} (hc : List.getD [la, lb] k (⟨Array.empty⟩ : ByteArray) = c) :
  yf4 (true, (a.1, a.2.1, a.2.2.1, a.2.2.2, ()), (p.1, p.2, ()), w, [la, lb], (2 : Int), (k : Int), ()) = some (.inl (true, (a.1, a.2.1, a.2.2.1, a.2.2.2, ()), ((sput n (lett c n a.2.2.2) c p).1, (sput n (lett c n a.2.2.2) c p).2, ()), w ++ [(((n : Int), lett c n a.2.2.2), c)], [la, lb], (2 : Int), ((k + 1 : Nat) : Int), ())) := by
 have hr := yx1 ha c
 have hm := y0m ha c
 obtain ⟨x, S, F, l⟩ := a
 have hm : yi4 (x, S, F, l) c = some ((n : Int), yl4 c n l l.length) := hm
 have hg := z6v ha.n4 hr.1
 have hA : GOk n (lett c n l) := gr_ok hr.1
 have e1 := sput_39 ha.n4 p hp hA c x S F l true (w ++ [(((n : Int), lett c n l), c)]) [la, lb] (2 : Int) (k : Int)
 simp only [yf4, decide_eq_true (show (k : Int) < 2 by omega), cond_true, Int.toNat_natCast, Nat.zero_add, hc, hm, Option.bind_some, List.drop_zero, List.take_length]
 rw [if_pos ⟨by omega, by simp; omega⟩, show yt9 ((n : Int), yl4 c n l l.length) = some ((n : Int), lett c n l) from hg]
 simp only [Option.bind_some, List.drop_zero, List.take_length, show List.take 1 [(((n : Int), lett c n l), c)] = [(((n : Int), lett c n l), c)] from rfl, List.take_of_length_le (show (w ++ [(((n : Int), lett c n l), c)]).length ≤ w.length + [(((n : Int), lett c n l), c)].length by simp), if_true]
 rw [if_pos ⟨trivial, by simp; omega⟩, e1]
 simp only [Option.bind_some, Nat.zero_add, List.drop_zero, List.take_length, if_true, ya7 hk (by omega)]
theorem zv2 {a : Aut} {n : Nat} (ha : AutIs a n) (hv : y0g a = true) (hs : y2q a) {p : List Elt × Bool} (hp : LOk n p.1) {k : Nat} (hk : k < 2) {c : ByteArray} (hc : List.getD [la, lb] k (⟨Array.empty⟩ : ByteArray) = c) (hc2 : c = la ∨ c = lb) :
  yc8 ((a.1, a.2.1, a.2.2.1, a.2.2.2, ()), (p.1, p.2, ()), [la, lb], (2 : Int), (k : Int), ()) = some (.inl ((a.1, a.2.1, a.2.2.1, a.2.2.2, ()), ((iput n (lett c n a.2.2.2) c p).1, (iput n (lett c n a.2.2.2) c p).2, ()), [la, lb], (2 : Int), ((k + 1 : Nat) : Int), ())) := by
 have hr := yx1 ha c
 have hm := zz2 ha hv hs hc2
 obtain ⟨x, S, F, l⟩ := a
 have hm : yw9 (x, S, F, l) c = some (((n : Int), lett c n l), true) := hm
 have hA : GOk n (lett c n l) := gr_ok hr.1
 have e1 := z2m ha.n4 p hp hA c x S F l [la, lb] (2 : Int) (k : Int)
 simp only [yc8, decide_eq_true (show (k : Int) < 2 by omega), cond_true, Int.toNat_natCast, Nat.zero_add, hc, hm, Option.bind_some, List.drop_zero, List.take_length]
 rw [if_pos ⟨by omega, by simp; omega⟩, e1]
 simp only [Option.bind_some, Nat.zero_add, List.drop_zero, List.take_length, if_true, ya7 hk (by omega)]
theorem LOk.nil (n : Nat) : LOk n [] := ⟨fun e he => (by cases he), (by simp)⟩
theorem ks7 {L : List Elt} {n : Nat} (hL : LOk n L) (h4 : n ≤ 4) : yj4 L = some L := by
 have hlen := hL.len
 have hsq := y0w h4
 obtain ⟨r, g1, g2⟩ := yl3 (f := yc5) L.length (fun i (o : List Elt) => (o, L, (L.length : Int), (i : Int), ())) (fun i o => o ++ [L.getD i el0]) (fun o => (o, ())) (fun i o => o = L.take i)
  (fun i o hi ho => by subst ho; rw [yq4 hi, yd8 el0 hi])
  (fun i o hi ho => by
   have hol : o.length = i := by subst ho; rw [List.length_take]; omega
   have hat := hL.at hi
   rcases he : L.getD i el0 with ⟨⟨m, E⟩, te⟩
   rw [he] at hat
   have hE : E.length = n * n := hat.2.1.1
   have e1 : yo8 ((m, E), te) = some ((m, E), te) := by
    simp only [yo8, yu0, List.length_nil, Nat.zero_add, List.drop_zero, List.nil_append, List.take_length]
    rw [if_pos ⟨trivial, by rw [hE]; omega⟩]
    simp only [Option.bind_some, List.take_length]
   simp only [yc5, lt_t hi, cond_true, if_pos (in_t hi), Int.toNat_natCast, he, e1, Option.bind_some, List.drop_zero, List.take_length, Nat.zero_add, show List.take 1 [((m, E), te)] = [((m, E), te)] from rfl]
   rw [if_pos ⟨trivial, by simp; omega⟩, List.take_of_length_le (by simp), ya7 hi (by omega)])
  (fun o ho => by simp only [yc5, lt_f, cond_false, List.drop_zero, List.take_length])
  [] rfl
 have g1 : ya4 yc5 ([], L, (L.length : Int), (0 : Int), ()) = _ := g1
 rw [List.take_length] at g2
 simp only [yj4, List.drop_zero, List.take_nil]
 rw [g1, g2]
 simp only [Option.bind_some, List.drop_zero, List.take_length]
/-- the elements, told of steps alone -/
noncomputable def z8k (n : Nat) (st : List Stp) : Option (List Elt × Bool) :=
 (ya4 yb7 (true, ((sput n (lett lb n st) lb (sput n (lett la n st) la ([], false))).1, (sput n (lett lb n st) lb (sput n (lett la n st) la ([], false))).2, ()), [] ++ [(((n : Int), lett la n st), la)] ++ [(((n : Int), lett lb n st), lb)], (0 : Int), ())).map fun r => if r.1.2.1 then ([], false) else (r.1.1, true)
theorem y96 {a : Aut} {n : Nat} (ha : AutIs a n) (hv : y0g a = true) (hs : y2q a) : ∃ L ok, LOk n L ∧ yg8 a = some (L, ok) ∧ ye0 a = some (L, ok) ∧ (ok = false → L = []) ∧ (∀ X : List Int → ByteArray → Prop, Clo n X → X (lett la n a.2.2.2) la → X (lett lb n a.2.2.2) lb → XOk X L) ∧ z8k n a.2.2.2 = some (L, ok) := by
 have a1 := zv1 ha (LOk.nil n) (p := ([], false)) (w := []) (by simp) (show 0 < 2 by omega) (c := la) rfl
 have okA : GOk n (lett la n a.2.2.2) := gr_ok (yx1 ha la).1
 have okB : GOk n (lett lb n a.2.2.2) := gr_ok (yx1 ha lb).1
 have p1 := y8k okA la (p := ([], false)) (LOk.nil n)
 have q1 := zg4 okA la (p := ([], true)) (LOk.nil n)
 have a2 := zv1 ha p1 (w := [] ++ [(((n : Int), lett la n a.2.2.2), la)]) (by simp) (show 1 < 2 by omega) (c := lb) rfl
 have b1 := zv2 ha hv hs (LOk.nil n) (p := ([], true)) (show 0 < 2 by omega) (c := la) rfl (.inl rfl)
 have b2 := zv2 ha hv hs q1 (show 1 < 2 by omega) (c := lb) rfl (.inr rfl)
 have s1 : Same (([], false) : List Elt × Bool) ([], true) := .inl ⟨rfl, rfl, rfl⟩
 have s2 := (s1.put (n := n) (A := lett la n a.2.2.2) (t := la)).put (n := n) (A := lett lb n a.2.2.2) (t := lb)
 obtain ⟨p', q', g1, g2, g3, g4, g5⟩ := z6z ha.n1 ha.n4 ([] ++ [(((n : Int), lett la n a.2.2.2), la)] ++ [(((n : Int), lett lb n a.2.2.2), lb)]) 121 0 _ _ (by omega) s2 (y8k okB lb p1) (zg4 okB lb q1)
 have hS : yt2 a true = some (p'.1, !p'.2) := by
  obtain ⟨x, S, F, l⟩ := a
  have a1 : yf4 (true, (x, S, F, l, ()), ([], false, ()), [], [la, lb], (2 : Int), (0 : Int), ()) = _ := a1
  have a2 : yf4 (true, (x, S, F, l, ()), _, _, [la, lb], (2 : Int), ((0 + 1 : Nat) : Int), ()) = _ := a2
  simp only [yt2, List.length_nil, List.drop_zero, List.take_zero, if_true, Nat.add_zero, show List.take 2 [la, lb] = [la, lb] from rfl, show ((2 : Nat) : Int) = 2 from rfl]
  rw [yb1, a1]
  simp only [Option.bind_some]
  rw [yb1, a2]
  simp only [Option.bind_some]
  rw [yb1]
  simp only [yf4, show decide (((1 + 1 : Nat) : Int) < 2) = false from rfl, cond_false, Nat.zero_add, List.drop_zero, List.take_length, if_true, Option.bind_some]
  have g1 : ya4 yb7 (true, _, _, (0 : Int), ()) = _ := g1
  rw [g1]
  simp only [Option.bind_some]
 have hI : yj7 (a, ()) = some ((if p'.2 then [] else p'.1, !p'.2, ()), ()) := by
  have hA := yg5 a (yr3 hs).1 (yr3 hs).2
  obtain ⟨x, S, F, l⟩ := a
  have b1 : yc8 ((x, S, F, l, ()), ([], true, ()), [la, lb], (2 : Int), (0 : Int), ()) = _ := b1
  have b2 : yc8 ((x, S, F, l, ()), _, [la, lb], (2 : Int), ((0 + 1 : Nat) : Int), ()) = _ := b2
  simp only [yj7, hA, hv, Option.bind_some, Bool.not_true, cond_false, List.drop_zero, show List.take 2 [la, lb] = [la, lb] from rfl, show ((2 : Nat) : Int) = 2 from rfl]
  rw [yb1, b1]
  simp only [Option.bind_some]
  rw [yb1, b2]
  simp only [Option.bind_some]
  rw [yb1]
  simp only [yc8, show decide (((1 + 1 : Nat) : Int) < 2) = false from rfl, cond_false, List.drop_zero, List.take_length, Option.bind_some]
  have g2 : ya4 yb2 (_, (0 : Int), ()) = _ := g2
  rw [g2]
  obtain ⟨L, F⟩ := p'
  obtain ⟨L', f⟩ := q'
  rcases g3 with ⟨c1, c2, c3⟩ | ⟨c1, c2⟩
  ·have c1 : F = false := c1
   have c2 : f = true := c2
   have c3 : L' = L := c3
   subst c1 c2 c3
   simp
  ·have c1 : F = true := c1
   have c2 : f = false := c2
   subst c1 c2
   simp
 have hSv := yr9 a (yr3 hs).1 (yr3 hs).2
 have hO : z8k n a.2.2.2 = some (if p'.2 then ([], false) else (p'.1, true)) := by
  unfold z8k
  rw [show ya4 yb7 (true, _, _, (0 : Int), ()) = _ from g1]
  rfl
 obtain ⟨x, S, F, l⟩ := a
 obtain ⟨L, full⟩ := p'
 have g4 : LOk n L := g4
 cases full with
 | true =>
  refine ⟨[], false, LOk.nil n, ?_, ?_, fun _ => rfl, (fun _ _ _ _ e he => by cases he), hO⟩
  ·simp only [yg8, yi6, hSv, hv, hS, Option.bind_some, Bool.not_true, Bool.not_false, cond_false, cond_true, List.drop_zero, List.take_zero, ks7 (LOk.nil n) ha.n4, List.take_length]
  ·simp only [ye0, hI, Option.bind_some, if_true, List.drop_zero, List.take_length]
   rfl
 | false =>
  refine ⟨L, true, g4, ?_, ?_, (fun h => by cases h), (fun X hX xa xb => g5 X hX (z4g xb (z4g xa fun e he => by cases he))), hO⟩
  ·simp only [yg8, yi6, hSv, hv, hS, Option.bind_some, Bool.not_true, Bool.not_false, cond_false, cond_true, List.drop_zero, ks7 g4 ha.n4, List.take_length]
  ·simp only [ye0, hI, Option.bind_some, List.drop_zero, List.take_length]
   simp
theorem zz3 {a : Aut} {n : Nat} (ha : AutIs a n) (hv : y0g a = true) (hs : y2q a) : ∃ L ok, LOk n L ∧ yg8 a = some (L, ok) ∧ ye0 a = some (L, ok) ∧ (ok = false → L = []) := by
 obtain ⟨L, ok, h1, h2, h3, h4, _, _⟩ := y96 ha hv hs
 exact ⟨L, ok, h1, h2, h3, h4⟩
theorem zi9 {a : Aut} (hv : y0g a = false) (hs : y2q a) : yg8 a = some ([], false) ∧ ye0 a = some ([], false) := by
 have hA := yg5 a (yr3 hs).1 (yr3 hs).2
 have hSv := yr9 a (yr3 hs).1 (yr3 hs).2
 obtain ⟨x, S, F, l⟩ := a
 constructor
 ·simp only [yg8, yi6, hSv, hv, Option.bind_some, Bool.not_false, cond_true, List.drop_zero, List.take_zero, ks7 (LOk.nil 1) (by omega), List.take_length]
 ·simp only [ye0, yj7, hA, hv, Option.bind_some, Bool.not_false, cond_true, List.drop_zero, List.take_length]
/-! ### the grade from a start to a final -/
def btwF (n : Nat) (A : List Int) (i : Int) (F : List Int) (c : Int) : Int := F.foldl (fun c k => mn c (A.getD (i.toNat * n + k.toNat) 0)) c
def btw (n : Nat) (A : List Int) (S F : List Int) : Int := S.foldl (fun c i => btwF n A i F c) 3
section
variable {n : Nat} (h1 : 1 ≤ n) (h4 : n ≤ 4) {S F : List Int} (l : List Stp) (hS : ∀ q ∈ S, 0 ≤ q ∧ q ≤ (n : Int) - 1) (hF : ∀ q ∈ F, 0 ≤ q ∧ q ≤ (n : Int) - 1) (lS : S.length ≤ 1048576) (lF : F.length ≤ 1048576) {A : List Int} (hA : GOk n A)
include h4 hF lF hA
theorem zv3 (c : Int) {i : Int} (hi : 0 ≤ i ∧ i ≤ (n : Int) - 1) (u v : Int) : ya4 yf9 (((n : Int), S, F, l, ()), ((n : Int), A, ()), c, i, S, u, v, F, (F.length : Int), (0 : Int), ()) = some (((n : Int), S, F, l, ()), ((n : Int), A, ()), btwF n A i F c, S, u, v, ()) := by
 obtain ⟨r, g1, g2⟩ := yl3 (f := yf9) F.length (fun j (c : Int) => (((n : Int), S, F, l, ()), ((n : Int), A, ()), c, i, S, u, v, F, (F.length : Int), (j : Int), ())) (fun j c => mn c (A.getD (i.toNat * n + (F.getD j 0).toNat) 0)) (fun c => (((n : Int), S, F, l, ()), ((n : Int), A, ()), c, S, u, v, ()))
  (fun j c' => c' = btwF n A i (F.take j) c)
  (fun j c' hj hc => by subst hc; unfold btwF; rw [yq4 hj, List.foldl_append, yd8 0 hj]; rfl)
  (fun j c' hj hc => by
   have hk := hF _ (show F.getD j 0 ∈ F by rw [yd8 0 hj]; exact List.getElem_mem hj)
   obtain ⟨w1, w2⟩ := mulwI h4 hi hk
   simp only [yf9, lt_t hj, cond_true, if_pos (in_t hj), Int.toNat_natCast, w1]
   rw [if_pos ⟨by omega, by rw [hA.1]; omega⟩]
   simp only [ya7 hj (show F.length ≤ 9223372036854775807 by omega)]
   rfl)
  (fun c' hc => by simp only [yf9, lt_f, cond_false])
  c rfl
 have g1 : ya4 yf9 (((n : Int), S, F, l, ()), ((n : Int), A, ()), c, i, S, u, v, F, (F.length : Int), (0 : Int), ()) = _ := g1
 rw [g1, g2, List.take_length]
include hS lS in
theorem z4h : yv2 ((n : Int), S, F, l) ((n : Int), A) = some (btw n A S F) := by
 obtain ⟨r, g1, g2⟩ := yl3 (f := yh7) S.length (fun j (c : Int) => (((n : Int), S, F, l, ()), ((n : Int), A, ()), c, S, (S.length : Int), (j : Int), ())) (fun j c => btwF n A (S.getD j 0) F c) (fun c => (c, ()))
  (fun j c' => c' = (S.take j).foldl (fun c i => btwF n A i F c) 3)
  (fun j c' hj hc => by subst hc; rw [yq4 hj, List.foldl_append, yd8 0 hj]; rfl)
  (fun j c' hj hc => by
   have hk := hS _ (show S.getD j 0 ∈ S by rw [yd8 0 hj]; exact List.getElem_mem hj)
   simp only [yh7, lt_t hj, cond_true, if_pos (in_t hj), Int.toNat_natCast, zv3 h4 l hF lF hA c' hk, Option.bind_some, ya7 hj (show S.length ≤ 9223372036854775807 by omega)])
  (fun c' hc => by simp only [yh7, lt_f, cond_false])
  3 rfl
 have g1 : ya4 yh7 (((n : Int), S, F, l, ()), ((n : Int), A, ()), (3 : Int), S, (S.length : Int), (0 : Int), ()) = _ := g1
 simp only [yv2]
 rw [g1, g2, List.take_length]
 rfl
theorem zv4 (c : Int) {i : Int} (hi : 0 ≤ i ∧ i ≤ (n : Int) - 1) (u v : Int) : ya4 yd9 (((n : Int), S, F, l, ()), ((n : Int), A, ()), c, i, S, u, v, F, (F.length : Int), (0 : Int), ()) = some (((n : Int), S, F, l, ()), ((n : Int), A, ()), btwF n A i F c, S, u, v, ()) := by
 obtain ⟨r, g1, g2⟩ := yl3 (f := yd9) F.length (fun j (c : Int) => (((n : Int), S, F, l, ()), ((n : Int), A, ()), c, i, S, u, v, F, (F.length : Int), (j : Int), ())) (fun j c => mn c (A.getD (i.toNat * n + (F.getD j 0).toNat) 0)) (fun c => (((n : Int), S, F, l, ()), ((n : Int), A, ()), c, S, u, v, ()))
  (fun j c' => c' = btwF n A i (F.take j) c)
  (fun j c' hj hc => by subst hc; unfold btwF; rw [yq4 hj, List.foldl_append, yd8 0 hj]; rfl)
  (fun j c' hj hc => by
   have hk := hF _ (show F.getD j 0 ∈ F by rw [yd8 0 hj]; exact List.getElem_mem hj)
   obtain ⟨w1, w2⟩ := mulwI h4 hi hk
   simp only [yd9, lt_t hj, cond_true, if_pos (in_t hj), Int.toNat_natCast, ye3, w1]
   rw [if_pos ⟨by omega, by rw [hA.1]; omega⟩]
   simp only [Option.bind_some, ya7 hj (show F.length ≤ 9223372036854775807 by omega)]
   rfl)
  (fun c' hc => by simp only [yd9, lt_f, cond_false])
  c rfl
 have g1 : ya4 yd9 (((n : Int), S, F, l, ()), ((n : Int), A, ()), c, i, S, u, v, F, (F.length : Int), (0 : Int), ()) = _ := g1
 rw [g1, g2, List.take_length]
include h1 hS lS in
theorem z4i (hv : y0g ((n : Int), S, F, l) = true) : yn1 ((n : Int), S, F, l) ((n : Int), A) = some (btw n A S F) := by
 obtain ⟨r, g1, g2⟩ := yl3 (f := yf1) S.length (fun j (c : Int) => (((n : Int), S, F, l, ()), ((n : Int), A, ()), c, S, (S.length : Int), (j : Int), ())) (fun j c => btwF n A (S.getD j 0) F c) (fun c => (c, ()))
  (fun j c' => c' = (S.take j).foldl (fun c i => btwF n A i F c) 3)
  (fun j c' hj hc => by subst hc; rw [yq4 hj, List.foldl_append, yd8 0 hj]; rfl)
  (fun j c' hj hc => by
   have hk := hS _ (show S.getD j 0 ∈ S by rw [yd8 0 hj]; exact List.getElem_mem hj)
   simp only [yf1, lt_t hj, cond_true, if_pos (in_t hj), Int.toNat_natCast, zv4 h4 l hF lF hA c' hk, Option.bind_some, ya7 hj (show S.length ≤ 9223372036854775807 by omega)])
  (fun c' hc => by simp only [yf1, lt_f, cond_false])
  3 rfl
 have g1 : ya4 yf1 (((n : Int), S, F, l, ()), ((n : Int), A, ()), (3 : Int), S, (S.length : Int), (0 : Int), ()) = _ := g1
 have hA' := yg5 ((n : Int), S, F, l) (show S.length ≤ _ by omega) (show F.length ≤ _ by omega)
 simp only [yn1, hA', hv, y28 h1 h4 hA, Option.bind_some, Bool.not_true, cond_false, bne_self_eq_false]
 rw [g1, g2, List.take_length]
 rfl
end
/-! ### the first element for which something holds -/
def y8l (L : List Elt) (p : Elt → Bool) : ByteArray × Bool := match (List.range L.length).find? fun i => p (L.getD i el0) with | some i => ((L.getD i el0).2, true) | none => ((⟨#[]⟩ : ByteArray), false)
theorem zj0 {a : Aut} {L : List Elt} {ok : Bool} (hE : ye0 a = some (L, ok)) (hl : L.length ≤ 120) {φ : (((Int × List Int)) × Unit) → Option Bool} {p : Elt → Bool} (hφ : ∀ e ∈ L, φ (e.1, ()) = some (p e)) : yv0 a φ = some (y8l L p) := by
 have g := yr4 (f := yh6) (fun i => (φ, L, (L.length : Int), (i : Int), ())) L.length (fun i => p (L.getD i el0)) (fun i => Sum.inl ((L.getD i el0).2, true, ())) (Sum.inr ())
  (fun i hi => by
   have hm : L.getD i el0 ∈ L := by rw [yd8 el0 hi]; exact List.getElem_mem hi
   have hp := hφ _ hm
   have hp : φ (((L.getD i el0).1.1, (L.getD i el0).1.2), ()) = some (p (L.getD i el0)) := hp
   simp only [yh6, lt_t hi, cond_true, if_pos (in_t hi), Int.toNat_natCast, Nat.zero_add, hp, Option.bind_some, List.drop_zero, List.take_length, ya7 hi (show L.length ≤ 9223372036854775807 by omega)]
   cases p (L.getD i el0) <;> rfl)
  (by simp only [yh6, lt_f, cond_false])
 have g : ya4 yh6 (φ, L, (L.length : Int), (0 : Int), ()) = _ := g
 obtain ⟨x, S, F, l⟩ := a
 simp only [yv0, hE, Option.bind_some, List.drop_zero, List.take_length]
 rw [g]
 unfold y8l
 cases (List.range L.length).find? fun i => p (L.getD i el0) <;> rfl
end Go.Proofs.YtfdhmmnffahhgaaGreat
