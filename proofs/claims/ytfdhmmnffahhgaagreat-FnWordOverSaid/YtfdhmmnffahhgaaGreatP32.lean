/- The grades of letters, by the reference and by the program. -/
import Derived.Test.YtfdhmmnffahhgaaGreatP31
set_option linter.unusedVariables false
set_option linter.unusedSimpArgs false
namespace Go.Proofs.YtfdhmmnffahhgaaGreat
open Go Go.Proofs.YtfdhmmnffahhgaaGreat.Am
/-- a step's cost is put into its place -/
def zg3 (c : ByteArray) (n : Nat) (l : List Stp) (i : Nat) (M : List Int) : List Int :=
 bif (l.getD i stp0).2.1.toList == c.toList then M.set ((l.getD i stp0).1.toNat * n + (l.getD i stp0).2.2.1.toNat) (l.getD i stp0).2.2.2 else M
def yl4 (c : ByteArray) (n : Nat) (l : List Stp) : Nat → List Int
 | 0 => List.replicate (n * n) Nv
 | i + 1 => zg3 c n l i (yl4 c n l i)
theorem y2w (c : ByteArray) (n : Nat) (l : List Stp) : ∀ i, (yl4 c n l i).length = n * n
 | 0 => by simp [yl4]
 | i + 1 => by
  simp only [yl4, zg3]
  cases (l.getD i stp0).2.1.toList == c.toList
  ·exact y2w c n l i
  ·simp only [cond_true, List.length_set]; exact y2w c n l i
theorem z8i {n : Nat} (h4 : n ≤ 4) {s : Stp} (hs : StepIs (n : Int) s) : s.1.toNat * n + s.2.2.1.toNat < n * n ∧ IntKind.wrap .i64 (IntKind.wrap .i64 (s.1 * (n : Int)) + s.2.2.1) = ((s.1.toNat * n + s.2.2.1.toNat : Nat) : Int) := by
 have hsq := y0w h4
 have e0 := hs.f0
 have e1 := hs.f1
 have e2 := hs.t0
 have e3 := hs.t1
 have hlt : s.1.toNat * n + s.2.2.1.toNat < n * n := yq3 (by omega) (by omega)
 have m1 : s.1 * (n : Int) = ((s.1.toNat * n : Nat) : Int) := by
  rw [Int.natCast_mul]
  congr 1
  omega
 have w1 : IntKind.wrap .i64 (s.1 * (n : Int)) = ((s.1.toNat * n : Nat) : Int) := by rw [m1]; exact w64 (by omega) (by omega)
 refine ⟨hlt, ?_⟩
 rw [w1, w64 (by omega) (by omega)]
 omega
section
variable {S F : List Int} {l : List Stp} {n : Nat} (h4 : n ≤ 4) (hl : l.length ≤ 24) (hst : ∀ s ∈ l, StepIs (n : Int) s) (c : ByteArray)
include h4 hl hst
theorem z2j : yi4 ((n : Int), S, F, l) c = some ((n : Int), yl4 c n l l.length) := by
 have hsq := y0w h4
 simp only [yi4, sqw h4]
 obtain ⟨r, g1, g2⟩ := yl3 (f := ye8) (n * n) (fun i (o : List Int) => (c, ((n : Int), S, F, l, ()), ((0 : Int), [], ()), ((n : Int), o, ()), ((n * n : Nat) : Int), (i : Int), ())) (fun i o => o ++ [Nv]) (fun o => (c, ((n : Int), S, F, l, ()), ((0 : Int), [], ()), ((n : Int), o, ()), ())) (fun i o => o = List.replicate i Nv)
  (fun i o hi ho => by subst ho; rw [List.replicate_succ'])
  (fun i o hi ho => by
   have hol : o.length = i := by subst ho; simp
   simp only [ye8, lt_t hi, cond_true, Nat.zero_add, List.drop_zero, ya7 hi (show n * n ≤ 9223372036854775807 by omega)]
   rw [if_pos ⟨trivial, by simp; omega⟩]
   simp [List.take_of_length_le])
  (fun o ho => by simp only [ye8, lt_f, cond_false, List.drop_zero, List.take_length])
  [] rfl
 have g1 : ya4 ye8 (c, ((n : Int), S, F, l, ()), ((0 : Int), [], ()), ((n : Int), [], ()), ((n * n : Nat) : Int), (0 : Int), ()) = _ := g1
 rw [g1]
 subst g2
 simp only [Option.bind_some, List.drop_zero, List.take_length]
 obtain ⟨r, g1, g2⟩ := yl3 (f := ye9) l.length (fun i (M : List Int) => (c, ((n : Int), S, F, l, ()), ((0 : Int), [], ()), ((n : Int), M, ()), l, (l.length : Int), (i : Int), ())) (fun i M => zg3 c n l i M)
  (fun M => (((0 : Int), [], ()), ((n : Int), M, ()), ())) (fun i M => M = yl4 c n l i)
  (fun i M hi hM => by subst hM; rfl)
  (fun i M hi hM => by
   have hMl : M.length = n * n := by subst hM; exact y2w c n l i
   have hsi := hst _ (show l.getD i stp0 ∈ l by rw [yd8 stp0 hi]; exact List.getElem_mem hi)
   obtain ⟨hlt, hw⟩ := z8i h4 hsi
   simp only [ye9, lt_t hi, cond_true, if_pos (in_t hi), Int.toNat_natCast, List.drop_zero, Nat.zero_add, ya7 hi (show l.length ≤ 9223372036854775807 by omega), hw, zg3]
   cases hc : (l.getD i stp0).2.1.toList == c.toList with
   | false => simp only [cond_false, List.take_length]
   | true =>
    simp only [cond_true]
    rw [if_pos ⟨by omega, by rw [hMl]; omega⟩, List.take_length, List.take_of_length_le (by rw [List.length_set]; exact Nat.le_refl _)])
  (fun M hM => by simp only [ye9, lt_f, cond_false, List.drop_zero, List.take_length])
  (List.replicate (n * n) Nv) rfl
 have g1 : ya4 ye9 (c, ((n : Int), S, F, l, ()), ((0 : Int), [], ()), ((n : Int), List.replicate (n * n) Nv, ()), l, (l.length : Int), (0 : Int), ()) = _ := g1
 rw [g1, g2]
 simp only [Option.bind_some, List.drop_zero, List.take_length]
theorem z2k : Option.bind (yp3 (n : Int) (fun y1 => (yp7 y1.1 y1.2.1))) (fun (r2, r3) => Option.bind (ya4 ye2 (c, ((0 : Int), [], ()), (r2, (List.take (List.length r3) (List.drop 0 r3)), ()), l, (((List.length l) : Nat) : Int), (0 : Int), ())) fun ((r4, r5, _), (r6, r7, _), _) => some ((r6, (List.take (List.length r7) (List.drop 0 r7))), true)) = some (((n : Int), yl4 c n l l.length), true) := by
 have hsq := y0w h4
 have e0 : mk n (fun _ _ => Nv) = List.replicate (n * n) Nv := by
  unfold mk
  rw [List.map_const', List.length_range]
 rw [y91 h4 (c := fun _ _ => Nv) (fun i k _ _ => rfl), e0]
 simp only [Option.bind_some, List.drop_zero, List.take_length]
 obtain ⟨r, g1, g2⟩ := yl3 (f := ye2) l.length (fun i (M : List Int) => (c, ((0 : Int), [], ()), ((n : Int), M, ()), l, (l.length : Int), (i : Int), ())) (fun i M => zg3 c n l i M)
  (fun M => (((0 : Int), [], ()), ((n : Int), M, ()), ())) (fun i M => M = yl4 c n l i)
  (fun i M hi hM => by subst hM; rfl)
  (fun i M hi hM => by
   have hMl : M.length = n * n := by subst hM; exact y2w c n l i
   have hsi := hst _ (show l.getD i stp0 ∈ l by rw [yd8 stp0 hi]; exact List.getElem_mem hi)
   obtain ⟨hlt, hw⟩ := z8i h4 hsi
   simp only [ye2, lt_t hi, cond_true, if_pos (in_t hi), Int.toNat_natCast, List.drop_zero, Nat.zero_add, ya7 hi (show l.length ≤ 9223372036854775807 by omega), hw, zg3]
   cases hc : (l.getD i stp0).2.1.toList == c.toList with
   | false => simp only [cond_false, List.take_length, List.length_nil, List.take_zero]
   | true =>
    simp only [cond_true]
    rw [if_pos ⟨by omega, by rw [hMl]; omega⟩, List.take_length, List.take_of_length_le (by rw [List.length_set]; exact Nat.le_refl _)])
  (fun M hM => by simp only [ye2, lt_f, cond_false, List.drop_zero, List.take_length])
  (List.replicate (n * n) Nv) rfl
 have g1 : ya4 ye2 (c, ((0 : Int), [], ()), ((n : Int), List.replicate (n * n) Nv, ()), l, (l.length : Int), (0 : Int), ()) = _ := g1
 rw [g1, g2]
 simp only [Option.bind_some, List.drop_zero, List.take_length]
end
theorem z2l {a : Aut} {n : Nat} (ha : AutIs a n) (hv : y0g a = true) (hs : y2q a) {c : ByteArray} (hc : c = la ∨ c = lb) : yt0 a c = some (((n : Int), yl4 c n a.2.2.2 a.2.2.2.length), true) := by
 obtain ⟨x, S, F, l⟩ := a
 have hx : x = (n : Int) := ha.st
 subst hx
 have hin := z2k ha.n4 ha.len ha.steps c
 unfold yt0
 dsimp only
 rw [yg5 _ (yr3 hs).1 (yr3 hs).2, hv]
 simp only [Option.bind_some, Bool.not_true, cond_false]
 rcases hc with rfl | rfl
 ·have e1 : (!(la.toList == (⟨#[(97 : UInt8)]⟩ : ByteArray).toList)) = false := by simp
  rw [e1, cond_false]
  exact hin
 ·have e1 : (!(lb.toList == (⟨#[(97 : UInt8)]⟩ : ByteArray).toList)) = true := by simp only [yl1]; rfl
  have e2 : (!(lb.toList == (⟨#[(98 : UInt8)]⟩ : ByteArray).toList)) = false := by simp
  rw [e1, e2, cond_true, cond_false]
  exact hin
theorem y0m {a : Aut} {n : Nat} (ha : AutIs a n) (c : ByteArray) : yi4 a c = some ((n : Int), yl4 c n a.2.2.2 a.2.2.2.length) := by
 obtain ⟨x, S, F, l⟩ := a
 have hx : x = (n : Int) := ha.st
 subst hx
 exact z2j ha.n4 ha.len ha.steps c
theorem yx1 {a : Aut} {n : Nat} (ha : AutIs a n) (c : ByteArray) : Rng (yl4 c n a.2.2.2 a.2.2.2.length) (n * n) := by
 obtain ⟨M, h1, h2⟩ := y2k (c := c) ha.st ha.n1 ha.n4 ha.len ha.ok
 rw [y0m ha c] at h1
 obtain ⟨_, rfl⟩ := Prod.mk.inj (Option.some.inj h1)
 exact h2.1
/-! ### grades -/
def gr (x : Int) : Int := if x = 0 then 0 else if x = 1000000 then 3 else 1
theorem gr_rng (x : Int) : 0 ≤ gr x ∧ gr x ≤ 3 := by
 unfold gr
 split
 ·omega
 ·split <;> omega
theorem gr_ok {n : Nat} {M : List Int} (hM : M.length = n * n) : GOk n (M.map gr) := by
 refine ⟨by rw [List.length_map, hM], fun x hx => ?_⟩
 obtain ⟨y, _, rfl⟩ := List.mem_map.1 hx
 exact gr_rng y
theorem z6v {n : Nat} (h4 : n ≤ 4) {M : List Int} (hM : M.length = n * n) : yt9 ((n : Int), M) = some ((n : Int), M.map gr) := by
 have hsq := y0w h4
 simp only [yt9]
 obtain ⟨r, g1, g2⟩ := yl3 (f := yi9) M.length (fun i (o : List Int) => (((0 : Int), [], ()), ((n : Int), o, ()), M, (M.length : Int), (i : Int), ())) (fun i o => o ++ [gr (M.getD i 0)]) (fun o => (((0 : Int), [], ()), ((n : Int), o, ()), ())) (fun i o => o = (M.take i).map gr)
  (fun i o hi ho => by subst ho; rw [yq4 hi, List.map_append, yd8 0 hi]; rfl)
  (fun i o hi ho => by
   have hol : o.length = i := by subst ho; rw [List.length_map, List.length_take]; omega
   simp only [yi9, lt_t hi, cond_true, if_pos (in_t hi), Int.toNat_natCast, Nat.zero_add, List.drop_zero, List.take_length, ya7 hi (show M.length ≤ 9223372036854775807 by omega)]
   by_cases z : M.getD i 0 = 0
   ·rw [z]
    simp only [BEq.rfl, cond_true]
    rw [if_pos ⟨trivial, by simp; omega⟩, show List.take 1 [(0 : Int)] = [gr 0] from rfl, List.take_of_length_le (by simp)]
   ·have z' : (M.getD i 0 == 0) = false := by simpa using z
    rw [z', cond_false]
    by_cases y : M.getD i 0 = 1000000
    ·rw [y]
     simp only [BEq.rfl, cond_true]
     rw [if_pos ⟨trivial, by simp; omega⟩, show List.take 1 [(3 : Int)] = [gr 1000000] from rfl, List.take_of_length_le (by simp)]
    ·have y' : (M.getD i 0 == 1000000) = false := by simpa using y
     rw [y', cond_false, if_pos ⟨trivial, by simp; omega⟩, show List.take 1 [(1 : Int)] = [gr (M.getD i 0)] by unfold gr; rw [if_neg z, if_neg y]; rfl, List.take_of_length_le (by simp)])
  (fun o ho => by simp only [yi9, lt_f, cond_false, List.drop_zero, List.take_length])
  [] rfl
 have g1 : ya4 yi9 (((0 : Int), [], ()), ((n : Int), [], ()), M, (M.length : Int), (0 : Int), ()) = _ := g1
 rw [g1, g2]
 simp only [Option.bind_some, List.drop_zero, List.take_length]
theorem z6w {n : Nat} (h1 : 1 ≤ n) (h4 : n ≤ 4) {M : List Int} (hM : Rng M (n * n)) : yy3 ((n : Int), M) = some (((n : Int), M.map gr), true) := by
 have hsq := y0w h4
 simp only [yy3, y7d h1 h4 hM.1 (fun x hx => hM.2 x hx), Option.bind_some, Bool.not_true, cond_false]
 rw [y91 h4 (c := fun i k => gr (M.getD (i * n + k) 0)) (fun i k hi hk => by
  simp only [yy2, at_is h4 hM.1 hi hk, Option.bind_some]
  by_cases z : M.getD (i * n + k) 0 = 0
  ·rw [z]; rfl
  ·have z' : (M.getD (i * n + k) 0 == 0) = false := by simpa using z
   rw [z', cond_false]
   by_cases y : M.getD (i * n + k) 0 = 1000000
   ·rw [y]; rfl
   ·have y' : (M.getD (i * n + k) 0 == 1000000) = false := by simpa using y
    rw [y', cond_false]
    unfold gr
    rw [if_neg z, if_neg y])]
 have e : mk n (fun i k => gr (M.getD (i * n + k) 0)) = M.map gr := by
  refine (mk_is (by rw [List.length_map, hM.1]) fun i k hi hk => ?_).symm
  have := yq3 hi hk
  rw [yd8 0 (by rw [List.length_map, hM.1]; exact this), List.getElem_map, yd8 0 (by rw [hM.1]; exact this)]
 simp only [Option.bind_some, List.drop_zero, List.take_length, e]
/-! ### the value of a letter -/
theorem zl7 {c : ByteArray} (hc : c = la ∨ c = lb) : yu9 c = some ([(c, PT.mk [])], (⟨#[]⟩ : ByteArray)) := by
 have e : yu9 = yh3 (ye6 199) := rfl
 rw [e]
 generalize ye6 199 = φ
 have s1 : yb0 φ (c, [], ()) = some (.inl ((⟨#[]⟩ : ByteArray), [(c, PT.mk [])], ())) := by
  rcases hc with rfl | rfl <;> (unfold yb0; simp only [yl1]; rfl)
 have s2 : yb0 φ ((⟨#[]⟩ : ByteArray), [(c, PT.mk [])], ()) = some (.inr (.inr ((⟨#[]⟩ : ByteArray), [(c, PT.mk [])], ()))) := by
  unfold yb0
  simp only [yl1]
  rfl
 unfold yh3
 rw [show List.take 0 (List.drop 0 []) = ([] : List (ByteArray × PT)) from rfl, yb1, s1]
 simp only [Option.bind_some]
 rw [yb1, s2]
 rfl
theorem z4d {c : ByteArray} (hc : c = la ∨ c = lb) : yw8 c = some ([(c, PT.mk [])], true) := by
 have hsz : c.size = 1 := by rcases hc with rfl | rfl <;> rfl
 unfold yw8
 rw [decide_eq_false (show ¬ (c.size : Int) > 120 by omega), cond_false, zl7 hc]
 simp
theorem zz2 {a : Aut} {n : Nat} (ha : AutIs a n) (hv : y0g a = true) (hs : y2q a) {c : ByteArray} (hc : c = la ∨ c = lb) : yw9 a c = some (((n : Int), (yl4 c n a.2.2.2 a.2.2.2.length).map gr), true) := by
 have hm := z2l ha hv hs hc
 have hr := yx1 ha c
 have hg := z6w ha.n1 ha.n4 hr
 obtain ⟨x, S, F, l⟩ := a
 unfold yw9
 dsimp only
 rw [z4d hc]
 simp only [Option.bind_some, Bool.not_true, cond_false]
 rw [yg5 _ (yr3 hs).1 (yr3 hs).2, hv]
 simp only [Option.bind_some, Bool.not_true, cond_false, List.drop_zero, List.take_length]
 have e : zd9 = yt1 (yq0 199) := rfl
 rw [e]
 generalize yq0 199 = φ
 have hne : (!(c.toList == (⟨#[]⟩ : ByteArray).toList)) = true := by
  rcases hc with rfl | rfl <;> (simp only [yl1]; rfl)
 have s1 : yo4 φ ((x, S, F, l, ()), ((0 : Int), [], ()), ((0 : Int), [], ()), [(c, PT.mk [])], (1 : Int), (0 : Int), ()) = some (.inl ((x, S, F, l, ()), ((0 : Int), [], ()), ((n : Int), (yl4 c n l l.length).map gr, ()), [(c, PT.mk [])], (1 : Int), (1 : Int), ())) := by
  unfold yo4
  simp only [show decide ((0 : Int) < 1) = true from rfl, cond_true]
  rw [if_pos ⟨Int.le_refl _, by simp⟩]
  simp only [show List.getD [(c, PT.mk [])] (Int.toNat 0) ((⟨Array.empty⟩ : ByteArray), PT.mk []) = (c, PT.mk []) from rfl, hne, cond_true, hm, Option.bind_some, List.drop_zero, List.take_length, hg, show decide ((0 : Int) > 0) = false from rfl, cond_false]
  rfl
 have s2 : yo4 φ ((x, S, F, l, ()), ((0 : Int), [], ()), ((n : Int), (yl4 c n l l.length).map gr, ()), [(c, PT.mk [])], (1 : Int), (1 : Int), ()) = some (.inr (.inr (((0 : Int), [], ()), ((n : Int), (yl4 c n l l.length).map gr, ()), ()))) := by
  unfold yo4
  simp only [show decide ((1 : Int) < 1) = false from rfl, cond_false, List.drop_zero, List.take_length]
 unfold yt1
 dsimp only
 rw [show (((List.length [(c, PT.mk [])]) : Nat) : Int) = 1 from rfl, yb1, s1]
 simp only [Option.bind_some]
 rw [yb1, s2]
 simp only [Option.bind_some, List.drop_zero, List.take_length]
end Go.Proofs.YtfdhmmnffahhgaaGreat
