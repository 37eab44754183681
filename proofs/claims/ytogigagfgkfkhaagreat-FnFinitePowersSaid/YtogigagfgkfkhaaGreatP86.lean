/- The automaton of factors: its runs are factors. -/
import Derived.Test.YtogigagfgkfkhaaGreatP61
import Derived.Test.YtogigagfgkfkhaaGreatP10
set_option linter.unusedVariables false
set_option linter.unusedSimpArgs false
namespace Go.Proofs.YtogigagfgkfkhaaGreat
open Go Go.Proofs.YtogigagfgkfkhaaGreat.Am
theorem z2v {n : Int} {l : List Stp} (hl : ∀ s ∈ l, StepIs n s) : ∀ {ws : List UInt8} {i k c : Int}, Run l ws i k c → c ≤ 3 * (ws.length : Int)
 | [], i, k, c, h => by simp only [Run] at h; simp; omega
 | b :: ws, i, k, c, h => by
  simp only [Run] at h
  obtain ⟨s, h1, _, _, c', h3, rfl⟩ := h
  have := z2v hl h3
  have := (hl s h1).c1
  rw [List.length_cons]
  omega
theorem zu4 (l : List Stp) (i : Int) : Run l [] i i 0 := ⟨rfl, rfl⟩
theorem zu5 {l : List Stp} : ∀ {ws vs : List UInt8} {i j k c d : Int}, Run l ws i j c → Run l vs j k d → Run l (ws ++ vs) i k (c + d)
 | [], vs, i, j, k, c, d, h, h2 => by
  simp only [Run] at h
  obtain ⟨rfl, rfl⟩ := h
  rw [List.nil_append, show (0 : Int) + d = d by omega]
  exact h2
 | b :: ws, vs, i, j, k, c, d, h, h2 => by
  simp only [Run] at h
  obtain ⟨s, s1, s2, s3, c', h3, rfl⟩ := h
  simp only [List.cons_append, Run]
  exact ⟨s, s1, s2, s3, c' + d, zu5 h3 h2, by omega⟩
/-! ### steps with the same places and letter -/
theorem kf0 : Op.bytesLess la.toList lb.toList = true := by decide +kernel
theorem z56 {s t : Stp} (ls : s.2.1.toList = la.toList ∨ s.2.1.toList = lb.toList) (lt : t.2.1.toList = la.toList ∨ t.2.1.toList = lb.toList) (h : y1v s t = 0) : s.1 = t.1 ∧ s.2.2.1 = t.2.2.1 ∧ s.2.1.toList = t.2.1.toList := by
 have g := good_step.anti s t
 have h1 : ltS s t = false := decide_eq_false (by omega)
 have h2 : ltS t s = false := decide_eq_false (by omega)
 rw [← y6x] at h1 h2
 unfold befB at h1 h2
 by_cases e : s.1 = t.1
 ·have e1 : (s.1 != t.1) = false := bne_eq_false_iff_eq.2 e
  have e2 : (t.1 != s.1) = false := bne_eq_false_iff_eq.2 e.symm
  rw [e1, cond_false] at h1
  rw [e2, cond_false] at h2
  by_cases f : s.2.1.toList = t.2.1.toList
  ·have f1 : (s.2.1.toList == t.2.1.toList) = true := by rw [f]; simp
   have f2 : (t.2.1.toList == s.2.1.toList) = true := by rw [f]; simp
   rw [f1, Bool.not_true, cond_false] at h1
   rw [f2, Bool.not_true, cond_false] at h2
   have h1 := of_decide_eq_false h1
   have h2 := of_decide_eq_false h2
   exact ⟨e, by omega, f⟩
  ·have f1 : (s.2.1.toList == t.2.1.toList) = false := by simpa using f
   have f2 : (t.2.1.toList == s.2.1.toList) = false := by simpa using fun h => f h.symm
   rw [f1, Bool.not_false, cond_true] at h1
   rw [f2, Bool.not_false, cond_true] at h2
   rcases ls with ls | ls <;> rcases lt with lt | lt <;> rw [ls, lt] at f h1 h2
   ·exact absurd rfl f
   ·rw [kf0] at h1; cases h1
   ·rw [kf0] at h2; cases h2
   ·exact absurd rfl f
 ·have e1 : (s.1 != t.1) = true := bne_iff_ne.2 e
  have e2 : (t.1 != s.1) = true := bne_iff_ne.2 fun h => e h.symm
  rw [e1, cond_true] at h1
  rw [e2, cond_true] at h2
  have h1 := of_decide_eq_false h1
  have h2 := of_decide_eq_false h2
  exact absurd (by omega) e
/-! ### which steps the automaton of factors has -/
theorem kn7 {I : List Stp} {x y : Stp} (h : y ∈ addI I x) : y ∈ I ∨ y = x := by
 unfold addI at h
 split at h
 ·exact .inl h
 ·rcases List.mem_append.1 h with h | h
  ·exact .inl h
  ·exact .inr (List.mem_singleton.1 h)
theorem kn8 {I : List Stp} {x y : Stp} (h : y ∈ I) : y ∈ addI I x := by
 unfold addI
 split
 ·exact h
 ·exact List.mem_append_left _ h
theorem kn9 (I : List Stp) (x : Stp) : ∃ y ∈ addI I x, y1v y x = 0 := by
 unfold addI
 split
 ·rename_i h
  obtain ⟨y, hy, he⟩ := List.any_eq_true.1 h
  exact ⟨y, hy, by simpa using he⟩
 ·refine ⟨x, List.mem_append_right _ (List.mem_singleton.2 rfl), ?_⟩
  have g := good_step.anti x x
  omega
theorem z4p {S : List Int} {s : Stp} {y : Stp} : ∀ {F : List Int} {I : List Stp}, y ∈ rowI S s I F → y ∈ I ∨ ∃ f ∈ F, has1 S s = true ∧ y = cand s f
 | [], I, h => .inl h
 | f :: F, I, h => by
  have h : y ∈ rowI S s (bif has1 S s then addI I (cand s f) else I) F := h
  rcases z4p h with h | ⟨g, hg, h1, h2⟩
  ·cases hb : has1 S s with
   | true =>
    rw [hb, cond_true] at h
    rcases kn7 h with h | h
    ·exact .inl h
    ·exact .inr ⟨f, List.mem_cons_self, rfl, h⟩
   | false =>
    rw [hb, cond_false] at h
    exact .inl h
  ·exact .inr ⟨g, List.mem_cons_of_mem _ hg, h1, h2⟩
theorem zu6 {S : List Int} {s : Stp} {y : Stp} : ∀ {F : List Int} {I : List Stp}, y ∈ I → y ∈ rowI S s I F
 | [], I, h => h
 | f :: F, I, h => by
  show y ∈ rowI S s (bif has1 S s then addI I (cand s f) else I) F
  refine zu6 ?_
  cases has1 S s with
  | true => exact kn8 h
  | false => exact h
theorem z4q {S : List Int} {s : Stp} (hb : has1 S s = true) {f : Int} : ∀ {F : List Int} {I : List Stp}, f ∈ F → ∃ y ∈ rowI S s I F, y1v y (cand s f) = 0
 | [], I, h => by cases h
 | g :: F, I, h => by
  show ∃ y ∈ rowI S s (bif has1 S s then addI I (cand s g) else I) F, _
  rw [hb, cond_true]
  rcases List.mem_cons.1 h with rfl | h
  ·obtain ⟨y, hy, he⟩ := kn9 I (cand s f)
   exact ⟨y, zu6 hy, he⟩
  ·exact z4q hb h
theorem zu7 {S F : List Int} {y : Stp} : ∀ {l : List Stp} {I : List Stp}, y ∈ allI S F I l → y ∈ I ∨ ∃ s ∈ l, ∃ f ∈ F, has1 S s = true ∧ y = cand s f
 | [], I, h => .inl h
 | s :: l, I, h => by
  have h : y ∈ allI S F (rowI S s I F) l := h
  rcases zu7 h with h | ⟨t, ht, f, hf, h1, h2⟩
  ·rcases z4p h with h | ⟨f, hf, h1, h2⟩
   ·exact .inl h
   ·exact .inr ⟨s, List.mem_cons_self, f, hf, h1, h2⟩
  ·exact .inr ⟨t, List.mem_cons_of_mem _ ht, f, hf, h1, h2⟩
theorem zu8 {S F : List Int} {y : Stp} : ∀ {l : List Stp} {I : List Stp}, y ∈ I → y ∈ allI S F I l
 | [], I, h => h
 | s :: l, I, h => zu8 (l := l) (zu6 h)
theorem z4r {S F : List Int} {s : Stp} (hb : has1 S s = true) {f : Int} (hf : f ∈ F) : ∀ {l : List Stp} {I : List Stp}, s ∈ l → ∃ y ∈ allI S F I l, y1v y (cand s f) = 0
 | [], I, h => by cases h
 | t :: l, I, h => by
  show ∃ y ∈ allI S F (rowI S t I F) l, _
  rcases List.mem_cons.1 h with rfl | h
  ·obtain ⟨y, hy, he⟩ := z4q (I := I) hb hf
   exact ⟨y, zu8 hy, he⟩
  ·exact z4r hb hf h
theorem has1_mem {S : List Int} {s : Stp} : has1 S s = true ↔ s.1 ∈ S := by
 unfold has1
 rw [List.any_eq_true]
 constructor
 ·rintro ⟨e, he, h⟩
  have : s.1 = e := by simpa using h
  rw [this]
  exact he
 ·intro h
  exact ⟨_, h, by simp⟩
/-- what the steps of the automaton of factors are -/
structure Pow (S F : List Int) (l P : List Stp) : Prop where
 mem : ∀ y ∈ P, (∃ s ∈ l, y = zs s) ∨ ∃ s ∈ l, ∃ f ∈ F, s.1 ∈ S ∧ y = cand s f
 old : ∀ s ∈ l, zs s ∈ P
 new : ∀ s ∈ l, s.1 ∈ S → ∀ f ∈ F, ∃ y ∈ P, y.1 = f ∧ y.2.1.toList = s.2.1.toList ∧ y.2.2.1 = s.2.2.1
theorem pow_is {S F : List Int} {l P : List Stp} {n : Int} (hl : ∀ s ∈ l, StepIs n s) (hp : (allI S F (l.map zs) l).Perm P) : Pow S F l P := by
 refine ⟨fun y hy => ?_, fun s hs => ?_, fun s hs h1 f hf => ?_⟩
 ·rcases zu7 (hp.mem_iff.2 hy) with h | ⟨s, hs, f, hf, h1, h2⟩
  ·obtain ⟨s, hs, rfl⟩ := List.mem_map.1 h
   exact .inl ⟨s, hs, rfl⟩
  ·exact .inr ⟨s, hs, f, hf, has1_mem.1 h1, h2⟩
 ·exact hp.mem_iff.1 (zu8 (List.mem_map.2 ⟨s, hs, rfl⟩))
 ·obtain ⟨y, hy, he⟩ := z4r (I := l.map zs) (has1_mem.2 h1) hf hs
  have ly : y.2.1.toList = la.toList ∨ y.2.1.toList = lb.toList := by
   rcases zu7 hy with h | ⟨t, ht, g, hg, _, rfl⟩
   ·obtain ⟨t, ht, rfl⟩ := List.mem_map.1 h
    exact (hl t ht).l
   ·exact (hl t ht).l
  obtain ⟨e1, e2, e3⟩ := z56 (t := cand s f) ly (hl s hs).l he
  exact ⟨y, hp.mem_iff.1 hy, e1, e3, e2⟩
/-! ### runs and factors -/
section
variable {S F : List Int} {l P : List Stp} {n : Int} (hl : ∀ s ∈ l, StepIs n s) (hP : Pow S F l P)
/-- a list of letters that is a run from a start to a final -/
def Acc (S F : List Int) (l : List Stp) (f : List UInt8) : Prop := ∃ i ∈ S, ∃ k ∈ F, ∃ c, Run l f i k c
include hP in
theorem z2w : ∀ {ws : List UInt8} {i k c : Int}, Run l ws i k c → Run P ws i k 0
 | [], i, k, c, h => by
  simp only [Run] at h
  rw [h.1]
  exact zu4 _ _
 | b :: ws, i, k, c, h => by
  simp only [Run] at h ⊢
  obtain ⟨s, h1, h2, h3, c', h4, _⟩ := h
  exact ⟨zs s, hP.old s h1, h2, h3, 0, z2w h4, rfl⟩
include hP in
theorem z1g : ∀ {ws : List UInt8} {i k c : Int}, Run P ws i k c → k ∈ F → ∃ (pre : List UInt8) (fs : List (List UInt8)), ws = pre ++ fs.flatten ∧ (∀ f ∈ fs, f ≠ [] ∧ Acc S F l f) ∧ (fs.length : Int) ≤ c ∧ ∃ j ∈ F, ∃ d, Run l pre i j d
 | [], i, k, c, h, hk => by
  simp only [Run] at h
  obtain ⟨rfl, rfl⟩ := h
  exact ⟨[], [], rfl, fun f hf => (by cases hf), Int.le_refl _, i, hk, 0, zu4 _ _⟩
 | b :: ws, i, k, c, h, hk => by
  simp only [Run] at h
  obtain ⟨y, y1, y2, y3, c', h4, rfl⟩ := h
  obtain ⟨pre, fs, e1, e2, e3, j, hj, d, h5⟩ := z1g h4 hk
  rcases hP.mem y y1 with ⟨s, hs, rfl⟩ | ⟨s, hs, f, hf, h1, rfl⟩
  ·refine ⟨b :: pre, fs, by rw [e1]; rfl, e2, ?_, j, hj, s.2.2.2 + d, ?_⟩
   ·show _ ≤ (0 : Int) + c'
    omega
   ·simp only [Run]
    exact ⟨s, hs, y2, y3, d, h5, rfl⟩
  ·refine ⟨[], (b :: pre) :: fs, by rw [e1]; rfl, fun g hg => ?_, ?_, i, ?_, 0, zu4 _ _⟩
   ·rcases List.mem_cons.1 hg with rfl | hg
    ·refine ⟨by simp, s.1, h1, j, hj, s.2.2.2 + d, ?_⟩
     simp only [Run]
     exact ⟨s, hs, y2, rfl, d, h5, rfl⟩
    ·exact e2 g hg
   ·rw [List.length_cons]
    show _ ≤ (1 : Int) + c'
    omega
   ·have y3 : f = i := y3
    rw [← y3]
    exact hf
include hP in
/-- from a final on, factors -/
theorem z4s : ∀ {fs : List (List UInt8)}, (∀ f ∈ fs, f ≠ [] ∧ Acc S F l f) → ∀ q ∈ F, ∃ k ∈ F, ∃ c, Run P fs.flatten q k c ∧ c ≤ (fs.length : Int)
 | [], _, q, hq => ⟨q, hq, 0, zu4 _ _, by simp⟩
 | f :: fs, h, q, hq => by
  obtain ⟨hne, i, hi, j, hj, d, hr⟩ := h f List.mem_cons_self
  obtain ⟨k, hk, c, h1, h2⟩ := z4s (fun g hg => h g (List.mem_cons_of_mem _ hg)) j hj
  obtain ⟨b, g, rfl⟩ : ∃ b g, f = b :: g := by
   cases f with
   | nil => exact absurd rfl hne
   | cons b g => exact ⟨b, g, rfl⟩
  simp only [Run] at hr
  obtain ⟨s, s1, s2, s3, d', h3, rfl⟩ := hr
  obtain ⟨y, y1, y2, y3, y4⟩ := hP.new s s1 (by rw [s3]; exact hi) q hq
  have hc : y.2.2.2 ≤ 1 := by
   rcases hP.mem y y1 with ⟨t, _, rfl⟩ | ⟨t, _, _, _, _, rfl⟩
   ·show (0 : Int) ≤ 1
    decide
   ·exact Int.le_refl _
  have h4 : Run P g y.2.2.1 j 0 := by rw [y4]; exact z2w hP h3
  refine ⟨k, hk, y.2.2.2 + (0 + c), ?_, ?_⟩
  ·rw [List.flatten_cons, List.cons_append]
   simp only [Run]
   exact ⟨y, y1, by rw [y3]; exact s2, y2, 0 + c, zu5 h4 h1, rfl⟩
  ·rw [List.length_cons]
   omega
include hP in
theorem ko0 {fs : List (List UInt8)} (h : ∀ f ∈ fs, f ≠ [] ∧ Acc S F l f) (hne : fs ≠ []) : ∃ i ∈ S, ∃ k ∈ F, ∃ c, Run P fs.flatten i k c ∧ c + 1 ≤ (fs.length : Int) := by
 obtain ⟨f, fs, rfl⟩ : ∃ f gs, fs = f :: gs := by
  cases fs with
  | nil => exact absurd rfl hne
  | cons f gs => exact ⟨f, gs, rfl⟩
 obtain ⟨_, i, hi, j, hj, d, hr⟩ := h f List.mem_cons_self
 obtain ⟨k, hk, c, h1, h2⟩ := z4s hP (fun g hg => h g (List.mem_cons_of_mem _ hg)) j hj
 refine ⟨i, hi, k, hk, 0 + c, ?_, ?_⟩
 ·rw [List.flatten_cons]
  exact zu5 (z2w hP hr) h1
 ·rw [List.length_cons]
  omega
end
theorem kf1 {a : Aut} {n : Nat} (ha : AutIs a n) (hs : yt9 a) (hv : yk4 a = true) {ws : List UInt8} (hw : yw2 ⟨ws.toArray⟩ = true) : acc a ws = true ↔ Acc a.2.1 a.2.2.1 a.2.2.2 ws := by
 obtain ⟨_, hc⟩ := kc1 hs hv hw
 have eb : bytes ⟨ws.toArray⟩ = ws := by simp [bytes]
 rw [eb] at hc
 have hlen : ws.length ≤ 1000 := by
  have := y6v hw
  have e : (⟨ws.toArray⟩ : ByteArray).size = ws.length := by simp [ByteArray.size]
  omega
 unfold acc cl
 rw [decide_eq_true_eq]
 constructor
 ·intro h
  apply Classical.byContradiction
  intro hno
  have := (hc.2 Nv).2 ⟨Int.le_refl _, fun i hi k hk c hr => absurd ⟨i, hi, k, hk, c, hr⟩ hno⟩
  omega
 ·rintro ⟨i, hi, k, hk, c, hr⟩
  have h1 := ((hc.2 _).1 (Int.le_refl _)).2 i hi k hk c hr
  have h2 := z2v ha.steps hr
  show _ < (1000000 : Int)
  omega
/-- what a word costs there: its factors, but for one -/
theorem ko1 {a : Aut} {n : Nat} (ha : AutIs a n) (hs : yt9 a) (hv : yk4 a = true) {P : List Stp} (hP : Pow a.2.1 a.2.2.1 a.2.2.2 P) (hPl : ∀ s ∈ P, StepIs (n : Int) s) {ws : List UInt8} (hne : ws ≠ []) (hl : ws.length ≤ 1000) (hab : ∀ b ∈ ws, b = 97 ∨ b = 98) {r c : Int} (hr : CntIs a ws r)
  (hc : CostIs (a.1, a.2.1, a.2.2.1, P) ws c) : (r = Nv ↔ c = Nv) ∧ (r < Nv → c = r - 1) := by
 have sub : ∀ f : List UInt8, f.length ≤ 1000 → (∀ b ∈ f, b = 97 ∨ b = 98) → yw2 ⟨f.toArray⟩ = true := by
  intro f h1 h2
  refine AB.ok (fun b hb => h2 b (by simpa using hb)) ?_
  have e : (⟨f.toArray⟩ : ByteArray).size = f.length := by simp [ByteArray.size]
  omega
 have fsub : ∀ fs : List (List UInt8), fs.flatten = ws → ∀ f ∈ fs, f.length ≤ 1000 ∧ ∀ b ∈ f, b = 97 ∨ b = 98 := by
  intro fs hf f hm
  have hsub : f.Sublist ws := by rw [← hf]; exact List.sublist_flatten_of_mem hm
  exact ⟨Nat.le_trans hsub.length_le hl, fun b hb => hab b (hsub.subset hb)⟩
 have h0 := hr.1
 have hc0 := hc.1
 -- factors give runs
 have up : r < Nv → c + 1 ≤ r := by
  intro hlt
  obtain ⟨fs, h1, h2, h3⟩ := hr.had hlt
  have hfs : fs ≠ [] := by rintro rfl; exact hne h2.symm
  obtain ⟨i, hi, k, hk, d, h4, h5⟩ := ko0 hP (fs := fs) (fun f hf => ⟨(h1 f hf).1, (kf1 ha hs hv (sub f (fsub fs h2 f hf).1 (fsub fs h2 f hf).2)).1 (h1 f hf).2⟩) hfs
  rw [h2] at h4
  have := ((hc.2 c).1 (Int.le_refl _)).2 i hi k hk d h4
  omega
 -- runs give factors
 have down : c < Nv → r ≤ c + 1 := by
  intro hlt
  have h1 : ∃ i ∈ a.2.1, ∃ k ∈ a.2.2.1, ∃ d, Run P ws i k d ∧ d ≤ c := by
   apply Classical.byContradiction
   intro hno
   have := (hc.2 (c + 1)).2 ⟨by omega, fun i hi k hk d hd => by
    by_cases g : c + 1 ≤ d
    ·exact g
    ·exact absurd ⟨i, hi, k, hk, d, hd, by omega⟩ hno⟩
   omega
  obtain ⟨i, hi, k, hk, d, hd, hdc⟩ := h1
  obtain ⟨pre, fs, e1, e2, e3, j, hj, d2, h5⟩ := z1g hP hd hk
  have key : ∀ gs : List (List UInt8), gs.flatten = ws → (∀ f ∈ gs, f ≠ [] ∧ Acc a.2.1 a.2.2.1 a.2.2.2 f) → (gs.length : Int) ≤ c + 1 → r ≤ c + 1 := by
   intro gs hg h6 h7
   have := ((hr.2 r).1 (Int.le_refl _)).2 gs (fun f hf => ⟨(h6 f hf).1, (kf1 ha hs hv (sub f (fsub gs hg f hf).1 (fsub gs hg f hf).2)).2 (h6 f hf).2⟩) hg
   omega
  by_cases hp : pre = []
  ·subst hp
   exact key fs (by rw [e1]; rfl) e2 (by omega)
  ·refine key (pre :: fs) (by rw [e1]; rfl) (fun f hf => ?_) (by rw [List.length_cons]; omega)
   rcases List.mem_cons.1 hf with rfl | hf
   ·exact ⟨hp, i, hi, j, hj, d2, h5⟩
   ·exact e2 f hf
 have small : c < Nv → c ≤ 3000 := by
  intro hlt
  apply Classical.byContradiction
  intro hno
  have : Nv ≤ c := (hc.2 Nv).2 ⟨Int.le_refl _, fun i hi k hk d hd => by
   exfalso
   have h1 := z2v hPl hd
   have h2 := ((hc.2 c).1 (Int.le_refl _)).2 i hi k hk d hd
   omega⟩
  omega
 have hNv : Nv = 1000000 := rfl
 have h01 := h0.2
 have hc1 := hc0.2
 constructor
 ·constructor
  ·intro e
   by_cases g : c < Nv
   ·have := down g
    have := small g
    omega
   ·omega
  ·intro e
   by_cases g : r < Nv
   ·have := up g
    omega
   ·omega
 ·intro g
  have h1 := up g
  have h2 := down (by omega)
  omega
end Go.Proofs.YtogigagfgkfkhaaGreat
