import Derived.Test.YtfdhmmnffahhgaaP64
import Derived.Test.YtfdhmmnffahhgaaP11
import Derived.Test.YtfdhmmnffahhgaaP42
import Derived.Test.YtfdhmmnffahhgaaP43
set_option linter.unusedVariables false
set_option linter.unusedSimpArgs false
/- The automaton of factors: its runs are factors. -/
namespace Go.Proofs.Ytfdhmmnffahhgaa
open Go Go.Proofs.Ytfdhmmnffahhgaa.Am
theorem run_le3 {n : Int} {l : List Stp} (hl : ∀ s ∈ l, StepIs n s) : ∀ {ws : List UInt8} {i k c : Int}, Run l ws i k c → c ≤ 3 * (ws.length : Int)
 | [], i, k, c, h => by simp only [Run] at h; simp; omega
 | b :: ws, i, k, c, h => by
  simp only [Run] at h
  obtain ⟨s, h1, _, _, c', h3, rfl⟩ := h
  have := run_le3 hl h3
  have := (hl s h1).c1
  rw [List.length_cons]
  omega
theorem run_nil (l : List Stp) (i : Int) : Run l [] i i 0 := ⟨rfl, rfl⟩
theorem run_join {l : List Stp} : ∀ {ws vs : List UInt8} {i j k c d : Int}, Run l ws i j c → Run l vs j k d → Run l (ws ++ vs) i k (c + d)
 | [], vs, i, j, k, c, d, h, h2 => by
  simp only [Run] at h
  obtain ⟨rfl, rfl⟩ := h
  rw [List.nil_append, show (0 : Int) + d = d by omega]
  exact h2
 | b :: ws, vs, i, j, k, c, d, h, h2 => by
  simp only [Run] at h
  obtain ⟨s, s1, s2, s3, c', h3, rfl⟩ := h
  simp only [List.cons_append, Run]
  exact ⟨s, s1, s2, s3, c' + d, run_join h3 h2, by omega⟩
/-! ### steps with the same places and letter -/
theorem less_ab : Op.bytesLess la.toList lb.toList = true := by decide +kernel
theorem stepC_zero {s t : Stp} (ls : s.2.1.toList = la.toList ∨ s.2.1.toList = lb.toList) (lt : t.2.1.toList = la.toList ∨ t.2.1.toList = lb.toList) (h : stepC s t = 0) : s.1 = t.1 ∧ s.2.2.1 = t.2.2.1 ∧ s.2.1.toList = t.2.1.toList := by
 have g := good_step.anti s t
 have h1 : ltS s t = false := decide_eq_false (by omega)
 have h2 : ltS t s = false := decide_eq_false (by omega)
 rw [← befB_lt] at h1 h2
 unfold befB at h1 h2
 by_cases e : s.1 = t.1
 ·have e1 : (s.1 != t.1) = false := bne_eq_false_iff_eq.2 e
  have e2 : (t.1 != s.1) = false := bne_eq_false_iff_eq.2 e.symm
  rw [e1, cond_false] at h1
  rw [e2, cond_false] at h2
  by_cases f : s.2.1.toList = t.2.1.toList
  ·have f1 : (s.2.1.toList == t.2.1.toList) = true := by rw [f]; simp
   have f2 : (t.2.1.toList == s.2.1.toList) = true := by rw [f]; simp
   rw [f1, Bool.not_true, cond_false] at h1
   rw [f2, Bool.not_true, cond_false] at h2
   have h1 := of_decide_eq_false h1
   have h2 := of_decide_eq_false h2
   exact ⟨e, by omega, f⟩
  ·have f1 : (s.2.1.toList == t.2.1.toList) = false := by simpa using f
   have f2 : (t.2.1.toList == s.2.1.toList) = false := by simpa using fun h => f h.symm
   rw [f1, Bool.not_false, cond_true] at h1
   rw [f2, Bool.not_false, cond_true] at h2
   rcases ls with ls | ls <;> rcases lt with lt | lt <;> rw [ls, lt] at f h1 h2
   ·exact absurd rfl f
   ·rw [less_ab] at h1; cases h1
   ·rw [less_ab] at h2; cases h2
   ·exact absurd rfl f
 ·have e1 : (s.1 != t.1) = true := bne_iff_ne.2 e
  have e2 : (t.1 != s.1) = true := bne_iff_ne.2 fun h => e h.symm
  rw [e1, cond_true] at h1
  rw [e2, cond_true] at h2
  have h1 := of_decide_eq_false h1
  have h2 := of_decide_eq_false h2
  exact absurd (by omega) e
/-! ### which steps the automaton of factors has -/
theorem addI_mem {I : List Stp} {x y : Stp} (h : y ∈ addI I x) : y ∈ I ∨ y = x := by
 unfold addI at h
 split at h
 ·exact .inl h
 ·rcases List.mem_append.1 h with h | h
  ·exact .inl h
  ·exact .inr (List.mem_singleton.1 h)
theorem addI_old {I : List Stp} {x y : Stp} (h : y ∈ I) : y ∈ addI I x := by
 unfold addI
 split
 ·exact h
 ·exact List.mem_append_left _ h
theorem addI_new (I : List Stp) (x : Stp) : ∃ y ∈ addI I x, stepC y x = 0 := by
 unfold addI
 split
 ·rename_i h
  obtain ⟨y, hy, he⟩ := List.any_eq_true.1 h
  exact ⟨y, hy, by simpa using he⟩
 ·refine ⟨x, List.mem_append_right _ (List.mem_singleton.2 rfl), ?_⟩
  have g := good_step.anti x x
  omega
theorem rowI_mem {S : List Int} {s : Stp} {y : Stp} : ∀ {F : List Int} {I : List Stp}, y ∈ rowI S s I F → y ∈ I ∨ ∃ f ∈ F, has1 S s = true ∧ y = cand s f
 | [], I, h => .inl h
 | f :: F, I, h => by
  have h : y ∈ rowI S s (bif has1 S s then addI I (cand s f) else I) F := h
  rcases rowI_mem h with h | ⟨g, hg, h1, h2⟩
  ·cases hb : has1 S s with
   | true =>
    rw [hb, cond_true] at h
    rcases addI_mem h with h | h
    ·exact .inl h
    ·exact .inr ⟨f, List.mem_cons_self, rfl, h⟩
   | false =>
    rw [hb, cond_false] at h
    exact .inl h
  ·exact .inr ⟨g, List.mem_cons_of_mem _ hg, h1, h2⟩
theorem rowI_old {S : List Int} {s : Stp} {y : Stp} : ∀ {F : List Int} {I : List Stp}, y ∈ I → y ∈ rowI S s I F
 | [], I, h => h
 | f :: F, I, h => by
  show y ∈ rowI S s (bif has1 S s then addI I (cand s f) else I) F
  refine rowI_old ?_
  cases has1 S s with
  | true => exact addI_old h
  | false => exact h
theorem rowI_new {S : List Int} {s : Stp} (hb : has1 S s = true) {f : Int} : ∀ {F : List Int} {I : List Stp}, f ∈ F → ∃ y ∈ rowI S s I F, stepC y (cand s f) = 0
 | [], I, h => by cases h
 | g :: F, I, h => by
  show ∃ y ∈ rowI S s (bif has1 S s then addI I (cand s g) else I) F, _
  rw [hb, cond_true]
  rcases List.mem_cons.1 h with rfl | h
  ·obtain ⟨y, hy, he⟩ := addI_new I (cand s f)
   exact ⟨y, rowI_old hy, he⟩
  ·exact rowI_new hb h
theorem allI_mem {S F : List Int} {y : Stp} : ∀ {l : List Stp} {I : List Stp}, y ∈ allI S F I l → y ∈ I ∨ ∃ s ∈ l, ∃ f ∈ F, has1 S s = true ∧ y = cand s f
 | [], I, h => .inl h
 | s :: l, I, h => by
  have h : y ∈ allI S F (rowI S s I F) l := h
  rcases allI_mem h with h | ⟨t, ht, f, hf, h1, h2⟩
  ·rcases rowI_mem h with h | ⟨f, hf, h1, h2⟩
   ·exact .inl h
   ·exact .inr ⟨s, List.mem_cons_self, f, hf, h1, h2⟩
  ·exact .inr ⟨t, List.mem_cons_of_mem _ ht, f, hf, h1, h2⟩
theorem allI_old {S F : List Int} {y : Stp} : ∀ {l : List Stp} {I : List Stp}, y ∈ I → y ∈ allI S F I l
 | [], I, h => h
 | s :: l, I, h => allI_old (l := l) (rowI_old h)
theorem allI_new {S F : List Int} {s : Stp} (hb : has1 S s = true) {f : Int} (hf : f ∈ F) : ∀ {l : List Stp} {I : List Stp}, s ∈ l → ∃ y ∈ allI S F I l, stepC y (cand s f) = 0
 | [], I, h => by cases h
 | t :: l, I, h => by
  show ∃ y ∈ allI S F (rowI S t I F) l, _
  rcases List.mem_cons.1 h with rfl | h
  ·obtain ⟨y, hy, he⟩ := rowI_new (I := I) hb hf
   exact ⟨y, allI_old hy, he⟩
  ·exact allI_new hb hf h
theorem has1_mem {S : List Int} {s : Stp} : has1 S s = true ↔ s.1 ∈ S := by
 unfold has1
 rw [List.any_eq_true]
 constructor
 ·rintro ⟨e, he, h⟩
  have : s.1 = e := by simpa using h
  rw [this]
  exact he
 ·intro h
  exact ⟨_, h, by simp⟩
/-- what the steps of the automaton of factors are -/
structure Pow (S F : List Int) (l P : List Stp) : Prop where
 mem : ∀ y ∈ P, (∃ s ∈ l, y = zs s) ∨ ∃ s ∈ l, ∃ f ∈ F, s.1 ∈ S ∧ y = cand s f
 old : ∀ s ∈ l, zs s ∈ P
 new : ∀ s ∈ l, s.1 ∈ S → ∀ f ∈ F, ∃ y ∈ P, y.1 = f ∧ y.2.1.toList = s.2.1.toList ∧ y.2.2.1 = s.2.2.1
theorem pow_is {S F : List Int} {l P : List Stp} {n : Int} (hl : ∀ s ∈ l, StepIs n s) (hp : (allI S F (l.map zs) l).Perm P) : Pow S F l P := by
 refine ⟨fun y hy => ?_, fun s hs => ?_, fun s hs h1 f hf => ?_⟩
 ·rcases allI_mem (hp.mem_iff.2 hy) with h | ⟨s, hs, f, hf, h1, h2⟩
  ·obtain ⟨s, hs, rfl⟩ := List.mem_map.1 h
   exact .inl ⟨s, hs, rfl⟩
  ·exact .inr ⟨s, hs, f, hf, has1_mem.1 h1, h2⟩
 ·exact hp.mem_iff.1 (allI_old (List.mem_map.2 ⟨s, hs, rfl⟩))
 ·obtain ⟨y, hy, he⟩ := allI_new (I := l.map zs) (has1_mem.2 h1) hf hs
  have ly : y.2.1.toList = la.toList ∨ y.2.1.toList = lb.toList := by
   rcases allI_mem hy with h | ⟨t, ht, g, hg, _, rfl⟩
   ·obtain ⟨t, ht, rfl⟩ := List.mem_map.1 h
    exact (hl t ht).l
   ·exact (hl t ht).l
  obtain ⟨e1, e2, e3⟩ := stepC_zero (t := cand s f) ly (hl s hs).l he
  exact ⟨y, hp.mem_iff.1 hy, e1, e3, e2⟩
/-! ### runs and factors -/
section
variable {S F : List Int} {l P : List Stp} {n : Int} (hl : ∀ s ∈ l, StepIs n s) (hP : Pow S F l P)
/-- a list of letters that is a run from a start to a final -/
def Acc (S F : List Int) (l : List Stp) (f : List UInt8) : Prop := ∃ i ∈ S, ∃ k ∈ F, ∃ c, Run l f i k c
include hP in
theorem pow_old : ∀ {ws : List UInt8} {i k c : Int}, Run l ws i k c → Run P ws i k 0
 | [], i, k, c, h => by
  simp only [Run] at h
  rw [h.1]
  exact run_nil _ _
 | b :: ws, i, k, c, h => by
  simp only [Run] at h ⊢
  obtain ⟨s, h1, h2, h3, c', h4, _⟩ := h
  exact ⟨zs s, hP.old s h1, h2, h3, 0, pow_old h4, rfl⟩
include hP in
theorem pow_split : ∀ {ws : List UInt8} {i k c : Int}, Run P ws i k c → k ∈ F → ∃ (pre : List UInt8) (fs : List (List UInt8)), ws = pre ++ fs.flatten ∧ (∀ f ∈ fs, f ≠ [] ∧ Acc S F l f) ∧ (fs.length : Int) ≤ c ∧ ∃ j ∈ F, ∃ d, Run l pre i j d
 | [], i, k, c, h, hk => by
  simp only [Run] at h
  obtain ⟨rfl, rfl⟩ := h
  exact ⟨[], [], rfl, fun f hf => (by cases hf), Int.le_refl _, i, hk, 0, run_nil _ _⟩
 | b :: ws, i, k, c, h, hk => by
  simp only [Run] at h
  obtain ⟨y, y1, y2, y3, c', h4, rfl⟩ := h
  obtain ⟨pre, fs, e1, e2, e3, j, hj, d, h5⟩ := pow_split h4 hk
  rcases hP.mem y y1 with ⟨s, hs, rfl⟩ | ⟨s, hs, f, hf, h1, rfl⟩
  ·refine ⟨b :: pre, fs, by rw [e1]; rfl, e2, ?_, j, hj, s.2.2.2 + d, ?_⟩
   ·show _ ≤ (0 : Int) + c'
    omega
   ·simp only [Run]
    exact ⟨s, hs, y2, y3, d, h5, rfl⟩
  ·refine ⟨[], (b :: pre) :: fs, by rw [e1]; rfl, fun g hg => ?_, ?_, i, ?_, 0, run_nil _ _⟩
   ·rcases List.mem_cons.1 hg with rfl | hg
    ·refine ⟨by simp, s.1, h1, j, hj, s.2.2.2 + d, ?_⟩
     simp only [Run]
     exact ⟨s, hs, y2, rfl, d, h5, rfl⟩
    ·exact e2 g hg
   ·rw [List.length_cons]
    show _ ≤ (1 : Int) + c'
    omega
   ·have y3 : f = i := y3
    rw [← y3]
    exact hf
include hP in
/-- from a final on, factors -/
theorem pow_rest : ∀ {fs : List (List UInt8)}, (∀ f ∈ fs, f ≠ [] ∧ Acc S F l f) → ∀ q ∈ F, ∃ k ∈ F, ∃ c, Run P fs.flatten q k c ∧ c ≤ (fs.length : Int)
 | [], _, q, hq => ⟨q, hq, 0, run_nil _ _, by simp⟩
 | f :: fs, h, q, hq => by
  obtain ⟨hne, i, hi, j, hj, d, hr⟩ := h f List.mem_cons_self
  obtain ⟨k, hk, c, h1, h2⟩ := pow_rest (fun g hg => h g (List.mem_cons_of_mem _ hg)) j hj
  obtain ⟨b, g, rfl⟩ : ∃ b g, f = b :: g := by
   cases f with
   | nil => exact absurd rfl hne
   | cons b g => exact ⟨b, g, rfl⟩
  simp only [Run] at hr
  obtain ⟨s, s1, s2, s3, d', h3, rfl⟩ := hr
  obtain ⟨y, y1, y2, y3, y4⟩ := hP.new s s1 (by rw [s3]; exact hi) q hq
  have hc : y.2.2.2 ≤ 1 := by
   rcases hP.mem y y1 with ⟨t, _, rfl⟩ | ⟨t, _, _, _, _, rfl⟩
   ·show (0 : Int) ≤ 1
    decide
   ·exact Int.le_refl _
  have h4 : Run P g y.2.2.1 j 0 := by rw [y4]; exact pow_old hP h3
  refine ⟨k, hk, y.2.2.2 + (0 + c), ?_, ?_⟩
  ·rw [List.flatten_cons, List.cons_append]
   simp only [Run]
   exact ⟨y, y1, by rw [y3]; exact s2, y2, 0 + c, run_join h4 h1, rfl⟩
  ·rw [List.length_cons]
   omega
include hP in
theorem pow_some {fs : List (List UInt8)} (h : ∀ f ∈ fs, f ≠ [] ∧ Acc S F l f) (hne : fs ≠ []) : ∃ i ∈ S, ∃ k ∈ F, ∃ c, Run P fs.flatten i k c ∧ c + 1 ≤ (fs.length : Int) := by
 obtain ⟨f, fs, rfl⟩ : ∃ f gs, fs = f :: gs := by
  cases fs with
  | nil => exact absurd rfl hne
  | cons f gs => exact ⟨f, gs, rfl⟩
 obtain ⟨_, i, hi, j, hj, d, hr⟩ := h f List.mem_cons_self
 obtain ⟨k, hk, c, h1, h2⟩ := pow_rest hP (fun g hg => h g (List.mem_cons_of_mem _ hg)) j hj
 refine ⟨i, hi, k, hk, 0 + c, ?_, ?_⟩
 ·rw [List.flatten_cons]
  exact run_join (pow_old hP hr) h1
 ·rw [List.length_cons]
  omega
end
theorem acc_iff {a : Aut} {n : Nat} (ha : AutIs a n) (hs : Small a) (hv : autOk a = true) {ws : List UInt8} (hw : wordOk ⟨ws.toArray⟩ = true) : acc a ws = true ↔ Acc a.2.1 a.2.2.1 a.2.2.2 ws := by
 obtain ⟨_, hc⟩ := cst_isI hs hv hw
 have eb : bytes ⟨ws.toArray⟩ = ws := by simp [bytes]
 rw [eb] at hc
 have hlen : ws.length ≤ 1000 := by
  have := wordOk_size hw
  have e : (⟨ws.toArray⟩ : ByteArray).size = ws.length := by simp [ByteArray.size]
  omega
 unfold acc cl
 rw [decide_eq_true_eq]
 constructor
 ·intro h
  apply Classical.byContradiction
  intro hno
  have := (hc.2 Nv).2 ⟨Int.le_refl _, fun i hi k hk c hr => absurd ⟨i, hi, k, hk, c, hr⟩ hno⟩
  omega
 ·rintro ⟨i, hi, k, hk, c, hr⟩
  have h1 := ((hc.2 _).1 (Int.le_refl _)).2 i hi k hk c hr
  have h2 := run_le3 ha.steps hr
  show _ < (1000000 : Int)
  omega
/-- what a word costs there: its factors, but for one -/
theorem pow_cost {a : Aut} {n : Nat} (ha : AutIs a n) (hs : Small a) (hv : autOk a = true) {P : List Stp} (hP : Pow a.2.1 a.2.2.1 a.2.2.2 P) (hPl : ∀ s ∈ P, StepIs (n : Int) s) {ws : List UInt8} (hne : ws ≠ []) (hl : ws.length ≤ 1000) (hab : ∀ b ∈ ws, b = 97 ∨ b = 98) {r c : Int} (hr : CntIs a ws r)
  (hc : CostIs (a.1, a.2.1, a.2.2.1, P) ws c) : (r = Nv ↔ c = Nv) ∧ (r < Nv → c = r - 1) := by
 have sub : ∀ f : List UInt8, f.length ≤ 1000 → (∀ b ∈ f, b = 97 ∨ b = 98) → wordOk ⟨f.toArray⟩ = true := by
  intro f h1 h2
  refine AB.ok (fun b hb => h2 b (by simpa using hb)) ?_
  have e : (⟨f.toArray⟩ : ByteArray).size = f.length := by simp [ByteArray.size]
  omega
 have fsub : ∀ fs : List (List UInt8), fs.flatten = ws → ∀ f ∈ fs, f.length ≤ 1000 ∧ ∀ b ∈ f, b = 97 ∨ b = 98 := by
  intro fs hf f hm
  have hsub : f.Sublist ws := by rw [← hf]; exact List.sublist_flatten_of_mem hm
  exact ⟨Nat.le_trans hsub.length_le hl, fun b hb => hab b (hsub.subset hb)⟩
 have h0 := hr.1
 have hc0 := hc.1
 -- factors give runs
 have up : r < Nv → c + 1 ≤ r := by
  intro hlt
  obtain ⟨fs, h1, h2, h3⟩ := hr.had hlt
  have hfs : fs ≠ [] := by rintro rfl; exact hne h2.symm
  obtain ⟨i, hi, k, hk, d, h4, h5⟩ := pow_some hP (fs := fs) (fun f hf => ⟨(h1 f hf).1, (acc_iff ha hs hv (sub f (fsub fs h2 f hf).1 (fsub fs h2 f hf).2)).1 (h1 f hf).2⟩) hfs
  rw [h2] at h4
  have := ((hc.2 c).1 (Int.le_refl _)).2 i hi k hk d h4
  omega
 -- runs give factors
 have down : c < Nv → r ≤ c + 1 := by
  intro hlt
  have h1 : ∃ i ∈ a.2.1, ∃ k ∈ a.2.2.1, ∃ d, Run P ws i k d ∧ d ≤ c := by
   apply Classical.byContradiction
   intro hno
   have := (hc.2 (c + 1)).2 ⟨by omega, fun i hi k hk d hd => by
    by_cases g : c + 1 ≤ d
    ·exact g
    ·exact absurd ⟨i, hi, k, hk, d, hd, by omega⟩ hno⟩
   omega
  obtain ⟨i, hi, k, hk, d, hd, hdc⟩ := h1
  obtain ⟨pre, fs, e1, e2, e3, j, hj, d2, h5⟩ := pow_split hP hd hk
  have key : ∀ gs : List (List UInt8), gs.flatten = ws → (∀ f ∈ gs, f ≠ [] ∧ Acc a.2.1 a.2.2.1 a.2.2.2 f) → (gs.length : Int) ≤ c + 1 → r ≤ c + 1 := by
   intro gs hg h6 h7
   have := ((hr.2 r).1 (Int.le_refl _)).2 gs (fun f hf => ⟨(h6 f hf).1, (acc_iff ha hs hv (sub f (fsub gs hg f hf).1 (fsub gs hg f hf).2)).2 (h6 f hf).2⟩) hg
   omega
  by_cases hp : pre = []
  ·subst hp
   exact key fs (by rw [e1]; rfl) e2 (by omega)
  ·refine key (pre :: fs) (by rw [e1]; rfl) (fun f hf => ?_) (by rw [List.length_cons]; omega)
   rcases List.mem_cons.1 hf with rfl | hf
   ·exact ⟨hp, i, hi, j, hj, d2, h5⟩
   ·exact e2 f hf
 have small : c < Nv → c ≤ 3000 := by
  intro hlt
  apply Classical.byContradiction
  intro hno
  have : Nv ≤ c := (hc.2 Nv).2 ⟨Int.le_refl _, fun i hi k hk d hd => by
   exfalso
   have h1 := run_le3 hPl hd
   have h2 := ((hc.2 c).1 (Int.le_refl _)).2 i hi k hk d hd
   omega⟩
  omega
 have hNv : Nv = 1000000 := rfl
 have h01 := h0.2
 have hc1 := hc0.2
 constructor
 ·constructor
  ·intro e
   by_cases g : c < Nv
   ·have := down g
    have := small g
    omega
   ·omega
  ·intro e
   by_cases g : r < Nv
   ·have := up g
    omega
   ·omega
 ·intro g
  have h1 := up g
  have h2 := down (by omega)
  omega
end Go.Proofs.Ytfdhmmnffahhgaa

/- States that are reached, by the program; the turned automaton; useful states. -/
namespace Go.Proofs.Ytfdhmmnffahhgaa
open Go Go.Proofs.Ytfdhmmnffahhgaa.Am
def setT (o : List Bool) (q : Int) : List Bool := o.set q.toNat true
def stepR (o : List Bool) (s : Stp) : List Bool := o.set s.2.2.1.toNat (o.getD s.2.2.1.toNat false || o.getD s.1.toNat false)
def roundR (l : List Stp) (o : List Bool) : List Bool := l.foldl stepR o
def itR (l : List Stp) : Nat → List Bool → List Bool
 | 0, o => o
 | k + 1, o => roundR l (itR l k o)
def startR (n : Nat) (fr : List Int) : List Bool := fr.foldl setT (List.replicate n false)
def reachedL (n : Nat) (l : List Stp) (fr : List Int) : List Bool := itR l n (startR n fr)
theorem stepR_len (o : List Bool) (s : Stp) : (stepR o s).length = o.length := List.length_set
theorem roundR_len : ∀ (l : List Stp) (o : List Bool), (roundR l o).length = o.length
 | [], o => rfl
 | s :: l, o => by
  show (roundR l (stepR o s)).length = _
  rw [roundR_len l, stepR_len]
theorem itR_len (l : List Stp) (o : List Bool) : ∀ k, (itR l k o).length = o.length
 | 0 => rfl
 | k + 1 => by
  show (roundR l (itR l k o)).length = _
  rw [roundR_len, itR_len l o k]
theorem setsT_len : ∀ (fr : List Int) (o : List Bool), (fr.foldl setT o).length = o.length
 | [], o => rfl
 | q :: fr, o => by
  rw [List.foldl_cons, setsT_len fr]
  exact List.length_set
theorem startR_len (n : Nat) (fr : List Int) : (startR n fr).length = n := by
 unfold startR
 rw [setsT_len, List.length_replicate]
section
variable {n : Nat} {S F : List Int} {l : List Stp} (h1 : 1 ≤ n) (h4 : n ≤ 4) (hl : ∀ s ∈ l, StepIs (n : Int) s) (ll : l.length ≤ 1048576)
include hl ll in
theorem reach_round (o : List Bool) (ho : o.length = n) (u v : Int) : loopF impl_reached_l10 (((n : Int), S, F, l, ()), o, u, v, l, (l.length : Int), (0 : Int), ()) = some (((n : Int), S, F, l, ()), roundR l o, u, v, ()) := by
 obtain ⟨r, g1, g2⟩ := loop_inv (f := impl_reached_l10) l.length (fun i (p : List Bool) => (((n : Int), S, F, l, ()), p, u, v, l, (l.length : Int), (i : Int), ())) (fun i p => stepR p (l.getD i stp0)) (fun p => (((n : Int), S, F, l, ()), p, u, v, ()))
  (fun i p => p = roundR (l.take i) o)
  (fun i p hi hp => by
   subst hp
   unfold roundR
   rw [take_snoc hi, List.foldl_append, getD_g stp0 hi]
   rfl)
  (fun i p hi hp => by
   have hpl : p.length = n := by rw [hp, roundR_len, ho]
   have hs := hl _ (show l.getD i stp0 ∈ l by rw [getD_g stp0 hi]; exact List.getElem_mem hi)
   have b1 := hs.f0; have b2 := hs.f1; have b3 := hs.t0; have b4 := hs.t1
   have c2 : (l.getD i stp0).1 < (p.length : Int) := by omega
   have c4 : (l.getD i stp0).2.2.1 < (p.length : Int) := by omega
   simp only [impl_reached_l10, lt_t hi, cond_true, if_pos (in_t hi), Int.toNat_natCast, Nat.zero_add, List.drop_zero, w64_succ hi (show l.length ≤ 9223372036854775807 by omega), stepR]
   rw [if_pos ⟨b3, c4⟩]
   cases hg : p.getD (l.getD i stp0).2.2.1.toNat false with
   | true =>
    simp only [cond_true, Bool.true_or]
    rw [if_pos ⟨b3, c4⟩, List.take_of_length_le (by rw [List.length_set]; exact Nat.le_refl _)]
   | false =>
    simp only [cond_false, Bool.false_or]
    rw [if_pos ⟨b1, c2⟩, if_pos ⟨b3, c4⟩, List.take_of_length_le (by rw [List.length_set]; exact Nat.le_refl _)])
  (fun p hp => by simp only [impl_reached_l10, lt_f, cond_false, List.drop_zero, List.take_length])
  o rfl
 have g1 : loopF impl_reached_l10 (((n : Int), S, F, l, ()), o, u, v, l, (l.length : Int), (0 : Int), ()) = _ := g1
 rw [g1, g2, List.take_length]
include h1 h4 hl ll in
theorem reached_is {fr : List Int} (hf : ∀ q ∈ fr, 0 ≤ q ∧ q ≤ (n : Int) - 1) (lf : fr.length ≤ 1048576) : impl_reached ((n : Int), S, F, l) fr = some (reachedL n l fr) := by
 obtain ⟨r, g1, g2⟩ := loop_inv (f := impl_reached_l3) fr.length (fun i (p : List Bool) => (((n : Int), S, F, l, ()), p, fr, (fr.length : Int), (i : Int), ())) (fun i p => setT p (fr.getD i 0)) (fun p => (((n : Int), S, F, l, ()), p, ()))
  (fun i p => p = startR n (fr.take i))
  (fun i p hi hp => by
   subst hp
   unfold startR
   rw [take_snoc hi, List.foldl_append, getD_g 0 hi]
   rfl)
  (fun i p hi hp => by
   have hpl : p.length = n := by rw [hp, startR_len]
   have hq := hf _ (show fr.getD i 0 ∈ fr by rw [getD_g 0 hi]; exact List.getElem_mem hi)
   simp only [impl_reached_l3, lt_t hi, cond_true, if_pos (in_t hi), Int.toNat_natCast, Nat.zero_add, List.drop_zero, w64_succ hi (show fr.length ≤ 9223372036854775807 by omega), setT]
   rw [if_pos ⟨hq.1, by omega⟩, List.take_of_length_le (by rw [List.length_set]; exact Nat.le_refl _)])
  (fun p hp => by simp only [impl_reached_l3, lt_f, cond_false, List.drop_zero, List.take_length])
  (List.replicate n false) rfl
 have g1 : loopF impl_reached_l3 (((n : Int), S, F, l, ()), List.replicate n false, fr, (fr.length : Int), (0 : Int), ()) = _ := g1
 rw [List.take_length] at g2
 obtain ⟨r2, k1, k2⟩ := loop_inv (f := impl_reached_l8) n (fun i (p : List Bool) => (((n : Int), S, F, l, ()), p, (n : Int), (i : Int), ())) (fun i p => roundR l p) (fun p => (p, ()))
  (fun i p => p = itR l i (startR n fr))
  (fun i p hi hp => by subst hp; rfl)
  (fun i p hi hp => by
   have hpl : p.length = n := by rw [hp, itR_len, startR_len]
   simp only [impl_reached_l8, lt_t hi, cond_true, List.drop_zero, List.take_length, reach_round hl ll p hpl, Option.bind_some, w64_succ hi (show n ≤ 9223372036854775807 by omega)])
  (fun p hp => by simp only [impl_reached_l8, lt_f, cond_false, List.drop_zero, List.take_length])
  (startR n fr) rfl
 have k1 : loopF impl_reached_l8 (((n : Int), S, F, l, ()), startR n fr, (n : Int), (0 : Int), ()) = _ := k1
 unfold impl_reached
 dsimp only
 rw [if_pos ⟨by omega, rfl, by omega⟩, Int.toNat_natCast, List.drop_zero, List.take_of_length_le (by rw [List.length_replicate]; exact Nat.le_refl _), g1, g2]
 simp only [Option.bind_some, List.drop_zero, List.take_length, k1]
 rw [k2]
 rfl
end
/-! ### what that tells -/
inductive Rch (l : List Stp) (fr : List Int) : Int → Prop
 | base (q : Int) : q ∈ fr → Rch l fr q
 | step (s : Stp) : s ∈ l → Rch l fr s.1 → Rch l fr s.2.2.1
def LeB (o p : List Bool) : Prop := ∀ i, o.getD i false = true → p.getD i false = true
theorem getD_setB (o : List Bool) (i j : Nat) (b : Bool) : (o.set i b).getD j false = if i = j ∧ i < o.length then b else o.getD j false := by
 rw [List.getD_eq_getElem?_getD, List.getD_eq_getElem?_getD, List.getElem?_set]
 by_cases e : i = j
 ·subst e
  rw [if_pos rfl]
  by_cases h : i < o.length
  ·rw [if_pos h, if_pos ⟨rfl, h⟩]
   rfl
  ·rw [if_neg h, if_neg (fun k => h k.2), List.getElem?_eq_none (by omega)]
 ·rw [if_neg e, if_neg (fun k => e k.1)]
theorem stepR_le (o : List Bool) (s : Stp) : LeB o (stepR o s) := by
 intro i hi
 unfold stepR
 rw [getD_setB]
 split
 ·rename_i h
  rw [← h.1] at hi
  rw [hi, Bool.true_or]
 ·exact hi
theorem roundR_le : ∀ (l : List Stp) (o : List Bool), LeB o (roundR l o)
 | [], o => fun i h => h
 | s :: l, o => fun i h => roundR_le l (stepR o s) i (stepR_le o s i h)
def cntB (o : List Bool) : Nat := o.countP id
theorem cnt_le : ∀ {o p : List Bool}, o.length = p.length → LeB o p → cntB o ≤ cntB p ∧ ((∃ i, o.getD i false = false ∧ p.getD i false = true) → cntB o < cntB p)
 | [], [], _, _ => ⟨Nat.le_refl _, fun ⟨i, _, h⟩ => by simp at h⟩
 | a :: o, b :: p, hl, h => by
  have hl : o.length = p.length := by simpa using hl
  obtain ⟨h1, h2⟩ := cnt_le hl (fun i hi => h (i + 1) hi)
  have h0 := h 0
  have h0 : a = true → b = true := h0
  unfold cntB at h1 h2 ⊢
  rw [List.countP_cons, List.countP_cons]
  constructor
  ·cases a <;> cases b <;> simp_all <;> omega
  ·rintro ⟨i, h3, h4⟩
   cases i with
   | zero =>
    have h3 : a = false := h3
    have h4 : b = true := h4
    subst h3 h4
    simp
    omega
   | succ i =>
    have := h2 ⟨i, h3, h4⟩
    cases a <;> cases b <;> simp_all <;> omega
 | [], _ :: _, h, _ => by simp at h
 | _ :: _, [], h, _ => by simp at h
def ClosedB (l : List Stp) (o : List Bool) : Prop := ∀ s ∈ l, o.getD s.1.toNat false = true → o.getD s.2.2.1.toNat false = true
theorem set_same (o : List Bool) (i : Nat) (b : Bool) (h : i < o.length → b = o.getD i false) : o.set i b = o := by
 refine List.ext_getElem (List.length_set) fun j h1 h2 => ?_
 rw [List.getElem_set]
 split
 ·rename_i e
  subst e
  rw [h h2, List.getD_eq_getElem?_getD, List.getElem?_eq_getElem h2]
  rfl
 ·rfl
theorem closed_same {l : List Stp} {o : List Bool} (h : ClosedB l o) : roundR l o = o := by
 have key : ∀ k : List Stp, (∀ s ∈ k, s ∈ l) → roundR k o = o := by
  intro k
  induction k with
  | nil => intro _; rfl
  | cons s k ih =>
   intro hk
   show roundR k (stepR o s) = o
   have : stepR o s = o := set_same o _ _ fun _ => by
    have := h s (hk s List.mem_cons_self)
    cases e : o.getD s.1.toNat false with
    | true => rw [this e]; rfl
    | false => rw [Bool.or_false]
   rw [this]
   exact ih fun t ht => hk t (List.mem_cons_of_mem _ ht)
 exact key l fun s hs => hs
theorem round_more {l : List Stp} {o : List Bool} (hl : ∀ s ∈ l, s.2.2.1.toNat < o.length) (h : ¬ ClosedB l o) : cntB o < cntB (roundR l o) := by
 refine (cnt_le (roundR_len l o).symm (roundR_le l o)).2 ?_
 have h1 : ∃ s ∈ l, o.getD s.1.toNat false = true ∧ o.getD s.2.2.1.toNat false = false := by
  apply Classical.byContradiction
  intro hno
  refine h fun s hs h2 => ?_
  cases e : o.getD s.2.2.1.toNat false with
  | true => rfl
  | false => exact absurd ⟨s, hs, h2, e⟩ hno
 obtain ⟨s, hs, h2, h3⟩ := h1
 refine ⟨s.2.2.1.toNat, h3, ?_⟩
 obtain ⟨k, m, rfl⟩ := List.append_of_mem hs
 have e : roundR (k ++ s :: m) o = roundR m (stepR (roundR k o) s) := by
  unfold roundR
  rw [List.foldl_append, List.foldl_cons]
 rw [e]
 refine roundR_le m _ _ ?_
 unfold stepR
 rw [getD_setB, if_pos ⟨rfl, by rw [roundR_len]; exact hl s hs⟩, roundR_le k o _ h2, Bool.or_true]
theorem startR_get {n : Nat} : ∀ {fr : List Int} {q : Nat}, q < n → ((startR n fr).getD q false = true ↔ ∃ e ∈ fr, e.toNat = q) := by
 intro fr q hq
 have key : ∀ (fr : List Int) (o : List Bool), o.length = n → ((fr.foldl setT o).getD q false = true ↔ o.getD q false = true ∨ ∃ e ∈ fr, e.toNat = q) := by
  intro fr
  induction fr with
  | nil => intro o ho; simp
  | cons e fr ih =>
   intro o ho
   rw [List.foldl_cons, ih _ (by unfold setT; rw [List.length_set]; exact ho)]
   unfold setT
   rw [getD_setB]
   simp only [List.mem_cons, exists_eq_or_imp]
   by_cases h : e.toNat = q
   ·rw [if_pos ⟨h, by omega⟩]
    simp [h]
   ·rw [if_neg (fun k => h k.1)]
    simp [h]
 unfold startR
 rw [key fr _ List.length_replicate]
 have : (List.replicate n false).getD q false = false := by
  rw [List.getD_eq_getElem?_getD, List.getElem?_replicate]
  split <;> rfl
 rw [this]
 simp
theorem reached_iff {n : Nat} {l : List Stp} {fr : List Int} (hl : ∀ s ∈ l, StepIs (n : Int) s) (hf : ∀ q ∈ fr, 0 ≤ q ∧ q ≤ (n : Int) - 1) {q : Nat} (hq : q < n) : (reachedL n l fr).getD q false = true ↔ Rch l fr (q : Int) := by
 have hlen : ∀ k, (itR l k (startR n fr)).length = n := fun k => by rw [itR_len, startR_len]
 constructor
 ·-- what stands is reached
  have snd : ∀ k, ∀ q : Nat, q < n → (itR l k (startR n fr)).getD q false = true → Rch l fr (q : Int) := by
   intro k
   induction k with
   | zero =>
    intro q hq h
    obtain ⟨e, he, h1⟩ := (startR_get hq).1 h
    have := hf e he
    have e1 : (q : Int) = e := by omega
    rw [e1]
    exact .base e he
   | succ k ih =>
    have key : ∀ (m : List Stp) (o : List Bool), (∀ s ∈ m, s ∈ l) → (∀ q : Nat, q < n → o.getD q false = true → Rch l fr (q : Int)) → ∀ q : Nat, q < n → (roundR m o).getD q false = true → Rch l fr (q : Int) := by
     intro m
     induction m with
     | nil => intro o _ h; exact h
     | cons s m ihm =>
      intro o hm h
      refine ihm (stepR o s) (fun t ht => hm t (List.mem_cons_of_mem _ ht)) fun q hq h1 => ?_
      have hsl := hm s List.mem_cons_self
      have hs := hl s hsl
      have b1 := hs.f0; have b2 := hs.f1; have b3 := hs.t0; have b4 := hs.t1
      unfold stepR at h1
      rw [getD_setB] at h1
      split at h1
      ·rename_i h2
       rw [Bool.or_eq_true] at h1
       rcases h1 with h1 | h1
       ·rw [h2.1] at h1
        exact h q hq h1
       ·have h3 := h s.1.toNat (by omega) h1
        have e1 : (q : Int) = s.2.2.1 := by have := h2.1; omega
        rw [e1]
        exact .step s hsl (by rw [show s.1 = ((s.1.toNat : Nat) : Int) by omega]; exact h3)
      ·exact h q hq h1
    exact key l _ (fun s hs => hs) ih
  exact snd n q hq
 ·-- all that is reached stands
  have prog : ∀ k, ClosedB l (itR l k (startR n fr)) ∨ k + cntB (startR n fr) ≤ cntB (itR l k (startR n fr)) := by
   intro k
   induction k with
   | zero => exact .inr (by show 0 + _ ≤ cntB (startR n fr); omega)
   | succ k ih =>
    by_cases hc : ClosedB l (itR l k (startR n fr))
    ·left
     show ClosedB l (roundR l (itR l k (startR n fr)))
     rw [closed_same hc]
     exact hc
    ·right
     rcases ih with h | h
     ·exact absurd h hc
     ·have := round_more (o := itR l k (startR n fr)) (fun s hs => by rw [hlen]; have := (hl s hs).t0; have := (hl s hs).t1; omega) hc
      show k + 1 + _ ≤ cntB (roundR l (itR l k (startR n fr)))
      omega
  have hclosed : ClosedB l (reachedL n l fr) := by
   rcases prog n with h | h
   ·exact h
   ·by_cases h0 : fr = []
    ·subst h0
     have hz : ∀ i, (startR n []).getD i false = false := by
      intro i
      show (List.replicate n false).getD i false = false
      rw [List.getD_eq_getElem?_getD, List.getElem?_replicate]
      split <;> rfl
     have hc0 : ClosedB l (startR n []) := fun s _ h1 => by rw [hz] at h1; cases h1
     have hk : ∀ k, itR l k (startR n []) = startR n [] := by
      intro k
      induction k with
      | zero => rfl
      | succ k ih =>
       show roundR l (itR l k (startR n [])) = _
       rw [ih]
       exact closed_same hc0
     unfold reachedL
     rw [hk]
     exact hc0
    ·exfalso
     obtain ⟨e, he⟩ := List.exists_mem_of_ne_nil fr h0
     have hb := hf e he
     have hz : cntB (List.replicate n false) = 0 := by
      unfold cntB
      rw [List.countP_eq_zero]
      intro x hx
      rw [List.eq_of_mem_replicate hx]
      simp
     have h1 : 0 < cntB (startR n fr) := by
      have := (cnt_le (o := List.replicate n false) (p := startR n fr) (by rw [startR_len, List.length_replicate]) (fun i h => by
       rw [List.getD_eq_getElem?_getD, List.getElem?_replicate] at h
       split at h <;> cases h)).2 ⟨e.toNat, by rw [List.getD_eq_getElem?_getD, List.getElem?_replicate]; split <;> rfl, (startR_get (by omega)).2 ⟨e, he, rfl⟩⟩
      omega
     have h2 : cntB (itR l n (startR n fr)) ≤ n := by
      have := List.countP_le_length (p := (id : Bool → Bool)) (l := itR l n (startR n fr))
      rw [hlen] at this
      exact this
     omega
  have hbase : ∀ q ∈ fr, (reachedL n l fr).getD q.toNat false = true := by
   intro e he
   have hb := hf e he
   have : ∀ k, (itR l k (startR n fr)).getD e.toNat false = true := by
    intro k
    induction k with
    | zero => exact (startR_get (by omega)).2 ⟨e, he, rfl⟩
    | succ k ih => exact roundR_le l _ _ ih
   exact this n
  intro h
  have all : ∀ z : Int, Rch l fr z → (reachedL n l fr).getD z.toNat false = true := by
   intro z hz
   induction hz with
   | base q hq => exact hbase q hq
   | step s hs _ ih => exact hclosed s hs ih
  have := all _ h
  rwa [Int.toNat_natCast] at this
theorem reached_same {n : Nat} {l m : List Stp} {fr : List Int} (hl : ∀ s ∈ l, StepIs (n : Int) s) (hm : ∀ s ∈ m, StepIs (n : Int) s) (hf : ∀ q ∈ fr, 0 ≤ q ∧ q ≤ (n : Int) - 1) (h : ∀ q, Rch l fr q ↔ Rch m fr q) : reachedL n l fr = reachedL n m fr := by
 have hlen : ∀ l, (reachedL n l fr).length = n := fun l => by unfold reachedL; rw [itR_len, startR_len]
 refine List.ext_getElem (by rw [hlen, hlen]) fun j h1 h2 => ?_
 have hj : j < n := by rw [← hlen l]; exact h1
 have e1 := reached_iff hl hf hj
 have e2 := reached_iff hm hf hj
 rw [getD_g false h1] at e1
 rw [getD_g false h2] at e2
 rw [Bool.eq_iff_iff, e1, e2]
 exact h _
end Go.Proofs.Ytfdhmmnffahhgaa

/- The law of the automaton of factors. -/
namespace Go.Proofs.Ytfdhmmnffahhgaa
open Go Go.Proofs.Ytfdhmmnffahhgaa.Am
/-! ### the turned automaton -/
def sw (s : Stp) : Stp := (s.2.2.1, s.2.1, s.1, s.2.2.2)
theorem stepOk_of {n : Int} {s : Stp} (h : StepIs n s) : stepOk n s = true := by
 have h1 := h.f0; have h2 := h.f1; have h3 := h.t0; have h4 := h.t1; have h5 := h.c0; have h6 := h.c1
 unfold stepOk
 simp only [Bool.and_eq_true, decide_eq_true_eq, Bool.or_eq_true, beq_iff_eq]
 exact ⟨⟨h1, h2⟩, ⟨h3, h4⟩, ⟨h5, h6⟩, h.l⟩
theorem sw_is {n : Int} {s : Stp} (h : StepIs n s) : StepIs n (sw s) := ⟨h.t0, h.t1, h.f0, h.f1, h.c0, h.c1, h.l⟩
theorem srt_ok {n : Int} {m : List Stp} (hs : Srt m) (hm : ∀ s ∈ m, StepIs n s) : stepsOk n m = true := by
 unfold stepsOk
 refine List.all_eq_true.2 fun i hi => ?_
 have hi := List.mem_range.1 hi
 unfold stepsP
 rw [getD_g stp0 hi, stepOk_of (hm _ (List.getElem_mem hi)), Bool.true_and]
 by_cases h0 : i = 0
 ·rw [decide_eq_true h0, Bool.true_or]
 ·rw [decide_eq_false h0, Bool.false_or, getD_g stp0 (show i - 1 < m.length by omega), befB_lt]
  exact (List.pairwise_iff_getElem.1 hs) (i - 1) i (by omega) hi (by omega)
theorem sorted_of : ∀ {L : List Stp}, L.Pairwise (fun s t => stepC t s ≠ 0) → ∃ m, Srt m ∧ L.Perm m
 | [], _ => ⟨[], List.Pairwise.nil, List.Perm.refl _⟩
 | x :: L, h => by
  obtain ⟨h1, h2⟩ := List.pairwise_cons.1 h
  obtain ⟨m, hm, hp⟩ := sorted_of h2
  exact ⟨ins x m, ins_srt hm, (hp.cons x).trans (ins_new fun s hs => h1 s (hp.mem_iff.2 hs)).symm⟩
theorem zero_same {s t : Stp} (h1 : s.1 = t.1) (h2 : s.2.2.1 = t.2.2.1) (h3 : s.2.1.toList = t.2.1.toList) : ltS s t = false := by
 rw [← befB_lt]
 unfold befB
 have e1 : (s.1 != t.1) = false := bne_eq_false_iff_eq.2 h1
 have e2 : (s.2.1.toList == t.2.1.toList) = true := by rw [h3]; simp
 rw [e1, cond_false, e2, Bool.not_true, cond_false]
 exact decide_eq_false (by omega)
theorem reverse_is {n : Nat} {S F : List Int} {l : List Stp} (ha : AutIs ((n : Int), S, F, l) n) (hs : Small ((n : Int), S, F, l)) (hv : autOk ((n : Int), S, F, l) = true) : ∃ m, (l.map sw).Perm m ∧ impl_ReverseAutomaton ((n : Int), S, F, l) = some (((n : Int), F, S, m), true) ∧ Small ((n : Int), F, S, m) := by
 have hV := impl_AutomatonValid_is ((n : Int), S, F, l) (small_len hs).1 (small_len hs).2
 obtain ⟨q1, q2, q3, q4, q5⟩ := autOk_parts hv
 obtain ⟨s1, s2, s3⟩ := hs
 simp only at s1 s2 s3
 have hl := ha.steps
 have hl : ∀ s ∈ l, StepIs (n : Int) s := hl
 have hpw : (l.map sw).Pairwise (fun s t => stepC t s ≠ 0) := by
  rw [List.pairwise_map]
  have hsrt : l.Pairwise fun s t => ltS s t = true := steps_srt q4
  refine List.Pairwise.imp_of_mem (fun {s t} hs1 ht1 h h0 => ?_) hsrt
  obtain ⟨e1, e2, e3⟩ := stepC_zero (s := sw t) (t := sw s) (hl t ht1).l (hl s hs1).l h0
  have := zero_same (s := s) (t := t) (show s.1 = t.1 from e2.symm) (show s.2.2.1 = t.2.2.1 from e1.symm) e3.symm
  rw [this] at h
  cases h
 obtain ⟨m, hm, hp⟩ := sorted_of hpw
 have hlm : (l.map sw).length = l.length := List.length_map _
 have hml : m.length = l.length := by rw [← hp.length_eq, hlm]
 have hmk := made_is (x := (n : Int)) (S := F) (F := S) q2 q1 hm hp s2 s1 (by omega)
 have hok : autOk ((n : Int), F, S, m) = true := by
  unfold autOk at hv ⊢
  simp only [Bool.and_eq_true, decide_eq_true_eq] at hv ⊢
  refine ⟨hv.1, q2, q1, by omega, srt_ok hm fun s hs => ?_⟩
  obtain ⟨t, ht, rfl⟩ := List.mem_map.1 (hp.mem_iff.2 hs)
  exact sw_is (hl t ht)
 have hst := stepped_is (l := l) (by omega) (φ := fun y1 => impl_ReverseAutomaton_1 y1.1) (z := sw) (fun s => rfl)
 refine ⟨m, hp, ?_, ⟨s2, s1, by show m.length ≤ _; omega⟩⟩
 simp only [impl_ReverseAutomaton, hV, hv, Option.bind_some, Bool.not_true, cond_false, hst, List.drop_zero, List.take_length, hmk, hok, if_true]
/-! ### useful states -/
def usefulL (n : Nat) (o p : List Bool) : List Int := ((List.range n).filter fun q => o.getD q false && p.getD q false).map fun q : Nat => (q : Int)
theorem usefulL_len (n : Nat) (o p : List Bool) : (usefulL n o p).length ≤ n := by
 unfold usefulL
 rw [List.length_map]
 have := List.length_filter_le (fun q => o.getD q false && p.getD q false) (List.range n)
 rwa [List.length_range] at this
theorem useful_loop {n : Nat} (h4 : n ≤ 4) {o p : List Bool} (ho : o.length = n) (hp : p.length = n) : loopF impl_UsefulOf_l7 (o, p, [], (n : Int), (0 : Int), ()) = some (usefulL n o p, ()) := by
 obtain ⟨r, g1, g2⟩ := loop_inv (f := impl_UsefulOf_l7) n (fun i (x : List Int) => (o, p, x, (n : Int), (i : Int), ())) (fun i _ => usefulL (i + 1) o p) (fun x => (x, ())) (fun i x => x = usefulL i o p)
  (fun i x hi hx => rfl)
  (fun i x hi hx => by
   have hxl : x.length ≤ 4 := by rw [hx]; exact Nat.le_trans (usefulL_len i o p) (by omega)
   have e : usefulL (i + 1) o p = if (o.getD i false && p.getD i false) = true then usefulL i o p ++ [(i : Int)] else usefulL i o p := by
    unfold usefulL
    have hf : List.filter (fun q => o.getD q false && p.getD q false) [i] = if (o.getD i false && p.getD i false) = true then [i] else [] := by rw [List.filter_cons, List.filter_nil]
    rw [List.range_succ, List.filter_append, List.map_append, hf]
    split
    ·rfl
    ·rw [List.map_nil, List.append_nil]
   rw [e, ← hx]
   simp only [impl_UsefulOf_l7, lt_t hi, cond_true, if_pos (in_t (show i < o.length by omega)), if_pos (in_t (show i < p.length by omega)), Int.toNat_natCast, Nat.zero_add, List.drop_zero, List.take_length, w64_succ hi (show n ≤ 9223372036854775807 by omega), show List.take 1 [(i : Int)] = [(i : Int)] from rfl]
   cases h1 : o.getD i false with
   | false => simp
   | true =>
    cases h2 : p.getD i false with
    | false => simp
    | true =>
     simp only [cond_true, Bool.and_self, if_true]
     rw [if_pos ⟨trivial, by simp; omega⟩, List.take_of_length_le (by simp)])
  (fun x hx => by simp only [impl_UsefulOf_l7, lt_f, cond_false, List.drop_zero, List.take_length])
  [] rfl
 have g1 : loopF impl_UsefulOf_l7 (o, p, [], (n : Int), (0 : Int), ()) = _ := g1
 rw [g1, g2]
theorem useful_of {n : Nat} {S F : List Int} {l : List Stp} (ha : AutIs ((n : Int), S, F, l) n) (hs : Small ((n : Int), S, F, l)) (hv : autOk ((n : Int), S, F, l) = true) :
  ∃ m, (l.map sw).Perm m ∧ impl_UsefulOf ((n : Int), S, F, l) = some (usefulL n (reachedL n l S) (reachedL n m F)) := by
 obtain ⟨m, hp, hr, hsm⟩ := reverse_is ha hs hv
 have hm : ∀ s ∈ m, StepIs (n : Int) s := by
  intro s hs
  obtain ⟨t, ht, rfl⟩ := List.mem_map.1 (hp.mem_iff.2 hs)
  exact sw_is (ha.steps t ht)
 have r1 := reached_is (S := S) (F := F) ha.n1 ha.n4 ha.steps hs.2.2 (fr := S) ha.S hs.1
 have r2 := reached_is (S := F) (F := S) ha.n1 ha.n4 hm hsm.2.2 (fr := F) ha.F hs.2.1
 have hlen : ∀ l fr, (reachedL n l fr).length = n := fun l fr => by unfold reachedL; rw [itR_len, startR_len]
 have r1 : impl_reached ((n : Int), S, F, l) S = some (reachedL n l S) := r1
 refine ⟨m, hp, ?_⟩
 simp only [impl_UsefulOf, hr, Option.bind_some, Bool.not_true, cond_false, r1, r2, List.drop_zero, List.take_length, List.take_zero, useful_loop ha.n4 (hlen l S) (hlen m F)]
theorem useful_same {n : Nat} {S F : List Int} {l P : List Stp} (ha : AutIs ((n : Int), S, F, l) n) (hs : Small ((n : Int), S, F, l)) (hv : autOk ((n : Int), S, F, l) = true)
  (hb : AutIs ((n : Int), S, F, P) n) (hsb : Small ((n : Int), S, F, P)) (hvb : autOk ((n : Int), S, F, P) = true) (hP : Pow S F l P) : ∃ r, impl_UsefulOf ((n : Int), S, F, l) = some r ∧ impl_UsefulOf ((n : Int), S, F, P) = some r ∧ r.length ≤ 4 := by
 obtain ⟨m, hm, u1⟩ := useful_of ha hs hv
 obtain ⟨k, hk, u2⟩ := useful_of hb hsb hvb
 have hms : ∀ s ∈ m, StepIs (n : Int) s := by
  intro s hs
  obtain ⟨t, ht, rfl⟩ := List.mem_map.1 (hm.mem_iff.2 hs)
  exact sw_is (ha.steps t ht)
 have hks : ∀ s ∈ k, StepIs (n : Int) s := by
  intro s hs
  obtain ⟨t, ht, rfl⟩ := List.mem_map.1 (hk.mem_iff.2 hs)
  exact sw_is (hb.steps t ht)
 have e1 : reachedL n l S = reachedL n P S := by
  refine reached_same ha.steps hb.steps ha.S fun q => ⟨fun h => ?_, fun h => ?_⟩
  ·induction h with
   | base q hq => exact .base q hq
   | step s hs _ ih => exact .step (zs s) (hP.old s hs) ih
  ·induction h with
   | base q hq => exact .base q hq
   | step y hy _ ih =>
    rcases hP.mem y hy with ⟨s, hs, rfl⟩ | ⟨s, hs, f, hf, h1, rfl⟩
    ·exact .step s hs ih
    ·exact .step s hs (.base _ h1)
 have e2 : reachedL n m F = reachedL n k F := by
  refine reached_same hms hks ha.F fun q => ⟨fun h => ?_, fun h => ?_⟩
  ·induction h with
   | base q hq => exact .base q hq
   | step s hs _ ih =>
    obtain ⟨t, ht, rfl⟩ := List.mem_map.1 (hm.mem_iff.2 hs)
    exact .step (sw (zs t)) (hk.mem_iff.1 (List.mem_map.2 ⟨zs t, hP.old t ht, rfl⟩)) ih
  ·induction h with
   | base q hq => exact .base q hq
   | step s hs _ ih =>
    obtain ⟨y, hy, rfl⟩ := List.mem_map.1 (hk.mem_iff.2 hs)
    rcases hP.mem y hy with ⟨t, ht, rfl⟩ | ⟨t, ht, f, hf, h1, rfl⟩
    ·exact .step (sw t) (hm.mem_iff.1 (List.mem_map.2 ⟨t, ht, rfl⟩)) ih
    ·exact .base f hf
 refine ⟨_, u1, ?_, Nat.le_trans (usefulL_len _ _ _) ha.n4⟩
 rw [u2, e1, e2]
/-! ### two automata that are the same -/
theorem daAut_self {a : Aut} (hs : Small a) : laws_daAutomaton a a = some true := by
 obtain ⟨x, S, F, l⟩ := a
 obtain ⟨s1, s2, s3⟩ := hs
 simp only at s1 s2 s3
 obtain ⟨r, g1, _⟩ := loop_inv (f := laws_daAutomaton_l2) (α := Unit) l.length (fun i _ => ((x, S, F, l, ()), (x, S, F, l, ()), ((l.length : Nat) : Int), (i : Int), ())) (fun _ _ => ()) (fun _ => .inr ((x, S, F, l, ()), (x, S, F, l, ()), ())) (fun _ _ => True) (fun _ _ _ _ => trivial)
  (fun i _ hi _ => by simp only [laws_daAutomaton_l2, lt_t hi, cond_true, if_pos (in_t hi), BEq.rfl, Bool.and_self, Bool.not_true, cond_false, w64_succ hi (show l.length ≤ 9223372036854775807 by omega)])
  (fun _ _ => by simp only [laws_daAutomaton_l2, lt_f, cond_false]) () trivial
 have g1 : loopF laws_daAutomaton_l2 ((x, S, F, l, ()), (x, S, F, l, ()), ((l.length : Nat) : Int), (0 : Int), ()) = some (.inr ((x, S, F, l, ()), (x, S, F, l, ()), ())) := g1
 unfold laws_daAutomaton
 dsimp only
 rw [if_neg (by omega), g1]
 simp only [Option.bind_some, BEq.rfl, cond_true, daSame_is (show S.length ≤ 9223372036854775807 by omega), daSame_is (show F.length ≤ 9223372036854775807 by omega)]
/-- the automaton of factors, and what its steps are -/
theorem power_full {a : Aut} {n : Nat} (ha : AutIs a n) (hs : Small a) (hv : autOk a = true) : ∃ R ok, spec_PowerAutomaton a = some (R, ok) ∧ impl_PowerAutomaton a = some (R, ok) ∧ Small R ∧ (ok = true → ∃ P, R = (a.1, a.2.1, a.2.2.1, P) ∧ autOk R = true ∧ Pow a.2.1 a.2.2.1 a.2.2.2 P) := by
 have hV := impl_AutomatonValid_is a (small_len hs).1 (small_len hs).2
 have hown := ownAut_is hs
 have hsc := scale0_is hs hv
 have hst0 := ha.steps
 obtain ⟨x, S, F, l⟩ := a
 obtain ⟨h1, h2, h3⟩ := hs
 simp only at h1 h2 h3
 have hst0 : ∀ s ∈ l, StepIs (n : Int) s := hst0
 have hsc : spec_ScaleAutomaton (x, S, F, l) 0 = some ((x, S, F, l.map zs), true) := hsc
 obtain ⟨q1, q2, q3, q4, q5⟩ := autOk_parts hv
 have hlz : (l.map zs).length = l.length := List.length_map _
 have h0 : IP (l.map zs) (l.map zs) := by
  refine ⟨List.Perm.refl _, ?_, ?_⟩
  ·exact steps_srt (stepsOk_zs q4)
  ·intro s hs
   obtain ⟨t, _, rfl⟩ := List.mem_map.1 hs
   exact Int.zero_le_ofNat 1
 have hall := h0.all (S := S) (F := F) (l := l)
 have hst := stepped_is (l := l) (by omega) (φ := fun y1 => impl_PowerAutomaton_1 y1.1) (z := zs) (fun s => rfl)
 have hi := impl_all (x := x) (S := S) (F := F) (l := l) h1 h2 q3 (l.map zs) (by omega)
 have hsp := spec_all (x := x) (S := S) (F := F) (l := l) h1 h2 (L := l.map zs) (by omega) (I := l.map zs) (P := l.map zs) (by omega) h0
 rw [row_zs] at hsp
 have hlen : (allI S F (l.map zs) l).length ≤ 24 + 24 * 1048576 := by
  have := allI_len (S := S) (F := F) (I := l.map zs) l l.length (Nat.le_refl _)
  rw [List.take_length] at this
  have hm : l.length * F.length ≤ 24 * 1048576 := Nat.mul_le_mul q3 h2
  omega
 have hm := made_is (x := x) (S := S) (F := F) q1 q2 hall.srt hall.perm h1 h2 (by omega)
 have hpow := pow_is (S := S) (F := F) hst0 hall.perm
 have hV2 := spec_AutomatonValid_is (x, S, F, allP S F (l.map zs) l) (show S.length ≤ _ by omega) (show F.length ≤ _ by omega)
 generalize allP S F (l.map zs) l = P at hsp hm hV2 hpow
 have hspec : spec_PowerAutomaton (x, S, F, l) = some (if autOk (x, S, F, P) = true then ((x, S, F, P), true) else (((0 : Int), [], [], []), false)) := by
  unfold spec_PowerAutomaton
  dsimp only
  rw [hown]
  simp only [Option.bind_some, List.drop_zero, List.take_length, hsc, Bool.not_true, cond_false, hsp]
  simp only [spec_l5Whole, hV2, Option.bind_some]
  cases autOk (x, S, F, P) <;> rfl
 have himpl : impl_PowerAutomaton (x, S, F, l) = some (if autOk (x, S, F, P) = true then ((x, S, F, P), true) else (((0 : Int), [], [], []), false)) := by
  unfold impl_PowerAutomaton
  dsimp only
  rw [hV]
  simp only [Option.bind_some, hv, Bool.not_true, cond_false, hst, List.drop_zero, List.take_length, hi, hm]
 rw [hspec, himpl]
 cases hP : autOk (x, S, F, P) with
 | true =>
  obtain ⟨_, _, p3, _, _⟩ := autOk_parts hP
  exact ⟨_, _, rfl, rfl, ⟨h1, h2, by show P.length ≤ _; omega⟩, fun _ => ⟨P, rfl, hP, hpow⟩⟩
 | false =>
  exact ⟨_, _, rfl, rfl, ⟨by show (0 : Nat) ≤ _; omega, by show (0 : Nat) ≤ _; omega, by show (0 : Nat) ≤ _; omega⟩, fun h => by cases h⟩
theorem drawPower_is {c : List Int} (hc : ∀ x ∈ c, 0 ≤ x ∧ x ≤ 255) : ∃ a, spec_DrawPowerAutomaton c = some a ∧ Small a := by
 obtain ⟨⟨b, k⟩, p0, s0⟩ := l13Open_is hc
 obtain ⟨⟨x, S, F, l⟩, ⟨b1, k1⟩, p1, t1, s1⟩ := l3Any_is s0 (by omega)
 refine ⟨(x, S, F, l), ?_, t1.small⟩
 unfold spec_DrawPowerAutomaton
 rw [p0]
 simp only [Option.bind_some]
 rw [p1]
 rfl
theorem words_pos : ∀ k, ∃ xs, (gen k).1 = emp :: xs ∧ ∀ w ∈ xs, 0 < w.size := by
 intro k
 induction k with
 | zero => exact ⟨[], rfl, fun w hw => by cases hw⟩
 | succ k ih =>
  obtain ⟨xs, h1, h2⟩ := ih
  refine ⟨xs ++ ext ((gen k).1.drop ((gen k).2)), ?_, fun w hw => ?_⟩
  ·show (gen k).1 ++ _ = _
   rw [h1]
   rfl
  ·rcases List.mem_append.1 hw with hw | hw
   ·exact h2 w hw
   ·obtain ⟨v, _, hv⟩ := List.mem_flatMap.1 hw
    rcases List.mem_cons.1 hv with rfl | hv
    ·rw [ByteArray.size_append, la_size]; omega
    ·rw [List.mem_singleton.1 hv, ByteArray.size_append, lb_size]; omega
theorem p_FnPower (x0 : List Int) (f0 : Fits (.sl (.int .u8)) x0) : laws_FnPower x0 = some true := by
 unfold laws_FnPower
 by_cases hx : ((x0.length : Nat) : Int) > 1048576
 ·rw [decide_eq_true hx, cond_true]
 rw [decide_eq_false hx, cond_false]
 obtain ⟨a, d1, hs⟩ := drawPower_is (bytes_of f0)
 have stop : ∀ R : Aut, Small R → spec_PowerAutomaton a = some (R, false) → impl_PowerAutomaton a = some (R, false) → laws_FnPower x0 = some true := by
  intro R hR e1 e2
  unfold laws_FnPower
  rw [decide_eq_false hx, cond_false, d1]
  have hd := daAut_self hR
  obtain ⟨x, S, F, l⟩ := a
  obtain ⟨y, T, G, k⟩ := R
  simp only [Option.bind_some, e1, e2, List.drop_zero, List.take_length, hd, BEq.rfl, Bool.not_true, Bool.not_false, cond_true, cond_false]
 have unf : ∀ {X : Option Bool}, laws_FnPower x0 = some true → laws_FnPower x0 = X → X = some true := fun h e => e ▸ h
 cases hv : autOk a with
 | false =>
  obtain ⟨R, ok, e1, e2, hR, hok⟩ := power_same hs
  have hnot : ok = false := by
   have hV := impl_AutomatonValid_is a (small_len hs).1 (small_len hs).2
   obtain ⟨x, S, F, l⟩ := a
   unfold impl_PowerAutomaton at e2
   dsimp only at e2
   rw [hV] at e2
   simp only [Option.bind_some, hv, Bool.not_false, cond_true, Option.some.injEq, Prod.mk.injEq] at e2
   exact e2.2.symm
  subst hnot
  have := stop R hR e1 e2
  unfold laws_FnPower at this
  rw [decide_eq_false hx, cond_false] at this
  exact this
 | true =>
  obtain ⟨n, ha⟩ := autOk_is hv
  obtain ⟨R, ok, e1, e2, hR, hp⟩ := power_full ha hs hv
  cases ok with
  | false =>
   have := stop R hR e1 e2
   unfold laws_FnPower at this
   rw [decide_eq_false hx, cond_false] at this
   exact this
  | true =>
   obtain ⟨P, rfl, hvb, hP⟩ := hp rfl
   have hd := daAut_self hR
   obtain ⟨x, S, F, l⟩ := a
   have hx' : x = (n : Int) := ha.st
   subst hx'
   have hb : AutIs ((n : Int), S, F, P) n := by
    obtain ⟨m, hm⟩ := autOk_is hvb
    have := hm.st
    have e : (n : Int) = (m : Int) := this
    obtain rfl : n = m := by omega
    exact hm
   obtain ⟨u, u1, u2, u3⟩ := useful_same ha hs hv hb hR hvb hP
   have hsw := short_words (n := 4) (by decide)
   have hW : (words 4) = (gen 4).1 := by
    unfold words
    rw [if_pos (by decide)]
    rfl
   obtain ⟨ws, w1, w2⟩ := words_pos 4
   have hws : words 4 = emp :: ws := by rw [hW, w1]
   have hlen : (words 4).length ≤ 255 := words_len 4
   rw [hws, List.length_cons] at hlen
   have hok : ∀ w ∈ ws, wordOk w = true := fun w hw => words_ok (n := 4) w (by rw [hws]; exact List.mem_cons_of_mem _ hw)
   have h40 : ∀ w ∈ ws, w.size ≤ 40 := fun w hw => by
    have : ∀ w ∈ words 4, w.size ≤ 40 := by rw [hW]; decide +kernel
    exact this w (by rw [hws]; exact List.mem_cons_of_mem _ hw)
   obtain ⟨r1, l1, _⟩ := loop_inv (f := laws_FnPower_l10) (α := Unit) ws.length (fun i _ => (((n : Int), S, F, l, ()), ((n : Int), S, F, P, ()), ws, (ws.length : Int), (i : Int), ())) (fun _ _ => ())
    (fun _ => Sum.inr (((n : Int), S, F, l, ()), ((n : Int), S, F, P, ()), ())) (fun _ _ => True) (fun _ _ _ _ => trivial)
    (fun i _ hi _ => by
     have hm : ws.getD i be0 ∈ ws := by rw [getD_g be0 hi]; exact List.getElem_mem hi
     obtain ⟨r, f1, f2⟩ := impl_FactorsOf_isI hs hv (hok _ hm) (h40 _ hm)
     obtain ⟨c, g1, g2⟩ := impl_CostOf_is hR hvb (hok _ hm)
     have hsz := h40 _ hm
     have hps := w2 _ hm
     obtain ⟨k1, k2⟩ := pow_cost ha hs hv hP hb.steps (ws := bytes (ws.getD i be0)) (by
      intro h0
      have := congrArg List.length h0
      rw [bytes_len, List.length_nil] at this
      omega) (by rw [bytes_len]; omega) (wordOk_AB (hok _ hm)) f2 g2
     have h0 := f2.1
     have hN : Nv = 1000000 := rfl
     rw [hN] at k1 k2 h0
     simp only [laws_FnPower_l10, lt_t hi, cond_true, if_pos (in_t hi), Int.toNat_natCast, f1, Option.bind_some, List.drop_zero, List.take_length, g1, w64_succ hi (show ws.length ≤ 9223372036854775807 by omega)]
     by_cases hr : r = 1000000
     ·have hc := k1.1 hr
      subst hr hc
      simp
     ·have hc := k2 (by omega)
      have e3 : (r == (1000000 : Int)) = false := by simpa using hr
      have e4 : (c == (1000000 : Int)) = false := by
       have : ¬ c = 1000000 := fun h => hr (k1.2 h)
       simpa using this
      rw [e3, e4, decide_eq_true (show r < 1000000 by omega), w64 (show -9223372036854775808 ≤ r - 1 by omega) (by omega), hc]
      simp)
    (fun _ _ => by simp only [laws_FnPower_l10, lt_f, cond_false, List.drop_zero, List.take_length]) () trivial
   have l1 : loopF laws_FnPower_l10 (((n : Int), S, F, l, ()), ((n : Int), S, F, P, ()), ws, (ws.length : Int), (0 : Int), ()) = _ := l1
   have hVb := impl_AutomatonValid_is ((n : Int), S, F, P) (small_len hR).1 (small_len hR).2
   rw [d1]
   simp only [Option.bind_some, e1, e2, List.drop_zero, List.take_length, hd, BEq.rfl, Bool.not_true, cond_true, cond_false, hsw, hws]
   rw [if_pos ⟨by decide, by rw [List.length_cons]; omega⟩]
   have ed : List.drop (Int.toNat (1 : Int)) (emp :: ws) = ws := rfl
   have et : List.take ((emp :: ws).length - Int.toNat (1 : Int)) ws = ws := List.take_of_length_le (by rw [List.length_cons]; show ws.length ≤ ws.length + 1 - 1; omega)
   rw [ed, et, l1]
   simp only [Option.bind_some, List.drop_zero, List.take_length, hVb, hvb, cond_true, u1, u2, daSame_is (show u.length ≤ 9223372036854775807 by omega)]
end Go.Proofs.Ytfdhmmnffahhgaa
