/- The verdict: both sides tell the same. -/
import Derived.Test.YtcmcjhdccnbmoaaGreatP67
set_option linter.unusedVariables false
set_option linter.unusedSimpArgs false
namespace Go.Proofs.YtcmcjhdccnbmoaaGreat
open Go Go.Proofs.YtcmcjhdccnbmoaaGreat.Am
/-- a start is a final -/
def emptyB (a : Aut) : Bool := a.2.1.any fun q => a.2.2.1.any fun e => q == e
theorem l5Empty_is {a : Aut} (hs : Small a) : spec_l5Empty a = some (emptyB a) := by
 obtain ⟨x, S, F, l⟩ := a
 have lS : S.length ≤ 1048576 := hs.1
 have lF : F.length ≤ 1048576 := hs.2.1
 have g := loop_find (f := spec_l5Empty_l2) (fun i => ((x, S, F, l, ()), S, (S.length : Int), (i : Int), ())) S.length (fun i => F.any fun e => S.getD i 0 == e) (fun i => Sum.inl (true, ())) (Sum.inr ())
  (fun i hi => by
   simp only [spec_l5Empty_l2, lt_t hi, cond_true, if_pos (in_t hi), Int.toNat_natCast, l4In_is (show F.length ≤ 1000000000 by omega), Option.bind_some, w64_succ hi (show S.length ≤ 9223372036854775807 by omega)]
   cases F.any fun e => S.getD i 0 == e <;> rfl)
  (by simp only [spec_l5Empty_l2, lt_f, cond_false])
 have g : loopF spec_l5Empty_l2 ((x, S, F, l, ()), S, (S.length : Int), (0 : Int), ()) = _ := g
 have ha := any_loop 0 S fun q => F.any fun e => q == e
 simp only [spec_l5Empty, g, Option.bind_some]
 unfold emptyB
 rw [← ha]
 cases (List.range S.length).find? fun i => F.any fun e => S.getD i 0 == e <;> rfl
theorem cost_empty {a : Aut} {r : Int} (h : CostIs a [] r) : decide (r < Nv) = emptyB a := by
 cases he : emptyB a with
 | true =>
  obtain ⟨q, hq, he⟩ := List.any_eq_true.1 he
  obtain ⟨e, h1, h2⟩ := List.any_eq_true.1 he
  obtain rfl := eq_of_beq h2
  have := ((h.2 r).1 (Int.le_refl _)).2 q hq q h1 0 ⟨rfl, rfl⟩
  exact decide_eq_true (by show r < 1000000; omega)
 | false =>
  have h0 : Nv ≤ r := (h.2 Nv).2 ⟨Int.le_refl _, fun i hi k hk c hc => by
   obtain ⟨rfl, rfl⟩ := hc
   have : emptyB a = true := List.any_eq_true.2 ⟨i, hi, List.any_eq_true.2 ⟨i, hk, BEq.rfl⟩⟩
   rw [this] at he
   cases he⟩
  exact decide_eq_false (by omega)
def tUnknown : ByteArray := ⟨#[117, 110, 107, 110, 111, 119, 110]⟩
def tGrowing : ByteArray := ⟨#[103, 114, 111, 119, 105, 110, 103]⟩
def tBounded : ByteArray := ⟨#[98, 111, 117, 110, 100, 101, 100]⟩
def tFree : ByteArray := ⟨#[102, 114, 101, 101]⟩
def tNone : ByteArray := ⟨#[110, 111, 110, 101]⟩
/-- the verdict of grades -/
def verd (gs : List Int) (ok em : Bool) : ByteArray :=
 bif !ok then tUnknown else bif gs.any fun e => (2 : Int) == e then tGrowing else bif gs.any fun e => (1 : Int) == e then tBounded else bif gs.any fun e => (0 : Int) == e then tFree else bif em then tFree else tNone
theorem verdict_full {a : Aut} {n : Nat} (ha : AutIs a n) (hv : autOk a = true) (hs : Small a) : ∃ L ok, LOk n L ∧ spec_ElementsOf a = some (L, ok) ∧ impl_ElementsOf a = some (L, ok) ∧ (ok = false → L = []) ∧
  spec_VerdictOf a = some (verd (gset (gradesL n a.2.1 a.2.2.1 L)) ok (emptyB a)) ∧ impl_VerdictOf a = some (verd (gset (gradesL n a.2.1 a.2.2.1 L)) ok (emptyB a)) := by
 obtain ⟨L, ok, hL, e1, e2, e0, g1, g2⟩ := grades_full ha hv hs
 refine ⟨L, ok, hL, e1, e2, e0, ?_⟩
 have hA := impl_AutomatonValid_is a (small_len hs).1 (small_len hs).2
 have hSv := spec_AutomatonValid_is a (small_len hs).1 (small_len hs).2
 have hE := l5Empty_is hs
 obtain ⟨r, c2, c3⟩ := impl_CostOf_is hs hv (w := (⟨#[]⟩ : ByteArray)) rfl
 have hc := cost_empty c3
 have hc : decide (r < 1000000) = emptyB a := hc
 have hl := gset_len (gradesL n a.2.1 a.2.2.1 L)
 obtain ⟨x, S, F, l⟩ := a
 cases ok with
 | false =>
  constructor
  ·simp only [spec_VerdictOf, g1, hSv, hv, Option.bind_some, Bool.not_true, Bool.not_false, cond_false, cond_true]
   rfl
  ·simp only [impl_VerdictOf, g2, hA, hv, Option.bind_some, Bool.not_true, Bool.not_false, cond_false, cond_true]
   rfl
 | true =>
  simp only [if_true] at g1 g2
  generalize gset (gradesL n S F L) = gs at g1 g2 hl
  have k1 := fun q => l4In_is (l := gs) (by omega) q
  have k2 := fun q => containsI_is (l := gs) (by omega) q
  constructor
  ·simp only [spec_VerdictOf, g1, hSv, hv, Option.bind_some, Bool.not_true, cond_false, List.drop_zero, List.take_length, k1, hE]
   unfold verd
   cases gs.any fun e => (2 : Int) == e <;> cases gs.any fun e => (1 : Int) == e <;> cases gs.any fun e => (0 : Int) == e <;> cases emptyB (x, S, F, l) <;> rfl
  ·simp only [impl_VerdictOf, g2, hA, hv, Option.bind_some, Bool.not_true, cond_false, List.drop_zero, List.take_length, k2, c2, hc]
   unfold verd
   cases gs.any fun e => (2 : Int) == e <;> cases gs.any fun e => (1 : Int) == e <;> cases gs.any fun e => (0 : Int) == e <;> cases emptyB (x, S, F, l) <;> rfl
theorem verdict_not {a : Aut} (hv : autOk a = false) (hs : Small a) : spec_VerdictOf a = some ⟨#[]⟩ ∧ impl_VerdictOf a = some ⟨#[]⟩ := by
 obtain ⟨e1, e2⟩ := elements_not hv hs
 obtain ⟨g1, g2⟩ := grades_not e1 e2
 have hA := impl_AutomatonValid_is a (small_len hs).1 (small_len hs).2
 have hSv := spec_AutomatonValid_is a (small_len hs).1 (small_len hs).2
 obtain ⟨x, S, F, l⟩ := a
 constructor
 ·simp only [spec_VerdictOf, g1, hSv, hv, Option.bind_some, Bool.not_false, cond_true]
 ·simp only [impl_VerdictOf, hA, hv, Option.bind_some, Bool.not_false, cond_true]
end Go.Proofs.YtcmcjhdccnbmoaaGreat
