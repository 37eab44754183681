/- All elements of an automaton: the reference and the program find the same. -/
import Derived.Test.YtfdhmmnffahhgaaP33
set_option linter.unusedVariables false
set_option linter.unusedSimpArgs false
namespace Go.Proofs.Ytfdhmmnffahhgaa
open Go Go.Proofs.Ytfdhmmnffahhgaa.Am
def s2 (n : Nat) (e f : Elt) (p : List Elt × Bool) : List Elt × Bool := sput n (gmul n f.1.2 e.1.2) (f.2 ++ e.2) (sput n (gmul n e.1.2 f.1.2) (e.2 ++ f.2) p)
def i2 (n : Nat) (e f : Elt) (p : List Elt × Bool) : List Elt × Bool := iput n (gmul n f.1.2 e.1.2) (f.2 ++ e.2) (iput n (gmul n e.1.2 f.1.2) (e.2 ++ f.2) p)
def fold2 (n : Nat) (e : Elt) (W : List Elt) (p : List Elt × Bool) : List Elt × Bool := W.foldl (fun p f => s2 n e f p) p
def sharp (t : ByteArray) : ByteArray := ((⟨#[(40 : UInt8)]⟩ : ByteArray) ++ t) ++ (⟨#[(41 : UInt8), (35 : UInt8)]⟩ : ByteArray)
theorem s2_ok {n : Nat} {e f : Elt} (he : GOk n e.1.2) (hf : GOk n f.1.2) {p : List Elt × Bool} (h : LOk n p.1) : LOk n (s2 n e f p).1 := sput_ok (gmul_ok hf he) _ (sput_ok (gmul_ok he hf) _ h)
theorem i2_ok {n : Nat} {e f : Elt} (he : GOk n e.1.2) (hf : GOk n f.1.2) {p : List Elt × Bool} (h : LOk n p.1) : LOk n (i2 n e f p).1 := iput_ok (gmul_ok hf he) _ (iput_ok (gmul_ok he hf) _ h)
theorem fold2_full {n : Nat} {e : Elt} : ∀ {W : List Elt} {p : List Elt × Bool}, p.2 = true → (fold2 n e W p).2 = true
 | [], _, h => h
 | f :: W, p, h => fold2_full (W := W) (p := s2 n e f p) (sput_full (sput_full h))
theorem size_append (a b : ByteArray) : (a ++ b).size = a.size + b.size := ByteArray.size_append
theorem spec_inner {n : Nat} (h4 : n ≤ 4) {E : List Int} (hE : GOk n E) {te : ByteArray} (hte : te.size ≤ 120) {W : List Elt} (hW : LOk n W) (w : List Elt) (i : Int) (p : List Elt × Bool) (hp : LOk n p.1) :
  loopF spec_l8Elements_l20 (true, (p.1, p.2, ()), w, i, ((n : Int), E, te, ()), W, (W.length : Int), (0 : Int), ()) = some (true, ((fold2 n (((n : Int), E), te) W p).1, (fold2 n (((n : Int), E), te) W p).2, ()), w, i, ()) ∧ LOk n (fold2 n (((n : Int), E), te) W p).1 := by
 have hlen := hW.len
 obtain ⟨r, g1, g2⟩ := loop_inv (f := spec_l8Elements_l20) W.length (fun k (q : List Elt × Bool) => (true, (q.1, q.2, ()), w, i, ((n : Int), E, te, ()), W, (W.length : Int), (k : Int), ())) (fun k q => s2 n (((n : Int), E), te) (W.getD k el0) q)
  (fun q => (true, (q.1, q.2, ()), w, i, ())) (fun k q => q = fold2 n (((n : Int), E), te) (W.take k) p ∧ LOk n q.1)
  (fun k q hk hq => by
   refine ⟨?_, s2_ok hE (hW.at hk).2.1 hq.2⟩
   rw [hq.1]
   unfold fold2
   rw [take_snoc hk, List.foldl_append, getD_get el0 hk]
   rfl)
  (fun k q hk hq => by
   have hat := hW.at hk
   rcases hf : W.getD k el0 with ⟨⟨m, B⟩, ft⟩
   rw [hf] at hat
   obtain ⟨m1, m2, m3⟩ := hat
   have m1 : m = (n : Int) := m1
   subst m1
   have m2 : GOk n B := m2
   have m3 : ft.size ≤ 120 := m3
   simp only [spec_l8Elements_l20, lt_t hk, cond_true, if_pos (in_t hk), Int.toNat_natCast, hf, l6Mul_is h4 hE m2, Option.bind_some, Nat.zero_add, List.drop_zero, List.take_length, if_true]
   rw [if_pos (by omega), sput_107 h4 q hq.2 (gmul_ok hE m2) (te ++ ft)]
   simp only [Option.bind_some, cond_true, l6Mul_is h4 m2 hE, Nat.zero_add, List.drop_zero, List.take_length, if_true]
   rw [if_pos (by omega), sput_120 h4 _ (sput_ok (gmul_ok hE m2) _ hq.2) (gmul_ok m2 hE) (ft ++ te)]
   simp only [Option.bind_some, Nat.zero_add, List.drop_zero, List.take_length, if_true, w64_succ hk (show W.length ≤ 9223372036854775807 by omega)]
   rfl)
  (fun q hq => by simp only [spec_l8Elements_l20, lt_f, cond_false, Nat.zero_add, List.drop_zero, List.take_length, if_true])
  p ⟨rfl, hp⟩
 have g1 : loopF spec_l8Elements_l20 (true, (p.1, p.2, ()), w, i, ((n : Int), E, te, ()), W, (W.length : Int), (0 : Int), ()) = _ := g1
 rw [List.take_length] at g2
 rw [g1, g2.1]
 exact ⟨rfl, by rw [← g2.1]; exact g2.2⟩
theorem impl_inner {n : Nat} (h1 : 1 ≤ n) (h4 : n ≤ 4) {E : List Int} (hE : GOk n E) {te : ByteArray} (hte : te.size ≤ 120) {W : List Elt} (hW : LOk n W) {at_ : Nat} (hat : W.length = at_ + 1) (z : Int) :
  ∀ (d k : Nat) (p q : List Elt × Bool), k + d = at_ + 1 → Same p q → LOk n p.1 → LOk n q.1 → (q.2 = true → ∃ X, q.1 = W ++ X) →
   ∃ q', loopF impl_ElementsOf_at5_at52_l5 ((q.1, q.2, ()), (at_ : Int), ((n : Int), E, te, ()), (k : Int), z, ()) = some ((q'.1, q'.2, ()), z, ()) ∧ Same (fold2 n (((n : Int), E), te) (W.drop k) p) q' ∧ LOk n q'.1
 | 0, k, p, q, hk, hs, hp, hq, hX => by
  refine ⟨q, ?_, ?_, hq⟩
  ·rw [loopF_eq]
   simp only [impl_ElementsOf_at5_at52_l5, decide_eq_false (show ¬ (k : Int) ≤ (at_ : Int) by omega), cond_false, List.drop_zero, List.take_length, Option.bind_some]
  ·rw [List.drop_eq_nil_of_le (by omega)]
   exact hs
 | d + 1, k, p, q, hk, hs, hp, hq, hX => by
  obtain ⟨L', f⟩ := q
  cases f with
  | false =>
   refine ⟨(L', false), ?_, ?_, hq⟩
   ·rw [loopF_eq]
    simp only [impl_ElementsOf_at5_at52_l5, decide_eq_true (show (k : Int) ≤ (at_ : Int) by omega), cond_true, cond_false, List.drop_zero, List.take_length, Option.bind_some]
   ·rcases hs with ⟨_, h, _⟩ | ⟨h, _⟩
    ·cases h
    ·exact .inr ⟨fold2_full h, rfl⟩
  | true =>
   obtain ⟨X, hX'⟩ := hX rfl
   have hX' : L' = W ++ X := hX'
   have hkW : k < W.length := by omega
   have hkL : k < L'.length := by rw [hX', List.length_append]; omega
   have hget : L'.getD k el0 = W.getD k el0 := by rw [getD_get el0 hkL, getD_get el0 hkW]; simp only [hX', List.getElem_append_left hkW]
   have hatk := hW.at hkW
   rcases hf : W.getD k el0 with ⟨⟨m, B⟩, ft⟩
   rw [hf] at hatk
   obtain ⟨m1, m2, m3⟩ := hatk
   have m1 : m = (n : Int) := m1
   subst m1
   have m2 : GOk n B := m2
   have m3 : ft.size ≤ 120 := m3
   have hq : LOk n L' := hq
   have hstep : impl_ElementsOf_at5_at52_l5 ((L', true, ()), (at_ : Int), ((n : Int), E, te, ()), (k : Int), z, ()) = some (.inl (((i2 n (((n : Int), E), te) (((n : Int), B), ft) (L', true)).1, (i2 n (((n : Int), E), te) (((n : Int), B), ft) (L', true)).2, ()), (at_ : Int), ((n : Int), E, te, ()), ((k + 1 : Nat) : Int), z, ())) := by
    have e1 := iput_at5_at52_at65 h4 (L', true) hq (gmul_ok hE m2) (te ++ ft) (at_ : Int) (n : Int) E te (k : Int) (n : Int) B ft (n : Int) (gmul n E B) z
    simp only [impl_ElementsOf_at5_at52_l5, decide_eq_true (show (k : Int) ≤ (at_ : Int) by omega), cond_true, if_pos (in_t hkL), Int.toNat_natCast, Nat.zero_add, hget, hf, mulGrades_is h1 h4 hE m2, Option.bind_some, List.drop_zero, List.take_length]
    rw [if_pos (by omega)]
    have e1 : impl_ElementsOf_at5_at52_at65 ((L', true, ()), ((n : Int), gmul n E B), te ++ ft, (at_ : Int), ((n : Int), E, te, ()), (k : Int), ((n : Int), B, ft, ()), ((n : Int), gmul n E B, ()), z, ()) = _ := e1
    rw [e1]
    simp only [Option.bind_some, mulGrades_is h1 h4 m2 hE, List.drop_zero, List.take_length]
    rw [if_pos (by omega), iput_at5_at52_at81 h4 _ (iput_ok (gmul_ok hE m2) _ hq) (gmul_ok m2 hE) (ft ++ te)]
    simp only [Option.bind_some, List.drop_zero, List.take_length, w64_succ hkL (show L'.length ≤ 9223372036854775807 by have := hq.len; omega)]
    rfl
   have hdrop : W.drop k = (((n : Int), B), ft) :: W.drop (k + 1) := by
    rw [List.drop_eq_getElem_cons hkW, ← getD_get el0 hkW, hf]
   obtain ⟨q', r1, r2, r3⟩ := impl_inner h1 h4 hE hte hW hat z d (k + 1) (s2 n (((n : Int), E), te) (((n : Int), B), ft) p) (i2 n (((n : Int), E), te) (((n : Int), B), ft) (L', true)) (by omega) ((hs.put).put) (s2_ok hE m2 hp) (i2_ok hE m2 hq) (fun _ => by
    obtain ⟨X1, x1⟩ := iput_pre (n := n) (A := gmul n E B) (t := te ++ ft) (p := (L', true))
    obtain ⟨X2, x2⟩ := iput_pre (n := n) (A := gmul n B E) (t := ft ++ te) (p := iput n (gmul n E B) (te ++ ft) (L', true))
    refine ⟨X ++ X1 ++ X2, ?_⟩
    show (iput n (gmul n B E) (ft ++ te) (iput n (gmul n E B) (te ++ ft) (L', true))).1 = _
    rw [x2, x1]
    simp only [hX', List.append_assoc])
   refine ⟨q', ?_, ?_, r3⟩
   ·rw [loopF_eq]
    show (impl_ElementsOf_at5_at52_l5 ((L', true, ()), (at_ : Int), ((n : Int), E, te, ()), (k : Int), z, ())).bind _ = _
    rw [hstep]
    exact r1
   ·rw [hdrop]
    exact r2
/-- what becomes of the elements when the i-th is gone through -/
def body (n i : Nat) (L : List Elt) : List Elt × Bool :=
 let e := L.getD i el0
 let p := if gmul n e.1.2 e.1.2 = e.1.2 then sput n (gstab n e.1.2) (sharp e.2) (L, false) else (L, false)
 fold2 n e (p.1.take (i + 1)) p
theorem take_ok {n : Nat} {L : List Elt} (h : LOk n L) (k : Nat) : LOk n (L.take k) := ⟨fun e he => h.el e (List.mem_of_mem_take he), by have := h.len; rw [List.length_take]; omega⟩
theorem sput_grow {n : Nat} {A : List Int} {t : ByteArray} {p : List Elt × Bool} : p.1.length ≤ (sput n A t p).1.length := by
 obtain ⟨L, F⟩ := p
 unfold sput
 cases has L A
 ·cases F
  ·cases decide ((L.length : Int) ≥ 120)
   ·cases decide ((t.size : Int) > 120)
    ·simp
    ·exact Nat.le_refl _
   ·exact Nat.le_refl _
  ·exact Nat.le_refl _
 ·exact Nat.le_refl _
theorem spec_round {n : Nat} (h4 : n ≤ 4) {L : List Elt} (hL : LOk n L) {i : Nat} (hi : i < L.length) (w : List Elt) :
  spec_l8Elements_l11 (true, (L, false, ()), w, (i : Int), ()) = some (.inl (true, ((body n i L).1, (body n i L).2, ()), w, ((i + 1 : Nat) : Int), ())) ∧ LOk n (body n i L).1 := by
 have hlen := hL.len
 have hat := hL.at hi
 unfold body
 rcases he : L.getD i el0 with ⟨⟨m, E⟩, te⟩
 rw [he] at hat
 obtain ⟨m1, m2, m3⟩ := hat
 have m1 : m = (n : Int) := m1
 subst m1
 have hE : GOk n E := m2
 have hte : te.size ≤ 120 := m3
 have hw : IntKind.wrap .i64 ((i : Int) + 1) = ((i + 1 : Nat) : Int) := w64_succ hi (by omega)
 have hsz : (⟨#[(40 : UInt8)]⟩ : ByteArray).size = 1 := rfl
 have hsz2 : (⟨#[(41 : UInt8), (35 : UInt8)]⟩ : ByteArray).size = 2 := rfl
 dsimp only
 by_cases hid : gmul n E E = E
 ·rw [if_pos hid]
  have hp := sput_ok (gstab_ok hE) (sharp te) (p := (L, false)) hL
  have hgr := sput_grow (n := n) (A := gstab n E) (t := sharp te) (p := (L, false))
  obtain ⟨g1, g2⟩ := spec_inner h4 hE hte (take_ok hp (i + 1)) w (i : Int) (sput n (gstab n E) (sharp te) (L, false)) hp
  refine ⟨?_, g2⟩
  have e1 := sput_78 h4 (L, false) hL (gstab_ok hE) (sharp te) true w (i : Int) (n : Int) E te
  have e1 : spec_l8Elements_at78 ((L, false, ()), ((n : Int), gstab n E, ()), ((⟨#[(40 : UInt8)]⟩ : ByteArray) ++ te) ++ (⟨#[(41 : UInt8), (35 : UInt8)]⟩ : ByteArray), true, w, (i : Int), ((n : Int), E, te, ()), ()) = _ := e1
  have hgr : L.length ≤ (sput n (gstab n E) (sharp te) (L, false)).1.length := hgr
  have hp120 := hp.len
  simp only [spec_l8Elements_l11, decide_eq_true (show (i : Int) < (L.length : Int) by omega), cond_true, Bool.not_false, if_pos (in_t hi), Int.toNat_natCast, Nat.zero_add, he, l6Idempotent_is h4 hE, hid, decide_true, Option.bind_some, l6Stable_is h4 hE, List.drop_zero, List.take_length, if_true]
  rw [if_pos (by rw [hsz]; omega), if_pos (by rw [size_append, hsz, hsz2]; omega), e1]
  simp only [Option.bind_some, cond_true, hw, Int.toNat_natCast, Nat.sub_zero, Nat.zero_add, List.drop_zero, List.take_length, List.length_nil, List.nil_append, if_true]
  rw [if_pos ⟨by omega, by omega⟩, if_pos ⟨trivial, by rw [List.length_take]; omega⟩, g1]
  simp only [Option.bind_some, hw, Nat.zero_add, List.drop_zero, if_true]
 ·rw [if_neg hid]
  obtain ⟨g1, g2⟩ := spec_inner h4 hE hte (take_ok hL (i + 1)) w (i : Int) (L, false) hL
  refine ⟨?_, g2⟩
  have g1 : loopF spec_l8Elements_l20 (true, (L, false, ()), w, (i : Int), ((n : Int), E, te, ()), L.take (i + 1), ((L.take (i + 1)).length : Int), (0 : Int), ()) = _ := g1
  simp only [spec_l8Elements_l11, decide_eq_true (show (i : Int) < (L.length : Int) by omega), cond_true, Bool.not_false, if_pos (in_t hi), Int.toNat_natCast, Nat.zero_add, he, l6Idempotent_is h4 hE, decide_eq_false hid, cond_false, Option.bind_some, hw, Nat.sub_zero, List.drop_zero, List.take_length, List.length_nil, List.nil_append, if_true]
  rw [if_pos ⟨by omega, by omega⟩, if_pos ⟨trivial, by rw [List.length_take]; omega⟩, g1]
  simp only [Option.bind_some, hw, Nat.zero_add, List.drop_zero, if_true]
theorem impl_round {n : Nat} (h1 : 1 ≤ n) (h4 : n ≤ 4) {L : List Elt} (hL : LOk n L) {i : Nat} (hi : i < L.length) :
  ∃ q', impl_ElementsOf_at5_l11 ((L, true, ()), (i : Int), ()) = some (.inl ((q'.1, q'.2, ()), ((i + 1 : Nat) : Int), ())) ∧ Same (body n i L) q' ∧ LOk n q'.1 := by
 have hlen := hL.len
 have hat := hL.at hi
 unfold body
 rcases he : L.getD i el0 with ⟨⟨m, E⟩, te⟩
 rw [he] at hat
 obtain ⟨m1, m2, m3⟩ := hat
 have m1 : m = (n : Int) := m1
 subst m1
 have hE : GOk n E := m2
 have hte : te.size ≤ 120 := m3
 have hw : IntKind.wrap .i64 ((i : Int) + 1) = ((i + 1 : Nat) : Int) := w64_succ hi (by omega)
 have hsz : (⟨#[(40 : UInt8)]⟩ : ByteArray).size = 1 := rfl
 have hsz2 : (⟨#[(41 : UInt8), (35 : UInt8)]⟩ : ByteArray).size = 2 := rfl
 have h0 : Same (L, false) (L, true) := .inl ⟨rfl, rfl, rfl⟩
 dsimp only
 by_cases hid : gmul n E E = E
 ·rw [if_pos hid]
  have hp := sput_ok (gstab_ok hE) (sharp te) (p := (L, false)) hL
  have hq := iput_ok (gstab_ok hE) (sharp te) (p := (L, true)) hL
  have hs := h0.put (n := n) (A := gstab n E) (t := sharp te)
  have hgr : L.length ≤ (sput n (gstab n E) (sharp te) (L, false)).1.length := sput_grow (n := n) (A := gstab n E) (t := sharp te) (p := (L, false))
  obtain ⟨q', r1, r2, r3⟩ := impl_inner h1 h4 hE hte (take_ok hp (i + 1)) (at_ := i) (by rw [List.length_take]; omega) (i : Int) (i + 1) 0 (sput n (gstab n E) (sharp te) (L, false)) (iput n (gstab n E) (sharp te) (L, true)) (by omega) hs hp hq (fun hf => by
   rcases hs with ⟨_, _, e⟩ | ⟨_, e⟩
   ·exact ⟨_, by rw [e]; exact (List.take_append_drop (i + 1) _).symm⟩
   ·rw [e] at hf; cases hf)
  refine ⟨q', ?_, r2, r3⟩
  have r1 : loopF impl_ElementsOf_at5_at52_l5 (((iput n (gstab n E) (sharp te) (L, true)).1, (iput n (gstab n E) (sharp te) (L, true)).2, ()), (i : Int), ((n : Int), E, te, ()), (0 : Int), (i : Int), ()) = _ := r1
  have e1 := iput_at5_at52_at31 h4 (L, true) hL (gstab_ok hE) (sharp te) (i : Int) (n : Int) E te (i : Int)
  have e1 : impl_ElementsOf_at5_at52_at31 ((L, true, ()), ((n : Int), gstab n E, ()), ((⟨#[(40 : UInt8)]⟩ : ByteArray) ++ te) ++ (⟨#[(41 : UInt8), (35 : UInt8)]⟩ : ByteArray), (i : Int), ((n : Int), E, te, ()), (i : Int), ()) = _ := e1
  simp only [impl_ElementsOf_at5_l11, decide_eq_true (show (i : Int) < (L.length : Int) by omega), cond_true, impl_ElementsOf_at5_at52, if_pos (in_t hi), Int.toNat_natCast, Nat.zero_add, he, stabilise_is h1 h4 hE, if_pos hid, Option.bind_some, List.drop_zero, List.take_length]
  rw [if_pos (by rw [hsz]; omega), if_pos (by rw [size_append, hsz, hsz2]; omega), e1]
  simp only [Option.bind_some, List.drop_zero, List.take_length]
  rw [r1]
  simp only [Option.bind_some, List.drop_zero, List.take_length, hw]
 ·rw [if_neg hid]
  obtain ⟨q', r1, r2, r3⟩ := impl_inner h1 h4 hE hte (take_ok hL (i + 1)) (at_ := i) (by rw [List.length_take]; omega) (i : Int) (i + 1) 0 (L, false) (L, true) (by omega) h0 hL hL (fun hf => ⟨_, (List.take_append_drop (i + 1) _).symm⟩)
  refine ⟨q', ?_, r2, r3⟩
  have r1 : loopF impl_ElementsOf_at5_at52_l5 ((L, true, ()), (i : Int), ((n : Int), E, te, ()), (0 : Int), (i : Int), ()) = _ := r1
  simp only [impl_ElementsOf_at5_l11, decide_eq_true (show (i : Int) < (L.length : Int) by omega), cond_true, impl_ElementsOf_at5_at52, if_pos (in_t hi), Int.toNat_natCast, Nat.zero_add, he, stabilise_is h1 h4 hE, if_neg hid, Option.bind_some, cond_false, List.drop_zero, List.take_length]
  rw [r1]
  simp only [Option.bind_some, List.drop_zero, List.take_length, hw]
def XOk (X : List Int → ByteArray → Prop) (L : List Elt) : Prop := ∀ e ∈ L, X e.1.2 e.2
structure Clo (n : Nat) (X : List Int → ByteArray → Prop) : Prop where
 app : ∀ A s C t, X A s → X C t → X (gmul n A C) (s ++ t)
 sh : ∀ A s, X A s → gmul n A A = A → X (gstab n A) (sharp s)
theorem sput_X {X : List Int → ByteArray → Prop} {n : Nat} {A : List Int} {t : ByteArray} (ht : X A t) {p : List Elt × Bool} (h : XOk X p.1) : XOk X (sput n A t p).1 := by
 obtain ⟨L, F⟩ := p
 unfold sput
 cases has L A
 ·cases F
  ·cases decide ((L.length : Int) ≥ 120)
   ·cases decide ((t.size : Int) > 120)
    ·intro e he
     rcases List.mem_append.1 he with he | he
     ·exact h e he
     ·rw [List.mem_singleton] at he
      subst he
      exact ht
    ·exact h
   ·exact h
  ·exact h
 ·exact h
theorem fold2_X {X : List Int → ByteArray → Prop} {n : Nat} (hc : Clo n X) {e : Elt} (he : X e.1.2 e.2) : ∀ {W : List Elt} {p : List Elt × Bool}, XOk X W → XOk X p.1 → XOk X (fold2 n e W p).1
 | [], _, _, h => h
 | f :: W, p, hW, h => by
  have hf := hW f List.mem_cons_self
  exact fold2_X hc he (W := W) (p := s2 n e f p) (fun g hg => hW g (List.mem_cons_of_mem _ hg)) (sput_X (hc.app _ _ _ _ hf he) (sput_X (hc.app _ _ _ _ he hf) h))
theorem body_X {X : List Int → ByteArray → Prop} {n i : Nat} (hc : Clo n X) {L : List Elt} (hi : i < L.length) (h : XOk X L) : XOk X (body n i L).1 := by
 have he : X (L.getD i el0).1.2 (L.getD i el0).2 := by rw [getD_get el0 hi]; exact h _ (List.getElem_mem hi)
 unfold body
 dsimp only
 split
 ·rename_i hid
  have hp := sput_X (n := n) (A := gstab n (L.getD i el0).1.2) (hc.sh _ _ he hid) (p := (L, false)) h
  exact fold2_X hc he (fun e h1 => hp e (List.mem_of_mem_take h1)) hp
 ·exact fold2_X hc he (fun e h1 => h e (List.mem_of_mem_take h1)) h
theorem search_same {n : Nat} (h1 : 1 ≤ n) (h4 : n ≤ 4) (w : List Elt) : ∀ (d i : Nat) (p q : List Elt × Bool), i + d = 121 → Same p q → LOk n p.1 → LOk n q.1 →
  ∃ p' q', loopF spec_l8Elements_l11 (true, (p.1, p.2, ()), w, (i : Int), ()) = some ((p'.1, p'.2, ()), ()) ∧ loopF impl_ElementsOf_at5_l11 ((q.1, q.2, ()), (i : Int), ()) = some ((q'.1, q'.2, ()), ()) ∧ Same p' q' ∧ LOk n p'.1 ∧ ∀ X : List Int → ByteArray → Prop, Clo n X → XOk X p.1 → XOk X p'.1 := by
 intro d
 induction d with
 | zero =>
  intro i p q hi hs hp hq
  obtain ⟨L, F⟩ := p
  obtain ⟨L', f⟩ := q
  have e1 : L.length ≤ 120 := hp.len
  have e2 : L'.length ≤ 120 := hq.len
  refine ⟨(L, F), (L', f), ?_, ?_, hs, hp, fun _ _ h => h⟩
  ·rw [loopF_eq]
   simp only [spec_l8Elements_l11, decide_eq_false (show ¬ (i : Int) < (L.length : Int) by omega), cond_false, Nat.zero_add, List.drop_zero, List.take_length, if_true, Option.bind_some]
  ·rw [loopF_eq]
   simp only [impl_ElementsOf_at5_l11, decide_eq_false (show ¬ (i : Int) < (L'.length : Int) by omega), cond_false, List.drop_zero, List.take_length, Option.bind_some]
 | succ d ih =>
  intro i p q hi hs hp hq
  obtain ⟨L, F⟩ := p
  obtain ⟨L', f⟩ := q
  rcases hs with ⟨a1, a2, a3⟩ | ⟨a1, a2⟩
  ·have a1 : F = false := a1
   have a2 : f = true := a2
   have a3 : L' = L := a3
   subst a1 a2 a3
   by_cases hlt : i < L'.length
   ·obtain ⟨g1, g2⟩ := spec_round h4 hp hlt w
    obtain ⟨q', g3, g4, g5⟩ := impl_round h1 h4 hp hlt
    obtain ⟨p2, q2, k1, k2, k3⟩ := ih (i + 1) (body n i L') q' (by omega) g4 g2 g5
    refine ⟨p2, q2, ?_, ?_, k3.1, k3.2.1, fun X hX h => k3.2.2 X hX (body_X hX hlt h)⟩
    ·rw [loopF_eq]
     show (spec_l8Elements_l11 (true, (L', false, ()), w, (i : Int), ())).bind _ = _
     rw [g1]
     exact k1
    ·rw [loopF_eq]
     show (impl_ElementsOf_at5_l11 ((L', true, ()), (i : Int), ())).bind _ = _
     rw [g3]
     exact k2
   ·refine ⟨(L', false), (L', true), ?_, ?_, .inl ⟨rfl, rfl, rfl⟩, hp, fun _ _ h => h⟩
    ·rw [loopF_eq]
     simp only [spec_l8Elements_l11, decide_eq_false (show ¬ (i : Int) < (L'.length : Int) by omega), cond_false, Nat.zero_add, List.drop_zero, List.take_length, if_true, Option.bind_some]
    ·rw [loopF_eq]
     simp only [impl_ElementsOf_at5_l11, decide_eq_false (show ¬ (i : Int) < (L'.length : Int) by omega), cond_false, List.drop_zero, List.take_length, Option.bind_some]
  ·have a1 : F = true := a1
   have a2 : f = false := a2
   subst a1 a2
   refine ⟨(L, true), (L', false), ?_, ?_, .inr ⟨rfl, rfl⟩, hp, fun _ _ h => h⟩
   ·rw [loopF_eq]
    simp only [spec_l8Elements_l11]
    cases decide ((i : Int) < (L.length : Int)) <;> simp only [cond_true, cond_false, Bool.not_true, Nat.zero_add, List.drop_zero, List.take_length, if_true, Option.bind_some]
   ·rw [loopF_eq]
    simp only [impl_ElementsOf_at5_l11]
    cases decide ((i : Int) < (L'.length : Int)) <;> simp only [cond_true, cond_false, List.drop_zero, List.take_length, Option.bind_some]
end Go.Proofs.Ytfdhmmnffahhgaa
