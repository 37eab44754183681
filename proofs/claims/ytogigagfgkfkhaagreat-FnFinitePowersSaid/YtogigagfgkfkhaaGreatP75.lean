import Derived.Test.YtogigagfgkfkhaaGreatP69
import Derived.Test.YtogigagfgkfkhaaGreatP71
import Derived.Test.YtogigagfgkfkhaaGreatP50
import Derived.Test.YtogigagfgkfkhaaGreatP37
set_option linter.unusedVariables false
set_option linter.unusedSimpArgs false
/- What an expansion of an expression costs: at least as often as repeated parts stand, divided by one more than the states. -/
namespace Go.Proofs.YtogigagfgkfkhaaGreat
open Go Go.Proofs.YtogigagfgkfkhaaGreat.Am
/-- a word so many times -/
def rep (m : Nat) (w : List UInt8) : List UInt8 := (List.replicate m w).flatten
theorem y1b (m : Nat) (w : List UInt8) : rep (m + 1) w = w ++ rep m w := by simp [rep, List.replicate_succ]
theorem ke5 (p q : Nat) (w : List UInt8) : rep (p + q) w = rep p w ++ rep q w := by
 induction p with
 | zero => simp [rep]
 | succ p ih => rw [Nat.succ_add, y1b, y1b, ih, List.append_assoc]
theorem ke6 (m : Nat) (w : List UInt8) : (rep m w).length = m * w.length := by
 induction m with
 | zero => simp [rep]
 | succ m ih => rw [y1b, List.length_append, ih, Nat.succ_mul, Nat.add_comm]
def In (n : Nat) (i : Int) : Prop := 0 ≤ i ∧ i ≤ (n : Int) - 1
def en (n : Nat) (A : List Int) (i k : Int) : Int := A.getD (i.toNat * n + k.toNat) 0
/-- costs whose parts are such costs too -/
def Dn (K : Int → Prop) : Prop := ∀ x y : Int, 0 ≤ x → 0 ≤ y → K (x + y) → K x ∧ K y
section
variable {n : Nat} {l : List Stp} (hl : ∀ s ∈ l, StepIs (n : Int) s)
include hl
omit hl in
theorem z4n {i k c : Int} {w : List UInt8} (h : Run l (rep 0 w) i k c) : i = k ∧ c = 0 := h
/-- the states that a run over a repeated word goes through -/
theorem zu3 {w : List UInt8} {R : Int → Int → Prop} {K : Int → Prop} (hK : Dn K) (hR : ∀ i k c, In n i → In n k → Run l w i k c → K c → R i k) : ∀ (p : Nat) (i k c : Int), In n i → Run l (rep p w) i k c → K c →
  ∃ f : Nat → Int, f 0 = i ∧ f p = k ∧ (∀ j, j ≤ p → In n (f j)) ∧ ∀ j, j < p → R (f j) (f (j + 1))
 | 0, i, k, c, hi, h, _ => by
  obtain ⟨rfl, rfl⟩ := h
  exact ⟨fun _ => i, rfl, rfl, fun j _ => hi, fun j hj => absurd hj (by omega)⟩
 | p + 1, i, k, c, hi, h, hc => by
  rw [y1b] at h
  obtain ⟨j, c1, c2, h1, h2, rfl⟩ := run_app.1 h
  have n1 := Run.nonneg hl h1
  have n2 := Run.nonneg hl h2
  obtain ⟨k1, k2⟩ := hK _ _ n1 n2 hc
  have hj : In n j := zk0 hl h1 hi
  obtain ⟨f, f0, fp, fi, fs⟩ := zu3 hK hR p j k c2 hj h2 k2
  refine ⟨fun t => if t = 0 then i else f (t - 1), rfl, ?_, fun t ht => ?_, fun t ht => ?_⟩
  ·show (if p + 1 = 0 then i else f (p + 1 - 1)) = k
   rw [if_neg (by omega)]
   exact fp
  ·show In n (if t = 0 then i else f (t - 1))
   split
   ·exact hi
   ·exact fi _ (by omega)
  ·show R (if t = 0 then i else f (t - 1)) (if t + 1 = 0 then i else f (t + 1 - 1))
   rw [if_neg (show ¬ t + 1 = 0 by omega)]
   by_cases e : t = 0
   ·subst e
    rw [if_pos rfl, show 0 + 1 - 1 = 0 from rfl, f0]
    exact hR _ _ _ hi hj h1 k1
   ·rw [if_neg e]
    have := fs (t - 1) (by omega)
    rw [show t - 1 + 1 = t + 1 - 1 by omega] at this
    exact this
end
section
variable {n : Nat} {E : List Int} (hE : gmul n E E = E) {z : Int} (hz : z ≤ 2)
include hE hz
theorem zp5 {i j k : Int} (hi : In n i) (hj : In n j) (hk : In n k) (h1 : en n E i j ≤ z) (h2 : en n E j k ≤ z) : en n E i k ≤ z := by
 unfold In at hi hj hk
 have := (y9e (A := E) (B := E) (show i.toNat < n by omega) (show k.toNat < n by omega) hz).2 ⟨j.toNat, by omega, h1, h2⟩
 rw [hE] at this
 exact this
theorem zk1 {f : Nat → Int} {p : Nat} (hf : ∀ j, j ≤ p → In n (f j)) (hs : ∀ j, j < p → en n E (f j) (f (j + 1)) ≤ z) : ∀ (d a : Nat), a + (d + 1) ≤ p → en n E (f a) (f (a + (d + 1))) ≤ z
 | 0, a, h => hs a (by omega)
 | d + 1, a, h => by
  have h1 := zk1 hf hs d a (by omega)
  have h2 := hs (a + (d + 1)) (by omega)
  exact zp5 hE hz (hf _ (by omega)) (hf _ (by omega)) (hf _ (by omega)) h1 h2
/-- a long path goes through a state twice -/
theorem kn4 {f : Nat → Int} {p : Nat} (hp : n + 1 ≤ p) (hf : ∀ j, j ≤ p → In n (f j)) (hs : ∀ j, j < p → en n E (f j) (f (j + 1)) ≤ z) : ∃ q, In n q ∧ en n E (f 0) q ≤ z ∧ en n E q q ≤ z ∧ en n E q (f p) ≤ z := by
 obtain ⟨a, b, h1, h2, h3⟩ := kd2 ((List.range n).map fun j : Nat => (j : Int)) f (n + 1) (fun k hk => by
  have := hf k (by omega)
  unfold In at this
  exact List.mem_map.2 ⟨(f k).toNat, List.mem_range.2 (by omega), by omega⟩) (by simp)
 refine ⟨f a, hf a (by omega), ?_, ?_, ?_⟩
 ·have := zk1 hE hz hf hs (b - 1) 0 (by omega)
  rw [show 0 + (b - 1 + 1) = b by omega, ← h3] at this
  exact this
 ·have := zk1 hE hz hf hs (b - a - 1) a (by omega)
  rw [show a + (b - a - 1 + 1) = b by omega, ← h3] at this
  exact this
 ·have := zk1 hE hz hf hs (p - a - 1) a (by omega)
  rw [show a + (p - a - 1 + 1) = p by omega] at this
  exact this
end
theorem y79 {n : Nat} {E : List Int} {i k : Int} (hi : In n i) (hk : In n k) {z : Int} (hz : z ≤ 2) : en n (y0b n E) i k ≤ z ↔ ∃ q, In n q ∧ en n E i q ≤ z ∧ ag (en n E q q) ≤ z ∧ en n E q k ≤ z := by
 unfold In at hi hk
 have h := km7 (A := E) (show i.toNat < n by omega) (show k.toNat < n by omega) (z + 1)
 constructor
 ·intro h1
  apply Classical.byContradiction
  intro hno
  have h1 : (y0b n E).getD (i.toNat * n + k.toNat) 0 ≤ z := h1
  have := h.2 ⟨by omega, fun q hq => by
   apply Classical.byContradiction
   intro hc
   refine hno ⟨(q : Int), ⟨by omega, by omega⟩, ?_, ?_, ?_⟩ <;> unfold en <;> simp only [Int.toNat_natCast] <;> omega⟩
  omega
 ·rintro ⟨q, hq, h1, h2, h3⟩
  apply Classical.byContradiction
  intro hno
  have hno : ¬ (y0b n E).getD (i.toNat * n + k.toNat) 0 ≤ z := hno
  unfold In at hq
  unfold en at h1 h2 h3
  rcases (h.1 (by omega)).2 q.toNat (by omega) with h4 | h4 | h4 <;> omega
/-- what grades tell of the runs of a word, by the least cost that many times tell -/
structure GX (n : Nat) (l : List Stp) (Q : Int) (w : List UInt8) (A : List Int) : Prop where
 ok : GOk n A
 p0 : ∀ i k c, In n i → In n k → Run l w i k c → c ≤ 0 → en n A i k ≤ 0
 p1 : ∀ i k c, In n i → In n k → Run l w i k c → c < Q → en n A i k ≤ 1
 p2 : ∀ i k c, In n i → In n k → Run l w i k c → True → en n A i k ≤ 2
 ex : ∀ i k, In n i → In n k → en n A i k ≤ 2 → ∃ c, Run l w i k c
theorem dn0 : Dn fun c => c ≤ 0 := fun x y hx hy h => by show x ≤ 0 ∧ y ≤ 0; have h : x + y ≤ 0 := h; omega
theorem dnQ (Q : Int) : Dn fun c => c < Q := fun x y hx hy h => by show x < Q ∧ y < Q; have h : x + y < Q := h; omega
theorem dnT : Dn fun _ => True := fun _ _ _ _ _ => ⟨trivial, trivial⟩
theorem gr_not2 (x : Int) : gr x ≤ 2 → gr x ≤ 1 := by
 unfold gr
 split
 ·intro _; decide
 ·split
  ·intro h; exact absurd h (by decide)
  ·intro _; decide
theorem z1c {n : Nat} {l : List Stp} (hl : ∀ s ∈ l, StepIs (n : Int) s) {b : UInt8} {M : List Int} (hM : ProdIs n l [b] M) (Q : Int) : GX n l Q [b] (M.map gr) := by
 have hG := ke2 hl hM
 have at_ : ∀ i k, In n i → In n k → (en n (M.map gr) i k ≤ 2 ↔ ∃ c, Run l [b] i k c) ∧ (en n (M.map gr) i k ≤ 0 ↔ Run l [b] i k 0) := by
  intro i k hi hk
  unfold In at hi hk
  have := hG.2 i.toNat k.toNat (by omega) (by omega)
  rw [show ((i.toNat : Nat) : Int) = i by omega, show ((k.toNat : Nat) : Int) = k by omega] at this
  exact this
 refine ⟨hG.1, fun i k c hi hk h hc => ?_, fun i k c hi hk h _ => ?_, fun i k c hi hk h _ => ((at_ i k hi hk).1).2 ⟨c, h⟩, fun i k hi hk h => ((at_ i k hi hk).1).1 h⟩
 ·have := Run.nonneg hl h
  obtain rfl : c = 0 := by omega
  exact ((at_ i k hi hk).2).2 h
 ·have h2 := ((at_ i k hi hk).1).2 ⟨c, h⟩
  unfold In at hi hk
  unfold en at h2 ⊢
  rw [map_at (by rw [hM.1.1]; exact yt0 (by omega) (by omega))] at h2 ⊢
  exact gr_not2 _ h2
section
variable {n : Nat} {l : List Stp} (hl : ∀ s ∈ l, StepIs (n : Int) s) {Q : Int}
include hl
theorem gx_mul {w v : List UInt8} {A B : List Int} (hA : GX n l Q w A) (hB : GX n l Q v B) : GX n l Q (w ++ v) (gmul n A B) := by
 have up : ∀ {K : Int → Prop} {z : Int}, z ≤ 2 → Dn K → (∀ i k c, In n i → In n k → Run l w i k c → K c → en n A i k ≤ z) → (∀ i k c, In n i → In n k → Run l v i k c → K c → en n B i k ≤ z) →
   ∀ i k c, In n i → In n k → Run l (w ++ v) i k c → K c → en n (gmul n A B) i k ≤ z := by
  intro K z hz hK h1 h2 i k c hi hk h hc
  obtain ⟨j, c1, c2, r1, r2, rfl⟩ := run_app.1 h
  obtain ⟨k1, k2⟩ := hK _ _ (Run.nonneg hl r1) (Run.nonneg hl r2) hc
  have hj : In n j := zk0 hl r1 hi
  have e1 := h1 _ _ _ hi hj r1 k1
  have e2 := h2 _ _ _ hj hk r2 k2
  unfold In at hi hj hk
  exact (y9e (show i.toNat < n by omega) (show k.toNat < n by omega) hz).2 ⟨j.toNat, by omega, e1, e2⟩
 refine ⟨yv7 hA.ok hB.ok, up (by omega) dn0 hA.p0 hB.p0, up (by omega) (dnQ Q) hA.p1 hB.p1, up (by omega) dnT hA.p2 hB.p2, fun i k hi hk h => ?_⟩
 unfold In at hi hk
 obtain ⟨j, hj, h1, h2⟩ := (y9e (show i.toNat < n by omega) (show k.toNat < n by omega) (by omega)).1 h
 obtain ⟨c1, r1⟩ := hA.ex i (j : Int) hi ⟨by omega, by omega⟩ (by unfold en; rw [Int.toNat_natCast]; exact h1)
 obtain ⟨c2, r2⟩ := hB.ex (j : Int) k ⟨by omega, by omega⟩ hk (by unfold en; rw [Int.toNat_natCast]; exact h2)
 exact ⟨_, run_app.2 ⟨_, c1, c2, r1, r2, rfl⟩⟩
theorem z2r {w : List UInt8} {E : List Int} (hE : gmul n E E = E) {K : Int → Prop} {z : Int} (hz : z ≤ 2) (hK : Dn K) (h1 : ∀ i k c, In n i → In n k → Run l w i k c → K c → en n E i k ≤ z) {p : Nat} (hp : 0 < p) {i k c : Int} (hi : In n i) (hr : Run l (rep p w) i k c) (hc : K c) : en n E i k ≤ z := by
 obtain ⟨f, f0, fp, fi, fs⟩ := zu3 hl hK h1 p i k c hi hr hc
 have := zk1 hE hz fi fs (p - 1) 0 (by omega)
 rw [show 0 + (p - 1 + 1) = p by omega, f0, fp] at this
 exact this
theorem z2s {w : List UInt8} {E : List Int} (hE : gmul n E E = E) {K : Int → Prop} {z : Int} (hz : z ≤ 2) (hK : Dn K) (h1 : ∀ i k c, In n i → In n k → Run l w i k c → K c → en n E i k ≤ z) {p : Nat} (hp : n + 1 ≤ p) {i k c : Int} (hi : In n i) (hr : Run l (rep p w) i k c) (hc : K c) :
  ∃ q, In n q ∧ en n E i q ≤ z ∧ en n E q q ≤ z ∧ en n E q k ≤ z := by
 obtain ⟨f, f0, fp, fi, fs⟩ := zu3 hl hK h1 p i k c hi hr hc
 have := kn4 hE hz hp fi fs
 rw [f0, fp] at this
 exact this
/-- a run that costs less than there are long y24 goes through one for nothing -/
theorem z4o {w : List UInt8} {E : List Int} (hE : gmul n E E = E) (h : GX n l Q w E) : ∀ (q : Nat) (i k c : Int), In n i → In n k → Run l (rep (q * (n + 1)) w) i k c → c < (q : Int) → c < Q → ∃ x, In n x ∧ en n E i x ≤ 1 ∧ en n E x x ≤ 0 ∧ en n E x k ≤ 1
 | 0, i, k, c, hi, hk, hr, hc, _ => by
  have := Run.nonneg hl hr
  omega
 | q + 1, i, k, c, hi, hk, hr, hc, hQ => by
  rw [Nat.succ_mul, Nat.add_comm, ke5] at hr
  obtain ⟨j, c1, c2, r1, r2, rfl⟩ := run_app.1 hr
  have n1 := Run.nonneg hl r1
  have n2 := Run.nonneg hl r2
  have hj : In n j := zk0 hl r1 hi
  have rest : ∀ {x : Int}, In n x → en n E x j ≤ 1 → en n E x k ≤ 1 := by
   intro x hx h1
   rcases Nat.eq_zero_or_pos (q * (n + 1)) with h0 | h0
   ·rw [h0] at r2
    obtain ⟨rfl, _⟩ := z4n r2
    exact h1
   ·exact zp5 hE (by omega) hx hj hk h1 (z2r hl hE (by omega) (dnQ Q) h.p1 h0 hj r2 (by show c2 < Q; omega))
  by_cases e : c1 = 0
  ·subst e
   obtain ⟨x, hx, h1, h2, h3⟩ := z2s hl hE (by omega) dn0 h.p0 (Nat.le_refl _) hi r1 (Int.le_refl 0)
   exact ⟨x, hx, by omega, h2, rest hx (by omega)⟩
  ·obtain ⟨x, hx, h1, h2, h3⟩ := z4o hE h q j k c2 hj hk r2 (by omega) (by omega)
   have h4 := z2r hl hE (show (1 : Int) ≤ 2 by omega) (dnQ Q) h.p1 (Nat.succ_pos n) hi r1 (by show c1 < Q; omega)
   exact ⟨x, hx, zp5 hE (by omega) hi hj hx h4 h1, h2, h3⟩
omit hl in
theorem ke7 {w : List UInt8} {E : List Int} (hE : gmul n E E = E) (h : GX n l Q w E) : ∀ m : Nat, 1 ≤ m → ∀ i k, In n i → In n k → en n E i k ≤ 2 → ∃ c, Run l (rep m w) i k c
 | 0, hm, _, _, _, _, _ => absurd hm (by omega)
 | m + 1, _, i, k, hi, hk, h1 => by
  rcases Nat.eq_zero_or_pos m with h0 | h0
  ·subst h0
   obtain ⟨c, hc⟩ := h.ex i k hi hk h1
   refine ⟨c, ?_⟩
   rw [y1b, show rep 0 w = [] from rfl, List.append_nil]
   exact hc
  ·have hi' := hi
   have hk' := hk
   unfold In at hi' hk'
   have h2 : (gmul n E E).getD (i.toNat * n + k.toNat) 0 ≤ 2 := by rw [hE]; exact h1
   obtain ⟨j, hj, h3, h4⟩ := (y9e (show i.toNat < n by omega) (show k.toNat < n by omega) (by omega)).1 h2
   have hj' : In n (j : Int) := ⟨by omega, by omega⟩
   obtain ⟨c1, r1⟩ := h.ex i (j : Int) hi hj' (by unfold en; rw [Int.toNat_natCast]; exact h3)
   obtain ⟨c2, r2⟩ := ke7 hE h m h0 (j : Int) k hj' hk (by unfold en; rw [Int.toNat_natCast]; exact h4)
   rw [y1b]
   exact ⟨_, run_app.2 ⟨_, c1, c2, r1, r2, rfl⟩⟩
theorem gx_stab {w : List UInt8} {E : List Int} (hE : gmul n E E = E) (h : GX n l Q w E) {m : Nat} (hm : n + 1 ≤ m) (hQ : Q = ((m / (n + 1) : Nat) : Int)) : GX n l Q (rep m w) (y0b n E) := by
 refine ⟨y36 h.ok, fun i k c hi hk hr hc => ?_, fun i k c hi hk hr hc => ?_, fun i k c hi hk hr _ => ?_, fun i k hi hk h1 => ?_⟩
 ·obtain ⟨q, hq, h1, h2, h3⟩ := z2s hl hE (by omega) dn0 h.p0 hm hi hr hc
  exact (y79 hi hk (by omega)).2 ⟨q, hq, h1, by unfold ag; split <;> omega, h3⟩
 ·have hmq : m = m / (n + 1) * (n + 1) + m % (n + 1) := by rw [Nat.mul_comm]; exact (Nat.div_add_mod m (n + 1)).symm
  rw [hmq, ke5] at hr
  obtain ⟨j, c1, c2, r1, r2, rfl⟩ := run_app.1 hr
  have n1 := Run.nonneg hl r1
  have n2 := Run.nonneg hl r2
  have hj : In n j := zk0 hl r1 hi
  obtain ⟨x, hx, h1, h2, h3⟩ := z4o hl hE h (m / (n + 1)) i j c1 hi hj r1 (by rw [← hQ]; omega) (by omega)
  refine (y79 hi hk (by omega)).2 ⟨x, hx, h1, by unfold ag; split <;> omega, ?_⟩
  rcases Nat.eq_zero_or_pos (m % (n + 1)) with h0 | h0
  ·rw [h0] at r2
   obtain ⟨rfl, _⟩ := z4n r2
   exact h3
  ·exact zp5 hE (by omega) hx hj hk h3 (z2r hl hE (by omega) (dnQ Q) h.p1 h0 hj r2 (by show c2 < Q; omega))
 ·obtain ⟨q, hq, h1, h2, h3⟩ := z2s hl hE (by omega) dnT h.p2 hm hi hr trivial
  exact (y79 hi hk (by omega)).2 ⟨q, hq, h1, by unfold ag; split <;> omega, h3⟩
 ·obtain ⟨q, hq, h2, h3, h4⟩ := (y79 hi hk (by omega)).1 h1
  have h5 := zp5 hE (by omega) hi hq hk h2 h4
  exact ke7 hE h m (by omega) i k hi hk h5
end
end Go.Proofs.YtogigagfgkfkhaaGreat

/- Expansions of expressions: the word in which repeated parts stand so many times. -/
namespace Go.Proofs.YtogigagfgkfkhaaGreat
open Go Go.Proofs.YtogigagfgkfkhaaGreat.Am
/-- a text, its parts, and the word in which repeated parts stand m times -/
inductive Xo (m : Nat) : List UInt8 → Pts → List UInt8 → Prop
 | nil : Xo m [] [] []
 | lt {c : UInt8} {t w : List UInt8} {l : Pts} : (c = 97 ∨ c = 98) → Xo m t l w → Xo m (c :: t) ((B [c], PT.mk []) :: l) (c :: w)
 | rp {t1 t2 w1 w2 : List UInt8} {l1 l2 : Pts} : Xo m t1 l1 w1 → l1 ≠ [] → Xo m t2 l2 w2 → Xo m (40 :: (t1 ++ 41 :: 35 :: t2)) ((B [], PT.mk l1) :: l2) (rep m w1 ++ w2)
theorem Xo.fo {m : Nat} {t w : List UInt8} {l : Pts} (h : Xo m t l w) : Fo t l := by
 induction h with
 | nil => exact .nil
 | lt hc _ ih => exact .lt hc ih
 | rp _ hn _ ih1 ih2 => exact .rp ih1 hn ih2
theorem fo_xo (m : Nat) {t : List UInt8} {l : Pts} (h : Fo t l) : ∃ w, Xo m t l w := by
 induction h with
 | nil => exact ⟨_, .nil⟩
 | lt hc _ ih => obtain ⟨w, h⟩ := ih; exact ⟨_, .lt hc h⟩
 | rp _ hn _ ih1 ih2 =>
  obtain ⟨w1, h1⟩ := ih1
  obtain ⟨w2, h2⟩ := ih2
  exact ⟨_, .rp h1 hn h2⟩
theorem Xo.app {m : Nat} {t t' w w' : List UInt8} {l l' : Pts} (h : Xo m t l w) (h' : Xo m t' l' w') : Xo m (t ++ t') (l ++ l') (w ++ w') := by
 induction h with
 | nil => exact h'
 | lt hc _ ih => exact .lt hc ih
 | rp h1 hn _ _ ih =>
  have := Xo.rp h1 hn ih
  simpa using this
theorem Xo.ab {m : Nat} {t w : List UInt8} {l : Pts} (h : Xo m t l w) : ∀ b ∈ w, b = 97 ∨ b = 98 := by
 induction h with
 | nil => intro b hb; cases hb
 | lt hc _ ih =>
  intro b hb
  rcases List.mem_cons.1 hb with rfl | hb
  ·exact hc
  ·exact ih b hb
 | rp _ _ _ ih1 ih2 =>
  intro b hb
  rcases List.mem_append.1 hb with hb | hb
  ·unfold rep at hb
   obtain ⟨x, hx, hb⟩ := List.mem_flatten.1 hb
   rw [List.eq_of_mem_replicate hx] at hb
   exact ih1 b hb
  ·exact ih2 b hb
theorem Xo.ne {m : Nat} (hm : 1 ≤ m) {t w : List UInt8} {l : Pts} (h : Xo m t l w) : l ≠ [] → w ≠ [] := by
 induction h with
 | nil => intro h; exact absurd rfl h
 | lt _ _ _ => intro _; simp
 | @rp t1 t2 w1 w2 l1 l2 h1 hn _ ih1 _ =>
  intro _ hw
  have h3 := (List.append_eq_nil_iff.1 hw).1
  have h4 : (rep m w1).length = 0 := by rw [h3]; rfl
  rw [ke6] at h4
  rcases Nat.mul_eq_zero.1 h4 with h5 | h5
  ·omega
  ·exact ih1 hn (List.length_eq_zero_iff.1 h5)
/-- the value of a text tells what its expansions cost -/
theorem vo_gx {a : Aut} {n : Nat} (ha : AutIs a n) {m : Nat} (hm : n + 1 ≤ m) {t : List UInt8} {l : Pts} {A : List Int} (h : Vo n a.2.2.2 t l A) : ∃ w, Xo m t l w ∧ GX n a.2.2.2 ((m / (n + 1) : Nat) : Int) w A := by
 induction h with
 | @lt c hc =>
  refine ⟨[c], .lt hc .nil, ?_⟩
  obtain ⟨M, h1, h2⟩ := y6u (c := B [c]) ha.st ha.n1 ha.n4 ha.len ha.ok
  have h3 := y0h ha (B [c])
  rw [h1] at h3
  have h3 : M = yk8 (B [c]) n a.2.2.2 a.2.2.2.length := (Prod.mk.inj (Option.some.inj h3)).2
  subst h3
  rw [y37] at h2
  exact z1c ha.steps (z4m ha.steps h2) _
 | rp h1 h2 ih =>
  obtain ⟨w, hw, hg⟩ := ih
  refine ⟨rep m w ++ [], ?_, ?_⟩
  ·exact .rp hw (h1.ok ha).2.1 .nil
  ·rw [List.append_nil]
   exact gx_stab ha.steps h2 hg hm rfl
 | cat h1 h2 ih1 ih2 =>
  obtain ⟨w1, hw1, hg1⟩ := ih1
  obtain ⟨w2, hw2, hg2⟩ := ih2
  exact ⟨w1 ++ w2, hw1.app hw2, gx_mul ha.steps hg1 hg2⟩
/-- and where it is no matrix without words, that they have runs -/
theorem vo_run {a : Aut} {n : Nat} (ha : AutIs a n) {m : Nat} (hm : 1 ≤ m) {t : List UInt8} {l : Pts} {A : List Int} (h : Vo n a.2.2.2 t l A) : ∃ w, Xo m t l w ∧ ∀ i k, In n i → In n k → en n A i k ≤ 2 → ∃ c, Run a.2.2.2 w i k c := by
 induction h with
 | @lt c hc =>
  obtain ⟨M, h1, h2⟩ := y6u (c := B [c]) ha.st ha.n1 ha.n4 ha.len ha.ok
  have h3 := y0h ha (B [c])
  rw [h1] at h3
  have h3 : M = yk8 (B [c]) n a.2.2.2 a.2.2.2.length := (Prod.mk.inj (Option.some.inj h3)).2
  subst h3
  rw [y37] at h2
  exact ⟨[c], .lt hc .nil, (z1c ha.steps (z4m ha.steps h2) 0).ex⟩
 | @rp t l E h1 h2 ih =>
  obtain ⟨w, hw, hg⟩ := ih
  refine ⟨rep m w ++ [], .rp hw (h1.ok ha).2.1 .nil, fun i k hi hk h => ?_⟩
  rw [List.append_nil]
  obtain ⟨q, hq, h3, h4, h5⟩ := (y79 hi hk (by omega)).1 h
  have h6 := zp5 h2 (show (2 : Int) ≤ 2 by omega) hi hq hk h3 h5
  have runs : ∀ p : Nat, 1 ≤ p → ∀ i k, In n i → In n k → en n E i k ≤ 2 → ∃ c, Run a.2.2.2 (rep p w) i k c := by
   intro p
   induction p with
   | zero => intro h; exact absurd h (by omega)
   | succ p ihp =>
    intro _ i k hi hk h1
    rcases Nat.eq_zero_or_pos p with h0 | h0
    ·subst h0
     obtain ⟨c, hc⟩ := hg i k hi hk h1
     refine ⟨c, ?_⟩
     rw [y1b, show rep 0 w = [] from rfl, List.append_nil]
     exact hc
    ·have hi' := hi
     have hk' := hk
     unfold In at hi' hk'
     have h2' : (gmul n E E).getD (i.toNat * n + k.toNat) 0 ≤ 2 := by rw [h2]; exact h1
     obtain ⟨j, hj, h3, h4⟩ := (y9e (show i.toNat < n by omega) (show k.toNat < n by omega) (by omega)).1 h2'
     have hj' : In n (j : Int) := ⟨by omega, by omega⟩
     obtain ⟨c1, r1⟩ := hg i (j : Int) hi hj' (by unfold en; rw [Int.toNat_natCast]; exact h3)
     obtain ⟨c2, r2⟩ := ihp h0 (j : Int) k hj' hk (by unfold en; rw [Int.toNat_natCast]; exact h4)
     rw [y1b]
     exact ⟨_, run_app.2 ⟨_, c1, c2, r1, r2, rfl⟩⟩
  exact runs m hm i k hi hk h6
 | @cat t t' l l' A A' h1 h2 ih1 ih2 =>
  obtain ⟨w1, hw1, hg1⟩ := ih1
  obtain ⟨w2, hw2, hg2⟩ := ih2
  refine ⟨w1 ++ w2, hw1.app hw2, fun i k hi hk h => ?_⟩
  have hi' := hi
  have hk' := hk
  unfold In at hi' hk'
  obtain ⟨j, hj, h3, h4⟩ := (y9e (show i.toNat < n by omega) (show k.toNat < n by omega) (by omega)).1 h
  obtain ⟨c1, r1⟩ := hg1 i (j : Int) hi ⟨by omega, by omega⟩ (by unfold en; rw [Int.toNat_natCast]; exact h3)
  obtain ⟨c2, r2⟩ := hg2 (j : Int) k ⟨by omega, by omega⟩ hk (by unfold en; rw [Int.toNat_natCast]; exact h4)
  exact ⟨_, run_app.2 ⟨_, c1, c2, r1, r2, rfl⟩⟩
/-- runs of short words cost little -/
theorem z1d {n : Int} {l : List Stp} (hl : ∀ s ∈ l, StepIs n s) : ∀ {w : List UInt8} {i k c : Int}, Run l w i k c → c ≤ 3 * w.length
 | [], i, k, c, h => by simp only [Run] at h; simp; omega
 | b :: w, i, k, c, h => by
  simp only [Run] at h
  obtain ⟨s, h1, _, _, c', h3, rfl⟩ := h
  have := z1d hl h3
  have := (hl s h1).c1
  simp only [List.length_cons]
  omega
/-- a growing text's expansions are had, and cost much -/
theorem z1e {a : Aut} {n : Nat} (ha : AutIs a n) {A : List Int} (hA : btw n A a.2.1 a.2.2.1 = 2) {w : List UInt8} (hw : w.length ≤ 1000) {c : Int} (hc : CostIs a w c) :
  ((∀ i k, In n i → In n k → en n A i k ≤ 2 → ∃ c, Run a.2.2.2 w i k c) → c < Nv) ∧ (∀ Q : Int, (∀ i k c, In n i → In n k → Run a.2.2.2 w i k c → c < Q → en n A i k ≤ 1) → Q ≤ Nv → Q ≤ c) := by
 constructor
 ·intro hex
  obtain ⟨i, hi, k, hk, h1⟩ : ∃ i ∈ a.2.1, ∃ k ∈ a.2.2.1, A.getD (i.toNat * n + k.toNat) 0 ≤ 2 := by
   apply Classical.byContradiction
   intro hno
   have := (btw_le (n := n) (A := A) a.2.1 a.2.2.1 3).2 ⟨by omega, fun i hi k hk => by
    by_cases c : 3 ≤ A.getD (i.toNat * n + k.toNat) 0
    ·exact c
    ·exact absurd ⟨i, hi, k, hk, by omega⟩ hno⟩
   omega
  obtain ⟨x, hx⟩ := hex i k (ha.S i hi) (ha.F k hk) h1
  have h2 := z1d ha.steps hx
  have h3 := ((hc.2 c).1 (Int.le_refl _)).2 i hi k hk x hx
  show c < 1000000
  omega
 ·intro Q hQ hQN
  refine (hc.2 Q).2 ⟨hQN, fun i hi k hk x hx => ?_⟩
  by_cases h : Q ≤ x
  ·exact h
  ·have h1 := hQ i k x (ha.S i hi) (ha.F k hk) hx (by omega)
   have h2 := ((btw_le (n := n) (A := A) a.2.1 a.2.2.1 2).1 (by omega)).2 i hi k hk
   unfold en at h1
   omega
end Go.Proofs.YtogigagfgkfkhaaGreat

/- Both sides expand a text to the same word. -/
namespace Go.Proofs.YtogigagfgkfkhaaGreat
open Go Go.Proofs.YtogigagfgkfkhaaGreat.Am
theorem ke8 (w : List UInt8) : ∀ m, Lib.repeatL w m = rep m w
 | 0 => rfl
 | m + 1 => by
  show w ++ Lib.repeatL w m = _
  rw [ke8 w m, y1b]
theorem B_mk (l : List UInt8) : (⟨l.toArray⟩ : ByteArray) = B l := by simp [B]
theorem z1f {w : List UInt8} {m : Nat} (hm : m ≤ 1000) (h : m * w.length ≤ 1000) : strings_Repeat (B w) (m : Int) = some (B (rep m w)) := by
 have h1 : (B w).size * m ≤ 140737488355328 := by rw [yy3, Nat.mul_comm]; omega
 show repS (B w) (m : Int) = _
 unfold repS
 rw [if_pos ⟨by omega, by rw [Int.toNat_natCast]; exact h1, by omega⟩, Int.toNat_natCast]
 show some (⟨(Lib.repeatL w m).toArray⟩ : ByteArray) = _
 rw [ke8, B_mk]
/-- the word of an expansion, if it is not too long -/
def xpR (w : List UInt8) : ByteArray × Bool := if w.length ≤ 1000 then (B w, true) else ((⟨#[]⟩ : ByteArray), false)
abbrev RecX := Pts → Int → Option (ByteArray × Bool)
theorem kn5 (a b : Nat) : Int.tdiv (a : Int) (b : Int) = ((a / b : Nat) : Int) := rfl
theorem room {o k m : Nat} (hk : 0 < k) (ho : o ≤ 1000) (hk2 : k ≤ 1000) : decide ((m : Int) > IntKind.wrap .i64 (Int.tdiv (IntKind.wrap .i64 ((1000 : Int) - (o : Int))) (k : Int))) = decide (1000 < o + m * k) := by
 have e1 : IntKind.wrap .i64 ((1000 : Int) - (o : Int)) = ((1000 - o : Nat) : Int) := by
  rw [w64 (by omega) (by omega)]
  omega
 have hle : (1000 - o) / k ≤ 1000 := Nat.le_trans (Nat.div_le_self _ _) (by omega)
 have h := Nat.div_lt_iff_lt_mul (x := 1000 - o) (y := m) hk
 rw [e1, kn5]
 generalize (1000 - o) / k = q at hle h
 rw [w64 (by omega) (by omega)]
 rw [decide_eq_decide]
 constructor
 ·intro h1
  have := h.1 (by omega)
  omega
 ·intro h1
  have := h.2 (by omega)
  omega
theorem xp_loop {m : Nat} (hm : 1 ≤ m) {φ : RecX} {N : Nat} (hφ : ∀ {t1 w1 : List UInt8} {l1 : Pts}, Xo m t1 l1 w1 → l1 ≠ [] → t1.length < N → φ l1 (m : Int) = some (xpR w1)) {t w : List UInt8} {l : Pts} (h : Xo m t l w) :
  t.length ≤ N → ∀ (L : Pts) (k : Nat) (o : List UInt8), L.drop k = l → L.length ≤ 1000 → k ≤ L.length → o.length ≤ 1000 →
   ya2 (yj5 φ) ((m : Int), B o, L, ((L.length : Nat) : Int), (k : Int), ()) = some (if (o ++ w).length ≤ 1000 then .inr (B (o ++ w), ()) else .inl ((⟨#[]⟩ : ByteArray), false, ())) := by
 induction h with
 | nil =>
  intro _ L k o hL h1 hk ho
  have hk2 : L.length ≤ k := List.drop_eq_nil_iff.1 hL
  obtain rfl : k = L.length := by omega
  rw [yb1]
  simp only [yj5, lt_f, cond_false, Option.bind_some, List.append_nil]
  rw [if_pos ho]
 | @lt c t w l hc _ ih =>
  intro hN L k o hL h1 hk ho
  simp only [List.length_cons] at hN
  obtain ⟨g1, g2, g3⟩ := z0x ((⟨Array.empty⟩ : ByteArray), PT.mk []) hL
  have hr := room (o := o.length) (k := 1) (m := 1) (by omega) ho (by omega)
  have hr : decide ((1 : Int) > IntKind.wrap .i64 (Int.tdiv (IntKind.wrap .i64 ((1000 : Int) - ((o.length : Nat) : Int))) ((([c].length : Nat)) : Int))) = decide (1000 < o.length + 1 * 1) := hr
  rw [yb1]
  simp only [yj5, lt_t g1, cond_true, if_pos (in_t g1), Int.toNat_natCast, g2, B_ne, cond_false, yy3, hr]
  rw [if_neg (show ¬ (([c].length : Nat) : Int) = 0 by simp)]
  by_cases hf : 1000 < o.length + 1 * 1
  ·rw [decide_eq_true hf, cond_true]
   simp only [Option.bind_some]
   rw [if_neg (by simp; omega)]
  ·rw [decide_eq_false hf, cond_false]
   have e := z1f (w := [c]) (m := 1) (by omega) (by simp)
   have e : strings_Repeat (B [c]) (1 : Int) = some (B [c]) := e
   rw [e]
   simp only [Option.bind_some, yy3, B_app]
   rw [if_pos (by simp; omega)]
   simp only [Option.bind_some, ya4 g1 (show L.length ≤ 9223372036854775807 by omega)]
   rw [ih (by omega) L (k + 1) (o ++ [c]) g3 h1 (by omega) (by simp; omega)]
   rw [List.append_assoc]
   rfl
 | @rp t1 t2 w1 w2 l1 l2 h1' hn _ _ ih =>
  intro hN L k o hL h1 hk ho
  simp only [List.length_cons, List.length_append] at hN
  obtain ⟨g1, g2, g3⟩ := z0x ((⟨Array.empty⟩ : ByteArray), PT.mk []) hL
  have hin := hφ h1' hn (by omega)
  have hin : φ (PT.l (PT.mk l1)) (m : Int) = some (xpR w1) := hin
  have hne := h1'.ne hm hn
  have hpos : 0 < w1.length := List.length_pos_iff.2 hne
  have hrl := ke6 m w1
  have htot : (o ++ (rep m w1 ++ w2)).length = o.length + m * w1.length + w2.length := by
   rw [List.length_append, List.length_append, hrl]
   omega
  rw [yb1]
  simp only [yj5, lt_t g1, cond_true, if_pos (in_t g1), Int.toNat_natCast, g2, B_eq, hin, Option.bind_some]
  by_cases hw : w1.length ≤ 1000
  ·have hx : xpR w1 = (B w1, true) := by unfold xpR; rw [if_pos hw]
   have hr := room (o := o.length) (k := w1.length) (m := m) hpos ho hw
   simp only [hx, Bool.not_true, cond_false, yy3, hr]
   rw [if_neg (show ¬ ((w1.length : Nat) : Int) = 0 by omega)]
   by_cases hf : 1000 < o.length + m * w1.length
   ·rw [decide_eq_true hf, cond_true]
    simp only [Option.bind_some]
    rw [if_neg (by omega)]
   ·rw [decide_eq_false hf, cond_false]
    have hmk : m ≤ m * w1.length := Nat.le_mul_of_pos_right _ hpos
    rw [z1f (by omega) (by omega)]
    simp only [Option.bind_some, yy3, B_app]
    rw [if_pos (by omega)]
    simp only [Option.bind_some, ya4 g1 (show L.length ≤ 9223372036854775807 by omega)]
    rw [ih (by omega) L (k + 1) (o ++ rep m w1) g3 h1 (by omega) (by rw [List.length_append]; omega)]
    rw [List.append_assoc]
  ·have hx : xpR w1 = ((⟨#[]⟩ : ByteArray), false) := by unfold xpR; rw [if_neg hw]
   have hmk : w1.length ≤ m * w1.length := Nat.le_mul_of_pos_left _ hm
   simp only [hx, Bool.not_false, cond_true, Option.bind_some]
   rw [if_neg (by omega)]
theorem ke9 {m : Nat} (hm : 1 ≤ m) : ∀ (N : Nat) {t w : List UInt8} {l : Pts}, Xo m t l w → l ≠ [] → t.length < N → N ≤ 200 → yi5 N l (m : Int) = some (xpR w)
 | 0, t, w, l, _, _, hN, _ => absurd hN (by omega)
 | N + 1, t, w, l, h, hn, hN, hN' => by
  have hlen := h.fo.len
  have e := xp_loop hm (φ := yi5 N) (N := N) (fun {t1 w1 l1} h1 h2 h3 => ke9 hm N h1 h2 h3 (by omega)) h (by omega) l 0 [] (by simp) (by omega) (by omega) (by simp)
  have e : ya2 (yj5 (yi5 N)) ((m : Int), (⟨#[]⟩ : ByteArray), l, ((l.length : Nat) : Int), (0 : Int), ()) = some (if w.length ≤ 1000 then .inr (B w, ()) else .inl ((⟨#[]⟩ : ByteArray), false, ())) := e
  show yq7 (yi5 N) l (m : Int) = _
  unfold yq7 xpR
  rw [e]
  by_cases hw : w.length ≤ 1000
  ·rw [if_pos hw, if_pos hw]; rfl
  ·rw [if_neg hw, if_neg hw]; rfl
theorem z2t {m : Nat} (hm : 1 ≤ m) {t w : List UInt8} {l : Pts} (h : Xo m t l w) (hl : l ≠ []) (h120 : t.length ≤ 120) : yo3 (B t) (m : Int) = some (xpR w) := by
 have e := ke9 hm 200 h hl (by omega) (by omega)
 have e : y6t l (m : Int) = some (xpR w) := e
 simp only [yo3, km1 h.fo hl h120, Option.bind_some, Bool.not_true, cond_false, decide_eq_false (show ¬ (m : Int) < 1 by omega), List.drop_zero, List.take_length, e]
/-! ### the other side -/
end Go.Proofs.YtogigagfgkfkhaaGreat

/- What a growing expression is, and its expansions. -/
namespace Go.Proofs.YtogigagfgkfkhaaGreat
open Go Go.Proofs.YtogigagfgkfkhaaGreat.Am
theorem B_inj {a b : List UInt8} (h : B a = B b) : a = b := by
 have := congrArg ByteArray.toList h
 rwa [y37, y37] at this
theorem xo_det {m : Nat} {t w : List UInt8} {l : Pts} (h : Xo m t l w) : ∀ {t' w' : List UInt8}, Xo m t' l w' → w = w' := by
 induction h with
 | nil => intro t' w' h'; cases h'; rfl
 | @lt c t w l hc _ ih =>
  intro t' w' h'
  generalize hL : (B [c], PT.mk []) :: l = L at h'
  cases h' with
  | nil => cases hL
  | @lt c' t1 w1 l1 _ h2 =>
   injection hL with e1 e2
   have e3 := B_inj (Prod.mk.inj e1).1
   injection e3 with e4 _
   subst e2 e4
   rw [ih h2]
  | @rp t1 t2 w1 w2 l1 l2 h1 hn h2 =>
   injection hL with e1 e2
   have e3 := B_inj (Prod.mk.inj e1).1
   cases e3
 | @rp t1 t2 w1 w2 l1 l2 _ hn _ ih1 ih2 =>
  intro t' w' h'
  generalize hL : (B [], PT.mk l1) :: l2 = L at h'
  cases h' with
  | nil => cases hL
  | @lt c' t1 w1 l1 _ h2 =>
   injection hL with e1 e2
   have e3 := B_inj (Prod.mk.inj e1).1
   cases e3
  | @rp t1' t2' w1' w2' l1' l2' h1 hn' h2 =>
   injection hL with e1 e2
   have e3 := (Prod.mk.inj e1).2
   injection e3 with e4
   subst e2 e4
   rw [ih1 h1, ih2 h2]
/-- a growing expression -/
structure Grows (a : Aut) (e : ByteArray) (n : Nat) (t : List UInt8) (l : Pts) (A : List Int) : Prop where
 v : yk4 a = true
 ha : AutIs a n
 e : e = B t
 vo : Vo n a.2.2.2 t l A
 len : t.length ≤ 120
 btw : btw n A a.2.1 a.2.2.1 = 2
 ok : GOk n A
theorem kn6 {a : Aut} (hs : yt9 a) {e : ByteArray} (h : yh9 a = some (e, true)) : ∃ n t l A, Grows a e n t l A := by
 cases hv : yk4 a with
 | false =>
  obtain ⟨_, e2⟩ := y93 hv hs
  rw [y75 e2] at h
  cases h
 | true =>
  obtain ⟨n, ha⟩ := y7x hv
  obtain ⟨L, ok, hL, e1, e2, e0, _, hX⟩ := zj8 ha hv hs
  rw [y2r ha hv hs hL e2] at h
  obtain ⟨x, hx, hp, he⟩ := z03 (Option.some.inj h)
  obtain ⟨t, l, h1, h2⟩ := hX x hx
  have h3 := (hL.el x hx).2.2
  rw [h1] at h3 he
  exact ⟨n, t, l, x.1.2, hv, ha, he.symm, h2, h3, eq_of_beq hp, (hL.el x hx).2.1⟩
section
variable {a : Aut} {e : ByteArray} {n : Nat} {t : List UInt8} {l : Pts} {A : List Int} (h : Grows a e n t l A)
include h
theorem Grows.ne : l ≠ [] := (h.vo.ok h.ha).2.1
theorem Grows.xo (m : Nat) : ∃ w, Xo m t l w := fo_xo m (h.vo.ok h.ha).1
omit h in
theorem xo_word {m : Nat} {w : List UInt8} (hw : Xo m t l w) (hl : w.length ≤ 1000) : yw2 (B w) = true := AB.ok hw.ab hl
theorem Grows.had {m : Nat} (hm : 1 ≤ m) {w : List UInt8} (hw : Xo m t l w) (hl : w.length ≤ 1000) {c : Int} (hc : CostIs a w c) : c < Nv := by
 obtain ⟨w', h1, h2⟩ := vo_run h.ha hm h.vo
 obtain rfl := xo_det hw h1
 exact (z1e h.ha h.btw hl hc).1 h2
theorem Grows.cost {m : Nat} (hm : n + 1 ≤ m) (hm2 : m ≤ 1000000) {w : List UInt8} (hw : Xo m t l w) (hl : w.length ≤ 1000) {c : Int} (hc : CostIs a w c) : ((m / (n + 1) : Nat) : Int) ≤ c := by
 obtain ⟨w', h1, h2⟩ := vo_gx h.ha hm h.vo
 obtain rfl := xo_det hw h1
 refine (z1e h.ha h.btw hl hc).2 _ h2.p1 ?_
 have : m / (n + 1) ≤ m := Nat.div_le_self _ _
 show _ ≤ (1000000 : Int)
 omega
end
end Go.Proofs.YtogigagfgkfkhaaGreat
