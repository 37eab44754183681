/- What an expansion of an expression costs: at least as often as repeated parts stand, divided by one more than the states. -/
import Derived.Test.YtfdhmmnffahhgaaGreatP69
import Derived.Test.YtfdhmmnffahhgaaGreatP71
set_option linter.unusedVariables false
set_option linter.unusedSimpArgs false
namespace Go.Proofs.YtfdhmmnffahhgaaGreat
open Go Go.Proofs.YtfdhmmnffahhgaaGreat.Am
/-- a word so many times -/
def rep (m : Nat) (w : List UInt8) : List UInt8 := (List.replicate m w).flatten
theorem yy7 (m : Nat) (w : List UInt8) : rep (m + 1) w = w ++ rep m w := by simp [rep, List.replicate_succ]
theorem kt7 (p q : Nat) (w : List UInt8) : rep (p + q) w = rep p w ++ rep q w := by
 induction p with
 | zero => simp [rep]
 | succ p ih => rw [Nat.succ_add, yy7, yy7, ih, List.append_assoc]
theorem zg8 (m : Nat) (w : List UInt8) : (rep m w).length = m * w.length := by
 induction m with
 | zero => simp [rep]
 | succ m ih => rw [yy7, List.length_append, ih, Nat.succ_mul, Nat.add_comm]
def In (n : Nat) (i : Int) : Prop := 0 ≤ i ∧ i ≤ (n : Int) - 1
def en (n : Nat) (A : List Int) (i k : Int) : Int := A.getD (i.toNat * n + k.toNat) 0
/-- costs whose parts are such costs too -/
def Dn (K : Int → Prop) : Prop := ∀ x y : Int, 0 ≤ x → 0 ≤ y → K (x + y) → K x ∧ K y
section
variable {n : Nat} {l : List Stp} (hl : ∀ s ∈ l, StepIs (n : Int) s)
include hl
omit hl in
theorem z8o {i k c : Int} {w : List UInt8} (h : Run l (rep 0 w) i k c) : i = k ∧ c = 0 := h
/-- the states that a run over a repeated word goes through -/
theorem z2q {w : List UInt8} {R : Int → Int → Prop} {K : Int → Prop} (hK : Dn K) (hR : ∀ i k c, In n i → In n k → Run l w i k c → K c → R i k) : ∀ (p : Nat) (i k c : Int), In n i → Run l (rep p w) i k c → K c →
  ∃ f : Nat → Int, f 0 = i ∧ f p = k ∧ (∀ j, j ≤ p → In n (f j)) ∧ ∀ j, j < p → R (f j) (f (j + 1))
 | 0, i, k, c, hi, h, _ => by
  obtain ⟨rfl, rfl⟩ := h
  exact ⟨fun _ => i, rfl, rfl, fun j _ => hi, fun j hj => absurd hj (by omega)⟩
 | p + 1, i, k, c, hi, h, hc => by
  rw [yy7] at h
  obtain ⟨j, c1, c2, h1, h2, rfl⟩ := run_app.1 h
  have n1 := Run.nonneg hl h1
  have n2 := Run.nonneg hl h2
  obtain ⟨k1, k2⟩ := hK _ _ n1 n2 hc
  have hj : In n j := zv8 hl h1 hi
  obtain ⟨f, f0, fp, fi, fs⟩ := z2q hK hR p j k c2 hj h2 k2
  refine ⟨fun t => if t = 0 then i else f (t - 1), rfl, ?_, fun t ht => ?_, fun t ht => ?_⟩
  ·show (if p + 1 = 0 then i else f (p + 1 - 1)) = k
   rw [if_neg (by omega)]
   exact fp
  ·show In n (if t = 0 then i else f (t - 1))
   split
   ·exact hi
   ·exact fi _ (by omega)
  ·show R (if t = 0 then i else f (t - 1)) (if t + 1 = 0 then i else f (t + 1 - 1))
   rw [if_neg (show ¬ t + 1 = 0 by omega)]
   by_cases e : t = 0
   ·subst e
    rw [if_pos rfl, show 0 + 1 - 1 = 0 from rfl, f0]
    exact hR _ _ _ hi hj h1 k1
   ·rw [if_neg e]
    have := fs (t - 1) (by omega)
    rw [show t - 1 + 1 = t + 1 - 1 by omega] at this
    exact this
end
section
variable {n : Nat} {E : List Int} (hE : gmul n E E = E) {z : Int} (hz : z ≤ 2)
include hE hz
theorem z06 {i j k : Int} (hi : In n i) (hj : In n j) (hk : In n k) (h1 : en n E i j ≤ z) (h2 : en n E j k ≤ z) : en n E i k ≤ z := by
 unfold In at hi hj hk
 have := (zg7 (A := E) (B := E) (show i.toNat < n by omega) (show k.toNat < n by omega) hz).2 ⟨j.toNat, by omega, h1, h2⟩
 rw [hE] at this
 exact this
theorem zv9 {f : Nat → Int} {p : Nat} (hf : ∀ j, j ≤ p → In n (f j)) (hs : ∀ j, j < p → en n E (f j) (f (j + 1)) ≤ z) : ∀ (d a : Nat), a + (d + 1) ≤ p → en n E (f a) (f (a + (d + 1))) ≤ z
 | 0, a, h => hs a (by omega)
 | d + 1, a, h => by
  have h1 := zv9 hf hs d a (by omega)
  have h2 := hs (a + (d + 1)) (by omega)
  exact z06 hE hz (hf _ (by omega)) (hf _ (by omega)) (hf _ (by omega)) h1 h2
/-- a long path goes through a state twice -/
theorem k0x {f : Nat → Int} {p : Nat} (hp : n + 1 ≤ p) (hf : ∀ j, j ≤ p → In n (f j)) (hs : ∀ j, j < p → en n E (f j) (f (j + 1)) ≤ z) : ∃ q, In n q ∧ en n E (f 0) q ≤ z ∧ en n E q q ≤ z ∧ en n E q (f p) ≤ z := by
 obtain ⟨a, b, h1, h2, h3⟩ := kt1 ((List.range n).map fun j : Nat => (j : Int)) f (n + 1) (fun k hk => by
  have := hf k (by omega)
  unfold In at this
  exact List.mem_map.2 ⟨(f k).toNat, List.mem_range.2 (by omega), by omega⟩) (by simp)
 refine ⟨f a, hf a (by omega), ?_, ?_, ?_⟩
 ·have := zv9 hE hz hf hs (b - 1) 0 (by omega)
  rw [show 0 + (b - 1 + 1) = b by omega, ← h3] at this
  exact this
 ·have := zv9 hE hz hf hs (b - a - 1) a (by omega)
  rw [show a + (b - a - 1 + 1) = b by omega, ← h3] at this
  exact this
 ·have := zv9 hE hz hf hs (p - a - 1) a (by omega)
  rw [show a + (p - a - 1 + 1) = p by omega] at this
  exact this
end
theorem za0 {n : Nat} {E : List Int} {i k : Int} (hi : In n i) (hk : In n k) {z : Int} (hz : z ≤ 2) : en n (y0h n E) i k ≤ z ↔ ∃ q, In n q ∧ en n E i q ≤ z ∧ ag (en n E q q) ≤ z ∧ en n E q k ≤ z := by
 unfold In at hi hk
 have h := k0r (A := E) (show i.toNat < n by omega) (show k.toNat < n by omega) (z + 1)
 constructor
 ·intro h1
  apply Classical.byContradiction
  intro hno
  have h1 : (y0h n E).getD (i.toNat * n + k.toNat) 0 ≤ z := h1
  have := h.2 ⟨by omega, fun q hq => by
   apply Classical.byContradiction
   intro hc
   refine hno ⟨(q : Int), ⟨by omega, by omega⟩, ?_, ?_, ?_⟩ <;> unfold en <;> simp only [Int.toNat_natCast] <;> omega⟩
  omega
 ·rintro ⟨q, hq, h1, h2, h3⟩
  apply Classical.byContradiction
  intro hno
  have hno : ¬ (y0h n E).getD (i.toNat * n + k.toNat) 0 ≤ z := hno
  unfold In at hq
  unfold en at h1 h2 h3
  rcases (h.1 (by omega)).2 q.toNat (by omega) with h4 | h4 | h4 <;> omega
/-- what grades tell of the runs of a word, by the least cost that many times tell -/
structure GX (n : Nat) (l : List Stp) (Q : Int) (w : List UInt8) (A : List Int) : Prop where
 ok : GOk n A
 p0 : ∀ i k c, In n i → In n k → Run l w i k c → c ≤ 0 → en n A i k ≤ 0
 p1 : ∀ i k c, In n i → In n k → Run l w i k c → c < Q → en n A i k ≤ 1
 p2 : ∀ i k c, In n i → In n k → Run l w i k c → True → en n A i k ≤ 2
 ex : ∀ i k, In n i → In n k → en n A i k ≤ 2 → ∃ c, Run l w i k c
theorem dn0 : Dn fun c => c ≤ 0 := fun x y hx hy h => by show x ≤ 0 ∧ y ≤ 0; have h : x + y ≤ 0 := h; omega
theorem dnQ (Q : Int) : Dn fun c => c < Q := fun x y hx hy h => by show x < Q ∧ y < Q; have h : x + y < Q := h; omega
theorem dnT : Dn fun _ => True := fun _ _ _ _ _ => ⟨trivial, trivial⟩
theorem gr_not2 (x : Int) : gr x ≤ 2 → gr x ≤ 1 := by
 unfold gr
 split
 ·intro _; decide
 ·split
  ·intro h; exact absurd h (by decide)
  ·intro _; decide
theorem z4q {n : Nat} {l : List Stp} (hl : ∀ s ∈ l, StepIs (n : Int) s) {b : UInt8} {M : List Int} (hM : ProdIs n l [b] M) (Q : Int) : GX n l Q [b] (M.map gr) := by
 have hG := kt4 hl hM
 have at_ : ∀ i k, In n i → In n k → (en n (M.map gr) i k ≤ 2 ↔ ∃ c, Run l [b] i k c) ∧ (en n (M.map gr) i k ≤ 0 ↔ Run l [b] i k 0) := by
  intro i k hi hk
  unfold In at hi hk
  have := hG.2 i.toNat k.toNat (by omega) (by omega)
  rw [show ((i.toNat : Nat) : Int) = i by omega, show ((k.toNat : Nat) : Int) = k by omega] at this
  exact this
 refine ⟨hG.1, fun i k c hi hk h hc => ?_, fun i k c hi hk h _ => ?_, fun i k c hi hk h _ => ((at_ i k hi hk).1).2 ⟨c, h⟩, fun i k hi hk h => ((at_ i k hi hk).1).1 h⟩
 ·have := Run.nonneg hl h
  obtain rfl : c = 0 := by omega
  exact ((at_ i k hi hk).2).2 h
 ·have h2 := ((at_ i k hi hk).1).2 ⟨c, h⟩
  unfold In at hi hk
  unfold en at h2 ⊢
  rw [map_at (by rw [hM.1.1]; exact yq3 (by omega) (by omega))] at h2 ⊢
  exact gr_not2 _ h2
section
variable {n : Nat} {l : List Stp} (hl : ∀ s ∈ l, StepIs (n : Int) s) {Q : Int}
include hl
theorem gx_mul {w v : List UInt8} {A B : List Int} (hA : GX n l Q w A) (hB : GX n l Q v B) : GX n l Q (w ++ v) (gmul n A B) := by
 have up : ∀ {K : Int → Prop} {z : Int}, z ≤ 2 → Dn K → (∀ i k c, In n i → In n k → Run l w i k c → K c → en n A i k ≤ z) → (∀ i k c, In n i → In n k → Run l v i k c → K c → en n B i k ≤ z) →
   ∀ i k c, In n i → In n k → Run l (w ++ v) i k c → K c → en n (gmul n A B) i k ≤ z := by
  intro K z hz hK h1 h2 i k c hi hk h hc
  obtain ⟨j, c1, c2, r1, r2, rfl⟩ := run_app.1 h
  obtain ⟨k1, k2⟩ := hK _ _ (Run.nonneg hl r1) (Run.nonneg hl r2) hc
  have hj : In n j := zv8 hl r1 hi
  have e1 := h1 _ _ _ hi hj r1 k1
  have e2 := h2 _ _ _ hj hk r2 k2
  unfold In at hi hj hk
  exact (zg7 (show i.toNat < n by omega) (show k.toNat < n by omega) hz).2 ⟨j.toNat, by omega, e1, e2⟩
 refine ⟨yw4 hA.ok hB.ok, up (by omega) dn0 hA.p0 hB.p0, up (by omega) (dnQ Q) hA.p1 hB.p1, up (by omega) dnT hA.p2 hB.p2, fun i k hi hk h => ?_⟩
 unfold In at hi hk
 obtain ⟨j, hj, h1, h2⟩ := (zg7 (show i.toNat < n by omega) (show k.toNat < n by omega) (by omega)).1 h
 obtain ⟨c1, r1⟩ := hA.ex i (j : Int) hi ⟨by omega, by omega⟩ (by unfold en; rw [Int.toNat_natCast]; exact h1)
 obtain ⟨c2, r2⟩ := hB.ex (j : Int) k ⟨by omega, by omega⟩ hk (by unfold en; rw [Int.toNat_natCast]; exact h2)
 exact ⟨_, run_app.2 ⟨_, c1, c2, r1, r2, rfl⟩⟩
theorem z61 {w : List UInt8} {E : List Int} (hE : gmul n E E = E) {K : Int → Prop} {z : Int} (hz : z ≤ 2) (hK : Dn K) (h1 : ∀ i k c, In n i → In n k → Run l w i k c → K c → en n E i k ≤ z) {p : Nat} (hp : 0 < p) {i k c : Int} (hi : In n i) (hr : Run l (rep p w) i k c) (hc : K c) : en n E i k ≤ z := by
 obtain ⟨f, f0, fp, fi, fs⟩ := z2q hl hK h1 p i k c hi hr hc
 have := zv9 hE hz fi fs (p - 1) 0 (by omega)
 rw [show 0 + (p - 1 + 1) = p by omega, f0, fp] at this
 exact this
theorem z62 {w : List UInt8} {E : List Int} (hE : gmul n E E = E) {K : Int → Prop} {z : Int} (hz : z ≤ 2) (hK : Dn K) (h1 : ∀ i k c, In n i → In n k → Run l w i k c → K c → en n E i k ≤ z) {p : Nat} (hp : n + 1 ≤ p) {i k c : Int} (hi : In n i) (hr : Run l (rep p w) i k c) (hc : K c) :
  ∃ q, In n q ∧ en n E i q ≤ z ∧ en n E q q ≤ z ∧ en n E q k ≤ z := by
 obtain ⟨f, f0, fp, fi, fs⟩ := z2q hl hK h1 p i k c hi hr hc
 have := k0x hE hz hp fi fs
 rw [f0, fp] at this
 exact this
/-- a run that costs less than there are long y3d goes through one for nothing -/
theorem z8p {w : List UInt8} {E : List Int} (hE : gmul n E E = E) (h : GX n l Q w E) : ∀ (q : Nat) (i k c : Int), In n i → In n k → Run l (rep (q * (n + 1)) w) i k c → c < (q : Int) → c < Q → ∃ x, In n x ∧ en n E i x ≤ 1 ∧ en n E x x ≤ 0 ∧ en n E x k ≤ 1
 | 0, i, k, c, hi, hk, hr, hc, _ => by
  have := Run.nonneg hl hr
  omega
 | q + 1, i, k, c, hi, hk, hr, hc, hQ => by
  rw [Nat.succ_mul, Nat.add_comm, kt7] at hr
  obtain ⟨j, c1, c2, r1, r2, rfl⟩ := run_app.1 hr
  have n1 := Run.nonneg hl r1
  have n2 := Run.nonneg hl r2
  have hj : In n j := zv8 hl r1 hi
  have rest : ∀ {x : Int}, In n x → en n E x j ≤ 1 → en n E x k ≤ 1 := by
   intro x hx h1
   rcases Nat.eq_zero_or_pos (q * (n + 1)) with h0 | h0
   ·rw [h0] at r2
    obtain ⟨rfl, _⟩ := z8o r2
    exact h1
   ·exact z06 hE (by omega) hx hj hk h1 (z61 hl hE (by omega) (dnQ Q) h.p1 h0 hj r2 (by show c2 < Q; omega))
  by_cases e : c1 = 0
  ·subst e
   obtain ⟨x, hx, h1, h2, h3⟩ := z62 hl hE (by omega) dn0 h.p0 (Nat.le_refl _) hi r1 (Int.le_refl 0)
   exact ⟨x, hx, by omega, h2, rest hx (by omega)⟩
  ·obtain ⟨x, hx, h1, h2, h3⟩ := z8p hE h q j k c2 hj hk r2 (by omega) (by omega)
   have h4 := z61 hl hE (show (1 : Int) ≤ 2 by omega) (dnQ Q) h.p1 (Nat.succ_pos n) hi r1 (by show c1 < Q; omega)
   exact ⟨x, hx, z06 hE (by omega) hi hj hx h4 h1, h2, h3⟩
omit hl in
theorem kt8 {w : List UInt8} {E : List Int} (hE : gmul n E E = E) (h : GX n l Q w E) : ∀ m : Nat, 1 ≤ m → ∀ i k, In n i → In n k → en n E i k ≤ 2 → ∃ c, Run l (rep m w) i k c
 | 0, hm, _, _, _, _, _ => absurd hm (by omega)
 | m + 1, _, i, k, hi, hk, h1 => by
  rcases Nat.eq_zero_or_pos m with h0 | h0
  ·subst h0
   obtain ⟨c, hc⟩ := h.ex i k hi hk h1
   refine ⟨c, ?_⟩
   rw [yy7, show rep 0 w = [] from rfl, List.append_nil]
   exact hc
  ·have hi' := hi
   have hk' := hk
   unfold In at hi' hk'
   have h2 : (gmul n E E).getD (i.toNat * n + k.toNat) 0 ≤ 2 := by rw [hE]; exact h1
   obtain ⟨j, hj, h3, h4⟩ := (zg7 (show i.toNat < n by omega) (show k.toNat < n by omega) (by omega)).1 h2
   have hj' : In n (j : Int) := ⟨by omega, by omega⟩
   obtain ⟨c1, r1⟩ := h.ex i (j : Int) hi hj' (by unfold en; rw [Int.toNat_natCast]; exact h3)
   obtain ⟨c2, r2⟩ := kt8 hE h m h0 (j : Int) k hj' hk (by unfold en; rw [Int.toNat_natCast]; exact h4)
   rw [yy7]
   exact ⟨_, run_app.2 ⟨_, c1, c2, r1, r2, rfl⟩⟩
theorem gx_stab {w : List UInt8} {E : List Int} (hE : gmul n E E = E) (h : GX n l Q w E) {m : Nat} (hm : n + 1 ≤ m) (hQ : Q = ((m / (n + 1) : Nat) : Int)) : GX n l Q (rep m w) (y0h n E) := by
 refine ⟨y4k h.ok, fun i k c hi hk hr hc => ?_, fun i k c hi hk hr hc => ?_, fun i k c hi hk hr _ => ?_, fun i k hi hk h1 => ?_⟩
 ·obtain ⟨q, hq, h1, h2, h3⟩ := z62 hl hE (by omega) dn0 h.p0 hm hi hr hc
  exact (za0 hi hk (by omega)).2 ⟨q, hq, h1, by unfold ag; split <;> omega, h3⟩
 ·have hmq : m = m / (n + 1) * (n + 1) + m % (n + 1) := by rw [Nat.mul_comm]; exact (Nat.div_add_mod m (n + 1)).symm
  rw [hmq, kt7] at hr
  obtain ⟨j, c1, c2, r1, r2, rfl⟩ := run_app.1 hr
  have n1 := Run.nonneg hl r1
  have n2 := Run.nonneg hl r2
  have hj : In n j := zv8 hl r1 hi
  obtain ⟨x, hx, h1, h2, h3⟩ := z8p hl hE h (m / (n + 1)) i j c1 hi hj r1 (by rw [← hQ]; omega) (by omega)
  refine (za0 hi hk (by omega)).2 ⟨x, hx, h1, by unfold ag; split <;> omega, ?_⟩
  rcases Nat.eq_zero_or_pos (m % (n + 1)) with h0 | h0
  ·rw [h0] at r2
   obtain ⟨rfl, _⟩ := z8o r2
   exact h3
  ·exact z06 hE (by omega) hx hj hk h3 (z61 hl hE (by omega) (dnQ Q) h.p1 h0 hj r2 (by show c2 < Q; omega))
 ·obtain ⟨q, hq, h1, h2, h3⟩ := z62 hl hE (by omega) dnT h.p2 hm hi hr trivial
  exact (za0 hi hk (by omega)).2 ⟨q, hq, h1, by unfold ag; split <;> omega, h3⟩
 ·obtain ⟨q, hq, h2, h3, h4⟩ := (za0 hi hk (by omega)).1 h1
  have h5 := z06 hE (by omega) hi hq hk h2 h4
  exact kt8 hE h m (by omega) i k hi hk h5
end
end Go.Proofs.YtfdhmmnffahhgaaGreat
