import Derived.Test.YtbndfclpclifbaaGreatDoorP0
import Derived.Test.YtbndfclpclifbaaGreatDoorP88
import Derived.Test.YtbndfclpclifbaaGreatDoorP90
import Derived.Test.YtbndfclpclifbaaGreatDoorP84
set_option linter.unusedVariables false
set_option linter.unusedSimpArgs false
/- Texts that are put together and split again. -/
namespace Go.Proofs.YtbndfclpclifbaaGreatDoor
open Go Go.Proofs.YtbndfclpclifbaaGreatDoor.Am
theorem idx_app {c : UInt8} : ∀ {x : List UInt8} (r : List UInt8), c ∉ x → Lib.indexByte (x ++ c :: r) c = (x.length : Int)
 | [], r, _ => by simp [Lib.indexByte]
 | b :: x, r, h => by
  have hb : (b == c) = false := by
   rw [beq_eq_false_iff_ne]
   rintro rfl
   exact h List.mem_cons_self
  have ih := idx_app (x := x) r fun hm => h (List.mem_cons_of_mem _ hm)
  show Lib.indexByte (b :: (x ++ c :: r)) c = _
  rw [Lib.indexByte, hb, ih]
  have : ((x.length : Int) == -1) = false := by rw [beq_eq_false_iff_ne]; omega
  simp [this]
theorem join_two (x y : List UInt8) (l : List (List UInt8)) (c : UInt8) : Lib.join (x :: y :: l) [c] = x ++ c :: Lib.join (y :: l) [c] := by
 simp [Lib.join, List.intercalate]
theorem split_join {c : UInt8} : ∀ {xs : List (List UInt8)}, xs ≠ [] → (∀ x ∈ xs, c ∉ x) → Lib.splitK [c] 0 (xs.length - 1) (Lib.join xs [c]) = xs
 | [], h, _ => absurd rfl h
 | [x], _, _ => by simp [Lib.splitK, Lib.join_one]
 | x :: y :: l, _, h => by
  have ih := split_join (c := c) (xs := y :: l) (by simp) fun z hz => h z (List.mem_cons_of_mem _ hz)
  have hx := h x List.mem_cons_self
  have hix : Lib.index (Lib.join (x :: y :: l) [c]) [c] = (x.length : Int) := by rw [Lib.index_one, join_two, idx_app _ hx]
  have hne : ((x.length : Int) == -1) = false := by rw [beq_eq_false_iff_ne]; omega
  show Lib.splitK [c] 0 ((l.length) + 1) _ = _
  rw [Lib.splitK, hix, hne]
  simp only [Bool.false_eq_true, if_false, Int.toNat_natCast, Nat.add_zero, List.length_singleton]
  have e1 : (Lib.join (x :: y :: l) [c]).take x.length = x := by rw [join_two]; simp
  have e2 : (Lib.join (x :: y :: l) [c]).drop (x.length + 1) = Lib.join (y :: l) [c] := by
   rw [join_two, ← List.drop_drop]
   simp
  rw [e1, e2]
  exact congrArg (x :: ·) ih
theorem count_join {c : UInt8} : ∀ {xs : List (List UInt8)}, (∀ x ∈ xs, c ∉ x) → Lib.count (Lib.join xs [c]) [c] = xs.length - 1
 | [], _ => by rw [Lib.count_one]; rfl
 | [x], h => by
  rw [Lib.count_one, Lib.join_one]
  exact List.count_eq_zero.2 (h x List.mem_cons_self)
 | x :: y :: l, h => by
  have ih := count_join (c := c) (xs := y :: l) fun z hz => h z (List.mem_cons_of_mem _ hz)
  rw [Lib.count_one] at ih ⊢
  rw [join_two, List.count_append, List.count_cons_self, ih, List.count_eq_zero.2 (h x List.mem_cons_self)]
  simp only [List.length_cons]
  omega
theorem cut_at {c : UInt8} {x : List UInt8} (r : List UInt8) (h : c ∉ x) : Lib.cut (x ++ c :: r) [c] = (x, r, true) := by
 have hix : Lib.index (x ++ c :: r) [c] = (x.length : Int) := by rw [Lib.index_one, idx_app _ h]
 unfold Lib.cut
 rw [hix, if_pos (by omega)]
 simp only [Int.toNat_natCast, List.length_singleton]
 rw [← List.drop_drop]
 simp
theorem fieldsGo_word : ∀ {x cur r : List UInt8}, (∀ b ∈ x, Lib.isSp b = false) → Lib.fieldsGo cur (x ++ r) = Lib.fieldsGo (cur ++ x) r
 | [], cur, r, _ => by simp
 | b :: x, cur, r, h => by
  show Lib.fieldsGo cur (b :: (x ++ r)) = _
  rw [Lib.fieldsGo, h b List.mem_cons_self]
  simp only [Bool.false_eq_true, if_false]
  rw [fieldsGo_word (fun z hz => h z (List.mem_cons_of_mem _ hz))]
  simp
/-- words with single spaces between them -/
theorem fields_join : ∀ {xs : List (List UInt8)}, (∀ x ∈ xs, x ≠ [] ∧ ∀ b ∈ x, Lib.isSp b = false) → Lib.fields (Lib.join xs [32]) = xs
 | [], _ => rfl
 | [x], h => by
  obtain ⟨h1, h2⟩ := h x List.mem_cons_self
  rw [Lib.join_one]
  unfold Lib.fields
  have := fieldsGo_word (x := x) (cur := []) (r := []) h2
  rw [List.append_nil, List.nil_append] at this
  rw [this, Lib.fieldsGo]
  simp [h1]
 | x :: y :: l, h => by
  obtain ⟨h1, h2⟩ := h x List.mem_cons_self
  have ih := fields_join (xs := y :: l) fun z hz => h z (List.mem_cons_of_mem _ hz)
  rw [join_two]
  unfold Lib.fields at ih ⊢
  rw [fieldsGo_word h2, List.nil_append, Lib.fieldsGo, show Lib.isSp 32 = true from rfl]
  simp only [if_true]
  have : x.isEmpty = false := by cases x with | nil => exact absurd rfl h1 | cons _ _ => rfl
  rw [this, ih]
  simp
end Go.Proofs.YtbndfclpclifbaaGreatDoor

/- What is told of texts that are split, cut and read, at texts that were put together. -/
namespace Go.Proofs.YtbndfclpclifbaaGreatDoor
open Go Go.Proofs.YtbndfclpclifbaaGreatDoor.Am
theorem data_inj {x y : ByteArray} (h : x.data.toList = y.data.toList) : x = y := by
 obtain ⟨⟨x⟩⟩ := x
 obtain ⟨⟨y⟩⟩ := y
 exact congrArg (fun l : List UInt8 => (⟨⟨l⟩⟩ : ByteArray)) h
theorem map_inj {α β : Type} {f : α → β} (hf : ∀ a b, f a = f b → a = b) : ∀ {l m : List α}, l.map f = m.map f → l = m
 | [], [], _ => rfl
 | [], _ :: _, h => by cases h
 | _ :: _, [], h => by cases h
 | a :: l, b :: m, h => by
  obtain ⟨h1, h2⟩ := List.cons.inj h
  rw [hf a b h1, map_inj hf h2]
theorem splitS_is {c : UInt8} {xs : List ByteArray} (hne : xs ≠ []) (h : ∀ x ∈ xs, c ∉ x.data.toList) (hs : (Lib.join (xs.map (·.data.toList)) [c]).length < 4294967281) :
  splitS ⟨(Lib.join (xs.map (·.data.toList)) [c]).toArray⟩ ⟨#[c]⟩ = some xs := by
 unfold splitS
 rw [if_pos ⟨by simpa [ByteArray.size] using hs, by simp [ByteArray.size]⟩]
 refine congrArg some (map_inj (f := fun x : ByteArray => x.data.toList) (fun a b => data_inj) ?_)
 rw [Lib.splitB_data]
 have h' : ∀ x ∈ xs.map (·.data.toList), c ∉ x := by
  intro x hx
  obtain ⟨y, hy, rfl⟩ := List.mem_map.1 hx
  exact h y hy
 have hc : Lib.countB ⟨(Lib.join (xs.map (·.data.toList)) [c]).toArray⟩ ⟨#[c]⟩ = xs.length - 1 := by
  show Lib.count (Lib.join (xs.map (·.data.toList)) [c]) [c] = _
  rw [count_join h', List.length_map]
 rw [hc]
 have := split_join (c := c) (xs := xs.map (·.data.toList)) (by simpa using hne) h'
 rw [List.length_map] at this
 exact this
theorem cutS_is {c : UInt8} {x r : List UInt8} (h : c ∉ x) (hs : (x ++ c :: r).length < 4294967281) : cutS ⟨(x ++ c :: r).toArray⟩ ⟨#[c]⟩ = some (⟨x.toArray⟩, ⟨r.toArray⟩, true) := by
 unfold cutS
 rw [if_pos (by simpa [ByteArray.size] using hs)]
 show some ((⟨(Lib.cut (x ++ c :: r) [c]).1.toArray⟩ : ByteArray), (⟨(Lib.cut (x ++ c :: r) [c]).2.1.toArray⟩ : ByteArray), (Lib.cut (x ++ c :: r) [c]).2.2) = _
 rw [cut_at r h]
theorem fieldsS_is {xs : List ByteArray} (h : ∀ x ∈ xs, x.data.toList ≠ [] ∧ ∀ b ∈ x.data.toList, Lib.isSp b = false ∧ b.toNat < 128) (hs : (Lib.join (xs.map (·.data.toList)) [32]).length < 4294967281) :
  fieldsS ⟨(Lib.join (xs.map (·.data.toList)) [32]).toArray⟩ = some xs := by
 have h7 : ∀ {l : List (List UInt8)}, (∀ x ∈ l, ∀ b ∈ x, b.toNat < 128) → ∀ b ∈ Lib.join l [32], b.toNat < 128 := by
  intro l
  induction l with
  | nil => intro _ b hb; cases hb
  | cons x l ih =>
   intro hl b hb
   cases l with
   | nil => rw [Lib.join_one] at hb; exact hl x List.mem_cons_self b hb
   | cons y l =>
    rw [join_two] at hb
    rcases List.mem_append.1 hb with hb | hb
    ·exact hl x List.mem_cons_self b hb
    ·rcases List.mem_cons.1 hb with rfl | hb
     ·decide
     ·exact ih (fun z hz => hl z (List.mem_cons_of_mem _ hz)) b hb
 unfold fieldsS
 rw [if_pos ⟨by simpa [ByteArray.size] using hs, h7 fun x hx b hb => by
  obtain ⟨y, hy, rfl⟩ := List.mem_map.1 hx
  exact ((h y hy).2 b hb).2⟩]
 refine congrArg some ?_
 show (Lib.fields (Lib.join (xs.map (·.data.toList)) [32])).map _ = xs
 rw [fields_join fun x hx => by
  obtain ⟨y, hy, rfl⟩ := List.mem_map.1 hx
  exact ⟨(h y hy).1, fun b hb => ((h y hy).2 b hb).1⟩]
 rw [List.map_map]
 exact (List.map_congr_left fun x _ => data_inj rfl).trans (List.map_id xs)
theorem atoi_digit : ∀ d : Nat, d ≤ 9 → atoiS ⟨#[UInt8.ofNat (48 + d)]⟩ = some ((d : Int), true) := by decide +kernel
theorem itoa_digit : ∀ d : Nat, d ≤ 9 → Lib.itoa (d : Int) = [UInt8.ofNat (48 + d)] := by decide +kernel
end Go.Proofs.YtbndfclpclifbaaGreatDoor

/- Texts that are joined, and the text of an automaton. -/
namespace Go.Proofs.YtbndfclpclifbaaGreatDoor
open Go Go.Proofs.YtbndfclpclifbaaGreatDoor.Am
theorem BL_toList (l : List UInt8) : (BL l).toList = l := toList_bytes _
/-! ### joined texts -/
theorem join_len {c : UInt8} {B : Nat} : ∀ {L : List (List UInt8)}, (∀ x ∈ L, x.length ≤ B) → (Lib.join L [c]).length ≤ (B + 1) * L.length
 | [], _ => by simp [Lib.join_nil]
 | [x], h => by
  have := h x List.mem_cons_self
  rw [Lib.join_one]
  simp
  omega
 | x :: y :: l, h => by
  have ih := join_len (c := c) (L := y :: l) fun z hz => h z (List.mem_cons_of_mem _ hz)
  have := h x List.mem_cons_self
  rw [join_two, List.length_append, List.length_cons]
  have e : (B + 1) * (x :: y :: l).length = (B + 1) * (y :: l).length + (B + 1) := by rw [List.length_cons, Nat.mul_succ]
  omega
theorem mem_join {c b : UInt8} : ∀ {L : List (List UInt8)}, b ∈ Lib.join L [c] → b = c ∨ ∃ x ∈ L, b ∈ x
 | [], h => by rw [Lib.join_nil] at h; cases h
 | [x], h => by rw [Lib.join_one] at h; exact .inr ⟨x, List.mem_cons_self, h⟩
 | x :: y :: l, h => by
  rw [join_two] at h
  rcases List.mem_append.1 h with h | h
  ·exact .inr ⟨x, List.mem_cons_self, h⟩
  ·rcases List.mem_cons.1 h with h | h
   ·exact .inl h
   ·rcases mem_join h with h | ⟨z, h1, h2⟩
    ·exact .inl h
    ·exact .inr ⟨z, List.mem_cons_of_mem _ h1, h2⟩
theorem joinS_is {L : List (List UInt8)} {c : UInt8} (h : L.length ≤ 1048576) (h2 : (Lib.join L [c]).length ≤ 140737488355328) : strings_Join (L.map BL) (⟨#[c]⟩ : ByteArray) = some (BL (Lib.join L [c])) := by
 show joinS _ _ = _
 have e : (L.map BL).map (·.data.toList) = L := by
  rw [List.map_map]
  exact (List.map_congr_left fun x _ => rfl).trans (List.map_id L)
 unfold joinS
 rw [e, if_pos ⟨by rw [List.length_map]; omega, h2⟩, BL_mk]
theorem splitL_is {c : UInt8} {L : List (List UInt8)} (hne : L ≠ []) (h : ∀ x ∈ L, c ∉ x) (hs : (Lib.join L [c]).length < 4294967281) : strings_Split (BL (Lib.join L [c])) ⟨#[c]⟩ = some (L.map BL) := by
 have e : (L.map BL).map (·.data.toList) = L := by
  rw [List.map_map]
  exact (List.map_congr_left fun x _ => rfl).trans (List.map_id L)
 have := splitS_is (c := c) (xs := L.map BL) (by simpa using hne) (fun x hx => by obtain ⟨y, hy, rfl⟩ := List.mem_map.1 hx; exact h y hy) (by rw [e]; exact hs)
 rw [e, BL_mk] at this
 exact this
theorem cutL_is {c : UInt8} {x r : List UInt8} (h : c ∉ x) (hs : (x ++ c :: r).length < 4294967281) : strings_Cut (BL (x ++ c :: r)) ⟨#[c]⟩ = some (BL x, BL r, true) := by
 have := cutS_is (r := r) h hs
 rw [BL_mk, BL_mk, BL_mk] at this
 exact this
theorem fieldsL_is {L : List (List UInt8)} (h : ∀ x ∈ L, x ≠ [] ∧ ∀ b ∈ x, Lib.isSp b = false ∧ b.toNat < 128) (hs : (Lib.join L [32]).length < 4294967281) : strings_Fields (BL (Lib.join L [32])) = some (L.map BL) := by
 have e : (L.map BL).map (·.data.toList) = L := by
  rw [List.map_map]
  exact (List.map_congr_left fun x _ => rfl).trans (List.map_id L)
 have := fieldsS_is (xs := L.map BL) (fun x hx => by obtain ⟨y, hy, rfl⟩ := List.mem_map.1 hx; exact h y hy) (by rw [e]; exact hs)
 rw [e, BL_mk] at this
 exact this
/-! ### digits -/
def dg (n : Int) : UInt8 := UInt8.ofNat (48 + n.toNat)
theorem itoa_dg {n : Int} (h0 : 0 ≤ n) (h9 : n ≤ 9) : Lib.itoa n = [dg n] := by
 have := itoa_digit n.toNat (by omega)
 rw [show ((n.toNat : Nat) : Int) = n by omega] at this
 exact this
theorem atoi_dg {n : Int} (h0 : 0 ≤ n) (h9 : n ≤ 9) : strconv_Atoi (BL [dg n]) = some (n, true) := by
 have := atoi_digit n.toNat (by omega)
 rw [show ((n.toNat : Nat) : Int) = n by omega] at this
 exact this
theorem Itoa_dg {n : Int} (h0 : 0 ≤ n) (h9 : n ≤ 9) : strconv_Itoa n = some (BL [dg n]) := by
 show itoaS n = _
 unfold itoaS
 rw [if_pos ⟨by omega, by omega⟩, itoa_dg h0 h9]
 rfl
theorem dg_nat {n : Int} (h0 : 0 ≤ n) (h9 : n ≤ 9) : (dg n).toNat = 48 + n.toNat := by
 unfold dg
 rw [UInt8.toNat_ofNat']
 omega
theorem dg_ne {n : Int} (h0 : 0 ≤ n) (h9 : n ≤ 9) {b : UInt8} (hb : b.toNat < 48 ∨ 57 < b.toNat) : dg n ≠ b := by
 rintro rfl
 rw [dg_nat h0 h9] at hb
 omega
/-! ### the text of an automaton -/
def stepT (s : Stp) : List UInt8 := dg s.1 :: (s.2.1.data.toList ++ [dg s.2.2.1, 58, dg s.2.2.2])
def autT (n : Int) (S F : List Int) (l : List Stp) : List UInt8 := Lib.join [[dg n], Lib.join (S.map fun q => [dg q]) [32], Lib.join (F.map fun q => [dg q]) [32], Lib.join (l.map stepT) [32]] [59]
theorem letterOf {n : Int} {s : Stp} (h : StepIs n s) : s.2.1.data.toList = [97] ∨ s.2.1.data.toList = [98] := by
 rcases h.l with h | h <;> simp only [toList_bytes] at h
 ·exact .inl h
 ·exact .inr h
theorem stepT_len {n : Int} {s : Stp} (h : StepIs n s) : (stepT s).length = 5 := by
 unfold stepT
 rcases letterOf h with e | e <;> rw [e] <;> rfl
theorem numsT_dg {S : List Int} (h : ∀ q ∈ S, 0 ≤ q ∧ q ≤ 9) : numsT S = Lib.join (S.map fun q => [dg q]) [32] := by
 unfold numsT
 rw [List.map_congr_left fun q hq => itoa_dg (h q hq).1 (h q hq).2]
theorem fmtA_loop {n : Nat} (h4 : n ≤ 4) {S F : List Int} {l : List Stp} (hl : ∀ s ∈ l, StepIs (n : Int) s) (h24 : l.length ≤ 24) :
  loopF impl_FormatAutomaton_l5 (((n : Int), S, F, l, ()), [], l, (l.length : Int), (0 : Int), ()) = some (((n : Int), S, F, l, ()), l.map fun s => BL (stepT s), ()) := by
 obtain ⟨r, g1, g2⟩ := loop_inv (f := impl_FormatAutomaton_l5) l.length (fun i (o : List ByteArray) => (((n : Int), S, F, l, ()), o, l, (l.length : Int), (i : Int), ())) (fun i _ => (l.take (i + 1)).map fun s => BL (stepT s)) (fun o => (((n : Int), S, F, l, ()), o, ())) (fun i o => o = (l.take i).map fun s => BL (stepT s))
  (fun i o hi ho => rfl)
  (fun i o hi ho => by
   have hs := hl _ (List.getElem_mem hi)
   have hmem : l.getD i stp0 = l[i] := by rw [List.getD_eq_getElem?_getD, List.getElem?_eq_getElem hi]; rfl
   have hol : o.length ≤ 24 := by rw [ho, List.length_map, List.length_take]; omega
   rw [take_snoc hi, List.map_append, ← ho]
   have e0 := hs.f0
   have e1 := hs.f1
   have e2 := hs.t0
   have e3 := hs.t1
   have e4 := hs.c0
   have e5 := hs.c1
   have eL : l[i].2.1 = BL l[i].2.1.data.toList := rfl
   have eL5 : l[i].2.1.data.toList.length = 1 := by rcases letterOf hs with e | e <;> rw [e] <;> rfl
   generalize l[i].2.1.data.toList = L at eL eL5 hs
   simp only [impl_FormatAutomaton_l5, lt_t hi, cond_true, if_pos (in_t hi), Int.toNat_natCast, hmem, Itoa_dg e0 (show l[i].1 ≤ 9 by omega), Itoa_dg e2 (show l[i].2.2.1 ≤ 9 by omega), Itoa_dg e4 (show l[i].2.2.2 ≤ 9 by omega), Option.bind_some, eL, show (⟨#[(58 : UInt8)]⟩ : ByteArray) = BL [58] from rfl, BL_app, BL_size, w64_succ hi (show l.length ≤ 9223372036854775807 by omega), List.drop_zero, Nat.zero_add, show ∀ z : ByteArray, List.take 1 [z] = [z] from fun _ => rfl]
   rw [if_pos (by simp; omega), if_pos (by simp; omega), if_pos (by simp; omega), if_pos (by simp; omega), if_pos ⟨trivial, by simp; omega⟩, List.take_of_length_le (by simp)]
   have es : stepT l[i] = [dg l[i].1] ++ L ++ [dg l[i].2.2.1] ++ [58] ++ [dg l[i].2.2.2] := by
    unfold stepT
    rw [show l[i].2.1.data.toList = L from by rw [eL]; rfl]
    simp
   rw [← es]
   rfl)
  (fun o ho => by simp only [impl_FormatAutomaton_l5, lt_f, cond_false, List.drop_zero, List.take_length])
  [] rfl
 have g1 : loopF impl_FormatAutomaton_l5 (((n : Int), S, F, l, ()), [], l, (l.length : Int), (0 : Int), ()) = _ := g1
 rw [g1, g2, List.take_length]
theorem marks_len {n : Nat} (h4 : n ≤ 4) {l : List Int} (h : marksOk (n : Int) l = true) : l.length ≤ 4 := by
 refine Nat.le_of_not_lt fun hl => ?_
 have h0 := marks_mem h
 have key : ∀ i, i < l.length → (i : Int) ≤ l.getD i 0 := by
  intro i
  induction i with
  | zero => intro hi; rw [getD_g 0 hi]; exact (h0 _ (List.getElem_mem hi)).1
  | succ i ih =>
   intro hi
   have h1 := ih (by omega)
   have h2 := marks_lt h 0 i (by omega)
   rw [Nat.add_zero] at h2
   omega
 have h1 := key 4 hl
 have h2 := h0 (l.getD 4 0) (by rw [getD_g 0 hl]; exact List.getElem_mem hl)
 omega
/-- what is valid, in parts -/
structure AutV (n : Nat) (S F : List Int) (l : List Stp) : Prop where
 n1 : 1 ≤ n
 n4 : n ≤ 4
 hS : ∀ q ∈ S, 0 ≤ q ∧ q ≤ (n : Int) - 1
 hF : ∀ q ∈ F, 0 ≤ q ∧ q ≤ (n : Int) - 1
 s4 : S.length ≤ 4
 f4 : F.length ≤ 4
 l24 : l.length ≤ 24
 st : ∀ s ∈ l, StepIs (n : Int) s
 ok : autOk ((n : Int), S, F, l) = true
theorem autV_of {a : Aut} (h : autOk a = true) : ∃ n S F l, a = (((n : Nat) : Int), S, F, l) ∧ AutV n S F l := by
 obtain ⟨n, ha⟩ := autOk_is h
 obtain ⟨x, S, F, l⟩ := a
 have hx : x = (n : Int) := ha.st
 subst hx
 obtain ⟨q1, q2, q3, q4, q5⟩ := autOk_parts h
 exact ⟨n, S, F, l, rfl, ha.n1, ha.n4, ha.S, ha.F, marks_len ha.n4 q1, marks_len ha.n4 q2, q3, ha.steps, h⟩
theorem autT_short {n : Nat} {S F : List Int} {l : List Stp} (h : AutV n S F l) : (autT n S F l).length ≤ 200 := by
 have h1 := join_len (c := 32) (B := 1) (L := S.map fun q => [dg q]) (fun x hx => by obtain ⟨q, _, rfl⟩ := List.mem_map.1 hx; exact Nat.le_refl _)
 have h2 := join_len (c := 32) (B := 1) (L := F.map fun q => [dg q]) (fun x hx => by obtain ⟨q, _, rfl⟩ := List.mem_map.1 hx; exact Nat.le_refl _)
 have h3 := join_len (c := 32) (B := 5) (L := l.map stepT) (fun x hx => by obtain ⟨s, hs, rfl⟩ := List.mem_map.1 hx; exact Nat.le_of_eq (stepT_len (h.st s hs)))
 rw [List.length_map] at h1 h2 h3
 have := h.s4
 have := h.f4
 have := h.l24
 unfold autT
 rw [join_two, join_two, join_two, Lib.join_one]
 simp only [List.length_append, List.length_cons, List.length_nil]
 omega
theorem fmtA_is {n : Nat} {S F : List Int} {l : List Stp} (h : AutV n S F l) : impl_FormatAutomaton ((n : Int), S, F, l) = some (BL (autT n S F l)) := by
 have n1 := h.n1
 have n4 := h.n4
 have s4 := h.s4
 have f4 := h.f4
 have l24 := h.l24
 have hV := impl_AutomatonValid_is ((n : Int), S, F, l) (show S.length ≤ _ by omega) (show F.length ≤ _ by omega)
 rw [h.ok] at hV
 have hS : ∀ q ∈ S, 0 ≤ q ∧ q ≤ 9 := fun q hq => ⟨(h.hS q hq).1, by have := (h.hS q hq).2; omega⟩
 have hF : ∀ q ∈ F, 0 ≤ q ∧ q ≤ 9 := fun q hq => ⟨(h.hF q hq).1, by have := (h.hF q hq).2; omega⟩
 have e1 := impl_nums (xs := S) (fun q hq => by have := hS q hq; omega) (by omega)
 have e2 := impl_nums (xs := F) (fun q hq => by have := hF q hq; omega) (by omega)
 rw [numsT_dg hS] at e1
 rw [numsT_dg hF] at e2
 have h3 := join_len (c := 32) (B := 5) (L := l.map stepT) (fun x hx => by obtain ⟨s, hs, rfl⟩ := List.mem_map.1 hx; exact Nat.le_of_eq (stepT_len (h.st s hs)))
 rw [List.length_map] at h3
 have e3 := joinS_is (L := l.map stepT) (c := 32) (by rw [List.length_map]; omega) (by omega)
 rw [List.map_map] at e3
 have e3 : strings_Join (l.map fun s => BL (stepT s)) (⟨#[(32 : UInt8)]⟩ : ByteArray) = _ := e3
 have e4 := joinS_is (L := [[dg (n : Int)], Lib.join (S.map fun q => [dg q]) [32], Lib.join (F.map fun q => [dg q]) [32], Lib.join (l.map stepT) [32]]) (c := 59) (by simp) (by have := autT_short h; unfold autT at this; omega)
 simp only [impl_FormatAutomaton, hV, Option.bind_some, Bool.not_true, cond_false, List.drop_zero, List.take_zero, fmtA_loop n4 h.st l24, Itoa_dg (show (0 : Int) ≤ (n : Int) by omega) (show (n : Int) ≤ 9 by omega), e1, e2, List.take_length, e3]
 exact congrArg (fun z => Option.bind z fun r10 => some r10) e4
end Go.Proofs.YtbndfclpclifbaaGreatDoor

/- The text of an automaton is read as that automaton. -/
namespace Go.Proofs.YtbndfclpclifbaaGreatDoor
open Go Go.Proofs.YtbndfclpclifbaaGreatDoor.Am
theorem getD_map_dg {S : List Int} {i : Nat} (hi : i < S.length) : List.getD (S.map fun q => BL [dg q]) i (⟨Array.empty⟩ : ByteArray) = BL [dg S[i]] := by
 rw [List.getD_eq_getElem?_getD, List.getElem?_map, List.getElem?_eq_getElem hi]
 rfl
theorem parse_l7 (A0 : ByteArray) (z0 : Int) (z1 z2 : List Int) (z3 : List Stp) (P : List ByteArray) (x : Int) (F : List Int) (l : List Stp) {S : List Int} (hS : ∀ q ∈ S, 0 ≤ q ∧ q ≤ 9) (h4 : S.length ≤ 4) :
  loopF impl_ParseAutomaton_l7 (A0, (z0, z1, z2, z3, ()), P, (x, [], F, l, ()), S.map (fun q => BL [dg q]), (S.length : Int), (0 : Int), ()) = some (A0, (z0, z1, z2, z3, ()), P, (x, S, F, l, ()), ()) := by
 have hml : (S.map fun q => BL [dg q]).length = S.length := List.length_map _
 obtain ⟨r, g1, g2⟩ := loop_inv (f := impl_ParseAutomaton_l7) S.length (fun i (o : List Int) => (A0, (z0, z1, z2, z3, ()), P, (x, o, F, l, ()), S.map (fun q => BL [dg q]), (S.length : Int), (i : Int), ())) (fun i _ => S.take (i + 1)) (fun o => (A0, (z0, z1, z2, z3, ()), P, (x, o, F, l, ()), ())) (fun i o => o = S.take i)
  (fun i o hi ho => rfl)
  (fun i o hi ho => by
   have hq := hS _ (List.getElem_mem hi)
   have hol : o.length ≤ 4 := by rw [ho, List.length_take]; omega
   rw [take_snoc hi, ← ho]
   simp only [impl_ParseAutomaton_l7, lt_t hi, cond_true, hml, if_pos (in_t hi), Int.toNat_natCast, Nat.zero_add, getD_map_dg hi, atoi_dg hq.1 hq.2, Option.bind_some, List.drop_zero, show ∀ z : Int, List.take 1 [z] = [z] from fun _ => rfl, w64_succ hi (show S.length ≤ 9223372036854775807 by omega)]
   rw [if_pos ⟨trivial, by simp; omega⟩, List.take_length, List.take_length, List.take_length, List.take_length, List.take_length, List.take_length, List.take_of_length_le (by simp), List.take_of_length_le (by simp)])
  (fun o ho => by simp only [impl_ParseAutomaton_l7, lt_f, cond_false, List.drop_zero, List.take_length])
  [] rfl
 have g1 : loopF impl_ParseAutomaton_l7 (A0, (z0, z1, z2, z3, ()), P, (x, [], F, l, ()), S.map (fun q => BL [dg q]), (S.length : Int), (0 : Int), ()) = _ := g1
 rw [g1, g2, List.take_length]
theorem parse_l13 (A0 : ByteArray) (z0 : Int) (z1 z2 : List Int) (z3 : List Stp) (P : List ByteArray) (x : Int) (F : List Int) (l : List Stp) {S : List Int} (hS : ∀ q ∈ S, 0 ≤ q ∧ q ≤ 9) (h4 : S.length ≤ 4) :
  loopF impl_ParseAutomaton_l13 (A0, (z0, z1, z2, z3, ()), P, (x, F, [], l, ()), S.map (fun q => BL [dg q]), (S.length : Int), (0 : Int), ()) = some (A0, (z0, z1, z2, z3, ()), P, (x, F, S, l, ()), ()) := by
 have hml : (S.map fun q => BL [dg q]).length = S.length := List.length_map _
 obtain ⟨r, g1, g2⟩ := loop_inv (f := impl_ParseAutomaton_l13) S.length (fun i (o : List Int) => (A0, (z0, z1, z2, z3, ()), P, (x, F, o, l, ()), S.map (fun q => BL [dg q]), (S.length : Int), (i : Int), ())) (fun i _ => S.take (i + 1)) (fun o => (A0, (z0, z1, z2, z3, ()), P, (x, F, o, l, ()), ())) (fun i o => o = S.take i)
  (fun i o hi ho => rfl)
  (fun i o hi ho => by
   have hq := hS _ (List.getElem_mem hi)
   have hol : o.length ≤ 4 := by rw [ho, List.length_take]; omega
   rw [take_snoc hi, ← ho]
   simp only [impl_ParseAutomaton_l13, lt_t hi, cond_true, hml, if_pos (in_t hi), Int.toNat_natCast, Nat.zero_add, getD_map_dg hi, atoi_dg hq.1 hq.2, Option.bind_some, List.drop_zero, show ∀ z : Int, List.take 1 [z] = [z] from fun _ => rfl, w64_succ hi (show S.length ≤ 9223372036854775807 by omega)]
   rw [if_pos ⟨trivial, by simp; omega⟩, List.take_length, List.take_length, List.take_length, List.take_length, List.take_length, List.take_length, List.take_of_length_le (by simp), List.take_of_length_le (by simp)])
  (fun o ho => by simp only [impl_ParseAutomaton_l13, lt_f, cond_false, List.drop_zero, List.take_length])
  [] rfl
 have g1 : loopF impl_ParseAutomaton_l13 (A0, (z0, z1, z2, z3, ()), P, (x, F, [], l, ()), S.map (fun q => BL [dg q]), (S.length : Int), (0 : Int), ()) = _ := g1
 rw [g1, g2, List.take_length]
theorem num_dg {n : Int} (h0 : 0 ≤ n) (h9 : n ≤ 9) : IntKind.wrap .i64 (IntKind.wrap .i64 (((dg n).toNat : Nat) : Int) - 48) = n := by
 have e : IntKind.wrap .i64 (((48 + n.toNat : Nat)) : Int) = ((48 + n.toNat : Nat) : Int) := w64 (by omega) (by omega)
 rw [dg_nat h0 h9, e, w64 (by omega) (by omega)]
 omega
theorem step_read {n : Nat} (h4 : n ≤ 4) {s : Stp} (h : StepIs (n : Int) s) : (BL (stepT s)).size = 5 ∧ Array.getD (BL (stepT s)).data (Int.toNat (0 : Int)) (0 : UInt8) = dg s.1 ∧ Array.getD (BL (stepT s)).data (Int.toNat (2 : Int)) (0 : UInt8) = dg s.2.2.1 ∧ Array.getD (BL (stepT s)).data (Int.toNat (4 : Int)) (0 : UInt8) = dg s.2.2.2 ∧ ByteArray.extract (BL (stepT s)) (Int.toNat (1 : Int)) (Int.toNat (2 : Int)) = s.2.1 := by
 obtain ⟨f, L, t, c⟩ := s
 have hL := letterOf h
 have hL : L.data.toList = [97] ∨ L.data.toList = [98] := hL
 rcases hL with e | e
 ·have e2 : L = BL [97] := data_inj e
  subst e2
  exact ⟨rfl, rfl, rfl, rfl, by rw [BL_extract]; rfl⟩
 ·have e2 : L = BL [98] := data_inj e
  subst e2
  exact ⟨rfl, rfl, rfl, rfl, by rw [BL_extract]; rfl⟩
theorem parse_l19 (A0 : ByteArray) (z0 : Int) (z1 z2 : List Int) (z3 : List Stp) (x : Int) (S F : List Int) {n : Nat} (h4 : n ≤ 4) {l : List Stp} (hl : ∀ s ∈ l, StepIs (n : Int) s) (h24 : l.length ≤ 24) :
  loopF impl_ParseAutomaton_l19 (A0, (z0, z1, z2, z3, ()), (x, S, F, [], ()), l.map (fun s => BL (stepT s)), (l.length : Int), (0 : Int), ()) = some (.inr (A0, (z0, z1, z2, z3, ()), (x, S, F, l, ()), ())) := by
 have hml : (l.map fun s => BL (stepT s)).length = l.length := List.length_map _
 obtain ⟨r, g1, g2⟩ := loop_inv (f := impl_ParseAutomaton_l19) l.length (fun i (o : List Stp) => (A0, (z0, z1, z2, z3, ()), (x, S, F, o, ()), l.map (fun s => BL (stepT s)), (l.length : Int), (i : Int), ())) (fun i _ => l.take (i + 1)) (fun o => .inr (A0, (z0, z1, z2, z3, ()), (x, S, F, o, ()), ())) (fun i o => o = l.take i)
  (fun i o hi ho => rfl)
  (fun i o hi ho => by
   have hs := hl _ (List.getElem_mem hi)
   have e0 := hs.f0
   have e1 := hs.f1
   have e2 := hs.t0
   have e3 := hs.t1
   have e4 := hs.c0
   have e5 := hs.c1
   obtain ⟨k1, k2, k3, k4, k5⟩ := step_read h4 hs
   have hg : List.getD (l.map fun s => BL (stepT s)) i (⟨Array.empty⟩ : ByteArray) = BL (stepT l[i]) := by
    rw [List.getD_eq_getElem?_getD, List.getElem?_map, List.getElem?_eq_getElem hi]
    rfl
   have hol : o.length ≤ 24 := by rw [ho, List.length_take]; omega
   rw [take_snoc hi, ← ho]
   have hne : ((((5 : Nat) : Int)) != (5 : Int)) = false := rfl
   simp only [impl_ParseAutomaton_l19, lt_t hi, cond_true, hml, if_pos (in_t hi), Int.toNat_natCast, Nat.zero_add, hg, k1, k2, k3, k4, k5, hne, cond_false, num_dg e0 (show l[i].1 ≤ 9 by omega), num_dg e2 (show l[i].2.2.1 ≤ 9 by omega), num_dg e4 (show l[i].2.2.2 ≤ 9 by omega), List.drop_zero, show ∀ z : Stp, List.take 1 [z] = [z] from fun _ => rfl, w64_succ hi (show l.length ≤ 9223372036854775807 by omega)]
   rw [if_pos (by omega), if_pos (by omega), if_pos (by omega), if_pos (by omega), if_pos ⟨trivial, by simp; omega⟩, List.take_length, List.take_length, List.take_length, List.take_length, List.take_length, List.take_of_length_le (by simp), List.take_of_length_le (by simp)])
  (fun o ho => by simp only [impl_ParseAutomaton_l19, lt_f, cond_false, List.drop_zero, List.take_length])
  [] rfl
 have g1 : loopF impl_ParseAutomaton_l19 (A0, (z0, z1, z2, z3, ()), (x, S, F, [], ()), l.map (fun s => BL (stepT s)), (l.length : Int), (0 : Int), ()) = _ := g1
 rw [g1, g2, List.take_length]
theorem dg_sp {q : Int} (h : 0 ≤ q ∧ q ≤ 9) : Lib.isSp (dg q) = false ∧ (dg q).toNat < 128 := by
 have e := dg_nat h.1 h.2
 refine ⟨?_, by omega⟩
 unfold Lib.isSp
 have hne : ∀ b : UInt8, b.toNat < 48 → (dg q == b) = false := by
  intro b hb
  rw [beq_eq_false_iff_ne]
  rintro rfl
  omega
 rw [hne 9 (by decide), hne 10 (by decide), hne 11 (by decide), hne 12 (by decide), hne 13 (by decide), hne 32 (by decide)]
 rfl
theorem nums_fields {S : List Int} (h : ∀ q ∈ S, 0 ≤ q ∧ q ≤ 9) (h4 : S.length ≤ 4) : strings_Fields (BL (Lib.join (S.map fun q => [dg q]) [32])) = some (S.map fun q => BL [dg q]) := by
 have h1 := join_len (c := 32) (B := 1) (L := S.map fun q => [dg q]) (fun x hx => by obtain ⟨q, _, rfl⟩ := List.mem_map.1 hx; exact Nat.le_refl _)
 rw [List.length_map] at h1
 rw [fieldsL_is (L := S.map fun q => [dg q]) (fun x hx => by
  obtain ⟨q, hq, rfl⟩ := List.mem_map.1 hx
  refine ⟨by simp, fun b hb => ?_⟩
  obtain rfl := List.mem_singleton.1 hb
  exact dg_sp (h q hq)) (by omega), List.map_map]
 rfl
theorem steps_fields {n : Nat} (h4 : n ≤ 4) {l : List Stp} (hl : ∀ s ∈ l, StepIs (n : Int) s) (h24 : l.length ≤ 24) : strings_Fields (BL (Lib.join (l.map stepT) [32])) = some (l.map fun s => BL (stepT s)) := by
 have h3 := join_len (c := 32) (B := 5) (L := l.map stepT) (fun x hx => by obtain ⟨s, hs, rfl⟩ := List.mem_map.1 hx; exact Nat.le_of_eq (stepT_len (hl s hs)))
 rw [List.length_map] at h3
 rw [fieldsL_is (L := l.map stepT) (fun x hx => by
  obtain ⟨s, hs, rfl⟩ := List.mem_map.1 hx
  have h := hl s hs
  have e0 := h.f0
  have e1 := h.f1
  have e2 := h.t0
  have e3 := h.t1
  have e4 := h.c0
  have e5 := h.c1
  refine ⟨by unfold stepT; simp, fun b hb => ?_⟩
  unfold stepT at hb
  rcases List.mem_cons.1 hb with rfl | hb
  ·exact dg_sp ⟨e0, by omega⟩
  ·rcases List.mem_append.1 hb with hb | hb
   ·rcases letterOf h with e | e <;> rw [e] at hb <;> obtain rfl := List.mem_singleton.1 hb <;> exact ⟨rfl, by decide⟩
   ·simp only [List.mem_cons, List.not_mem_nil, or_false] at hb
    rcases hb with rfl | rfl | rfl
    ·exact dg_sp ⟨e2, by omega⟩
    ·exact ⟨rfl, by decide⟩
    ·exact dg_sp ⟨e4, by omega⟩) (by omega), List.map_map]
 rfl
theorem no59 {n : Nat} {S F : List Int} {l : List Stp} (h : AutV n S F l) : ∀ x ∈ [[dg (n : Int)], Lib.join (S.map fun q => [dg q]) [32], Lib.join (F.map fun q => [dg q]) [32], Lib.join (l.map stepT) [32]], (59 : UInt8) ∉ x := by
 have n4 := h.n4
 have hq : ∀ q : Int, 0 ≤ q ∧ q ≤ (n : Int) - 1 → (59 : UInt8) ≠ dg q := fun q hq => (dg_ne hq.1 (by omega) (.inr (by decide))).symm
 have hn : ∀ L : List Int, (∀ q ∈ L, 0 ≤ q ∧ q ≤ (n : Int) - 1) → (59 : UInt8) ∉ Lib.join (L.map fun q => [dg q]) [32] := by
  intro L hL hm
  rcases mem_join hm with hm | ⟨x, hx, hm⟩
  ·cases hm
  ·obtain ⟨q, hq', rfl⟩ := List.mem_map.1 hx
   exact hq q (hL q hq') (List.mem_singleton.1 hm)
 intro x hx
 simp only [List.mem_cons, List.not_mem_nil, or_false] at hx
 rcases hx with rfl | rfl | rfl | rfl
 ·intro hm
  exact (dg_ne (show (0 : Int) ≤ (n : Int) by omega) (show (n : Int) ≤ 9 by omega) (.inr (by decide))).symm (List.mem_singleton.1 hm)
 ·exact hn S h.hS
 ·exact hn F h.hF
 ·intro hm
  rcases mem_join hm with hm | ⟨x, hx, hm⟩
  ·cases hm
  ·obtain ⟨s, hs, rfl⟩ := List.mem_map.1 hx
   have hs := h.st s hs
   have e4 := hs.c0
   have e5 := hs.c1
   unfold stepT at hm
   rcases List.mem_cons.1 hm with hm | hm
   ·exact hq _ ⟨hs.f0, hs.f1⟩ hm
   ·rcases List.mem_append.1 hm with hm | hm
    ·rcases letterOf hs with e | e <;> rw [e] at hm <;> exact absurd (List.mem_singleton.1 hm) (by decide)
    ·simp only [List.mem_cons, List.not_mem_nil, or_false] at hm
     rcases hm with hm | hm | hm
     ·exact hq _ ⟨hs.t0, hs.t1⟩ hm
     ·exact absurd hm (by decide)
     ·exact (dg_ne e4 (show s.2.2.2 ≤ 9 by omega) (.inr (by decide))).symm hm
theorem parseA_is {n : Nat} {S F : List Int} {l : List Stp} (h : AutV n S F l) : impl_ParseAutomaton (BL (autT n S F l)) = some (((n : Int), S, F, l), true) := by
 have n1 := h.n1
 have n4 := h.n4
 have s4 := h.s4
 have f4 := h.f4
 have l24 := h.l24
 have hS : ∀ q ∈ S, 0 ≤ q ∧ q ≤ 9 := fun q hq => ⟨(h.hS q hq).1, by have := (h.hS q hq).2; omega⟩
 have hF : ∀ q ∈ F, 0 ≤ q ∧ q ≤ 9 := fun q hq => ⟨(h.hF q hq).1, by have := (h.hF q hq).2; omega⟩
 have hsh := autT_short h
 have hsp := splitL_is (c := 59) (by simp) (no59 h) (by unfold autT at hsh; omega)
 have hsp : strings_Split (BL (autT n S F l)) (⟨#[(59 : UInt8)]⟩ : ByteArray) = some [BL [dg (n : Int)], BL (Lib.join (S.map fun q => [dg q]) [32]), BL (Lib.join (F.map fun q => [dg q]) [32]), BL (Lib.join (l.map stepT) [32])] := hsp
 have hat := atoi_dg (show (0 : Int) ≤ (n : Int) by omega) (show (n : Int) ≤ 9 by omega)
 have c0 : ∀ a b c d : ByteArray, ((0 : Int) ≤ (0 : Int)) ∧ ((0 : Int) < ((([a, b, c, d] : List ByteArray).length : Nat) : Int)) := fun _ _ _ _ => ⟨by omega, by simp⟩
 have c1 : ∀ a b c d : ByteArray, ((0 : Int) ≤ (1 : Int)) ∧ ((1 : Int) < ((([a, b, c, d] : List ByteArray).length : Nat) : Int)) := fun _ _ _ _ => ⟨by omega, by simp⟩
 have c2 : ∀ a b c d : ByteArray, ((0 : Int) ≤ (2 : Int)) ∧ ((2 : Int) < ((([a, b, c, d] : List ByteArray).length : Nat) : Int)) := fun _ _ _ _ => ⟨by omega, by simp⟩
 have c3 : ∀ a b c d : ByteArray, ((0 : Int) ≤ (3 : Int)) ∧ ((3 : Int) < ((([a, b, c, d] : List ByteArray).length : Nat) : Int)) := fun _ _ _ _ => ⟨by omega, by simp⟩
 have hne : ∀ a b c d : ByteArray, ((((([a, b, c, d] : List ByteArray).length : Nat) : Int)) != (4 : Int)) = false := fun _ _ _ _ => rfl
 have hlm1 : (S.map fun q => BL [dg q]).length = S.length := List.length_map _
 have hlm2 : (F.map fun q => BL [dg q]).length = F.length := List.length_map _
 have hlm3 : (l.map fun s => BL (stepT s)).length = l.length := List.length_map _
 have hg0 : ∀ a b c d : ByteArray, List.getD [a, b, c, d] (Int.toNat (0 : Int)) (⟨Array.empty⟩ : ByteArray) = a := fun _ _ _ _ => rfl
 have hg1 : ∀ a b c d : ByteArray, List.getD [a, b, c, d] (Int.toNat (1 : Int)) (⟨Array.empty⟩ : ByteArray) = b := fun _ _ _ _ => rfl
 have hg2 : ∀ a b c d : ByteArray, List.getD [a, b, c, d] (Int.toNat (2 : Int)) (⟨Array.empty⟩ : ByteArray) = c := fun _ _ _ _ => rfl
 have hg3 : ∀ a b c d : ByteArray, List.getD [a, b, c, d] (Int.toNat (3 : Int)) (⟨Array.empty⟩ : ByteArray) = d := fun _ _ _ _ => rfl
 have hnil : ((BL (autT n S F l)).toList == (⟨#[]⟩ : ByteArray).toList) = false := by
  rw [BL_toList, show (⟨#[]⟩ : ByteArray).toList = [] from toList_bytes _, beq_eq_false_iff_ne]
  unfold autT
  rw [join_two]
  simp
 simp only [impl_ParseAutomaton, hsp, Option.bind_some, hne, cond_false, if_pos (c0 _ _ _ _), if_pos (c1 _ _ _ _), if_pos (c2 _ _ _ _), if_pos (c3 _ _ _ _), Nat.zero_add, hg0, hg1, hg2, hg3, hat, nums_fields hS s4, nums_fields hF f4, steps_fields n4 h.st l24, List.drop_zero, List.take_length, List.take_nil, hlm1, hlm2, hlm3, parse_l7 _ _ _ _ _ _ _ _ _ hS s4, parse_l13 _ _ _ _ _ _ _ _ _ hF f4, parse_l19 _ _ _ _ _ _ _ _ n4 h.st l24, hnil, fmtA_is h, beq_self_eq_true, Bool.not_true]
end Go.Proofs.YtbndfclpclifbaaGreatDoor

/- A run that costs least is found. -/
namespace Go.Proofs.YtbndfclpclifbaaGreatDoor
open Go Go.Proofs.YtbndfclpclifbaaGreatDoor.Am
theorem AutV.small {n : Nat} {S F : List Int} {l : List Stp} (h : AutV n S F l) : Small ((n : Int), S, F, l) :=
 ⟨by have := h.s4; show S.length ≤ _; omega, by have := h.f4; show F.length ≤ _; omega, by have := h.l24; show l.length ≤ _; omega⟩
theorem AutV.is {n : Nat} {S F : List Int} {l : List Stp} (h : AutV n S F l) : AutIs ((n : Int), S, F, l) n := by
 obtain ⟨m, hm⟩ := autOk_is h.ok
 have h1 : (n : Int) = (m : Int) := hm.st
 obtain rfl : n = m := by omega
 exact hm
theorem vec_run {n : Nat} {F : List Int} {l : List Stp} {ws : List UInt8} {v : List Int} (hv : VecIs n F l ws v) {i : Nat} (hi : i < n) (hlt : v.getD i 0 < Nv) : ∃ k ∈ F, Run l ws (i : Int) k (v.getD i 0) := by
 refine Classical.byContradiction fun hno => ?_
 have h := (hv.2 i hi (v.getD i 0 + 1)).2 ⟨by omega, fun k hk c hc => by
  have h1 := ((hv.2 i hi (v.getD i 0)).1 (Int.le_refl _)).2 k hk c hc
  by_cases e : c = v.getD i 0
  ·subst e
   exact absurd ⟨k, hk, hc⟩ hno
  ·omega⟩
 omega
theorem find_some {n : Nat} {p : Nat → Bool} {j : Nat} (hj : j < n) (hp : p j = true) : ∃ i, i < n ∧ p i = true ∧ (List.range n).find? p = some i := by
 cases h : (List.range n).find? p with
 | none => exact absurd hp (List.find?_eq_none.1 h j (List.mem_range.2 hj))
 | some i => exact ⟨i, List.mem_range.1 (List.mem_of_find?_eq_some h), List.find?_some h, rfl⟩
/-- a step that goes on with a run -/
def runP (l : List Stp) (q : Int) (b : UInt8) (v : List Int) (c : Int) (j : Nat) : Bool := ((l.getD j stp0).1 == q) && (((l.getD j stp0).2.1.toList == [b]) && ((l.getD j stp0).2.2.2 + v.getD (l.getD j stp0).2.2.1.toNat 0 == c))
theorem runOf_is {n : Nat} {S F : List Int} {l : List Stp} (h : AutV n S F l) {w : ByteArray} (hw : wordOk w = true) :
  ∃ run ok, impl_RunOf ((n : Int), S, F, l) w = some (run, ok) ∧ run.length ≤ w.size + 1 ∧ ∀ q ∈ run, 0 ≤ q ∧ q ≤ 3 := by
 have n4 := h.n4
 have hsz := wordOk_size hw
 have hs4 := h.s4
 have hf4 := h.f4
 have h24 := h.l24
 obtain ⟨r, r1, r2⟩ := impl_CostOf_is h.small h.ok hw
 have r2 : CostIs ((n : Int), S, F, l) (bytes w) r := r2
 by_cases hN : r ≥ 1000000
 ·refine ⟨[], false, ?_, by simp, fun q hq => by cases hq⟩
  simp only [impl_RunOf, r1, Option.bind_some, decide_eq_false (show ¬ r < 0 by have := r2.1.1; omega), cond_false, decide_eq_true hN, cond_true]
 obtain ⟨o, o1, o2, o3⟩ := toEnd_is h.is (show F.length ≤ 1048576 by omega) hsz
 have o3 : ∀ m, m ≤ w.size → VecIs n F l ((bytes w).drop (w.size - m)) (o.getD m []) := o3
 have hv := o3 w.size (Nat.le_refl _)
 rw [Nat.sub_self, List.drop_zero] at hv
 -- the first state
 have hex : ∃ j, j < S.length ∧ ((o.getD w.size []).getD (S.getD j 0).toNat 0 == r) = true := by
  refine Classical.byContradiction fun hno => ?_
  have h1 := (r2.2 (r + 1)).2 ⟨by simp only [Nv]; omega, fun i hi k hk c hc => by
   have hle := ((r2.2 r).1 (Int.le_refl _)).2 i hi k hk c hc
   by_cases e : c = r
   ·subst e
    obtain ⟨j, hj, rfl⟩ := List.getElem_of_mem (show i ∈ S from hi)
    have hq := h.hS _ (List.getElem_mem hj)
    refine absurd ⟨j, hj, ?_⟩ hno
    rw [beq_iff_eq, getD_mem hj]
    have hlt : S[j].toNat < n := by omega
    have ei : ((S[j].toNat : Nat) : Int) = S[j] := by omega
    have a1 : (o.getD w.size []).getD S[j].toNat 0 ≤ c := ((hv.2 _ hlt _).1 (Int.le_refl _)).2 k hk c (by rw [ei]; exact hc)
    have a2 : c ≤ (o.getD w.size []).getD S[j].toNat 0 := (hv.2 _ hlt c).2 ⟨by simp only [Nv]; omega, fun k' hk' c' hc' => ((r2.2 c).1 (Int.le_refl _)).2 _ hi k' hk' c' (by rw [ei] at hc'; exact hc')⟩
    omega
   ·omega⟩
  omega
 obtain ⟨j0, hj0, hp0⟩ := hex
 obtain ⟨j, hj, hp, hf⟩ := find_some (p := fun j => (o.getD w.size []).getD (S.getD j 0).toNat 0 == r) hj0 hp0
 have e7 := loop_find (f := impl_RunOf_l7) (fun i => (w, ((n : Int), S, F, l, ()), r, o, ([] : List Int), S, (S.length : Int), (i : Int), ())) S.length (fun j => (o.getD w.size []).getD (S.getD j 0).toNat 0 == r)
  (fun i => (w, ((n : Int), S, F, l, ()), r, o, [S.getD i 0], ())) (w, ((n : Int), S, F, l, ()), r, o, ([] : List Int), ())
  (fun i hi => by
   have hq := h.hS _ (List.getElem_mem hi)
   have hg : S.getD i 0 = S[i] := getD_mem hi
   simp only [impl_RunOf_l7, lt_t hi, cond_true, if_pos (in_t hi), Int.toNat_natCast, Nat.zero_add, hg, List.drop_zero, List.take_length, w64_succ hi (show S.length ≤ 9223372036854775807 by omega)]
   rw [if_pos ⟨by omega, by rw [o2]; omega⟩, if_pos ⟨hq.1, by rw [hv.1.1]; omega⟩]
   cases (o.getD w.size []).getD S[i].toNat 0 == r with
   | true => simp
   | false => simp)
  (by simp only [impl_RunOf_l7, lt_f, cond_false, List.drop_zero, List.take_length])
 have e7 : loopF impl_RunOf_l7 (w, ((n : Int), S, F, l, ()), r, o, [], S, (S.length : Int), (0 : Int), ()) = _ := e7
 rw [hf] at e7
 have hp : (o.getD w.size []).getD (S.getD j 0).toNat 0 = r := eq_of_beq hp
 have hq0 := h.hS (S.getD j 0) (by rw [getD_mem hj]; exact List.getElem_mem hj)
 -- the steps
 obtain ⟨R, g1, g2⟩ := loop_rel (f := impl_RunOf_l13) w.size (fun i (a : Int × List Int) => (w, ((n : Int), S, F, l, ()), a.1, o, a.2, (w.size : Int), (i : Int), ())) (fun a => (a.2, ()))
  (fun i a => a.2.length = i + 1 ∧ (∀ q ∈ a.2, 0 ≤ q ∧ q ≤ (n : Int) - 1) ∧ a.1 < Nv ∧ a.1 = (o.getD (w.size - i) []).getD (a.2.getD i 0).toNat 0)
  (fun i a hi ha => by
   obtain ⟨c, run⟩ := a
   obtain ⟨k1, k2, k3, k4⟩ := ha
   have k1 : run.length = i + 1 := k1
   have k2 : ∀ q ∈ run, 0 ≤ q ∧ q ≤ (n : Int) - 1 := k2
   have k3 : c < Nv := k3
   have k4 : c = (o.getD (w.size - i) []).getD (run.getD i 0).toNat 0 := k4
   have hq := k2 (run.getD i 0) (by rw [getD_mem (show i < run.length by omega)]; exact List.getElem_mem _)
   have hv1 := o3 (w.size - i) (by omega)
   rw [show w.size - (w.size - i) = i by omega] at hv1
   have hv2 := o3 (w.size - i - 1) (by omega)
   rw [show w.size - (w.size - i - 1) = i + 1 by omega] at hv2
   have hqn : (run.getD i 0).toNat < n := by omega
   have hqi : (((run.getD i 0).toNat : Nat) : Int) = run.getD i 0 := by omega
   obtain ⟨k, hk, hrun⟩ := vec_run hv1 hqn (by rw [← k4]; exact k3)
   rw [← k4, bytes_drop hi, hqi] at hrun
   obtain ⟨s, s1, s2, s3, c', s4, s5⟩ := hrun
   obtain ⟨js, hjs, hjl⟩ := List.getElem_of_mem s1
   have hss := h.st s s1
   have t0 := hss.t0
   have t1 := hss.t1
   have htn : s.2.2.1.toNat < n := by omega
   have hti : ((s.2.2.1.toNat : Nat) : Int) = s.2.2.1 := by omega
   have b1 : (o.getD (w.size - i - 1) []).getD s.2.2.1.toNat 0 ≤ c' := ((hv2.2 _ htn _).1 (Int.le_refl _)).2 k hk c' (by rw [hti]; exact s4)
   have b0 := hss.c0
   have b2 : c ≤ s.2.2.2 + (o.getD (w.size - i - 1) []).getD s.2.2.1.toNat 0 := by
    refine Classical.byContradiction fun hlt => ?_
    obtain ⟨k', hk', hr'⟩ := vec_run hv2 htn (by omega)
    rw [hti] at hr'
    have := ((hv1.2 _ hqn c).1 (by omega)).2 k' hk' (s.2.2.2 + (o.getD (w.size - i - 1) []).getD s.2.2.1.toNat 0) (by
     rw [bytes_drop hi, hqi]
     exact ⟨s, s1, s2, s3, _, hr', rfl⟩)
    omega
   have hpj : (runP l (run.getD i 0) (w.data.getD i 0) (o.getD (w.size - i - 1) []) c) js = true := by
    show (((l.getD js stp0).1 == run.getD i 0) && (((l.getD js stp0).2.1.toList == [w.data.getD i 0]) && ((l.getD js stp0).2.2.2 + (o.getD (w.size - i - 1) []).getD (l.getD js stp0).2.2.1.toNat 0 == c))) = true
    rw [getD_g stp0 hjs, hjl, s2, beq_self_eq_true, Bool.true_and, Bool.and_eq_true, beq_iff_eq, beq_iff_eq]
    exact ⟨s3, by omega⟩
   obtain ⟨jf, hjf, hpf, hff⟩ := find_some hjs hpj
   have e16 := loop_find (f := impl_RunOf_l16) (fun j => (w, ((n : Int), S, F, l, ()), c, o, run, (i : Int), (w.size : Int), (i : Int), l, (l.length : Int), (j : Int), ())) l.length
    (runP l (run.getD i 0) (w.data.getD i 0) (o.getD (w.size - i - 1) []) c)
    (fun j => (w, ((n : Int), S, F, l, ()), c - (l.getD j stp0).2.2.2, o, run ++ [(l.getD j stp0).2.2.1], (w.size : Int), (i : Int), ())) (w, ((n : Int), S, F, l, ()), c, o, run, (w.size : Int), (i : Int), ())
    (fun j hj => by
     have hst := h.st _ (List.getElem_mem hj)
     have u0 := hst.t0
     have u1 := hst.t1
     have u2 := hst.c0
     have u3 := hst.c1
     have hvt := hv2.1.at (show l[j].2.2.1.toNat < n by omega)
     have hvq := hv1.1.at hqn
     rw [← k4] at hvq
     simp only [Nv] at hvt hvq
     have ew : IntKind.wrap .i64 (IntKind.wrap .i64 ((w.size : Int) - (i : Int)) - 1) = ((w.size - i - 1 : Nat) : Int) := by
      have e : IntKind.wrap .i64 ((w.size : Int) - (i : Int)) = (w.size : Int) - (i : Int) := w64 (by omega) (by omega)
      rw [e, w64 (by omega) (by omega)]
      omega
     simp only [impl_RunOf_l16, lt_t hj, cond_true, if_pos (in_t hj), Int.toNat_natCast, getD_g stp0 hj, Nat.zero_add, w64_succ hi (show w.size ≤ 9223372036854775807 by omega), w64_succ hj (show l.length ≤ 9223372036854775807 by omega), extract_is hi, ew, List.drop_zero, List.take_length, w64 (show -9223372036854775808 ≤ l[j].2.2.2 + (o.getD (w.size - i - 1) []).getD l[j].2.2.1.toNat 0 by omega) (by omega), w64 (show -9223372036854775808 ≤ c - l[j].2.2.2 by omega) (by omega)]
     rw [if_pos ⟨by omega, by rw [k1]; omega⟩]
     unfold runP
     rw [getD_g stp0 hj]
     cases hb1 : l[j].1 == run.getD i 0 with
     | false => simp
     | true =>
      rw [cond_true, if_pos ⟨by omega, by omega, by omega⟩]
      cases hb2 : l[j].2.1.toList == [w.data.getD i 0] with
      | false => simp
      | true =>
       rw [cond_true, if_pos ⟨by omega, by rw [o2]; omega⟩, if_pos ⟨u0, by rw [hv2.1.1]; omega⟩]
       cases hb3 : l[j].2.2.2 + (o.getD (w.size - i - 1) []).getD l[j].2.2.1.toNat 0 == c with
       | false => simp
       | true =>
        rw [cond_true, show List.take 1 [l[j].2.2.1] = [l[j].2.2.1] from rfl, if_pos ⟨trivial, by simp; omega⟩, List.take_of_length_le (by simp)]
        simp)
    (by simp only [impl_RunOf_l16, lt_f, cond_false, List.drop_zero, List.take_length])
   have e16 : loopF impl_RunOf_l16 (w, ((n : Int), S, F, l, ()), c, o, run, (i : Int), (w.size : Int), (i : Int), l, (l.length : Int), (0 : Int), ()) = _ := e16
   rw [hff] at e16
   have hst := h.st (l.getD jf stp0) (by rw [getD_g stp0 hjf]; exact List.getElem_mem hjf)
   unfold runP at hpf
   rw [Bool.and_eq_true, Bool.and_eq_true, beq_iff_eq, beq_iff_eq, beq_iff_eq] at hpf
   refine ⟨(c - (l.getD jf stp0).2.2.2, run ++ [(l.getD jf stp0).2.2.1]), ?_, by simp [k1], ?_, ?_, ?_⟩
   ·simp only [impl_RunOf_l13, lt_t hi, cond_true, List.drop_zero, List.take_length, e16, Option.bind_some, w64_succ hi (show w.size ≤ 9223372036854775807 by omega)]
   ·intro q hq
    rcases List.mem_append.1 hq with hq | hq
    ·exact k2 q hq
    ·obtain rfl := List.mem_singleton.1 hq
     exact ⟨hst.t0, hst.t1⟩
   ·have := hst.c0
    show c - _ < Nv
    omega
   ·show c - (l.getD jf stp0).2.2.2 = (o.getD (w.size - (i + 1)) []).getD ((run ++ [(l.getD jf stp0).2.2.1]).getD (i + 1) 0).toNat 0
    have e1 : (run ++ [(l.getD jf stp0).2.2.1]).getD (i + 1) 0 = (l.getD jf stp0).2.2.1 := by
     rw [List.getD_eq_getElem?_getD, List.getElem?_append, if_neg (by omega), k1]
     simp
    rw [e1, show w.size - (i + 1) = w.size - i - 1 by omega]
    omega)
  (fun a ha => by simp only [impl_RunOf_l13, lt_f, cond_false, List.drop_zero, List.take_length])
  (r, [S.getD j 0]) ⟨rfl, fun q hq => by obtain rfl := List.mem_singleton.1 hq; exact hq0, by show r < Nv; simp only [Nv]; omega, by show r = (o.getD w.size []).getD (S.getD j 0).toNat 0; exact hp.symm⟩
 have g1 : loopF impl_RunOf_l13 (w, ((n : Int), S, F, l, ()), r, o, [S.getD j 0], (w.size : Int), (0 : Int), ()) = _ := g1
 refine ⟨R.2, true, ?_, by rw [g2.1]; exact Nat.le_refl _, fun q hq => ⟨(g2.2.1 q hq).1, by have := (g2.2.1 q hq).2; omega⟩⟩
 simp only [impl_RunOf, r1, Option.bind_some, decide_eq_false (show ¬ r < 0 by have := r2.1.1; omega), cond_false, decide_eq_false hN, o1, List.drop_zero, List.take_zero, List.take_length, e7, g1]
end Go.Proofs.YtbndfclpclifbaaGreatDoor

/- Costs of beginnings are told. -/
namespace Go.Proofs.YtbndfclpclifbaaGreatDoor
open Go Go.Proofs.YtbndfclpclifbaaGreatDoor.Am
def Lets (xs : List Int) : Prop := ∀ x ∈ xs, x = 97 ∨ x = 98
theorem Lets.set {xs : List Int} (h : Lets xs) (i : Nat) {x : Int} (hx : x = 97 ∨ x = 98) : Lets (xs.set i x) := fun y hy => by
 rcases List.mem_or_eq_of_mem_set hy with hy | rfl
 ·exact h y hy
 ·exact hx
theorem Lets.at {xs : List Int} (h : Lets xs) {i : Nat} (hi : i < xs.length) : xs.getD i 0 = 97 ∨ xs.getD i 0 = 98 := h _ (by rw [getD_g 0 hi]; exact List.getElem_mem hi)
theorem reversed_is {xs : List Int} (hl : xs.length ≤ 1000) (h : Lets xs) : ∃ ys, slices_Reverse xs = some ((), ys, ()) ∧ ys.length = xs.length ∧ Lets ys := by
 obtain ⟨ys, g1, g2⟩ := loop_rel (f := slices_Reverse_l1) (xs.length / 2) (fun i (v : List Int) => (v, (i : Int), (xs.length : Int) - 1 - (i : Int), ())) (fun v => (v, ())) (fun i v => v.length = xs.length ∧ Lets v)
  (fun i v hi hv => by
   obtain ⟨h1, h2⟩ := hv
   have ej : (xs.length : Int) - 1 - (i : Int) = ((xs.length - 1 - i : Nat) : Int) := by omega
   refine ⟨(v.set i (v.getD (xs.length - 1 - i) 0)).set (xs.length - 1 - i) (v.getD i 0), ?_, by simp [h1], (h2.set _ (h2.at (by omega))).set _ (h2.at (by omega))⟩
   simp only [slices_Reverse_l1, ej, decide_eq_true (show (i : Int) < ((xs.length - 1 - i : Nat) : Int) by omega), cond_true, Int.toNat_natCast, Nat.zero_add]
   rw [if_pos ⟨by omega, by omega⟩, if_pos ⟨by omega, by omega⟩, if_pos ⟨by omega, by omega⟩, if_pos ⟨by omega, by omega⟩, if_pos (by simp), w64 (by omega) (by omega), w64 (by omega) (by omega)]
   rw [show ((xs.length - 1 - i : Nat) : Int) - 1 = (xs.length : Int) - 1 - ((i + 1 : Nat) : Int) by omega]
   rfl)
  (fun v hv => by
   simp only [slices_Reverse_l1]
   rw [decide_eq_false (by omega)]
   simp)
  xs ⟨rfl, h⟩
 have g1 : loopF slices_Reverse_l1 (xs, (0 : Int), (xs.length : Int) - 1 - (0 : Int), ()) = _ := g1
 rw [Int.sub_zero] at g1
 refine ⟨ys, ?_, g2⟩
 simp only [slices_Reverse, if_true, w64 (show -9223372036854775808 ≤ ((xs.length : Nat) : Int) - 1 by omega) (by omega), g1, Option.bind_some]
theorem nums_lets {w : ByteArray} (hw : wordOk w = true) : Lets (numsOf w) := by
 intro x hx
 obtain ⟨b, hb, rfl⟩ := List.mem_map.1 hx
 obtain ⟨i, hi, rfl⟩ := List.getElem_of_mem hb
 have hi' : i < w.size := by rw [← bytes_len]; exact hi
 have h := letter_is hw hi'
 have e := bytes_at hi'
 rw [List.getElem?_eq_getElem hi] at e
 have e := Option.some.inj e
 rcases h with h | h
 ·rw [h] at e
  rw [e]
  exact .inl rfl
 ·rw [h] at e
  rw [e]
  exact .inr rfl
theorem strOf_word {xs : List Int} (hl : xs.length ≤ 1000) (h : Lets xs) : (strOfNums xs).size = xs.length := strOfNums_size xs
theorem prefix_is {n : Nat} {S F : List Int} {l : List Stp} (h : AutV n S F l) {w : ByteArray} (hw : wordOk w = true) :
  ∃ cs, impl_PrefixCosts ((n : Int), S, F, l) w = some (cs, true) ∧ cs.length = w.size + 1 ∧ ∀ c ∈ cs, 0 ≤ c ∧ c ≤ 1000000 := by
 have n4 := h.n4
 have hf4 := h.f4
 have hs4 := h.s4
 have hsz := wordOk_size hw
 obtain ⟨m, hm, hr, hsm, hok⟩ := reverse_full h.is h.small h.ok
 obtain ⟨n', ha'⟩ := autOk_is hok
 have hn : (n : Int) = (n' : Int) := ha'.st
 obtain rfl : n = n' := by omega
 have hnl : (numsOf w).length = w.size := by
  unfold numsOf
  rw [List.length_map]
  exact bytes_len w
 obtain ⟨ys, y1, y2, y3⟩ := reversed_is (xs := numsOf w) (by omega) (nums_lets hw)
 have hys : (strOfNums ys).size = w.size := by rw [strOf_word (by omega) y3]; omega
 obtain ⟨o, o1, o2, o3⟩ := toEnd_is ha' (show S.length ≤ 1048576 by omega) (w := strOfNums ys) (by omega)
 have o3 : ∀ k, k ≤ (strOfNums ys).size → VecIs n S m ((bytes (strOfNums ys)).drop ((strOfNums ys).size - k)) (o.getD k []) := o3
 have hin : ∀ v : List Int, Rng v n → ∃ c, (∀ (T : List Int) (L : List (List Int)) (i : Int), loopF impl_PrefixCosts_l12 (((n : Int), S, F, l, ()), T, v, (1000000 : Int), L, (L.length : Int), i, F, (F.length : Int), (0 : Int), ()) = some (((n : Int), S, F, l, ()), T, c, L, (L.length : Int), i, ())) ∧ 0 ≤ c ∧ c ≤ 1000000 := by
  intro v hv
  have key : ∀ (T : List Int) (L : List (List Int)) (i : Int), ∃ c, loopF impl_PrefixCosts_l12 (((n : Int), S, F, l, ()), T, v, (1000000 : Int), L, (L.length : Int), i, F, (F.length : Int), (0 : Int), ()) = some (((n : Int), S, F, l, ()), T, c, L, (L.length : Int), i, ()) ∧ (0 ≤ c ∧ c ≤ 1000000) ∧ c = (F.foldl (fun c q => if v.getD q.toNat 0 < c then v.getD q.toNat 0 else c) 1000000) := by
   intro T L i
   obtain ⟨c, g1, g2⟩ := loop_inv (f := impl_PrefixCosts_l12) F.length (fun j (c : Int) => (((n : Int), S, F, l, ()), T, v, c, L, (L.length : Int), i, F, (F.length : Int), (j : Int), ())) (fun j c => if v.getD (F.getD j 0).toNat 0 < c then v.getD (F.getD j 0).toNat 0 else c) (fun c => (((n : Int), S, F, l, ()), T, c, L, (L.length : Int), i, ()))
    (fun j c => (0 ≤ c ∧ c ≤ 1000000) ∧ c = ((F.take j).foldl (fun c q => if v.getD q.toNat 0 < c then v.getD q.toNat 0 else c) 1000000))
    (fun j c hj hc => by
     have hq := h.hF _ (List.getElem_mem hj)
     have := hv.at (show F[j].toNat < n by omega)
     simp only [Nv] at this
     rw [getD_mem hj, take_snoc hj, List.foldl_append, ← hc.2]
     refine ⟨?_, rfl⟩
     split <;> omega)
    (fun j c hj hc => by
     have hq := h.hF _ (List.getElem_mem hj)
     simp only [impl_PrefixCosts_l12, lt_t hj, cond_true, if_pos (in_t hj), Int.toNat_natCast, getD_mem hj, List.drop_zero, List.take_length, w64_succ hj (show F.length ≤ 9223372036854775807 by omega)]
     rw [if_pos ⟨hq.1, by rw [hv.1]; omega⟩])
    (fun c hc => by simp only [impl_PrefixCosts_l12, lt_f, cond_false, List.drop_zero, List.take_length])
    1000000 ⟨by omega, rfl⟩
   exact ⟨c, g1, g2.1, by rw [g2.2, List.take_length]⟩
  refine ⟨F.foldl (fun c q => if v.getD q.toNat 0 < c then v.getD q.toNat 0 else c) 1000000, fun T L i => ?_, ?_⟩
  ·obtain ⟨c, k1, k2, rfl⟩ := key T L i
   exact k1
  ·obtain ⟨c, k1, k2, rfl⟩ := key [] [] 0
   exact k2
 obtain ⟨cs, g1, g2⟩ := loop_rel (f := impl_PrefixCosts_l8) o.length (fun i (T : List Int) => (((n : Int), S, F, l, ()), T, o, (o.length : Int), (i : Int), ())) (fun T => (T, ())) (fun i T => T.length = i ∧ ∀ c ∈ T, 0 ≤ c ∧ c ≤ 1000000)
  (fun i T hi hT => by
   obtain ⟨c, c1, c2⟩ := hin (o.getD i []) (o3 i (by omega)).1
   refine ⟨T ++ [c], ?_, by simp [hT.1], fun x hx => ?_⟩
   ·simp only [impl_PrefixCosts_l8, lt_t hi, cond_true, if_pos (in_t hi), Int.toNat_natCast, Nat.zero_add, List.drop_zero, List.take_length, c1, Option.bind_some, show ∀ z : Int, List.take 1 [z] = [z] from fun _ => rfl, w64_succ hi (show o.length ≤ 9223372036854775807 by omega)]
    rw [if_pos ⟨trivial, by simp; omega⟩, List.take_of_length_le (by simp)]
   ·rcases List.mem_append.1 hx with hx | hx
    ·exact hT.2 x hx
    ·obtain rfl := List.mem_singleton.1 hx
     exact c2)
  (fun T hT => by simp only [impl_PrefixCosts_l8, lt_f, cond_false, List.drop_zero, List.take_length])
  [] ⟨rfl, fun c hc => by cases hc⟩
 have g1 : loopF impl_PrefixCosts_l8 (((n : Int), S, F, l, ()), [], o, (o.length : Int), (0 : Int), ()) = _ := g1
 refine ⟨cs, ?_, by rw [g2.1, o2, hys], g2.2⟩
 have hyl : (numsOf w).length = ys.length := y2.symm
 simp only [impl_PrefixCosts, hr, Option.bind_some, Bool.not_true, cond_false, impl_WordValid_is (show w.size ≤ 9223372036854775807 by omega), hw, if_true, y1, hyl, List.drop_zero, List.take_zero, List.take_length, o1, g1]
end Go.Proofs.YtbndfclpclifbaaGreatDoor

/- Texts of costs and of matrices of costs. -/
namespace Go.Proofs.YtbndfclpclifbaaGreatDoor
open Go Go.Proofs.YtbndfclpclifbaaGreatDoor.Am
def costT (c : Int) : List UInt8 := if c = 1000000 then [45] else Lib.itoa c
theorem costT_len {c : Int} (h : 0 ≤ c ∧ c ≤ 1000000) : 0 < (costT c).length ∧ (costT c).length ≤ 20 := by
 unfold costT
 split
 ·exact ⟨by decide, by decide⟩
 ·exact itoa_len (by omega) (by omega)
theorem costValid_is {c : Int} (h : 0 ≤ c ∧ c ≤ 1000000) : impl_CostValid c = some true := by
 simp only [impl_CostValid, decide_eq_true (show c ≥ 0 by omega), decide_eq_true (show c ≤ 1000000 by omega), cond_true]
theorem fmtCost_is {c : Int} (h : 0 ≤ c ∧ c ≤ 1000000) : impl_FormatCost c = some (BL (costT c)) := by
 have hi : strconv_Itoa c = some (BL (Lib.itoa c)) := by
  show itoaS _ = _
  unfold itoaS
  rw [if_pos ⟨by omega, by omega⟩, BL_mk]
 unfold costT
 simp only [impl_FormatCost, costValid_is h, Option.bind_some, Bool.not_true, cond_false]
 by_cases e : c = 1000000
 ·subst e
  rfl
 ·rw [beq_eq_false_iff_ne.2 e, cond_false, if_neg e, hi]
  rfl
def costsT (xs : List Int) : List UInt8 := Lib.join (xs.map costT) [32]
def Csts (xs : List Int) : Prop := ∀ x ∈ xs, 0 ≤ x ∧ x ≤ 1000000
theorem costsT_len {xs : List Int} (h : Csts xs) : (costsT xs).length ≤ 21 * xs.length := by
 have := join_len (c := 32) (B := 20) (L := xs.map costT) (fun x hx => by
  obtain ⟨c, hc, rfl⟩ := List.mem_map.1 hx
  exact (costT_len (h c hc)).2)
 rw [List.length_map] at this
 exact this
theorem fmtCosts_is {xs : List Int} (h : Csts xs) (hl : xs.length ≤ 1048576) : impl_FormatCosts xs = some (BL (costsT xs)) := by
 obtain ⟨r, g1, g2⟩ := loop_inv (f := impl_FormatCosts_l3) xs.length (fun i (o : List ByteArray) => (o, xs, (xs.length : Int), (i : Int), ())) (fun i _ => (xs.take (i + 1)).map fun x => BL (costT x)) (fun o => .inr (o, ())) (fun i o => o = (xs.take i).map fun x => BL (costT x))
  (fun i o hi ho => rfl)
  (fun i o hi ho => by
   have hx := h _ (List.getElem_mem hi)
   have hol : o.length ≤ 1048576 := by rw [ho, List.length_map, List.length_take]; omega
   rw [take_snoc hi, List.map_append, ← ho]
   simp only [impl_FormatCosts_l3, lt_t hi, cond_true, if_pos (in_t hi), Int.toNat_natCast, getD_mem hi, costValid_is hx, fmtCost_is hx, Option.bind_some, Bool.not_true, cond_false, Nat.zero_add, List.drop_zero, show ∀ z : ByteArray, List.take 1 [z] = [z] from fun _ => rfl, w64_succ hi (show xs.length ≤ 9223372036854775807 by omega)]
   rw [if_pos ⟨trivial, by simp; omega⟩, List.take_of_length_le (by simp)]
   rfl)
  (fun o ho => by simp only [impl_FormatCosts_l3, lt_f, cond_false, List.drop_zero, List.take_length])
  [] rfl
 have g1 : loopF impl_FormatCosts_l3 ([], xs, (xs.length : Int), (0 : Int), ()) = _ := g1
 rw [List.take_length] at g2
 have hlen := costsT_len h
 have hj := joinS_is (L := xs.map costT) (c := 32) (by rw [List.length_map]; exact hl) (by unfold costsT at hlen; omega)
 rw [List.map_map] at hj
 have hj : strings_Join (xs.map fun x => BL (costT x)) (⟨#[(32 : UInt8)]⟩ : ByteArray) = some (BL (costsT xs)) := hj
 simp only [impl_FormatCosts, List.drop_zero, List.take_zero, g1, g2, Option.bind_some, List.take_length, hj]
theorem costsT_ne {xs : List Int} (h : Csts xs) (hne : xs ≠ []) : costsT xs ≠ [] := by
 cases xs with
 | nil => exact absurd rfl hne
 | cons x r =>
  have := (costT_len (h x List.mem_cons_self)).1
  unfold costsT
  rw [List.map_cons, Lib.join_cons]
  intro e
  have := congrArg List.length e
  rw [List.length_append, List.length_nil] at this
  omega
/-! ### matrices -/
def mrow (n : Nat) (A : List Int) (r : Nat) : List Int := (List.range n).map fun k => A.getD (r * n + k) 0
def matT (n : Nat) (A : List Int) : List UInt8 := Lib.join ((List.range n).map fun r => costsT (mrow n A r)) [47]
theorem mrow_c {n : Nat} {A : List Int} (hA : Rng A (n * n)) {r : Nat} (hr : r < n) : Csts (mrow n A r) := by
 intro x hx
 obtain ⟨k, hk, rfl⟩ := List.mem_map.1 hx
 have hk := List.mem_range.1 hk
 have hle : n * r + n ≤ n * n := by
  have := Nat.mul_le_mul_left n (show r + 1 ≤ n by omega)
  rw [Nat.mul_succ] at this
  exact this
 exact hA.at (by rw [Nat.mul_comm]; omega)
theorem mrow_len (n : Nat) (A : List Int) (r : Nat) : (mrow n A r).length = n := by simp [mrow]
theorem matT_len {n : Nat} (h4 : n ≤ 4) {A : List Int} (hA : Rng A (n * n)) : (matT n A).length ≤ 400 := by
 have := join_len (c := 47) (B := 84) (L := (List.range n).map fun r => costsT (mrow n A r)) (fun x hx => by
  obtain ⟨r, hr, rfl⟩ := List.mem_map.1 hx
  have := costsT_len (mrow_c hA (List.mem_range.1 hr))
  rw [mrow_len] at this
  omega)
 rw [List.length_map, List.length_range] at this
 unfold matT
 omega
theorem fmtMat_is {n : Nat} (h1 : 1 ≤ n) (h4 : n ≤ 4) {A : List Int} (hA : Rng A (n * n)) : impl_FormatMatrix ((n : Int), A) = some (BL (matT n A)) := by
 have hsq := sq_le h4
 have hlen := hA.1
 have hrow : ∀ i, i < n → List.take (n * (i + 1) - n * i) (List.drop (n * i) A) = mrow n A i := by
  intro i hi
  have hle : n * i + n ≤ n * n := by
   have := Nat.mul_le_mul_left n (show i + 1 ≤ n by omega)
   rw [Nat.mul_succ] at this
   exact this
  have hd : n * (i + 1) - n * i = n := by rw [Nat.mul_succ]; omega
  rw [hd]
  unfold mrow
  apply List.ext_getElem
  ·rw [List.length_take, List.length_drop, hlen, List.length_map, List.length_range]
   omega
  ·intro k k1 k2
   rw [List.length_map, List.length_range] at k2
   rw [List.getElem_take, List.getElem_drop, List.getElem_map, List.getElem_range]
   have hc : n * i = i * n := Nat.mul_comm _ _
   rw [getD_get 0 (by rw [hlen]; omega)]
   congr 1
   omega
 obtain ⟨r, g1, g2⟩ := loop_inv (f := impl_rows_l3) n (fun i (o : List ByteArray) => ((fun y1 : List Int × Unit => impl_FormatCosts y1.1), ((n : Int), A, ()), o, (n : Int), (i : Int), ())) (fun i o => o ++ [BL (costsT (mrow n A i))]) (fun o => (o, ())) (fun i o => o = (List.range i).map fun r => BL (costsT (mrow n A r)))
  (fun i o hi ho => by subst ho; rw [List.range_succ, List.map_append]; rfl)
  (fun i o hi ho => by
   have hol : o.length = i := by subst ho; simp
   have hle : n * (i + 1) ≤ n * n := Nat.mul_le_mul_left n (by omega)
   have hmono : n * i ≤ n * (i + 1) := Nat.mul_le_mul_left n (by omega)
   have w1 : IntKind.wrap .i64 ((i : Int) * (n : Int)) = ((n * i : Nat) : Int) := by
    rw [show (i : Int) * (n : Int) = ((n * i : Nat) : Int) by rw [Nat.mul_comm]; rfl, w64 (by omega) (by omega)]
   have w2 : IntKind.wrap .i64 (((i + 1 : Nat) : Int) * (n : Int)) = ((n * (i + 1) : Nat) : Int) := by
    rw [show ((i + 1 : Nat) : Int) * (n : Int) = ((n * (i + 1) : Nat) : Int) by rw [Nat.mul_comm]; rfl, w64 (by omega) (by omega)]
   have hr := fmtCosts_is (mrow_c hA hi) (by rw [mrow_len]; omega)
   simp only [impl_rows_l3, lt_t hi, cond_true, w64_succ hi (show n ≤ 9223372036854775807 by omega), w1, w2, Int.toNat_natCast, hrow i hi, hr, Option.bind_some, List.drop_zero, Nat.zero_add, show ∀ z : ByteArray, List.take 1 [z] = [z] from fun _ => rfl]
   rw [if_pos ⟨by omega, by omega, by omega⟩, if_pos (by simp; omega), List.take_of_length_le (by simp)])
  (fun o ho => by simp only [impl_rows_l3, lt_f, cond_false, List.drop_zero, List.take_length]) [] rfl
 have g1 : loopF impl_rows_l3 ((fun y1 : List Int × Unit => impl_FormatCosts y1.1), ((n : Int), A, ()), [], (n : Int), (0 : Int), ()) = _ := g1
 subst g2
 have hml := matT_len h4 hA
 have hj := joinS_is (L := (List.range n).map fun r => costsT (mrow n A r)) (c := 47) (by rw [List.length_map, List.length_range]; omega) (by unfold matT at hml; omega)
 rw [List.map_map] at hj
 have hj : strings_Join ((List.range n).map fun r => BL (costsT (mrow n A r))) (⟨#[(47 : UInt8)]⟩ : ByteArray) = some (BL (matT n A)) := hj
 have hmv := matrixValid_is h1 h4 hlen (fun x hx => hA.2 x hx)
 simp only [impl_FormatMatrix, hmv, Option.bind_some, Bool.not_true, cond_false, impl_rows, List.drop_zero, List.take_zero, g1, List.take_length, hj]
theorem matT_ne {n : Nat} (h1 : 1 ≤ n) {A : List Int} (hA : Rng A (n * n)) : matT n A ≠ [] := by
 obtain ⟨m, rfl⟩ : ∃ m, n = m + 1 := ⟨n - 1, by omega⟩
 have h0 := costsT_ne (mrow_c hA (show 0 < m + 1 by omega)) (fun e => by have := congrArg List.length e; rw [mrow_len] at this; cases this)
 unfold matT
 rw [List.range_succ_eq_map, List.map_cons, Lib.join_cons]
 intro e
 exact h0 (List.append_eq_nil_iff.1 e).1
end Go.Proofs.YtbndfclpclifbaaGreatDoor

/- A script of lines with rests: what it tells. -/
namespace Go.Proofs.YtbndfclpclifbaaGreatDoor
open Go Go.Proofs.YtbndfclpclifbaaGreatDoor.Am
/-- what lines with rests tell, one behind the other -/
inductive Sc : Aut → Aut → List UInt8 → List (List UInt8) → List UInt8 → Prop where
 | nil (A k : Aut) (out : List UInt8) : Sc A k out [] out
 | line {A k A' k' : Aut} {out said wd rest : List UInt8} {ls : List (List UInt8)} {fin : List UInt8} (hw : (32 : UInt8) ∉ wd) (hs : wd.length + rest.length ≤ 20000)
   (ht : impl_desk_text (A, k) (BL wd) (BL rest) = some ((BL said, true), (A', k'), ())) (hn : Sc A' k' (out ++ (said ++ [10])) ls fin) : Sc A k out ((wd ++ 32 :: rest) :: ls) fin
theorem Sc.le {A k : Aut} {out : List UInt8} {ls : List (List UInt8)} {fin : List UInt8} (h : Sc A k out ls fin) : out.length ≤ fin.length := by
 induction h with
 | nil => exact Nat.le_refl _
 | line _ _ _ _ ih => rw [List.length_append] at ih; omega
theorem BL_beq_nil {l : List UInt8} (h : l ≠ []) : (ByteArray.toList (BL l) == ByteArray.toList (⟨#[]⟩ : ByteArray)) = false := by
 rw [toList_bytes, toList_bytes, beq_eq_false_iff_ne]
 exact h
theorem drop_at {L : List ByteArray} {i : Nat} {x : ByteArray} {r : List ByteArray} (h : L.drop i = x :: r) : i < L.length ∧ L.getD i (⟨Array.empty⟩ : ByteArray) = x ∧ L.drop (i + 1) = r := by
 have h1 : i < L.length := by
  refine Nat.lt_of_not_le fun hl => ?_
  rw [List.drop_eq_nil_of_le hl] at h
  cases h
 rw [List.drop_eq_getElem_cons h1] at h
 obtain ⟨h2, h3⟩ := List.cons.inj h
 exact ⟨h1, by rw [List.getD_eq_getElem?_getD, List.getElem?_eq_getElem h1, h2]; rfl, h3⟩
theorem sc_loop {A k : Aut} {out : List UInt8} {ls : List (List UInt8)} {fin : List UInt8} (h : Sc A k out ls fin) : ∀ (L : List ByteArray) (i : Nat), L.length ≤ 1000 → L.drop i = ls.map BL ++ [BL []] → i + ls.length < 100 → fin.length ≤ 40000 →
  loopF impl_RunScript_l7 ((A.1, A.2.1, A.2.2.1, A.2.2.2, k.1, k.2.1, k.2.2.1, k.2.2.2, ()), BL out, L, (L.length : Int), (i : Int), ()) = some (.inr (BL fin, ())) := by
 induction h with
 | nil A k out =>
  intro L i hl hd hi hf
  obtain ⟨x0, x1, x2, x3⟩ := A
  obtain ⟨y0, y1, y2, y3⟩ := k
  obtain ⟨h1, h2, h3⟩ := drop_at (x := BL []) (r := []) hd
  have hL : L.length = i + 1 := by
   have := congrArg List.length h3
   rw [List.length_drop, List.length_nil] at this
   omega
  have e : (ByteArray.toList (BL []) == ByteArray.toList (⟨#[]⟩ : ByteArray)) = true := by rw [toList_bytes, toList_bytes]; rfl
  rw [loopF_eq]
  simp only [impl_RunScript_l7, lt_t h1, cond_true, if_pos (in_t h1), Int.toNat_natCast, Nat.zero_add, h2, e, List.drop_zero, List.take_length, Option.bind_some, w64_succ h1 (show L.length ≤ 9223372036854775807 by omega)]
  rw [loopF_eq, hL]
  simp only [impl_RunScript_l7, lt_f, cond_false, Option.bind_some]
 | line hw hs ht hn ih =>
  rename_i A k A' k' out said wd rest ls fin
  intro L i hl hd hi hf
  have hle := hn.le
  rw [List.length_append, List.length_append] at hle
  obtain ⟨x0, x1, x2, x3⟩ := A
  obtain ⟨y0, y1, y2, y3⟩ := k
  obtain ⟨z0, z1, z2, z3⟩ := A'
  obtain ⟨u0, u1, u2, u3⟩ := k'
  obtain ⟨h1, h2, h3⟩ := drop_at (x := BL (wd ++ 32 :: rest)) (r := ls.map BL ++ [BL []]) hd
  have e : (ByteArray.toList (BL (wd ++ 32 :: rest)) == ByteArray.toList (⟨#[]⟩ : ByteArray)) = false := BL_beq_nil (by simp)
  have hc := cutL_is (r := rest) hw (by rw [List.length_append, List.length_cons]; omega)
  have ht : impl_desk_text ((x0, x1, x2, x3), y0, y1, y2, y3) (BL wd) (BL rest) = some ((BL said, true), ((z0, z1, z2, z3), u0, u1, u2, u3), ()) := ht
  have e10 : (⟨#[(10 : UInt8)]⟩ : ByteArray) = BL [10] := rfl
  rw [List.length_cons] at hi
  have hlen : ([10] : List UInt8).length = 1 := rfl
  rw [loopF_eq]
  have ho : decide (((ByteArray.size (BL out) : Nat) : Int) > (40000 : Int)) = false := decide_eq_false (by rw [BL_size]; omega)
  simp only [impl_RunScript_l7, lt_t h1, cond_true, if_pos (in_t h1), Int.toNat_natCast, Nat.zero_add, h2, e, cond_false, decide_eq_false (show ¬ ((i : Int) ≥ 100) by omega), ho, hc, Option.bind_some, Bool.not_true, ht, e10, BL_app, List.drop_zero, List.take_length, w64_succ h1 (show L.length ≤ 9223372036854775807 by omega)]
  rw [if_pos (by rw [BL_size, BL_size]; omega), if_pos (by rw [BL_size, BL_size, List.length_append]; omega)]
  exact ih L (i + 1) hl h3 (by omega) hf
/-- the automaton that stands at first -/
def A0 : Aut := ((1 : Int), [0], [0], [])
theorem a0_v : AutV 1 [0] [0] [] := by
 have hok : autOk ((1 : Int), [(0 : Int)], [(0 : Int)], []) = true := by decide +kernel
 obtain ⟨n, S, F, l, e, h⟩ := autV_of hok
 have e1 : (1 : Int) = (n : Int) := congrArg (fun x => x.1) e
 have e2 : [(0 : Int)] = S := congrArg (fun x => x.2.1) e
 have e3 : [(0 : Int)] = F := congrArg (fun x => x.2.2.1) e
 have e4 : ([] : List Stp) = l := congrArg (fun x => x.2.2.2) e
 obtain rfl : n = 1 := by omega
 subst e2 e3 e4
 exact h
theorem a0_text : autT ((1 : Nat) : Int) [0] [0] [] = [49, 59, 48, 59, 48, 59] := by decide +kernel
def scText (ls : List (List UInt8)) : List UInt8 := Lib.join (ls ++ [[]]) [10]
theorem script_is {ls : List (List UInt8)} {fin : List UInt8} (h : Sc A0 A0 [] ls fin) (hl : ls.length < 100) (hf : fin.length ≤ 40000) (h10 : ∀ x ∈ ls, (10 : UInt8) ∉ x) (hs : (scText ls).length ≤ 20000) : impl_RunScript (BL (scText ls)) = some (BL fin) := by
 have hsp := splitL_is (c := 10) (L := ls ++ [[]]) (by simp) (fun x hx => by
  rcases List.mem_append.1 hx with hx | hx
  ·exact h10 x hx
  ·obtain rfl := List.mem_singleton.1 hx
   simp) (by unfold scText at hs; omega)
 have hsp : strings_Split (BL (scText ls)) (⟨#[(10 : UInt8)]⟩ : ByteArray) = some ((ls ++ [[]]).map BL) := hsp
 have hp := parseA_is a0_v
 rw [a0_text] at hp
 have hp : impl_ParseAutomaton (⟨#[(49 : UInt8), (59 : UInt8), (48 : UInt8), (59 : UInt8), (48 : UInt8), (59 : UInt8)]⟩ : ByteArray) = some (((1 : Int), [0], [0], []), true) := hp
 have hlp := sc_loop h ((ls ++ [[]]).map BL) 0 (by simp; omega) (by simp) (by omega) hf
 have hlp : loopF impl_RunScript_l7 (((1 : Int), [(0 : Int)], [(0 : Int)], [], (1 : Int), [(0 : Int)], [(0 : Int)], [], ()), (⟨#[]⟩ : ByteArray), (ls ++ [[]]).map BL, ((((ls ++ [[]]).map BL).length : Nat) : Int), (0 : Int), ()) = some (.inr (BL fin, ())) := hlp
 have ho : decide (((ByteArray.size (BL (scText ls)) : Nat) : Int) > (20000 : Int)) = false := decide_eq_false (by rw [BL_size]; omega)
 simp only [impl_RunScript, ho, cond_false, hp, Option.bind_some, hsp, List.drop_zero, List.take_length, hlp]
/-! ### what is told -/
theorem told_yes {l : List UInt8} (h : l ≠ []) : impl_told (BL l) true = some (BL l) := by
 simp only [impl_told, Bool.not_true, cond_false, impl_ShowWord, BL_beq_nil h, Option.bind_some]
theorem told_no (s : ByteArray) : impl_told s false = some (BL [110, 111]) := rfl
theorem autT_ne (n : Int) (S F : List Int) (l : List Stp) : autT n S F l ≠ [] := by
 unfold autT
 rw [join_two]
 simp
theorem autT_no {n : Nat} {S F : List Int} {l : List Stp} (h : AutV n S F l) {b : UInt8} (hb : b.toNat < 32) : b ∉ autT n S F l := by
 have n4 := h.n4
 have hq : ∀ q : Int, 0 ≤ q ∧ q ≤ 9 → b ≠ dg q := fun q hq => (dg_ne hq.1 hq.2 (.inl (by omega))).symm
 have hk : ∀ c : UInt8, 32 ≤ c.toNat → b ≠ c := by
  rintro c hc rfl
  omega
 have hn : ∀ L : List Int, (∀ q ∈ L, 0 ≤ q ∧ q ≤ (n : Int) - 1) → b ∉ Lib.join (L.map fun q => [dg q]) [32] := by
  intro L hL hm
  rcases mem_join hm with hm | ⟨x, hx, hm⟩
  ·exact hk 32 (by decide) hm
  ·obtain ⟨q, hq', rfl⟩ := List.mem_map.1 hx
   have := hL q hq'
   exact hq q ⟨this.1, by omega⟩ (List.mem_singleton.1 hm)
 intro hm
 unfold autT at hm
 rcases mem_join hm with hm | ⟨x, hx, hm⟩
 ·exact hk 59 (by decide) hm
 ·simp only [List.mem_cons, List.not_mem_nil, or_false] at hx
  rcases hx with rfl | rfl | rfl | rfl
  ·exact hq (n : Int) ⟨by omega, by omega⟩ (List.mem_singleton.1 hm)
  ·exact hn S h.hS hm
  ·exact hn F h.hF hm
  ·rcases mem_join hm with hm | ⟨x, hx, hm⟩
   ·exact hk 32 (by decide) hm
   ·obtain ⟨s, hs, rfl⟩ := List.mem_map.1 hx
    have hs := h.st s hs
    have e0 := hs.f0
    have e1 := hs.f1
    have e2 := hs.t0
    have e3 := hs.t1
    have e4 := hs.c0
    have e5 := hs.c1
    unfold stepT at hm
    rcases List.mem_cons.1 hm with hm | hm
    ·exact hq _ ⟨e0, by omega⟩ hm
    ·rcases List.mem_append.1 hm with hm | hm
     ·rcases letterOf hs with e | e <;> rw [e] at hm <;> exact hk _ (by decide) (List.mem_singleton.1 hm)
     ·simp only [List.mem_cons, List.not_mem_nil, or_false] at hm
      rcases hm with hm | hm | hm
      ·exact hq _ ⟨e2, by omega⟩ hm
      ·exact hk 58 (by decide) hm
      ·exact hq _ ⟨e4, by omega⟩ hm
theorem become_is {n : Nat} {S F : List Int} {l : List Stp} (h : AutV n S F l) (A k : Aut) : impl_desk_become (A, k) ((n : Int), S, F, l) true = some (BL (autT n S F l), (((n : Int), S, F, l), k), ()) := by
 obtain ⟨x0, x1, x2, x3⟩ := A
 obtain ⟨y0, y1, y2, y3⟩ := k
 simp only [impl_desk_become, cond_true, fmtA_is h, Option.bind_some, told_yes (autT_ne _ _ _ _)]
theorem told_cost {c : Int} (h : 0 ≤ c ∧ c ≤ 1000000) : impl_cost c = some (BL (costT c)) := by
 have hne : costT c ≠ [] := fun e => by have := (costT_len h).1; rw [e] at this; exact absurd this (by decide)
 simp only [impl_cost, fmtCost_is h, Option.bind_some, decide_eq_true (show c ≥ 0 by omega), told_yes hne]
theorem told_costs {xs : List Int} (h : Csts xs) (hne : xs ≠ []) (hl : xs.length ≤ 1048576) : impl_costs xs true = some (BL (costsT xs)) := by
 simp only [impl_costs, fmtCosts_is h hl, Option.bind_some, told_yes (costsT_ne h hne)]
theorem fmtNum_is {xs : List Int} (h : Num xs) (hl : xs.length ≤ 1048576) : impl_FormatNumbers xs = some (fmtN xs) := by
 unfold fmtN
 by_cases h0 : xs = []
 ·subst h0
  rfl
 ·have e : (((xs.length : Nat) : Int) == 0) = false := by
   have : xs.length ≠ 0 := fun e => h0 (List.length_eq_zero_iff.1 e)
   rw [beq_eq_false_iff_ne]
   omega
  rw [if_neg h0]
  simp only [impl_FormatNumbers, e, cond_false, impl_nums h hl, Option.bind_some]
def numT (xs : List Int) : List UInt8 := (fmtN xs).data.toList
theorem numT_is (xs : List Int) : fmtN xs = BL (numT xs) := rfl
theorem numT_ne {xs : List Int} (h : Num xs) : numT xs ≠ [] := by
 unfold numT
 rw [fmtN_list]
 split
 ·simp
 ·rename_i hne
  cases xs with
  | nil => exact absurd rfl hne
  | cons x r =>
   obtain ⟨a, b⟩ := h x List.mem_cons_self
   have := (itoa_len a b).1
   rw [numsT_cons]
   intro e
   have := congrArg List.length e
   rw [List.length_append, List.length_nil] at this
   omega
theorem numT_len {xs : List Int} (h : Num xs) : (numT xs).length ≤ 21 * xs.length + 1 := by
 unfold numT
 rw [fmtN_list]
 split
 ·simp
 ·have := numsT_len h
  omega
theorem told_nums {xs : List Int} (h : Num xs) (hl : xs.length ≤ 1048576) (ok : Bool) : impl_numbered xs ok = some (BL (if ok = true then numT xs else [110, 111])) := by
 simp only [impl_numbered, fmtNum_is h hl, Option.bind_some, numT_is]
 cases ok with
 | true => rw [told_yes (numT_ne h), if_pos rfl]; rfl
 | false => rw [told_no, if_neg (by decide)]; rfl
end Go.Proofs.YtbndfclpclifbaaGreatDoor

/- The law of scripts about words. -/
namespace Go.Proofs.YtbndfclpclifbaaGreatDoor
open Go Go.Proofs.YtbndfclpclifbaaGreatDoor.Am
/-! ### what is drawn -/
theorem l4Word9_is {N : Int} {d : Dr} (h : DrOk N d) (hN : N ≤ 70000) : ∃ w d', spec_l4Word d = some (w, d', ()) ∧ w.size ≤ 9 := by
 obtain ⟨b, k⟩ := d
 obtain ⟨r0, p0, _, _, _⟩ := pick_is h (by omega) (n := 24) (by omega)
 have s1 := h.next
 unfold spec_l4Word
 dsimp only
 rw [p0]
 simp only [Option.bind_some]
 cases (r0 == 0) with
 | true =>
  obtain ⟨w, ⟨b1, k1⟩, p1, hw, hb, s2⟩ := l4Draw2_is s1 (by omega) (m := 4) (by omega) (by omega)
  obtain ⟨v, hv, p2⟩ := of_is s2 (by omega) (l := List.take 3 (List.drop 0 [(⟨#[(99 : UInt8)]⟩ : ByteArray), (⟨#[(32 : UInt8)]⟩ : ByteArray), (⟨#[(65 : UInt8)]⟩ : ByteArray)])) (by decide) (by decide)
  have hvs : v.size = 1 := by
   have hv : v ∈ [(⟨#[(99 : UInt8)]⟩ : ByteArray), (⟨#[(32 : UInt8)]⟩ : ByteArray), (⟨#[(65 : UInt8)]⟩ : ByteArray)] := hv
   rcases List.mem_cons.1 hv with rfl | hv
   ·rfl
   ·rcases List.mem_cons.1 hv with rfl | hv
    ·rfl
    ·rw [List.mem_singleton.1 hv]; rfl
  rw [cond_true, p1]
  simp only [Option.bind_some]
  rw [p2]
  simp only [Option.bind_some]
  rw [if_pos (by omega)]
  exact ⟨_, _, rfl, by rw [ByteArray.size_append]; omega⟩
 | false =>
  obtain ⟨w, ⟨b1, k1⟩, p1, hw, hb, s2⟩ := l4Draw2_is s1 (by omega) (m := 9) (by omega) (by omega)
  rw [cond_false, p1]
  exact ⟨w, (b1, k1), rfl, by omega⟩
theorem drawRun_is {c : List Int} (hc : ∀ x ∈ c, 0 ≤ x ∧ x ≤ 255) : ∃ a w, spec_DrawRunOf c = some (a, w) ∧ Small a ∧ w.size ≤ 9 := by
 obtain ⟨⟨b, k⟩, p0, s0⟩ := l13Open_is hc
 obtain ⟨⟨x, S, F, l⟩, ⟨b1, k1⟩, p1, t1, s1⟩ := l3Any_is s0 (by omega)
 obtain ⟨w, ⟨b2, k2⟩, p2, hw⟩ := l4Word9_is s1 (by omega)
 refine ⟨(x, S, F, l), w, ?_, t1.small, hw⟩
 simp only [spec_DrawRunOf, p0, Option.bind_some, spec_l4Some, p1, p2]
/-! ### the lines -/
theorem tx_automaton (A k : Aut) {n : Nat} {S F : List Int} {l : List Stp} (h : AutV n S F l) :
  impl_desk_text (A, k) (BL [97, 117, 116, 111, 109, 97, 116, 111, 110]) (BL (autT n S F l)) = some ((BL (autT n S F l), true), (((n : Int), S, F, l), k), ()) := by
 obtain ⟨x0, x1, x2, x3⟩ := A
 obtain ⟨y0, y1, y2, y3⟩ := k
 have hb := become_is h (x0, x1, x2, x3) (y0, y1, y2, y3)
 have e : impl_desk_text ((x0, x1, x2, x3), y0, y1, y2, y3) (BL [97, 117, 116, 111, 109, 97, 116, 111, 110]) (BL (autT n S F l)) = Option.bind (impl_ParseAutomaton (BL (autT n S F l))) fun ((r0, r1, r2, r3), r4) =>
   Option.bind (impl_desk_become ((x0, x1, x2, x3), y0, y1, y2, y3) (r0, (List.take (List.length r1) (List.drop 0 r1)), (List.take (List.length r2) (List.drop 0 r2)), (List.take (List.length r3) (List.drop 0 r3))) r4) fun (r5, ((r6, r7, r8, r9), r10, r11, r12, r13), _) =>
    some ((r5, true), ((r6, r7, r8, r9), r10, r11, r12, r13), ()) := by
  simp only [impl_desk_text, toList_bytes]
  rfl
 rw [e, parseA_is h]
 simp only [Option.bind_some, List.drop_zero, List.take_length, hb]
theorem tx_cost (A k : Aut) {w : ByteArray} {c : Int} (h1 : impl_CostOf A w = some c) (h : 0 ≤ c ∧ c ≤ 1000000) : impl_desk_text (A, k) (BL [99, 111, 115, 116]) w = some ((BL (costT c), true), (A, k), ()) := by
 obtain ⟨x0, x1, x2, x3⟩ := A
 obtain ⟨y0, y1, y2, y3⟩ := k
 have e : impl_desk_text ((x0, x1, x2, x3), y0, y1, y2, y3) (BL [99, 111, 115, 116]) w = Option.bind (impl_CostOf (x0, x1, x2, x3) w) fun r14 =>
    Option.bind (impl_cost r14) fun r15 =>
     some ((r15, true), ((x0, x1, x2, x3), y0, y1, y2, y3), ()) := by
  simp only [impl_desk_text, toList_bytes]
  rfl
 rw [e, h1]
 simp only [Option.bind_some, told_cost h]
theorem tx_run (A k : Aut) {w : ByteArray} {r : List Int} {ok : Bool} (h1 : impl_RunOf A w = some (r, ok)) (h : Num r) (hl : r.length ≤ 1048576) : impl_desk_text (A, k) (BL [114, 117, 110]) w = some ((BL (if ok = true then numT r else [110, 111]), true), (A, k), ()) := by
 obtain ⟨x0, x1, x2, x3⟩ := A
 obtain ⟨y0, y1, y2, y3⟩ := k
 have e : impl_desk_text ((x0, x1, x2, x3), y0, y1, y2, y3) (BL [114, 117, 110]) w = Option.bind (impl_RunOf (x0, x1, x2, x3) w) fun (r16, r17) =>
     Option.bind (impl_numbered (List.take (List.length r16) (List.drop 0 r16)) r17) fun r18 =>
      some ((r18, true), ((x0, x1, x2, x3), y0, y1, y2, y3), ()) := by
  simp only [impl_desk_text, toList_bytes]
  rfl
 rw [e, h1]
 simp only [Option.bind_some, List.drop_zero, List.take_length, told_nums h hl ok]
theorem tx_matrix (A k : Aut) {w : ByteArray} {n : Nat} {P : List Int} (h1 : impl_WordMatrix A w = some (((n : Int), P), true)) (n1 : 1 ≤ n) (n4 : n ≤ 4) (hP : Rng P (n * n)) : impl_desk_text (A, k) (BL [109, 97, 116, 114, 105, 120]) w = some ((BL (matT n P), true), (A, k), ()) := by
 obtain ⟨x0, x1, x2, x3⟩ := A
 obtain ⟨y0, y1, y2, y3⟩ := k
 have e : impl_desk_text ((x0, x1, x2, x3), y0, y1, y2, y3) (BL [109, 97, 116, 114, 105, 120]) w = Option.bind (impl_WordMatrix (x0, x1, x2, x3) w) fun ((r19, r20), r21) =>
      Option.bind (impl_FormatMatrix (r19, (List.take (List.length r20) (List.drop 0 r20)))) fun r22 =>
       Option.bind (impl_told r22 r21) fun r23 =>
        some ((r23, true), ((x0, x1, x2, x3), y0, y1, y2, y3), ()) := by
  simp only [impl_desk_text, toList_bytes]
  rfl
 rw [e, h1]
 simp only [Option.bind_some, List.drop_zero, List.take_length, fmtMat_is n1 n4 hP, told_yes (matT_ne n1 hP)]
theorem tx_prefixes (A k : Aut) {w : ByteArray} {cs : List Int} (h1 : impl_PrefixCosts A w = some (cs, true)) (h : Csts cs) (hne : cs ≠ []) (hl : cs.length ≤ 1048576) : impl_desk_text (A, k) (BL [112, 114, 101, 102, 105, 120, 101, 115]) w = some ((BL (costsT cs), true), (A, k), ()) := by
 obtain ⟨x0, x1, x2, x3⟩ := A
 obtain ⟨y0, y1, y2, y3⟩ := k
 have e : impl_desk_text ((x0, x1, x2, x3), y0, y1, y2, y3) (BL [112, 114, 101, 102, 105, 120, 101, 115]) w = Option.bind (impl_PrefixCosts (x0, x1, x2, x3) w) fun (r24, r25) =>
       Option.bind (impl_costs (List.take (List.length r24) (List.drop 0 r24)) r25) fun r26 =>
        some ((r26, true), ((x0, x1, x2, x3), y0, y1, y2, y3), ()) := by
  simp only [impl_desk_text, toList_bytes]
  rfl
 rw [e, h1]
 simp only [Option.bind_some, List.drop_zero, List.take_length, told_costs h hne hl]
theorem tx_factors (A k : Aut) {w : ByteArray} {c : Int} (h1 : impl_FactorsOf A w = some c) (h : 0 ≤ c ∧ c ≤ 1000000) : impl_desk_text (A, k) (BL [102, 97, 99, 116, 111, 114, 115]) w = some ((BL (costT c), true), (A, k), ()) := by
 obtain ⟨x0, x1, x2, x3⟩ := A
 obtain ⟨y0, y1, y2, y3⟩ := k
 have e : impl_desk_text ((x0, x1, x2, x3), y0, y1, y2, y3) (BL [102, 97, 99, 116, 111, 114, 115]) w = Option.bind (impl_FactorsOf (x0, x1, x2, x3) w) fun r27 =>
        Option.bind (impl_cost r27) fun r28 =>
         some ((r28, true), ((x0, x1, x2, x3), y0, y1, y2, y3), ()) := by
  simp only [impl_desk_text, toList_bytes]
  rfl
 rw [e, h1]
 simp only [Option.bind_some, told_cost h]
theorem daLine_is (l : List UInt8) (hl : l.length ≤ 1000000) (ok : Bool) : laws_daLine (BL l) ok = some (BL ((if ok = true then l else [110, 111]) ++ [10])) := by
 cases ok with
 | false => rfl
 | true =>
  simp only [laws_daLine, Bool.not_true, cond_false, show (⟨#[(10 : UInt8)]⟩ : ByteArray) = BL [10] from rfl, BL_app, BL_size]
  rw [if_pos (by simp only [List.length_cons, List.length_nil]; omega)]
  simp
theorem word_no {w : ByteArray} (h : wordOk w = true) {b : UInt8} (hb : b.toNat < 97) : b ∉ w.data.toList := by
 intro hm
 obtain ⟨i, hi, rfl⟩ := List.getElem_of_mem hm
 have hi' : i < w.size := by rw [← bytes_len]; exact hi
 have e := bytes_at hi'
 rw [List.getElem?_eq_getElem hi] at e
 have e := Option.some.inj e
 rcases letter_is h hi' with h | h
 ·rw [h] at e
  rw [e] at hb
  exact absurd hb (by decide)
 ·rw [h] at e
  rw [e] at hb
  exact absurd hb (by decide)
/-- lines and what they tell, put together -/
theorem scText_cons (x : List UInt8) (ls : List (List UInt8)) : scText (x :: ls) = x ++ 10 :: scText ls := by
 unfold scText
 cases ls with
 | nil => rw [List.cons_append, List.nil_append, join_two]
 | cons y r => rw [List.cons_append, List.cons_append, join_two]
theorem scText_nil : scText [] = [] := Lib.join_one _ _
theorem lit_BL (l : List UInt8) : (⟨⟨l⟩⟩ : ByteArray) = BL l := rfl
theorem p_FnScriptWord (x0 : List Int) (f0 : Fits (.sl (.int .u8)) x0) : laws_FnScriptWord x0 = some true := by
 unfold laws_FnScriptWord
 by_cases hx : ((x0.length : Nat) : Int) > 1048576
 ·rw [decide_eq_true hx, cond_true]
 ·rw [decide_eq_false hx, cond_false]
  obtain ⟨a, w, d1, sa, hw9⟩ := drawRun_is (bytes_of f0)
  rw [d1]
  obtain ⟨x, S, F, l⟩ := a
  simp only [Option.bind_some]
  by_cases hg : autOk (x, S, F, l) = true ∧ wordOk w = true
  case neg =>
   have hV := impl_AutomatonValid_is (x, S, F, l) (small_len sa).1 (small_len sa).2
   have hV2 := spec_AutomatonValid_is (x, S, F, l) (small_len sa).1 (small_len sa).2
   have hW := impl_WordValid_is (w := w) (by omega)
   have hW2 := spec_WordValid_is (w := w) (by omega)
   have c1 : impl_CostOf (x, S, F, l) w = some (-1) := by
    simp only [impl_CostOf, hV, Option.bind_some, hW]
    cases h1 : autOk (x, S, F, l) with
    | false => rfl
    | true =>
     cases h2 : wordOk w with
     | false => rfl
     | true => exact absurd ⟨h1, h2⟩ hg
   have c2 : spec_CostOf (x, S, F, l) w = some (-1) := by
    simp only [spec_CostOf, spec_l4Asked, hV2, Option.bind_some, hW2]
    cases h1 : autOk (x, S, F, l) with
    | false => rfl
    | true =>
     cases h2 : wordOk w with
     | false => rfl
     | true => exact absurd ⟨h1, h2⟩ hg
   rw [c1, c2]
   rfl
  case pos =>
   obtain ⟨hok, hw⟩ := hg
   obtain ⟨n, S', F', l', e, hv⟩ := autV_of hok
   obtain ⟨rfl, rfl, rfl, rfl⟩ : x = (n : Int) ∧ S = S' ∧ F = F' ∧ l = l' := by
    simp only [Prod.mk.injEq] at e
    exact e
   obtain ⟨c, c1, c2, c3⟩ := cost_same sa hok hw
   have hc : 0 ≤ c ∧ c ≤ 1000000 := c3.1
   have hV2 := spec_AutomatonValid_is ((n : Int), S, F, l) (small_len sa).1 (small_len sa).2
   have hW2 := spec_WordValid_is (w := w) (by omega)
   have c1 : spec_CostOf ((n : Int), S, F, l) w = some c := by
    simp only [spec_CostOf, spec_l4Asked, hV2, hok, hW2, hw, Option.bind_some, cond_true, Bool.not_true, cond_false, c1]
   obtain ⟨run, ok, r1, r2, r3⟩ := runOf_is hv hw
   obtain ⟨P, m1, m2⟩ := wordMatrix_is hv.is hok sa hw
   obtain ⟨cs, p1, p2, p3⟩ := prefix_is hv hw
   obtain ⟨k, k1, k2⟩ := impl_FactorsOf_isI sa hok hw (by omega)
   have hk : 0 ≤ k ∧ k ≤ 1000000 := k2.1
   have hrun : Num run := fun q hq => by have := r3 q hq; omega
   have hrl : run.length ≤ 10 := by omega
   have hcl : cs.length ≤ 10 := by omega
   have hP : Rng P (n * n) := m2.1
   -- sizes
   have z1 := autT_short hv
   have z2 := (costT_len hc).2
   have z3 := numT_len hrun
   have z4 := matT_len hv.n4 hP
   have z5 := costsT_len (xs := cs) p3
   have z6 := (costT_len hk).2
   have hcs : cs ≠ [] := fun e => by rw [e] at p2; cases p2
   -- the script
   have sc : Sc A0 A0 [] [[97, 117, 116, 111, 109, 97, 116, 111, 110] ++ 32 :: autT n S F l, [99, 111, 115, 116] ++ 32 :: bytes w, [114, 117, 110] ++ 32 :: bytes w, [109, 97, 116, 114, 105, 120] ++ 32 :: bytes w, [112, 114, 101, 102, 105, 120, 101, 115] ++ 32 :: bytes w, [102, 97, 99, 116, 111, 114, 115] ++ 32 :: bytes w]
     (((((([] ++ (autT n S F l ++ [10])) ++ (costT c ++ [10])) ++ ((if ok = true then numT run else [110, 111]) ++ [10])) ++ (matT n P ++ [10])) ++ (costsT cs ++ [10])) ++ (costT k ++ [10])) := by
    have hwl : (bytes w).length ≤ 9 := by rw [bytes_len]; exact hw9
    refine .line (by decide) (by simp only [List.length_cons, List.length_nil]; omega) (tx_automaton A0 A0 hv) ?_
    refine .line (by decide) (by simp only [List.length_cons, List.length_nil]; omega) (tx_cost _ A0 (w := w) c2 hc) ?_
    refine .line (by decide) (by simp only [List.length_cons, List.length_nil]; omega) (tx_run _ A0 (w := w) r1 hrun (by omega)) ?_
    refine .line (by decide) (by simp only [List.length_cons, List.length_nil]; omega) (tx_matrix _ A0 (w := w) m1 hv.n1 hv.n4 hP) ?_
    refine .line (by decide) (by simp only [List.length_cons, List.length_nil]; omega) (tx_prefixes _ A0 (w := w) p1 p3 hcs (by omega)) ?_
    refine .line (by decide) (by simp only [List.length_cons, List.length_nil]; omega) (tx_factors _ A0 (w := w) k1 hk) ?_
    exact .nil _ _ _
   have hwl : (bytes w).length ≤ 9 := by rw [bytes_len]; exact hw9
   have hw10 : (10 : UInt8) ∉ bytes w := word_no hw (by decide)
   have hon : (if ok = true then numT run else [110, 111]).length ≤ 250 := by
    split
    ·omega
    ·decide
   have hs := script_is sc (by simp) (by simp only [List.length_append, List.length_cons, List.length_nil]; omega) (fun y hy => by
    simp only [List.mem_cons, List.not_mem_nil, or_false] at hy
    rcases hy with rfl | rfl | rfl | rfl | rfl | rfl
    ·intro hm
     rcases List.mem_append.1 hm with hm | hm
     ·exact absurd hm (by decide)
     ·rcases List.mem_cons.1 hm with hm | hm
      ·exact absurd hm (by decide)
      ·exact autT_no hv (by decide) hm
    all_goals
     intro hm
     rcases List.mem_append.1 hm with hm | hm
     ·exact absurd hm (by decide)
     ·rcases List.mem_cons.1 hm with hm | hm
      ·exact absurd hm (by decide)
      ·exact hw10 hm) (by
    simp only [scText_cons, scText_nil, List.length_append, List.length_cons, List.length_nil]
    omega)
   have dl := daLine_is (numT run) (by omega) ok
   have e1 := fmtA_is hv
   have e2 := fmtCost_is hc
   have e3 := fmtNum_is hrun (by omega)
   rw [numT_is] at e3
   have e4 := fmtMat_is hv.n1 hv.n4 hP
   have e5 := fmtCosts_is (xs := cs) p3 (by omega)
   have e6 := fmtCost_is hk
   obtain ⟨ws, rfl⟩ : ∃ ws, w = BL ws := ⟨bytes w, rfl⟩
   have hwl : ws.length ≤ 9 := hw9
   simp only [scText_cons, scText_nil, show bytes (BL ws) = ws from rfl, List.append_assoc, List.cons_append, List.nil_append] at hs
   rw [c2, c1]
   simp only [Option.bind_some, bne_self_eq_false, cond_false, decide_eq_false (show ¬ c < 0 by omega), r1, m1, p1, k1, e1, e2, e3, e4, e5, e6, List.drop_zero, List.take_length, dl]
   simp only [lit_BL, BL_app, BL_size, List.append_assoc, List.cons_append, List.nil_append, List.length_append, List.length_cons, List.length_nil]
   generalize (if ok = true then numT run else [110, 111]) = t3 at hs hon ⊢
   repeat rw [if_pos (by omega)]
   rw [hs]
   simp only [Option.bind_some, beq_self_eq_true]
end Go.Proofs.YtbndfclpclifbaaGreatDoor
