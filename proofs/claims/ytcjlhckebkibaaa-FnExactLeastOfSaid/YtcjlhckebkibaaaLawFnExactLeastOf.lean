/- The law FnExactLeastOf holds for the given program: its row, out of the pure statement and what is told of its functions. -/
import Derived.Test.YtcjlhckebkibaaaRows
import Derived.Test.YtcjlhckebkibaaaPuFnExactLeastOf
import Derived.WalkKit
import Derived.ProofKit
import Derived.OpenShut
import Derived.ShutString
import Derived.ChangeOld
import Derived.Below
import Derived.SizedLaws
set_option linter.unusedVariables false
set_option linter.unusedSimpArgs false
namespace Go.Proofs.Ytcjlhckebkibaaa.fnExactLeastOf
open Go.ChangeShapes Go.WideShapes Go.ChangeAt Go.RowKit Go.Proofs.Ytcjlhckebkibaaa Go.Proofs.Ytcjlhckebkibaaa.Am
open Go.ChangeMaps (open_string shut_string)
theorem own : ownKnob Try.prog.godebug = none := by kernel_rfl
theorem laidOut : laidOutB Try.prog = true := by kernel_rfl
theorem walk (x0 : (Int × ((List Int) × ((List Int) × (List (Int × (ByteArray × (Int × Int)))))))) (x1 : Int) (w : World) (v0 v1 : Value) (r0 : RepV w noWr (.pair (.int .i64) (.pair (.sl (.int .i64)) (.pair (.sl (.int .i64)) (.sl (.pair (.int .i64) (.pair .str (.pair (.int .i64) (.int .i64)))))))) x0 v0) (r1 : RepV w noWr (.int .i64) x1 v1) (h : laws_FnExactLeastOf x0 x1 = some true) :
    Calls Try.prog 10 #[v0, v1] w fun e w' => e = .returned (.bool true) ∧ Below w.heap.size w w' := by
  have := A10_ok (x0, x1, ()) true h w noWr [v0, v1] (fun _ _ h => h.elim) (by simp only [A10, RepPs]; exact ⟨v0, _, rfl, r0, v1, _, rfl, r1, rfl⟩)
  refine this.mono ?_
  rintro e w' ⟨us, rfl, hb, bs, ho, _⟩
  simp only [A10, OwnOuts] at ho
  obtain ⟨v, rfl, cs, ⟨h1, _⟩, rfl⟩ := ho
  simp only [RepC] at h1
  subst h1
  exact ⟨rfl, hb⟩
set_option maxRecDepth 100000 in
theorem lifted (os : Os) (started : os.Started) (H : Type) (enc : TypeId × Value → H) :
    ReturnsInHanded {} Try.checked os 10 .any (Rows.fnExactLeastOfSpec.pre6 enc Try.prog Try.f10 Rows.fnExactLeastOfRow.domain false) (Rows.fnExactLeastOfSpec.post enc Try.prog Try.f10 false true false false) := by
  refine returnsInHanded_of_change_sized (C := Try.checked) own started (by kernel_rfl) Try.func10
    (ChangeSpec.witness6 (enc := enc) (C := Try.checked) false ⟨#[], #[.agg #[.int .i64 0, .slice none 0 0, .slice none 0 0, .slice none 0 0], .int .i64 0], []⟩ 8 (by kernel_rfl) (by kernel_rfl) (by kernel_rfl) (by kernel_rfl)) ?_
  intro W base args ds gs before hval0 hW hcnd hsz0 _
  have hval : ∀ (j : Nat) t v, Try.f10.params[j]? = some t → args[j]? = some v → Value.okWide Try.prog W .any base t v := hval0
  have hW' := hW
  obtain ⟨p, q, hA0, hV, rfl, hfz, hnd⟩ := hW
  have hA : DataW.TrodAll enc Try.prog W 0 (fun _ => true) true Try.f10.params.toList args.toList ds p := hA0
  rw [Try.params10] at hA hval
  obtain ⟨v0, vs0, d0, ds0, p0, q0, hargs, rfl, rfl, h0, r0⟩ := trodAll_cons hA
  obtain ⟨v1, vs1, d1, ds1, p1, q1, rfl, rfl, rfl, h1, r1⟩ := trodAll_cons r0
  obtain ⟨rfl, rfl, rfl⟩ := trodAll_nil r1
  obtain rfl : args = #[v0, v1] := by cases args; simp_all
  obtain ⟨rfl, rfl⟩ := trodVars_none hV
  have lt0 : ∀ x ∈ p0, x.block < W.heap.size := by obtain ⟨m, hm⟩ := h0; exact DataW.trod_lt m _ _ _ hm
  obtain ⟨x0, rep0, fit0⟩ := trod_repV (n := 12) (k := .pair (.int .i64) (.pair (.sl (.int .i64)) (.pair (.sl (.int .i64)) (.sl (.pair (.int .i64) (.pair .str (.pair (.int .i64) (.int .i64)))))))) (by kernel_rfl) (hval 0 39 v0 rfl rfl) h0
  have lt1 : ∀ x ∈ p1, x.block < W.heap.size := by obtain ⟨m, hm⟩ := h1; exact DataW.trod_lt m _ _ _ hm
  obtain ⟨x1, rep1, fit1⟩ := trod_repV (n := 12) (k := .int .i64) (by kernel_rfl) (hval 1 3 v1 rfl rfl) h1
  refine (walk x0 x1 W v0 v1 rep0 rep1 (pure_FnExactLeastOf x0 x1 fit0 fit1)).mono fun e W' ⟨he, bel⟩ => ?_
  subst he
  exact ⟨_, rfl, _, _, _, [], _, [], hW', trodAll_mk1 (shut_bool Try.underlying4 _), (trodAll_cons_mk (Below.trod laidOut (by kernel_rfl) (of_decide_eq_true (by kernel_rfl)) h0 bel lt0) (trodAll_cons_mk (Below.trod laidOut (by kernel_rfl) (of_decide_eq_true (by kernel_rfl)) h1 bel lt1) trodAll_mk0)), rfl, bel.frame _, fun h => by cases h⟩
theorem over : Rows.fnExactLeastOfRow.holds Try.pinned (OpenSpec.ofChange Rows.fnExactLeastOfSpec) :=
  OpenClaim.holds_of_wide 10 Try.f10 rfl rfl rfl rfl rfl rfl rfl ⟨rfl, rfl, rfl, rfl, rfl⟩ rfl rfl rfl rfl rfl (by kernel_rfl) Try.func10 (by kernel_rfl)
    (of_decide_eq_true (by kernel_rfl)) (by unfold Func.isWrapper; first | (rw [if_pos (by decide +kernel)]; kernel_rfl) | (rw [if_neg (by decide +kernel)]; exact ⟨rfl, rfl⟩))
    (fun os started H enc _ => lifted os started H enc)
theorem proved : Rows.FnExactLeastOfSaid := over
#print axioms proved
end Go.Proofs.Ytcjlhckebkibaaa.fnExactLeastOf
namespace Go.Proofs.Ytcjlhckebkibaaa
/-- The row, under a short name, for the claim. -/
theorem fnExactLeastOf_holds : Rows.FnExactLeastOfSaid := fnExactLeastOf.proved
end Go.Proofs.Ytcjlhckebkibaaa
