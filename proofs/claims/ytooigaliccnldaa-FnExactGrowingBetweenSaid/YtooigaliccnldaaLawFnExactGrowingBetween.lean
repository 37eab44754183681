/- The law FnExactGrowingBetween holds for the given program: its row, out of the pure statement and what is told of its functions. -/
import Derived.Test.YtooigaliccnldaaRows
import Derived.Test.YtooigaliccnldaaJ
import Derived.Test.YtooigaliccnldaaPuFnExactGrowingBetween
import Derived.WalkKit
import Derived.ProofKit
import Derived.OpenShut
import Derived.ShutString
import Derived.ChangeOld
import Derived.Below
import Derived.SizedLaws
set_option linter.unusedVariables false
set_option linter.unusedSimpArgs false
namespace Go.Proofs.Ytooigaliccnldaa.fnExactGrowingBetween
open Go.ChangeShapes Go.WideShapes Go.ChangeAt Go.RowKit Go.Proofs.Ytooigaliccnldaa Go.Proofs.Ytooigaliccnldaa.Am
open Go.ChangeMaps (open_string shut_string)
theorem own : ownKnob Try.prog.godebug = none := by kernel_rfl
theorem laidOut : laidOutB Try.prog = true := by kernel_rfl
theorem walk (x0 : (Int × ((List Int) × ((List Int) × (List (Int × (ByteArray × (Int × Int)))))))) (x1 : Int) (x2 : Int) (w : World) (v0 v1 v2 : Value) (r0 : RepV w noWr (.pair (.int .i64) (.pair (.sl (.int .i64)) (.pair (.sl (.int .i64)) (.sl (.pair (.int .i64) (.pair .str (.pair (.int .i64) (.int .i64)))))))) x0 v0) (r1 : RepV w noWr (.int .i64) x1 v1) (r2 : RepV w noWr (.int .i64) x2 v2) (h : laws_FnExactGrowingBetween x0 x1 x2 = some true) :
    Calls Try.prog 13 #[v0, v1, v2] w fun e w' => e = .returned (.bool true) ∧ Below w.heap.size w w' := by
  have := A13_ok (x0, x1, x2, ()) true h w noWr [v0, v1, v2] (fun _ _ h => h.elim) (by simp only [A13, RepPs]; exact ⟨v0, _, rfl, r0, v1, _, rfl, r1, v2, _, rfl, r2, rfl⟩)
  refine this.mono ?_
  rintro e w' ⟨us, rfl, hb, bs, ho, _⟩
  simp only [A13, OwnOuts] at ho
  obtain ⟨v, rfl, cs, ⟨h1, _⟩, rfl⟩ := ho
  simp only [RepC] at h1
  subst h1
  exact ⟨rfl, hb⟩
set_option maxRecDepth 100000 in
theorem lifted (os : Os) (started : os.Started) (H : Type) (enc : TypeId × Value → H) :
    ReturnsInHanded {} Try.checked os 13 .any (Rows.fnExactGrowingBetweenSpec.pre6 enc Try.prog Try.f13 Rows.fnExactGrowingBetweenRow.domain false) (Rows.fnExactGrowingBetweenSpec.post enc Try.prog Try.f13 false true false false) := by
  refine returnsInHanded_of_change_sized (C := Try.checked) own started (by kernel_rfl) Try.func13
    (ChangeSpec.witness6 (enc := enc) (C := Try.checked) false ⟨#[], #[.agg #[.int .i64 0, .slice none 0 0, .slice none 0 0, .slice none 0 0], .int .i64 0, .int .i64 0], []⟩ 8 (by kernel_rfl) (by kernel_rfl) (by kernel_rfl) (by kernel_rfl)) ?_
  intro W base args ds gs before hval0 hW hcnd hsz0 _
  have hval : ∀ (j : Nat) t v, Try.f13.params[j]? = some t → args[j]? = some v → Value.okWide Try.prog W .any base t v := hval0
  have hW' := hW
  obtain ⟨p, q, hA0, hV, rfl, hfz, hnd⟩ := hW
  have hA : DataW.TrodAll enc Try.prog W 0 (fun _ => true) true Try.f13.params.toList args.toList ds p := hA0
  rw [Try.params13] at hA hval
  obtain ⟨v0, vs0, d0, ds0, p0, q0, hargs, rfl, rfl, h0, r0⟩ := trodAll_cons hA
  obtain ⟨v1, vs1, d1, ds1, p1, q1, rfl, rfl, rfl, h1, r1⟩ := trodAll_cons r0
  obtain ⟨v2, vs2, d2, ds2, p2, q2, rfl, rfl, rfl, h2, r2⟩ := trodAll_cons r1
  obtain ⟨rfl, rfl, rfl⟩ := trodAll_nil r2
  obtain rfl : args = #[v0, v1, v2] := by cases args; simp_all
  obtain ⟨rfl, rfl⟩ := trodVars_none hV
  have lt0 : ∀ x ∈ p0, x.block < W.heap.size := by obtain ⟨m, hm⟩ := h0; exact DataW.trod_lt m _ _ _ hm
  obtain ⟨x0, rep0, fit0⟩ := trod_repV (n := 12) (k := .pair (.int .i64) (.pair (.sl (.int .i64)) (.pair (.sl (.int .i64)) (.sl (.pair (.int .i64) (.pair .str (.pair (.int .i64) (.int .i64)))))))) (by kernel_rfl) (hval 0 37 v0 rfl rfl) h0
  have lt1 : ∀ x ∈ p1, x.block < W.heap.size := by obtain ⟨m, hm⟩ := h1; exact DataW.trod_lt m _ _ _ hm
  obtain ⟨x1, rep1, fit1⟩ := trod_repV (n := 12) (k := .int .i64) (by kernel_rfl) (hval 1 3 v1 rfl rfl) h1
  have lt2 : ∀ x ∈ p2, x.block < W.heap.size := by obtain ⟨m, hm⟩ := h2; exact DataW.trod_lt m _ _ _ hm
  obtain ⟨x2, rep2, fit2⟩ := trod_repV (n := 12) (k := .int .i64) (by kernel_rfl) (hval 2 3 v2 rfl rfl) h2
  refine (walk x0 x1 x2 W v0 v1 v2 rep0 rep1 rep2 (pure_FnExactGrowingBetween x0 x1 x2 fit0 fit1 fit2)).mono fun e W' ⟨he, bel⟩ => ?_
  subst he
  exact ⟨_, rfl, _, _, _, [], _, [], hW', trodAll_mk1 (shut_bool Try.underlying4 _), (trodAll_cons_mk (Below.trod laidOut (by kernel_rfl) (of_decide_eq_true (by kernel_rfl)) h0 bel lt0) (trodAll_cons_mk (Below.trod laidOut (by kernel_rfl) (of_decide_eq_true (by kernel_rfl)) h1 bel lt1) (trodAll_cons_mk (Below.trod laidOut (by kernel_rfl) (of_decide_eq_true (by kernel_rfl)) h2 bel lt2) trodAll_mk0))), rfl, bel.frame _, fun h => by cases h⟩
theorem k0 : (Rows.fnExactGrowingBetweenRow.wf (OpenSpec.ofChange Rows.fnExactGrowingBetweenSpec) && laidOutB Try.pinned.checked.prog && mapsRowed Try.pinned.checked.prog && Try.f13.params.all (Try.pinned.checked.prog.readableRec ·) && namedTie Try.pinned.checked.prog Rows.fnExactGrowingBetweenRow.named Rows.fnExactGrowingBetweenSpec.vars && (Rows.fnExactGrowingBetweenRow.stops == []) && (Try.pinned.checked.prog.stops == []) && (Rows.fnExactGrowingBetweenRow.knobs == []) && (Try.pinned.checked.prog.stopKnobs == [])) = true := by kernel_rfl
theorem k1 : ((Rows.fnExactGrowingBetweenRow.inPlace == Try.pinned.checked.prog.inPlace 13)) = true := by kernel_rfl
theorem k2 : ((Rows.fnExactGrowingBetweenRow.unfollowed == Try.pinned.checked.prog.unfollowed 13)) = true := by kernel_rfl
theorem k3 : ((Rows.fnExactGrowingBetweenRow.recurses == Try.pinned.checked.prog.recurses 13)) = true := by kernel_rfl
theorem k4 : ((Rows.fnExactGrowingBetweenRow.named == Try.pinned.checked.prog.varsNamed 13)) = true := by kernel_rfl
theorem k5 : ((Rows.fnExactGrowingBetweenRow.maps == (Try.f13.params.toList ++ Rows.fnExactGrowingBetweenSpec.plain.varTypes Try.pinned.checked.prog).any (Try.pinned.checked.prog.mapsRec ·)) && (Rows.fnExactGrowingBetweenRow.ifaces == (Try.f13.params.toList ++ Rows.fnExactGrowingBetweenSpec.plain.varTypes Try.pinned.checked.prog).any (Try.pinned.checked.prog.ifacesRec ·)) && (Rows.fnExactGrowingBetweenRow.mapsOut == Try.pinned.checked.prog.mapsAmong Try.f13.resultTypes.toList) && (Rows.fnExactGrowingBetweenRow.loops == (Try.f13.params.toList ++ Rows.fnExactGrowingBetweenSpec.plain.varTypes Try.pinned.checked.prog).any (Try.pinned.checked.prog.loopsFrom ·)) && (Rows.fnExactGrowingBetweenRow.wideKeys == (Try.f13.params.toList ++ Rows.fnExactGrowingBetweenSpec.plain.varTypes Try.pinned.checked.prog ++ Try.f13.resultTypes.toList).any (Try.pinned.checked.prog.wideKeysFrom ·)) && Rows.fnExactGrowingBetweenSpec.vars.all (Try.pinned.checked.prog.varReadable ·) && Try.f13.resultTypes.all (fun t => Try.pinned.checked.prog.readableRec t && decide (t < Try.pinned.checked.prog.types.size)) && (Rows.fnExactGrowingBetweenRow.ifacesOut == Try.f13.resultTypes.toList.any (Try.pinned.checked.prog.ifacesRec ·)) && (Rows.fnExactGrowingBetweenRow.loopsOut == Try.f13.resultTypes.toList.any (Try.pinned.checked.prog.loopsFrom ·)) && (Rows.fnExactGrowingBetweenRow.plainKeys == Try.pinned.checked.prog.plainKeys) && Rows.fnExactGrowingBetweenRow.shortTexts.isNone) = true := by kernel_rfl
theorem k10 : ((Rows.fnExactGrowingBetweenRow.pinned == Rows.fnExactGrowingBetweenRow.pinnedBy) && (Rows.fnExactGrowingBetweenRow.veiled == (Try.f13.params.toList ++ Rows.fnExactGrowingBetweenSpec.plain.varTypes Try.pinned.checked.prog ++ Try.f13.resultTypes.toList).any (Try.pinned.checked.prog.veiledRec ·)) && Rows.fnExactGrowingBetweenRow.veiledFits Try.pinned.checked.prog Try.f13.params.toList (Try.f13.params.toList ++ Rows.fnExactGrowingBetweenSpec.plain.varTypes Try.pinned.checked.prog ++ Try.f13.resultTypes.toList)) = true := by kernel_rfl
theorem k6 : (Try.pinned.checked.prog.stopsHeard) = true := joined6
theorem k7 : (Try.pinned.checked.prog.mayEnter) = true := joined7
theorem k8 : ((Rows.fnExactGrowingBetweenRow.lifted == Try.pinned.checked.prog.liftsFinal)) = true := joined8
theorem k9 : ((Try.pinned.checked.prog.make == some Rows.fnExactGrowingBetweenRow.make)) = true := joined9
theorem closed : joinedFacts Try.pinned.checked.prog 13 Try.f13 Rows.fnExactGrowingBetweenSpec Rows.fnExactGrowingBetweenRow = true := by
  have h := (And.intro k0 (And.intro k1 (And.intro k2 (And.intro k3 (And.intro k4 (And.intro k5 (And.intro k6 (And.intro k7 (And.intro k8 (And.intro k9 k10))))))))))
  unfold joinedFacts
  simp only [Bool.and_eq_true] at h ⊢
  simp only [h, and_self, and_true, true_and]
  exact of_decide_eq_true (by kernel_rfl)
theorem named : Try.pinned.checked.prog.funcNamed Rows.fnExactGrowingBetweenRow.func = some 13 := by kernel_rfl
theorem over : Rows.fnExactGrowingBetweenRow.holds Try.pinned (OpenSpec.ofChange Rows.fnExactGrowingBetweenSpec) :=
  OpenClaim.holds_of_wide 13 Try.f13 rfl rfl rfl rfl rfl rfl rfl ⟨rfl, rfl, rfl, rfl, rfl⟩ rfl rfl rfl rfl rfl named Try.func13 closed
    (of_decide_eq_true (by kernel_rfl)) (by unfold Func.isWrapper; first | (rw [if_pos (by decide +kernel)]; kernel_rfl) | (rw [if_neg (by decide +kernel)]; exact ⟨rfl, rfl⟩))
    (fun os started H enc _ => lifted os started H enc)
theorem proved : Rows.FnExactGrowingBetweenSaid := over
#print axioms proved
end Go.Proofs.Ytooigaliccnldaa.fnExactGrowingBetween
namespace Go.Proofs.Ytooigaliccnldaa
/-- The row, under a short name, for the claim. -/
theorem fnExactGrowingBetween_holds : Rows.FnExactGrowingBetweenSaid := fnExactGrowingBetween.proved
end Go.Proofs.Ytooigaliccnldaa
