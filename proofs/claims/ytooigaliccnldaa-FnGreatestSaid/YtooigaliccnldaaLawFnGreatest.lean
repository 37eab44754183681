/- The law FnGreatest holds for the given program: its row, out of the pure statement and what is told of its functions. -/
import Derived.Test.YtooigaliccnldaaRows
import Derived.Test.YtooigaliccnldaaJ
import Derived.Test.YtooigaliccnldaaPuFnGreatest
import Derived.WalkKit
import Derived.ProofKit
import Derived.OpenShut
import Derived.ShutString
import Derived.ChangeOld
import Derived.Below
import Derived.SizedLaws
set_option linter.unusedVariables false
set_option linter.unusedSimpArgs false
namespace Go.Proofs.Ytooigaliccnldaa.fnGreatest
open Go.ChangeShapes Go.WideShapes Go.ChangeAt Go.RowKit Go.Proofs.Ytooigaliccnldaa Go.Proofs.Ytooigaliccnldaa.Am
open Go.ChangeMaps (open_string shut_string)
theorem own : ownKnob Try.prog.godebug = none := by kernel_rfl
theorem laidOut : laidOutB Try.prog = true := by kernel_rfl
theorem walk (x0 : (List Int)) (w : World) (v0 : Value) (r0 : RepV w noWr (.sl (.int .u8)) x0 v0) (h : laws_FnGreatest x0 = some true) :
    Calls Try.prog 12 #[v0] w fun e w' => e = .returned (.bool true) ∧ Below w.heap.size w w' := by
  have := A12_ok (x0, ()) true h w noWr [v0] (fun _ _ h => h.elim) (by simp only [A12, RepPs]; exact ⟨v0, _, rfl, r0, rfl⟩)
  refine this.mono ?_
  rintro e w' ⟨us, rfl, hb, bs, ho, _⟩
  simp only [A12, OwnOuts] at ho
  obtain ⟨v, rfl, cs, ⟨h1, _⟩, rfl⟩ := ho
  simp only [RepC] at h1
  subst h1
  exact ⟨rfl, hb⟩
set_option maxRecDepth 100000 in
theorem lifted (os : Os) (started : os.Started) (H : Type) (enc : TypeId × Value → H) :
    ReturnsInHanded {} Try.checked os 12 .any (Rows.fnGreatestSpec.pre6 enc Try.prog Try.f12 Rows.fnGreatestRow.domain false) (Rows.fnGreatestSpec.post enc Try.prog Try.f12 false true false false) := by
  refine returnsInHanded_of_change_sized (C := Try.checked) own started (by kernel_rfl) Try.func12
    (ChangeSpec.witness6 (enc := enc) (C := Try.checked) false ⟨#[], #[.slice none 0 0], []⟩ 8 (by kernel_rfl) (by kernel_rfl) (by kernel_rfl) (by kernel_rfl)) ?_
  intro W base args ds gs before hval0 hW hcnd hsz0 _
  have hval : ∀ (j : Nat) t v, Try.f12.params[j]? = some t → args[j]? = some v → Value.okWide Try.prog W .any base t v := hval0
  have hW' := hW
  obtain ⟨p, q, hA0, hV, rfl, hfz, hnd⟩ := hW
  have hA : DataW.TrodAll enc Try.prog W 0 (fun _ => true) true Try.f12.params.toList args.toList ds p := hA0
  rw [Try.params12] at hA hval
  obtain ⟨v0, vs0, d0, ds0, p0, q0, hargs, rfl, rfl, h0, r0⟩ := trodAll_cons hA
  obtain ⟨rfl, rfl, rfl⟩ := trodAll_nil r0
  obtain rfl : args = #[v0] := by cases args; simp_all
  obtain ⟨rfl, rfl⟩ := trodVars_none hV
  have lt0 : ∀ x ∈ p0, x.block < W.heap.size := by obtain ⟨m, hm⟩ := h0; exact DataW.trod_lt m _ _ _ hm
  obtain ⟨x0, rep0, fit0⟩ := trod_repV (n := 12) (k := .sl (.int .u8)) (by kernel_rfl) (hval 0 57 v0 rfl rfl) h0
  refine (walk x0 W v0 rep0 (pure_FnGreatest x0 fit0)).mono fun e W' ⟨he, bel⟩ => ?_
  subst he
  exact ⟨_, rfl, _, _, _, [], _, [], hW', trodAll_mk1 (shut_bool Try.underlying4 _), (trodAll_cons_mk (Below.trod laidOut (by kernel_rfl) (of_decide_eq_true (by kernel_rfl)) h0 bel lt0) trodAll_mk0), rfl, bel.frame _, fun h => by cases h⟩
theorem k0 : (Rows.fnGreatestRow.wf (OpenSpec.ofChange Rows.fnGreatestSpec) && laidOutB Try.pinned.checked.prog && mapsRowed Try.pinned.checked.prog && Try.f12.params.all (Try.pinned.checked.prog.readableRec ·) && namedTie Try.pinned.checked.prog Rows.fnGreatestRow.named Rows.fnGreatestSpec.vars && (Rows.fnGreatestRow.stops == []) && (Try.pinned.checked.prog.stops == []) && (Rows.fnGreatestRow.knobs == []) && (Try.pinned.checked.prog.stopKnobs == [])) = true := by kernel_rfl
theorem k1 : ((Rows.fnGreatestRow.inPlace == Try.pinned.checked.prog.inPlace 12)) = true := by kernel_rfl
theorem k2 : ((Rows.fnGreatestRow.unfollowed == Try.pinned.checked.prog.unfollowed 12)) = true := by kernel_rfl
theorem k3 : ((Rows.fnGreatestRow.recurses == Try.pinned.checked.prog.recurses 12)) = true := by kernel_rfl
theorem k4 : ((Rows.fnGreatestRow.named == Try.pinned.checked.prog.varsNamed 12)) = true := by kernel_rfl
theorem k5 : ((Rows.fnGreatestRow.maps == (Try.f12.params.toList ++ Rows.fnGreatestSpec.plain.varTypes Try.pinned.checked.prog).any (Try.pinned.checked.prog.mapsRec ·)) && (Rows.fnGreatestRow.ifaces == (Try.f12.params.toList ++ Rows.fnGreatestSpec.plain.varTypes Try.pinned.checked.prog).any (Try.pinned.checked.prog.ifacesRec ·)) && (Rows.fnGreatestRow.mapsOut == Try.pinned.checked.prog.mapsAmong Try.f12.resultTypes.toList) && (Rows.fnGreatestRow.loops == (Try.f12.params.toList ++ Rows.fnGreatestSpec.plain.varTypes Try.pinned.checked.prog).any (Try.pinned.checked.prog.loopsFrom ·)) && (Rows.fnGreatestRow.wideKeys == (Try.f12.params.toList ++ Rows.fnGreatestSpec.plain.varTypes Try.pinned.checked.prog ++ Try.f12.resultTypes.toList).any (Try.pinned.checked.prog.wideKeysFrom ·)) && Rows.fnGreatestSpec.vars.all (Try.pinned.checked.prog.varReadable ·) && Try.f12.resultTypes.all (fun t => Try.pinned.checked.prog.readableRec t && decide (t < Try.pinned.checked.prog.types.size)) && (Rows.fnGreatestRow.ifacesOut == Try.f12.resultTypes.toList.any (Try.pinned.checked.prog.ifacesRec ·)) && (Rows.fnGreatestRow.loopsOut == Try.f12.resultTypes.toList.any (Try.pinned.checked.prog.loopsFrom ·)) && (Rows.fnGreatestRow.plainKeys == Try.pinned.checked.prog.plainKeys) && Rows.fnGreatestRow.shortTexts.isNone) = true := by kernel_rfl
theorem k10 : ((Rows.fnGreatestRow.pinned == Rows.fnGreatestRow.pinnedBy) && (Rows.fnGreatestRow.veiled == (Try.f12.params.toList ++ Rows.fnGreatestSpec.plain.varTypes Try.pinned.checked.prog ++ Try.f12.resultTypes.toList).any (Try.pinned.checked.prog.veiledRec ·)) && Rows.fnGreatestRow.veiledFits Try.pinned.checked.prog Try.f12.params.toList (Try.f12.params.toList ++ Rows.fnGreatestSpec.plain.varTypes Try.pinned.checked.prog ++ Try.f12.resultTypes.toList)) = true := by kernel_rfl
theorem k6 : (Try.pinned.checked.prog.stopsHeard) = true := joined6
theorem k7 : (Try.pinned.checked.prog.mayEnter) = true := joined7
theorem k8 : ((Rows.fnGreatestRow.lifted == Try.pinned.checked.prog.liftsFinal)) = true := joined8
theorem k9 : ((Try.pinned.checked.prog.make == some Rows.fnGreatestRow.make)) = true := joined9
theorem closed : joinedFacts Try.pinned.checked.prog 12 Try.f12 Rows.fnGreatestSpec Rows.fnGreatestRow = true := by
  have h := (And.intro k0 (And.intro k1 (And.intro k2 (And.intro k3 (And.intro k4 (And.intro k5 (And.intro k6 (And.intro k7 (And.intro k8 (And.intro k9 k10))))))))))
  unfold joinedFacts
  simp only [Bool.and_eq_true] at h ⊢
  simp only [h, and_self, and_true, true_and]
  exact of_decide_eq_true (by kernel_rfl)
theorem named : Try.pinned.checked.prog.funcNamed Rows.fnGreatestRow.func = some 12 := by kernel_rfl
theorem over : Rows.fnGreatestRow.holds Try.pinned (OpenSpec.ofChange Rows.fnGreatestSpec) :=
  OpenClaim.holds_of_wide 12 Try.f12 rfl rfl rfl rfl rfl rfl rfl ⟨rfl, rfl, rfl, rfl, rfl⟩ rfl rfl rfl rfl rfl named Try.func12 closed
    (of_decide_eq_true (by kernel_rfl)) (by unfold Func.isWrapper; first | (rw [if_pos (by decide +kernel)]; kernel_rfl) | (rw [if_neg (by decide +kernel)]; exact ⟨rfl, rfl⟩))
    (fun os started H enc _ => lifted os started H enc)
theorem proved : Rows.FnGreatestSaid := over
#print axioms proved
end Go.Proofs.Ytooigaliccnldaa.fnGreatest
namespace Go.Proofs.Ytooigaliccnldaa
/-- The row, under a short name, for the claim. -/
theorem fnGreatest_holds : Rows.FnGreatestSaid := fnGreatest.proved
end Go.Proofs.Ytooigaliccnldaa
