/- The law FnHardest holds for the given program: its row, out of the pure statement and what is told of its functions. -/
import Derived.Test.YtooigaliccnldaaRows
import Derived.Test.YtooigaliccnldaaJ
import Derived.Test.YtooigaliccnldaaPuFnHardest
import Derived.WalkKit
import Derived.ProofKit
import Derived.OpenShut
import Derived.ShutString
import Derived.ChangeOld
import Derived.Below
import Derived.SizedLaws
set_option linter.unusedVariables false
set_option linter.unusedSimpArgs false
namespace Go.Proofs.Ytooigaliccnldaa.fnHardest
open Go.ChangeShapes Go.WideShapes Go.ChangeAt Go.RowKit Go.Proofs.Ytooigaliccnldaa Go.Proofs.Ytooigaliccnldaa.Am
open Go.ChangeMaps (open_string shut_string)
theorem own : ownKnob Try.prog.godebug = none := by kernel_rfl
theorem laidOut : laidOutB Try.prog = true := by kernel_rfl
theorem walk (x0 : (List Int)) (w : World) (v0 : Value) (r0 : RepV w noWr (.sl (.int .u8)) x0 v0) (h : laws_FnHardest x0 = some true) :
    Calls Try.prog 10 #[v0] w fun e w' => e = .returned (.bool true) ∧ Below w.heap.size w w' := by
  have := A10_ok (x0, ()) true h w noWr [v0] (fun _ _ h => h.elim) (by simp only [A10, RepPs]; exact ⟨v0, _, rfl, r0, rfl⟩)
  refine this.mono ?_
  rintro e w' ⟨us, rfl, hb, bs, ho, _⟩
  simp only [A10, OwnOuts] at ho
  obtain ⟨v, rfl, cs, ⟨h1, _⟩, rfl⟩ := ho
  simp only [RepC] at h1
  subst h1
  exact ⟨rfl, hb⟩
set_option maxRecDepth 100000 in
theorem lifted (os : Os) (started : os.Started) (H : Type) (enc : TypeId × Value → H) :
    ReturnsInHanded {} Try.checked os 10 .any (Rows.fnHardestSpec.pre6 enc Try.prog Try.f10 Rows.fnHardestRow.domain false) (Rows.fnHardestSpec.post enc Try.prog Try.f10 false true false false) := by
  refine returnsInHanded_of_change_sized (C := Try.checked) own started (by kernel_rfl) Try.func10
    (ChangeSpec.witness6 (enc := enc) (C := Try.checked) false ⟨#[], #[.slice none 0 0], []⟩ 8 (by kernel_rfl) (by kernel_rfl) (by kernel_rfl) (by kernel_rfl)) ?_
  intro W base args ds gs before hval0 hW hcnd hsz0 _
  have hval : ∀ (j : Nat) t v, Try.f10.params[j]? = some t → args[j]? = some v → Value.okWide Try.prog W .any base t v := hval0
  have hW' := hW
  obtain ⟨p, q, hA0, hV, rfl, hfz, hnd⟩ := hW
  have hA : DataW.TrodAll enc Try.prog W 0 (fun _ => true) true Try.f10.params.toList args.toList ds p := hA0
  rw [Try.params10] at hA hval
  obtain ⟨v0, vs0, d0, ds0, p0, q0, hargs, rfl, rfl, h0, r0⟩ := trodAll_cons hA
  obtain ⟨rfl, rfl, rfl⟩ := trodAll_nil r0
  obtain rfl : args = #[v0] := by cases args; simp_all
  obtain ⟨rfl, rfl⟩ := trodVars_none hV
  have lt0 : ∀ x ∈ p0, x.block < W.heap.size := by obtain ⟨m, hm⟩ := h0; exact DataW.trod_lt m _ _ _ hm
  obtain ⟨x0, rep0, fit0⟩ := trod_repV (n := 12) (k := .sl (.int .u8)) (by kernel_rfl) (hval 0 57 v0 rfl rfl) h0
  refine (walk x0 W v0 rep0 (pure_FnHardest x0 fit0)).mono fun e W' ⟨he, bel⟩ => ?_
  subst he
  exact ⟨_, rfl, _, _, _, [], _, [], hW', trodAll_mk1 (shut_bool Try.underlying4 _), (trodAll_cons_mk (Below.trod laidOut (by kernel_rfl) (of_decide_eq_true (by kernel_rfl)) h0 bel lt0) trodAll_mk0), rfl, bel.frame _, fun h => by cases h⟩
theorem k0 : (Rows.fnHardestRow.wf (OpenSpec.ofChange Rows.fnHardestSpec) && laidOutB Try.pinned.checked.prog && mapsRowed Try.pinned.checked.prog && Try.f10.params.all (Try.pinned.checked.prog.readableRec ·) && namedTie Try.pinned.checked.prog Rows.fnHardestRow.named Rows.fnHardestSpec.vars && (Rows.fnHardestRow.stops == []) && (Try.pinned.checked.prog.stops == []) && (Rows.fnHardestRow.knobs == []) && (Try.pinned.checked.prog.stopKnobs == [])) = true := by kernel_rfl
theorem k1 : ((Rows.fnHardestRow.inPlace == Try.pinned.checked.prog.inPlace 10)) = true := by kernel_rfl
theorem k2 : ((Rows.fnHardestRow.unfollowed == Try.pinned.checked.prog.unfollowed 10)) = true := by kernel_rfl
theorem k3 : ((Rows.fnHardestRow.recurses == Try.pinned.checked.prog.recurses 10)) = true := by kernel_rfl
theorem k4 : ((Rows.fnHardestRow.named == Try.pinned.checked.prog.varsNamed 10)) = true := by kernel_rfl
theorem k5 : ((Rows.fnHardestRow.maps == (Try.f10.params.toList ++ Rows.fnHardestSpec.plain.varTypes Try.pinned.checked.prog).any (Try.pinned.checked.prog.mapsRec ·)) && (Rows.fnHardestRow.ifaces == (Try.f10.params.toList ++ Rows.fnHardestSpec.plain.varTypes Try.pinned.checked.prog).any (Try.pinned.checked.prog.ifacesRec ·)) && (Rows.fnHardestRow.mapsOut == Try.pinned.checked.prog.mapsAmong Try.f10.resultTypes.toList) && (Rows.fnHardestRow.loops == (Try.f10.params.toList ++ Rows.fnHardestSpec.plain.varTypes Try.pinned.checked.prog).any (Try.pinned.checked.prog.loopsFrom ·)) && (Rows.fnHardestRow.wideKeys == (Try.f10.params.toList ++ Rows.fnHardestSpec.plain.varTypes Try.pinned.checked.prog ++ Try.f10.resultTypes.toList).any (Try.pinned.checked.prog.wideKeysFrom ·)) && Rows.fnHardestSpec.vars.all (Try.pinned.checked.prog.varReadable ·) && Try.f10.resultTypes.all (fun t => Try.pinned.checked.prog.readableRec t && decide (t < Try.pinned.checked.prog.types.size)) && (Rows.fnHardestRow.ifacesOut == Try.f10.resultTypes.toList.any (Try.pinned.checked.prog.ifacesRec ·)) && (Rows.fnHardestRow.loopsOut == Try.f10.resultTypes.toList.any (Try.pinned.checked.prog.loopsFrom ·)) && (Rows.fnHardestRow.plainKeys == Try.pinned.checked.prog.plainKeys) && Rows.fnHardestRow.shortTexts.isNone) = true := by kernel_rfl
theorem k10 : ((Rows.fnHardestRow.pinned == Rows.fnHardestRow.pinnedBy) && (Rows.fnHardestRow.veiled == (Try.f10.params.toList ++ Rows.fnHardestSpec.plain.varTypes Try.pinned.checked.prog ++ Try.f10.resultTypes.toList).any (Try.pinned.checked.prog.veiledRec ·)) && Rows.fnHardestRow.veiledFits Try.pinned.checked.prog Try.f10.params.toList (Try.f10.params.toList ++ Rows.fnHardestSpec.plain.varTypes Try.pinned.checked.prog ++ Try.f10.resultTypes.toList)) = true := by kernel_rfl
theorem k6 : (Try.pinned.checked.prog.stopsHeard) = true := joined6
theorem k7 : (Try.pinned.checked.prog.mayEnter) = true := joined7
theorem k8 : ((Rows.fnHardestRow.lifted == Try.pinned.checked.prog.liftsFinal)) = true := joined8
theorem k9 : ((Try.pinned.checked.prog.make == some Rows.fnHardestRow.make)) = true := joined9
theorem closed : joinedFacts Try.pinned.checked.prog 10 Try.f10 Rows.fnHardestSpec Rows.fnHardestRow = true := by
  have h := (And.intro k0 (And.intro k1 (And.intro k2 (And.intro k3 (And.intro k4 (And.intro k5 (And.intro k6 (And.intro k7 (And.intro k8 (And.intro k9 k10))))))))))
  unfold joinedFacts
  simp only [Bool.and_eq_true] at h ⊢
  simp only [h, and_self, and_true, true_and]
  exact of_decide_eq_true (by kernel_rfl)
theorem named : Try.pinned.checked.prog.funcNamed Rows.fnHardestRow.func = some 10 := by kernel_rfl
theorem over : Rows.fnHardestRow.holds Try.pinned (OpenSpec.ofChange Rows.fnHardestSpec) :=
  OpenClaim.holds_of_wide 10 Try.f10 rfl rfl rfl rfl rfl rfl rfl ⟨rfl, rfl, rfl, rfl, rfl⟩ rfl rfl rfl rfl rfl named Try.func10 closed
    (of_decide_eq_true (by kernel_rfl)) (by unfold Func.isWrapper; first | (rw [if_pos (by decide +kernel)]; kernel_rfl) | (rw [if_neg (by decide +kernel)]; exact ⟨rfl, rfl⟩))
    (fun os started H enc _ => lifted os started H enc)
theorem proved : Rows.FnHardestSaid := over
#print axioms proved
end Go.Proofs.Ytooigaliccnldaa.fnHardest
namespace Go.Proofs.Ytooigaliccnldaa
/-- The row, under a short name, for the claim. -/
theorem fnHardest_holds : Rows.FnHardestSaid := fnHardest.proved
end Go.Proofs.Ytooigaliccnldaa
