/- The law FnExactPowerAutomaton holds for the given program: its row, out of the pure statement and what is told of its functions. -/
import Derived.Test.YtbmlleocidldpaaRows
import Derived.Test.YtbmlleocidldpaaJ
import Derived.Test.YtbmlleocidldpaaPuFnExactPowerAutomaton
import Derived.WalkKit
import Derived.ProofKit
import Derived.OpenShut
import Derived.ShutString
import Derived.ChangeOld
import Derived.Below
import Derived.SizedLaws
set_option linter.unusedVariables false
set_option linter.unusedSimpArgs false
namespace Go.Proofs.Ytbmlleocidldpaa.fnExactPowerAutomaton
open Go.ChangeShapes Go.WideShapes Go.ChangeAt Go.RowKit Go.Proofs.Ytbmlleocidldpaa Go.Proofs.Ytbmlleocidldpaa.Am
open Go.ChangeMaps (open_string shut_string)
theorem own : ownKnob Try.prog.godebug = none := by kernel_rfl
theorem laidOut : laidOutB Try.prog = true := by kernel_rfl
theorem walk (x0 : (Int × ((List Int) × ((List Int) × (List (Int × (ByteArray × (Int × Int)))))))) (w : World) (v0 : Value) (r0 : RepV w noWr (.pair (.int .i64) (.pair (.sl (.int .i64)) (.pair (.sl (.int .i64)) (.sl (.pair (.int .i64) (.pair .str (.pair (.int .i64) (.int .i64)))))))) x0 v0) (h : laws_FnExactPowerAutomaton x0 = some true) :
    Calls Try.prog 4 #[v0] w fun e w' => e = .returned (.bool true) ∧ Below w.heap.size w w' := by
  have := A4_ok (x0, ()) true h w noWr [v0] (fun _ _ h => h.elim) (by simp only [A4, RepPs]; exact ⟨v0, _, rfl, r0, rfl⟩)
  refine this.mono ?_
  rintro e w' ⟨us, rfl, hb, bs, ho, _⟩
  simp only [A4, OwnOuts] at ho
  obtain ⟨v, rfl, cs, ⟨h1, _⟩, rfl⟩ := ho
  simp only [RepC] at h1
  subst h1
  exact ⟨rfl, hb.to⟩
set_option maxRecDepth 100000 in
theorem lifted (os : Os) (started : os.Started) (H : Type) (enc : TypeId × Value → H) :
    ReturnsInHanded {} Try.checked os 4 .any (Rows.fnExactPowerAutomatonSpec.pre6 enc Try.prog Try.f4 Rows.fnExactPowerAutomatonRow.domain false) (Rows.fnExactPowerAutomatonSpec.post enc Try.prog Try.f4 false true false false) := by
  refine returnsInHanded_of_change_sized (C := Try.checked) own started (by kernel_rfl) Try.func4
    (ChangeSpec.witness6 (enc := enc) (C := Try.checked) false ⟨#[], #[.agg #[.int .i64 0, .slice none 0 0, .slice none 0 0, .slice none 0 0]], []⟩ 8 (by kernel_rfl) (by kernel_rfl) (by kernel_rfl) (by kernel_rfl)) ?_
  intro W base args ds gs before hval0 hW hcnd hsz0 _
  have hval : ∀ (j : Nat) t v, Try.f4.params[j]? = some t → args[j]? = some v → Value.okWide Try.prog W .any base t v := hval0
  have hW' := hW
  obtain ⟨p, q, hA0, hV, rfl, hfz, hnd⟩ := hW
  have hA : DataW.TrodAll enc Try.prog W 0 (fun _ => true) true Try.f4.params.toList args.toList ds p := hA0
  rw [Try.params4] at hA hval
  obtain ⟨v0, vs0, d0, ds0, p0, q0, hargs, rfl, rfl, h0, r0⟩ := trodAll_cons hA
  obtain ⟨rfl, rfl, rfl⟩ := trodAll_nil r0
  obtain rfl : args = #[v0] := by cases args; simp_all
  obtain ⟨rfl, rfl⟩ := trodVars_none hV
  have lt0 : ∀ x ∈ p0, x.block < W.heap.size := by obtain ⟨m, hm⟩ := h0; exact DataW.trod_lt m _ _ _ hm
  obtain ⟨x0, rep0, fit0⟩ := trod_repV (n := 12) (k := .pair (.int .i64) (.pair (.sl (.int .i64)) (.pair (.sl (.int .i64)) (.sl (.pair (.int .i64) (.pair .str (.pair (.int .i64) (.int .i64)))))))) (by kernel_rfl) (hval 0 40 v0 rfl rfl) h0
  refine (walk x0 W v0 rep0 (pure_FnExactPowerAutomaton x0 fit0)).mono fun e W' ⟨he, bel⟩ => ?_
  subst he
  exact ⟨_, rfl, _, _, _, [], _, [], hW', trodAll_mk1 (shut_bool Try.underlying4 _), (trodAll_cons_mk (Below.trod laidOut (by kernel_rfl) (of_decide_eq_true (by kernel_rfl)) h0 bel lt0) trodAll_mk0), rfl, bel.frame _, fun h => by cases h⟩
theorem k0 : (Rows.fnExactPowerAutomatonRow.wf (OpenSpec.ofChange Rows.fnExactPowerAutomatonSpec) && laidOutB Try.pinned.checked.prog && mapsRowed Try.pinned.checked.prog && Try.f4.params.all (Try.pinned.checked.prog.readableRec ·) && namedTie Try.pinned.checked.prog Rows.fnExactPowerAutomatonRow.named Rows.fnExactPowerAutomatonSpec.vars && (Rows.fnExactPowerAutomatonRow.stops == []) && (Try.pinned.checked.prog.stops == []) && (Rows.fnExactPowerAutomatonRow.knobs == []) && (Try.pinned.checked.prog.stopKnobs == [])) = true := by kernel_rfl
theorem k1 : ((Rows.fnExactPowerAutomatonRow.inPlace == Try.pinned.checked.prog.inPlace 4)) = true := by kernel_rfl
theorem k2 : ((Rows.fnExactPowerAutomatonRow.unfollowed == Try.pinned.checked.prog.unfollowed 4)) = true := by kernel_rfl
theorem k3 : ((Rows.fnExactPowerAutomatonRow.recurses == Try.pinned.checked.prog.recurses 4)) = true := by kernel_rfl
theorem k4 : ((Rows.fnExactPowerAutomatonRow.named == Try.pinned.checked.prog.varsNamed 4)) = true := by kernel_rfl
theorem k5 : ((Rows.fnExactPowerAutomatonRow.maps == (Try.f4.params.toList ++ Rows.fnExactPowerAutomatonSpec.plain.varTypes Try.pinned.checked.prog).any (Try.pinned.checked.prog.mapsRec ·)) && (Rows.fnExactPowerAutomatonRow.ifaces == (Try.f4.params.toList ++ Rows.fnExactPowerAutomatonSpec.plain.varTypes Try.pinned.checked.prog).any (Try.pinned.checked.prog.ifacesRec ·)) && (Rows.fnExactPowerAutomatonRow.mapsOut == Try.pinned.checked.prog.mapsAmong Try.f4.resultTypes.toList) && (Rows.fnExactPowerAutomatonRow.loops == (Try.f4.params.toList ++ Rows.fnExactPowerAutomatonSpec.plain.varTypes Try.pinned.checked.prog).any (Try.pinned.checked.prog.loopsFrom ·)) && (Rows.fnExactPowerAutomatonRow.wideKeys == (Try.f4.params.toList ++ Rows.fnExactPowerAutomatonSpec.plain.varTypes Try.pinned.checked.prog ++ Try.f4.resultTypes.toList).any (Try.pinned.checked.prog.wideKeysFrom ·)) && Rows.fnExactPowerAutomatonSpec.vars.all (Try.pinned.checked.prog.varReadable ·) && Try.f4.resultTypes.all (fun t => Try.pinned.checked.prog.readableRec t && decide (t < Try.pinned.checked.prog.types.size)) && (Rows.fnExactPowerAutomatonRow.ifacesOut == Try.f4.resultTypes.toList.any (Try.pinned.checked.prog.ifacesRec ·)) && (Rows.fnExactPowerAutomatonRow.loopsOut == Try.f4.resultTypes.toList.any (Try.pinned.checked.prog.loopsFrom ·)) && (Rows.fnExactPowerAutomatonRow.plainKeys == Try.pinned.checked.prog.plainKeys) && Rows.fnExactPowerAutomatonRow.shortTexts.isNone) = true := by kernel_rfl
theorem k10 : ((Rows.fnExactPowerAutomatonRow.pinned == Rows.fnExactPowerAutomatonRow.pinnedBy) && (Rows.fnExactPowerAutomatonRow.veiled == (Try.f4.params.toList ++ Rows.fnExactPowerAutomatonSpec.plain.varTypes Try.pinned.checked.prog ++ Try.f4.resultTypes.toList).any (Try.pinned.checked.prog.veiledRec ·)) && Rows.fnExactPowerAutomatonRow.veiledFits Try.pinned.checked.prog Try.f4.params.toList (Try.f4.params.toList ++ Rows.fnExactPowerAutomatonSpec.plain.varTypes Try.pinned.checked.prog ++ Try.f4.resultTypes.toList)) = true := by kernel_rfl
theorem k6 : (Try.pinned.checked.prog.stopsHeard) = true := joined6
theorem k7 : (Try.pinned.checked.prog.mayEnter) = true := joined7
theorem k8 : ((Rows.fnExactPowerAutomatonRow.lifted == Try.pinned.checked.prog.liftsFinal)) = true := joined8
theorem k9 : ((Try.pinned.checked.prog.make == some Rows.fnExactPowerAutomatonRow.make)) = true := joined9
theorem closed : joinedFacts Try.pinned.checked.prog 4 Try.f4 Rows.fnExactPowerAutomatonSpec Rows.fnExactPowerAutomatonRow = true := by
  have h := (And.intro k0 (And.intro k1 (And.intro k2 (And.intro k3 (And.intro k4 (And.intro k5 (And.intro k6 (And.intro k7 (And.intro k8 (And.intro k9 k10))))))))))
  unfold joinedFacts
  simp only [Bool.and_eq_true] at h ⊢
  simp only [h, and_self, and_true, true_and]
  exact of_decide_eq_true (by kernel_rfl)
theorem named : Try.pinned.checked.prog.funcNamed Rows.fnExactPowerAutomatonRow.func = some 4 := by kernel_rfl
theorem over : Rows.fnExactPowerAutomatonRow.holds Try.pinned (OpenSpec.ofChange Rows.fnExactPowerAutomatonSpec) :=
  OpenClaim.holds_of_wide 4 Try.f4 rfl rfl rfl rfl rfl rfl rfl ⟨rfl, rfl, rfl, rfl, rfl⟩ rfl rfl rfl rfl rfl named Try.func4 closed
    (of_decide_eq_true (by kernel_rfl)) (by unfold Func.isWrapper; first | (rw [if_pos (by decide +kernel)]; kernel_rfl) | (rw [if_neg (by decide +kernel)]; exact ⟨rfl, rfl⟩))
    (fun os started H enc _ => lifted os started H enc)
theorem proved : Rows.FnExactPowerAutomatonSaid := over
#print axioms proved
end Go.Proofs.Ytbmlleocidldpaa.fnExactPowerAutomaton
namespace Go.Proofs.Ytbmlleocidldpaa
/-- The row, under a short name, for the claim. -/
theorem fnExactPowerAutomaton_holds : Rows.FnExactPowerAutomatonSaid := fnExactPowerAutomaton.proved
end Go.Proofs.Ytbmlleocidldpaa
