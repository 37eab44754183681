/- The law FnApart holds for the given program: its row, out of the pure statement and what is told of its functions. -/
import Derived.Test.YtogigagfgkfkhaaRows
import Derived.Test.YtogigagfgkfkhaaJ
import Derived.Test.YtogigagfgkfkhaaPuFnApart
import Derived.WalkKit
import Derived.ProofKit
import Derived.OpenShut
import Derived.ShutString
import Derived.ChangeOld
import Derived.Below
import Derived.SizedLaws
set_option linter.unusedVariables false
set_option linter.unusedSimpArgs false
namespace Go.Proofs.Ytogigagfgkfkhaa.fnApart
open Go.ChangeShapes Go.WideShapes Go.ChangeAt Go.RowKit Go.Proofs.Ytogigagfgkfkhaa Go.Proofs.Ytogigagfgkfkhaa.Am
open Go.ChangeMaps (open_string shut_string)
theorem own : ownKnob Try.prog.godebug = none := by kernel_rfl
theorem laidOut : laidOutB Try.prog = true := by kernel_rfl
theorem walk (x0 : (List Int)) (w : World) (v0 : Value) (r0 : RepV w noWr (.sl (.int .u8)) x0 v0) (h : laws_FnApart x0 = some true) :
    Calls Try.prog 3 #[v0] w fun e w' => e = .returned (.bool true) ∧ Below w.heap.size w w' := by
  have := A3_ok (x0, ()) true h w noWr [v0] ⟨fun _ _ h => h.elim, trivial⟩ (by simp only [A3, RepPs]; exact ⟨v0, _, rfl, r0, rfl⟩)
  refine this.mono ?_
  rintro e w' ⟨us, rfl, hb, bs, ho, _⟩
  simp only [A3, OwnOuts] at ho
  obtain ⟨v, rfl, cs, ⟨h1, _⟩, rfl⟩ := ho
  simp only [RepC] at h1
  subst h1
  exact ⟨rfl, hb.to⟩
set_option maxRecDepth 100000 in
theorem lifted (os : Os) (started : os.Started) (H : Type) (enc : TypeId × Value → H) :
    ReturnsInHanded {} Try.checked os 3 .any (Rows.fnApartSpec.pre6 enc Try.prog Try.f3 Rows.fnApartRow.domain false) (Rows.fnApartSpec.post enc Try.prog Try.f3 false true false false) := by
  refine returnsInHanded_of_change_sized (C := Try.checked) own started (by kernel_rfl) Try.func3
    (ChangeSpec.witness6 (enc := enc) (C := Try.checked) false ⟨#[], #[.slice none 0 0], []⟩ 8 (by kernel_rfl) (by kernel_rfl) (by kernel_rfl) (by kernel_rfl)) ?_
  intro W base args ds gs before hval0 hW hcnd hsz0 _
  have hval : ∀ (j : Nat) t v, Try.f3.params[j]? = some t → args[j]? = some v → Value.okWide Try.prog W .any base t v := hval0
  have hW' := hW
  obtain ⟨p, q, hA0, hV, rfl, hfz, hnd⟩ := hW
  have hA : DataW.TrodAll enc Try.prog W 0 (fun _ => true) true Try.f3.params.toList args.toList ds p := hA0
  rw [Try.params3] at hA hval
  obtain ⟨v0, vs0, d0, ds0, p0, q0, hargs, rfl, rfl, h0, r0⟩ := trodAll_cons hA
  obtain ⟨rfl, rfl, rfl⟩ := trodAll_nil r0
  obtain rfl : args = #[v0] := by cases args; simp_all
  obtain ⟨rfl, rfl⟩ := trodVars_none hV
  have lt0 : ∀ x ∈ p0, x.block < W.heap.size := by obtain ⟨m, hm⟩ := h0; exact DataW.trod_lt m _ _ _ hm
  obtain ⟨x0, rep0, fit0⟩ := trod_repV (P := Try.prog) (n := 12) (k := .sl (.int .u8)) (by kernel_rfl) (hval 0 22 v0 rfl rfl) h0
  refine (walk x0 W v0 rep0 (pure_FnApart x0 fit0)).mono fun e W' ⟨he, bel⟩ => ?_
  subst he
  exact ⟨_, rfl, _, _, _, [], _, [], hW', trodAll_mk1 (shut_bool Try.underlying4 _), (trodAll_cons_mk (Below.trod laidOut (by kernel_rfl) (of_decide_eq_true (by kernel_rfl)) h0 bel lt0) trodAll_mk0), rfl, bel.frame _, fun h => by cases h⟩
theorem k0 : (Rows.fnApartRow.wf (OpenSpec.ofChange Rows.fnApartSpec) && laidOutB Try.pinned.checked.prog && mapsRowed Try.pinned.checked.prog && Try.f3.params.all (Try.pinned.checked.prog.readableRec ·) && namedTie Try.pinned.checked.prog Rows.fnApartRow.named Rows.fnApartSpec.vars && (Rows.fnApartRow.stops == []) && (Try.pinned.checked.prog.stops == []) && (Rows.fnApartRow.knobs == []) && (Try.pinned.checked.prog.stopKnobs == [])) = true := by kernel_rfl
theorem k1 : ((Rows.fnApartRow.inPlace == Try.pinned.checked.prog.inPlace 3)) = true := by kernel_rfl
theorem k2 : ((Rows.fnApartRow.unfollowed == Try.pinned.checked.prog.unfollowed 3)) = true := by kernel_rfl
theorem k3 : ((Rows.fnApartRow.recurses == Try.pinned.checked.prog.recurses 3)) = true := by kernel_rfl
theorem k4 : ((Rows.fnApartRow.named == Try.pinned.checked.prog.varsNamed 3)) = true := by kernel_rfl
theorem k5 : ((Rows.fnApartRow.maps == (Try.f3.params.toList ++ Rows.fnApartSpec.plain.varTypes Try.pinned.checked.prog).any (Try.pinned.checked.prog.mapsRec ·)) && (Rows.fnApartRow.ifaces == (Try.f3.params.toList ++ Rows.fnApartSpec.plain.varTypes Try.pinned.checked.prog).any (Try.pinned.checked.prog.ifacesRec ·)) && (Rows.fnApartRow.mapsOut == Try.pinned.checked.prog.mapsAmong Try.f3.resultTypes.toList) && (Rows.fnApartRow.loops == (Try.f3.params.toList ++ Rows.fnApartSpec.plain.varTypes Try.pinned.checked.prog).any (Try.pinned.checked.prog.loopsFrom ·)) && (Rows.fnApartRow.wideKeys == (Try.f3.params.toList ++ Rows.fnApartSpec.plain.varTypes Try.pinned.checked.prog ++ Try.f3.resultTypes.toList).any (Try.pinned.checked.prog.wideKeysFrom ·)) && Rows.fnApartSpec.vars.all (Try.pinned.checked.prog.varReadable ·) && Try.f3.resultTypes.all (fun t => Try.pinned.checked.prog.readableRec t && decide (t < Try.pinned.checked.prog.types.size)) && (Rows.fnApartRow.ifacesOut == Try.f3.resultTypes.toList.any (Try.pinned.checked.prog.ifacesRec ·)) && (Rows.fnApartRow.loopsOut == Try.f3.resultTypes.toList.any (Try.pinned.checked.prog.loopsFrom ·)) && (Rows.fnApartRow.plainKeys == Try.pinned.checked.prog.plainKeys) && Rows.fnApartRow.shortTexts.isNone) = true := by kernel_rfl
theorem k10 : ((Rows.fnApartRow.pinned == Rows.fnApartRow.pinnedBy) && (Rows.fnApartRow.veiled == (Try.f3.params.toList ++ Rows.fnApartSpec.plain.varTypes Try.pinned.checked.prog ++ Try.f3.resultTypes.toList).any (Try.pinned.checked.prog.veiledRec ·)) && Rows.fnApartRow.veiledFits Try.pinned.checked.prog Try.f3.params.toList (Try.f3.params.toList ++ Rows.fnApartSpec.plain.varTypes Try.pinned.checked.prog ++ Try.f3.resultTypes.toList)) = true := by kernel_rfl
theorem k6 : (Try.pinned.checked.prog.stopsHeard) = true := joined6
theorem k7 : (Try.pinned.checked.prog.mayEnter) = true := joined7
theorem k8 : ((Rows.fnApartRow.lifted == Try.pinned.checked.prog.liftsFinal)) = true := joined8
theorem k9 : ((Try.pinned.checked.prog.make == some Rows.fnApartRow.make)) = true := joined9
theorem closed : joinedFacts Try.pinned.checked.prog 3 Try.f3 Rows.fnApartSpec Rows.fnApartRow = true := by
  have h := (And.intro k0 (And.intro k1 (And.intro k2 (And.intro k3 (And.intro k4 (And.intro k5 (And.intro k6 (And.intro k7 (And.intro k8 (And.intro k9 k10))))))))))
  unfold joinedFacts
  simp only [Bool.and_eq_true] at h ⊢
  simp only [h, and_self, and_true, true_and]
  exact of_decide_eq_true (by kernel_rfl)
theorem named : Try.pinned.checked.prog.funcNamed Rows.fnApartRow.func = some 3 := by kernel_rfl
theorem over : Rows.fnApartRow.holds Try.pinned (OpenSpec.ofChange Rows.fnApartSpec) :=
  OpenClaim.holds_of_wide 3 Try.f3 rfl rfl rfl rfl rfl rfl rfl ⟨rfl, rfl, rfl, rfl, rfl⟩ rfl rfl rfl rfl rfl named Try.func3 closed
    (of_decide_eq_true (by kernel_rfl)) (by unfold Func.isWrapper; first | (rw [if_pos (by decide +kernel)]; kernel_rfl) | (rw [if_neg (by decide +kernel)]; exact ⟨rfl, rfl⟩))
    (fun os started H enc _ => lifted os started H enc)
theorem proved : Rows.FnApartSaid := over
#print axioms proved
end Go.Proofs.Ytogigagfgkfkhaa.fnApart
namespace Go.Proofs.Ytogigagfgkfkhaa
/-- The row, under a short name, for the claim. -/
theorem fnApart_holds : Rows.FnApartSaid := fnApart.proved
end Go.Proofs.Ytogigagfgkfkhaa
