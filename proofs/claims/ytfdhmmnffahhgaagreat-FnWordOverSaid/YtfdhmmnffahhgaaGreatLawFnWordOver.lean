/- The law FnWordOver holds for the given program: its row, out of the pure statement and what is told of its functions. -/
import Derived.Test.YtfdhmmnffahhgaaGreatRows
import Derived.Test.YtfdhmmnffahhgaaGreatJ
import Derived.Test.YtfdhmmnffahhgaaGreatPuFnWordOver
import Derived.WalkKit
import Derived.ProofKit
import Derived.OpenShut
import Derived.ShutString
import Derived.ChangeOld
import Derived.Below
import Derived.SizedLaws
set_option linter.unusedVariables false
set_option linter.unusedSimpArgs false
namespace Go.Proofs.YtfdhmmnffahhgaaGreat.fnWordOver
open Go.ChangeShapes Go.WideShapes Go.ChangeAt Go.RowKit Go.Proofs.YtfdhmmnffahhgaaGreat Go.Proofs.YtfdhmmnffahhgaaGreat.Am
open Go.ChangeMaps (open_string shut_string)
theorem own : ownKnob Tryz.prog.godebug = none := by kernel_rfl
theorem laidOut : laidOutB Tryz.prog = true := by kernel_rfl
theorem walk (x0 : (List Int)) (w : World) (v0 : Value) (r0 : RepV w noWr (.sl (.int .u8)) x0 v0) (h : yq2 x0 = some true) :
    Calls Tryz.prog 4 #[v0] w fun e w' => e = .returned (.bool true) ∧ Below w.heap.size w w' := by
  have := A4_ok (x0, ()) true h w noWr [v0] (fun _ _ h => h.elim) (by simp only [A4, y1d]; exact ⟨v0, _, rfl, r0, rfl⟩)
  refine this.mono ?_
  rintro e w' ⟨us, rfl, hb, bs, ho, _⟩
  simp only [A4, OwnOuts] at ho
  obtain ⟨v, rfl, cs, ⟨h1, _⟩, rfl⟩ := ho
  simp only [RepC] at h1
  subst h1
  exact ⟨rfl, hb.to⟩
set_option maxRecDepth 100000 in
theorem lifted (os : Os) (started : os.Started) (H : Type) (enc : TypeId × Value → H) :
    ReturnsInHanded {} Tryz.checked os 4 .any (Rows.fnWordOverSpec.pre6 enc Tryz.prog Tryz.f4 Rows.fnWordOverRow.domain false) (Rows.fnWordOverSpec.post enc Tryz.prog Tryz.f4 false true false false) := by
  refine returnsInHanded_of_change_sized (C := Tryz.checked) own started (by kernel_rfl) Tryz.func4
    (ChangeSpec.witness6 (enc := enc) (C := Tryz.checked) false ⟨#[], #[.slice none 0 0], []⟩ 8 (by kernel_rfl) (by kernel_rfl) (by kernel_rfl) (by kernel_rfl)) ?_
  intro W base args ds gs before hval0 hW hcnd hsz0 _
  have hval : ∀ (j : Nat) t v, Tryz.f4.params[j]? = some t → args[j]? = some v → Value.okWide Tryz.prog W .any base t v := hval0
  have hW' := hW
  obtain ⟨p, q, hA0, hV, rfl, hfz, hnd⟩ := hW
  have hA : DataW.TrodAll enc Tryz.prog W 0 (fun _ => true) true Tryz.f4.params.toList args.toList ds p := hA0
  rw [Tryz.params4] at hA hval
  obtain ⟨v0, vs0, d0, ds0, p0, q0, hargs, rfl, rfl, h0, r0⟩ := trodAll_cons hA
  obtain ⟨rfl, rfl, rfl⟩ := trodAll_nil r0
  obtain rfl : args = #[v0] := by cases args; simp_all
  obtain ⟨rfl, rfl⟩ := trodVars_none hV
  have lt0 : ∀ x ∈ p0, x.block < W.heap.size := by obtain ⟨m, hm⟩ := h0; exact DataW.trod_lt m _ _ _ hm
  obtain ⟨x0, rep0, fit0⟩ := kf2 (n := 12) (k := .sl (.int .u8)) (by kernel_rfl) (hval 0 35 v0 rfl rfl) h0
  refine (walk x0 W v0 rep0 (zw1 x0 fit0)).mono fun e W' ⟨he, bel⟩ => ?_
  subst he
  exact ⟨_, rfl, _, _, _, [], _, [], hW', trodAll_mk1 (shut_bool Tryz.underlying4 _), (trodAll_cons_mk (Below.trod laidOut (by kernel_rfl) (of_decide_eq_true (by kernel_rfl)) h0 bel lt0) trodAll_mk0), rfl, bel.frame _, fun h => by cases h⟩
theorem k0 : (Rows.fnWordOverRow.wf (OpenSpec.ofChange Rows.fnWordOverSpec) && laidOutB Tryz.pinned.checked.prog && mapsRowed Tryz.pinned.checked.prog && Tryz.f4.params.all (Tryz.pinned.checked.prog.readableRec ·) && namedTie Tryz.pinned.checked.prog Rows.fnWordOverRow.named Rows.fnWordOverSpec.vars && (Rows.fnWordOverRow.stops == []) && (Tryz.pinned.checked.prog.stops == []) && (Rows.fnWordOverRow.knobs == []) && (Tryz.pinned.checked.prog.stopKnobs == [])) = true := by kernel_rfl
theorem k1 : ((Rows.fnWordOverRow.inPlace == Tryz.pinned.checked.prog.inPlace 4)) = true := by kernel_rfl
theorem k2 : ((Rows.fnWordOverRow.unfollowed == Tryz.pinned.checked.prog.unfollowed 4)) = true := by kernel_rfl
theorem k3 : ((Rows.fnWordOverRow.recurses == Tryz.pinned.checked.prog.recurses 4)) = true := by kernel_rfl
theorem k4 : ((Rows.fnWordOverRow.named == Tryz.pinned.checked.prog.varsNamed 4)) = true := by kernel_rfl
theorem k5 : ((Rows.fnWordOverRow.maps == (Tryz.f4.params.toList ++ Rows.fnWordOverSpec.plain.varTypes Tryz.pinned.checked.prog).any (Tryz.pinned.checked.prog.mapsRec ·)) && (Rows.fnWordOverRow.ifaces == (Tryz.f4.params.toList ++ Rows.fnWordOverSpec.plain.varTypes Tryz.pinned.checked.prog).any (Tryz.pinned.checked.prog.ifacesRec ·)) && (Rows.fnWordOverRow.mapsOut == Tryz.pinned.checked.prog.mapsAmong Tryz.f4.resultTypes.toList) && (Rows.fnWordOverRow.loops == (Tryz.f4.params.toList ++ Rows.fnWordOverSpec.plain.varTypes Tryz.pinned.checked.prog).any (Tryz.pinned.checked.prog.loopsFrom ·)) && (Rows.fnWordOverRow.wideKeys == (Tryz.f4.params.toList ++ Rows.fnWordOverSpec.plain.varTypes Tryz.pinned.checked.prog ++ Tryz.f4.resultTypes.toList).any (Tryz.pinned.checked.prog.wideKeysFrom ·)) && Rows.fnWordOverSpec.vars.all (Tryz.pinned.checked.prog.varReadable ·) && Tryz.f4.resultTypes.all (fun t => Tryz.pinned.checked.prog.readableRec t && decide (t < Tryz.pinned.checked.prog.types.size)) && (Rows.fnWordOverRow.ifacesOut == Tryz.f4.resultTypes.toList.any (Tryz.pinned.checked.prog.ifacesRec ·)) && (Rows.fnWordOverRow.loopsOut == Tryz.f4.resultTypes.toList.any (Tryz.pinned.checked.prog.loopsFrom ·)) && (Rows.fnWordOverRow.plainKeys == Tryz.pinned.checked.prog.plainKeys) && Rows.fnWordOverRow.shortTexts.isNone) = true := by kernel_rfl
theorem k10 : ((Rows.fnWordOverRow.pinned == Rows.fnWordOverRow.pinnedBy) && (Rows.fnWordOverRow.veiled == (Tryz.f4.params.toList ++ Rows.fnWordOverSpec.plain.varTypes Tryz.pinned.checked.prog ++ Tryz.f4.resultTypes.toList).any (Tryz.pinned.checked.prog.veiledRec ·)) && Rows.fnWordOverRow.veiledFits Tryz.pinned.checked.prog Tryz.f4.params.toList (Tryz.f4.params.toList ++ Rows.fnWordOverSpec.plain.varTypes Tryz.pinned.checked.prog ++ Tryz.f4.resultTypes.toList)) = true := by kernel_rfl
theorem k6 : (Tryz.pinned.checked.prog.stopsHeard) = true := joined6
theorem k7 : (Tryz.pinned.checked.prog.mayEnter) = true := joined7
theorem k8 : ((Rows.fnWordOverRow.lifted == Tryz.pinned.checked.prog.liftsFinal)) = true := joined8
theorem k9 : ((Tryz.pinned.checked.prog.make == some Rows.fnWordOverRow.make)) = true := joined9
theorem closed : joinedFacts Tryz.pinned.checked.prog 4 Tryz.f4 Rows.fnWordOverSpec Rows.fnWordOverRow = true := by
  have h := (And.intro k0 (And.intro k1 (And.intro k2 (And.intro k3 (And.intro k4 (And.intro k5 (And.intro k6 (And.intro k7 (And.intro k8 (And.intro k9 k10))))))))))
  unfold joinedFacts
  simp only [Bool.and_eq_true] at h ⊢
  simp only [h, and_self, and_true, true_and]
  exact of_decide_eq_true (by kernel_rfl)
theorem named : Tryz.pinned.checked.prog.funcNamed Rows.fnWordOverRow.func = some 4 := by kernel_rfl
theorem over : Rows.fnWordOverRow.holds Tryz.pinned (OpenSpec.ofChange Rows.fnWordOverSpec) :=
  OpenClaim.holds_of_wide 4 Tryz.f4 rfl rfl rfl rfl rfl rfl rfl ⟨rfl, rfl, rfl, rfl, rfl⟩ rfl rfl rfl rfl rfl named Tryz.func4 closed
    (of_decide_eq_true (by kernel_rfl)) (by unfold Func.isWrapper; first | (rw [if_pos (by decide +kernel)]; kernel_rfl) | (rw [if_neg (by decide +kernel)]; exact ⟨rfl, rfl⟩))
    (fun os started H enc _ => lifted os started H enc)
theorem proved : Rows.FnWordOverSaid := over
#print axioms proved
end Go.Proofs.YtfdhmmnffahhgaaGreat.fnWordOver
namespace Go.Proofs.YtfdhmmnffahhgaaGreat
/-- The row, under a short name, for the claim. -/
theorem fnWordOver_holds : Rows.FnWordOverSaid := fnWordOver.proved
end Go.Proofs.YtfdhmmnffahhgaaGreat
