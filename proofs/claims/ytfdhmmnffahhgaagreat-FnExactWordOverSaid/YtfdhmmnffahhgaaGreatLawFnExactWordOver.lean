/- The law FnExactWordOver holds for the given program: its row, out of the pure statement and what is told of its functions. -/
import Derived.Test.YtfdhmmnffahhgaaGreatRows
import Derived.Test.YtfdhmmnffahhgaaGreatJ
import Derived.Test.YtfdhmmnffahhgaaGreatPuFnExactWordOver
import Derived.WalkKit
import Derived.ProofKit
import Derived.OpenShut
import Derived.ShutString
import Derived.ChangeOld
import Derived.Below
import Derived.SizedLaws
set_option linter.unusedVariables false
set_option linter.unusedSimpArgs false
namespace Go.Proofs.YtfdhmmnffahhgaaGreat.fnExactWordOver
open Go.ChangeShapes Go.WideShapes Go.ChangeAt Go.RowKit Go.Proofs.YtfdhmmnffahhgaaGreat Go.Proofs.YtfdhmmnffahhgaaGreat.Am
open Go.ChangeMaps (open_string shut_string)
theorem own : ownKnob Tryz.prog.godebug = none := by kernel_rfl
theorem laidOut : laidOutB Tryz.prog = true := by kernel_rfl
theorem walk (x0 : (Int × ((List Int) × ((List Int) × (List (Int × (ByteArray × (Int × Int)))))))) (x1 : Int) (w : World) (v0 v1 : Value) (r0 : RepV w noWr (.pair (.int .i64) (.pair (.sl (.int .i64)) (.pair (.sl (.int .i64)) (.sl (.pair (.int .i64) (.pair .str (.pair (.int .i64) (.int .i64)))))))) x0 v0) (r1 : RepV w noWr (.int .i64) x1 v1) (h : laws_FnExactWordOver x0 x1 = some true) :
    Calls Tryz.prog 3 #[v0, v1] w fun e w' => e = .returned (.bool true) ∧ Below w.heap.size w w' := by
  have := A3_ok (x0, x1, ()) true h w noWr [v0, v1] (fun _ _ h => h.elim) (by simp only [A3, RepPs]; exact ⟨v0, _, rfl, r0, v1, _, rfl, r1, rfl⟩)
  refine this.mono ?_
  rintro e w' ⟨us, rfl, hb, bs, ho, _⟩
  simp only [A3, OwnOuts] at ho
  obtain ⟨v, rfl, cs, ⟨h1, _⟩, rfl⟩ := ho
  simp only [RepC] at h1
  subst h1
  exact ⟨rfl, hb.to⟩
set_option maxRecDepth 100000 in
theorem lifted (os : Os) (started : os.Started) (H : Type) (enc : TypeId × Value → H) :
    ReturnsInHanded {} Tryz.checked os 3 .any (Rows.fnExactWordOverSpec.pre6 enc Tryz.prog Tryz.f3 Rows.fnExactWordOverRow.domain false) (Rows.fnExactWordOverSpec.post enc Tryz.prog Tryz.f3 false true false false) := by
  refine returnsInHanded_of_change_sized (C := Tryz.checked) own started (by kernel_rfl) Tryz.func3
    (ChangeSpec.witness6 (enc := enc) (C := Tryz.checked) false ⟨#[], #[.agg #[.int .i64 0, .slice none 0 0, .slice none 0 0, .slice none 0 0], .int .i64 0], []⟩ 8 (by kernel_rfl) (by kernel_rfl) (by kernel_rfl) (by kernel_rfl)) ?_
  intro W base args ds gs before hval0 hW hcnd hsz0 _
  have hval : ∀ (j : Nat) t v, Tryz.f3.params[j]? = some t → args[j]? = some v → Value.okWide Tryz.prog W .any base t v := hval0
  have hW' := hW
  obtain ⟨p, q, hA0, hV, rfl, hfz, hnd⟩ := hW
  have hA : DataW.TrodAll enc Tryz.prog W 0 (fun _ => true) true Tryz.f3.params.toList args.toList ds p := hA0
  rw [Tryz.params3] at hA hval
  obtain ⟨v0, vs0, d0, ds0, p0, q0, hargs, rfl, rfl, h0, r0⟩ := trodAll_cons hA
  obtain ⟨v1, vs1, d1, ds1, p1, q1, rfl, rfl, rfl, h1, r1⟩ := trodAll_cons r0
  obtain ⟨rfl, rfl, rfl⟩ := trodAll_nil r1
  obtain rfl : args = #[v0, v1] := by cases args; simp_all
  obtain ⟨rfl, rfl⟩ := trodVars_none hV
  have lt0 : ∀ x ∈ p0, x.block < W.heap.size := by obtain ⟨m, hm⟩ := h0; exact DataW.trod_lt m _ _ _ hm
  obtain ⟨x0, rep0, fit0⟩ := trod_repV (n := 12) (k := .pair (.int .i64) (.pair (.sl (.int .i64)) (.pair (.sl (.int .i64)) (.sl (.pair (.int .i64) (.pair .str (.pair (.int .i64) (.int .i64)))))))) (by kernel_rfl) (hval 0 25 v0 rfl rfl) h0
  have lt1 : ∀ x ∈ p1, x.block < W.heap.size := by obtain ⟨m, hm⟩ := h1; exact DataW.trod_lt m _ _ _ hm
  obtain ⟨x1, rep1, fit1⟩ := trod_repV (n := 12) (k := .int .i64) (by kernel_rfl) (hval 1 3 v1 rfl rfl) h1
  refine (walk x0 x1 W v0 v1 rep0 rep1 (pure_FnExactWordOver x0 x1 fit0 fit1)).mono fun e W' ⟨he, bel⟩ => ?_
  subst he
  exact ⟨_, rfl, _, _, _, [], _, [], hW', trodAll_mk1 (shut_bool Tryz.underlying4 _), (trodAll_cons_mk (Below.trod laidOut (by kernel_rfl) (of_decide_eq_true (by kernel_rfl)) h0 bel lt0) (trodAll_cons_mk (Below.trod laidOut (by kernel_rfl) (of_decide_eq_true (by kernel_rfl)) h1 bel lt1) trodAll_mk0)), rfl, bel.frame _, fun h => by cases h⟩
theorem k0 : (Rows.fnExactWordOverRow.wf (OpenSpec.ofChange Rows.fnExactWordOverSpec) && laidOutB Tryz.pinned.checked.prog && mapsRowed Tryz.pinned.checked.prog && Tryz.f3.params.all (Tryz.pinned.checked.prog.readableRec ·) && namedTie Tryz.pinned.checked.prog Rows.fnExactWordOverRow.named Rows.fnExactWordOverSpec.vars && (Rows.fnExactWordOverRow.stops == []) && (Tryz.pinned.checked.prog.stops == []) && (Rows.fnExactWordOverRow.knobs == []) && (Tryz.pinned.checked.prog.stopKnobs == [])) = true := by kernel_rfl
theorem k1 : ((Rows.fnExactWordOverRow.inPlace == Tryz.pinned.checked.prog.inPlace 3)) = true := by kernel_rfl
theorem k2 : ((Rows.fnExactWordOverRow.unfollowed == Tryz.pinned.checked.prog.unfollowed 3)) = true := by kernel_rfl
theorem k3 : ((Rows.fnExactWordOverRow.recurses == Tryz.pinned.checked.prog.recurses 3)) = true := by kernel_rfl
theorem k4 : ((Rows.fnExactWordOverRow.named == Tryz.pinned.checked.prog.varsNamed 3)) = true := by kernel_rfl
theorem k5 : ((Rows.fnExactWordOverRow.maps == (Tryz.f3.params.toList ++ Rows.fnExactWordOverSpec.plain.varTypes Tryz.pinned.checked.prog).any (Tryz.pinned.checked.prog.mapsRec ·)) && (Rows.fnExactWordOverRow.ifaces == (Tryz.f3.params.toList ++ Rows.fnExactWordOverSpec.plain.varTypes Tryz.pinned.checked.prog).any (Tryz.pinned.checked.prog.ifacesRec ·)) && (Rows.fnExactWordOverRow.mapsOut == Tryz.pinned.checked.prog.mapsAmong Tryz.f3.resultTypes.toList) && (Rows.fnExactWordOverRow.loops == (Tryz.f3.params.toList ++ Rows.fnExactWordOverSpec.plain.varTypes Tryz.pinned.checked.prog).any (Tryz.pinned.checked.prog.loopsFrom ·)) && (Rows.fnExactWordOverRow.wideKeys == (Tryz.f3.params.toList ++ Rows.fnExactWordOverSpec.plain.varTypes Tryz.pinned.checked.prog ++ Tryz.f3.resultTypes.toList).any (Tryz.pinned.checked.prog.wideKeysFrom ·)) && Rows.fnExactWordOverSpec.vars.all (Tryz.pinned.checked.prog.varReadable ·) && Tryz.f3.resultTypes.all (fun t => Tryz.pinned.checked.prog.readableRec t && decide (t < Tryz.pinned.checked.prog.types.size)) && (Rows.fnExactWordOverRow.ifacesOut == Tryz.f3.resultTypes.toList.any (Tryz.pinned.checked.prog.ifacesRec ·)) && (Rows.fnExactWordOverRow.loopsOut == Tryz.f3.resultTypes.toList.any (Tryz.pinned.checked.prog.loopsFrom ·)) && (Rows.fnExactWordOverRow.plainKeys == Tryz.pinned.checked.prog.plainKeys) && Rows.fnExactWordOverRow.shortTexts.isNone) = true := by kernel_rfl
theorem k10 : ((Rows.fnExactWordOverRow.pinned == Rows.fnExactWordOverRow.pinnedBy) && (Rows.fnExactWordOverRow.veiled == (Tryz.f3.params.toList ++ Rows.fnExactWordOverSpec.plain.varTypes Tryz.pinned.checked.prog ++ Tryz.f3.resultTypes.toList).any (Tryz.pinned.checked.prog.veiledRec ·)) && Rows.fnExactWordOverRow.veiledFits Tryz.pinned.checked.prog Tryz.f3.params.toList (Tryz.f3.params.toList ++ Rows.fnExactWordOverSpec.plain.varTypes Tryz.pinned.checked.prog ++ Tryz.f3.resultTypes.toList)) = true := by kernel_rfl
theorem k6 : (Tryz.pinned.checked.prog.stopsHeard) = true := joined6
theorem k7 : (Tryz.pinned.checked.prog.mayEnter) = true := joined7
theorem k8 : ((Rows.fnExactWordOverRow.lifted == Tryz.pinned.checked.prog.liftsFinal)) = true := joined8
theorem k9 : ((Tryz.pinned.checked.prog.make == some Rows.fnExactWordOverRow.make)) = true := joined9
theorem closed : joinedFacts Tryz.pinned.checked.prog 3 Tryz.f3 Rows.fnExactWordOverSpec Rows.fnExactWordOverRow = true := by
  have h := (And.intro k0 (And.intro k1 (And.intro k2 (And.intro k3 (And.intro k4 (And.intro k5 (And.intro k6 (And.intro k7 (And.intro k8 (And.intro k9 k10))))))))))
  unfold joinedFacts
  simp only [Bool.and_eq_true] at h ⊢
  simp only [h, and_self, and_true, true_and]
  exact of_decide_eq_true (by kernel_rfl)
theorem named : Tryz.pinned.checked.prog.funcNamed Rows.fnExactWordOverRow.func = some 3 := by kernel_rfl
theorem over : Rows.fnExactWordOverRow.holds Tryz.pinned (OpenSpec.ofChange Rows.fnExactWordOverSpec) :=
  OpenClaim.holds_of_wide 3 Tryz.f3 rfl rfl rfl rfl rfl rfl rfl ⟨rfl, rfl, rfl, rfl, rfl⟩ rfl rfl rfl rfl rfl named Tryz.func3 closed
    (of_decide_eq_true (by kernel_rfl)) (by unfold Func.isWrapper; first | (rw [if_pos (by decide +kernel)]; kernel_rfl) | (rw [if_neg (by decide +kernel)]; exact ⟨rfl, rfl⟩))
    (fun os started H enc _ => lifted os started H enc)
theorem proved : Rows.FnExactWordOverSaid := over
#print axioms proved
end Go.Proofs.YtfdhmmnffahhgaaGreat.fnExactWordOver
namespace Go.Proofs.YtfdhmmnffahhgaaGreat
/-- The row, under a short name, for the claim. -/
theorem fnExactWordOver_holds : Rows.FnExactWordOverSaid := fnExactWordOver.proved
end Go.Proofs.YtfdhmmnffahhgaaGreat
