/- The law FnExactHasFinitePowers holds for the given program: its row, out of the pure statement and what is told of its functions. -/
import Derived.Test.YtbmlleocidldpaaGreatRows
import Derived.Test.YtbmlleocidldpaaGreatJ
import Derived.Test.YtbmlleocidldpaaGreatPuFnExactHasFinitePowers
import Derived.WalkKit
import Derived.ProofKit
import Derived.OpenShut
import Derived.ShutString
import Derived.ChangeOld
import Derived.Below
import Derived.SizedLaws
set_option linter.unusedVariables false
set_option linter.unusedSimpArgs false
namespace Go.Proofs.YtbmlleocidldpaaGreat.fnExactHasFinitePowers
open Go.ChangeShapes Go.WideShapes Go.ChangeAt Go.RowKit Go.Proofs.YtbmlleocidldpaaGreat Go.Proofs.YtbmlleocidldpaaGreat.Am
open Go.ChangeMaps (open_string shut_string)
theorem own : ownKnob Tryz.prog.godebug = none := by kernel_rfl
theorem laidOut : laidOutB Tryz.prog = true := by kernel_rfl
theorem walk (x0 : (Int × ((List Int) × ((List Int) × (List (Int × (ByteArray × (Int × Int)))))))) (w : World) (v0 : Value) (r0 : RepV w noWr (.pair (.int .i64) (.pair (.sl (.int .i64)) (.pair (.sl (.int .i64)) (.sl (.pair (.int .i64) (.pair .str (.pair (.int .i64) (.int .i64)))))))) x0 v0) (h : laws_FnExactHasFinitePowers x0 = some true) :
    Calls Tryz.prog 7 #[v0] w fun e w' => e = .returned (.bool true) ∧ Below w.heap.size w w' := by
  have := A7_ok (x0, ()) true h w noWr [v0] (fun _ _ h => h.elim) (by simp only [A7, RepPs]; exact ⟨v0, _, rfl, r0, rfl⟩)
  refine this.mono ?_
  rintro e w' ⟨us, rfl, hb, bs, ho, _⟩
  simp only [A7, OwnOuts] at ho
  obtain ⟨v, rfl, cs, ⟨h1, _⟩, rfl⟩ := ho
  simp only [RepC] at h1
  subst h1
  exact ⟨rfl, hb.to⟩
set_option maxRecDepth 100000 in
theorem lifted (os : Os) (started : os.Started) (H : Type) (enc : TypeId × Value → H) :
    ReturnsInHanded {} Tryz.checked os 7 .any (Rows.fnExactHasFinitePowersSpec.pre6 enc Tryz.prog Tryz.f7 Rows.fnExactHasFinitePowersRow.domain false) (Rows.fnExactHasFinitePowersSpec.post enc Tryz.prog Tryz.f7 false true false false) := by
  refine returnsInHanded_of_change_sized (C := Tryz.checked) own started (by kernel_rfl) Tryz.func7
    (ChangeSpec.witness6 (enc := enc) (C := Tryz.checked) false ⟨#[], #[.agg #[.int .i64 0, .slice none 0 0, .slice none 0 0, .slice none 0 0]], []⟩ 8 (by kernel_rfl) (by kernel_rfl) (by kernel_rfl) (by kernel_rfl)) ?_
  intro W base args ds gs before hval0 hW hcnd hsz0 _
  have hval : ∀ (j : Nat) t v, Tryz.f7.params[j]? = some t → args[j]? = some v → Value.okWide Tryz.prog W .any base t v := hval0
  have hW' := hW
  obtain ⟨p, q, hA0, hV, rfl, hfz, hnd⟩ := hW
  have hA : DataW.TrodAll enc Tryz.prog W 0 (fun _ => true) true Tryz.f7.params.toList args.toList ds p := hA0
  rw [Tryz.params7] at hA hval
  obtain ⟨v0, vs0, d0, ds0, p0, q0, hargs, rfl, rfl, h0, r0⟩ := trodAll_cons hA
  obtain ⟨rfl, rfl, rfl⟩ := trodAll_nil r0
  obtain rfl : args = #[v0] := by cases args; simp_all
  obtain ⟨rfl, rfl⟩ := trodVars_none hV
  have lt0 : ∀ x ∈ p0, x.block < W.heap.size := by obtain ⟨m, hm⟩ := h0; exact DataW.trod_lt m _ _ _ hm
  obtain ⟨x0, rep0, fit0⟩ := trod_repV (n := 12) (k := .pair (.int .i64) (.pair (.sl (.int .i64)) (.pair (.sl (.int .i64)) (.sl (.pair (.int .i64) (.pair .str (.pair (.int .i64) (.int .i64)))))))) (by kernel_rfl) (hval 0 25 v0 rfl rfl) h0
  refine (walk x0 W v0 rep0 (pure_FnExactHasFinitePowers x0 fit0)).mono fun e W' ⟨he, bel⟩ => ?_
  subst he
  exact ⟨_, rfl, _, _, _, [], _, [], hW', trodAll_mk1 (shut_bool Tryz.underlying4 _), (trodAll_cons_mk (Below.trod laidOut (by kernel_rfl) (of_decide_eq_true (by kernel_rfl)) h0 bel lt0) trodAll_mk0), rfl, bel.frame _, fun h => by cases h⟩
theorem k0 : (Rows.fnExactHasFinitePowersRow.wf (OpenSpec.ofChange Rows.fnExactHasFinitePowersSpec) && laidOutB Tryz.pinned.checked.prog && mapsRowed Tryz.pinned.checked.prog && Tryz.f7.params.all (Tryz.pinned.checked.prog.readableRec ·) && namedTie Tryz.pinned.checked.prog Rows.fnExactHasFinitePowersRow.named Rows.fnExactHasFinitePowersSpec.vars && (Rows.fnExactHasFinitePowersRow.stops == []) && (Tryz.pinned.checked.prog.stops == []) && (Rows.fnExactHasFinitePowersRow.knobs == []) && (Tryz.pinned.checked.prog.stopKnobs == [])) = true := by kernel_rfl
theorem k1 : ((Rows.fnExactHasFinitePowersRow.inPlace == Tryz.pinned.checked.prog.inPlace 7)) = true := by kernel_rfl
theorem k2 : ((Rows.fnExactHasFinitePowersRow.unfollowed == Tryz.pinned.checked.prog.unfollowed 7)) = true := by kernel_rfl
theorem k3 : ((Rows.fnExactHasFinitePowersRow.recurses == Tryz.pinned.checked.prog.recurses 7)) = true := by kernel_rfl
theorem k4 : ((Rows.fnExactHasFinitePowersRow.named == Tryz.pinned.checked.prog.varsNamed 7)) = true := by kernel_rfl
theorem k5 : ((Rows.fnExactHasFinitePowersRow.maps == (Tryz.f7.params.toList ++ Rows.fnExactHasFinitePowersSpec.plain.varTypes Tryz.pinned.checked.prog).any (Tryz.pinned.checked.prog.mapsRec ·)) && (Rows.fnExactHasFinitePowersRow.ifaces == (Tryz.f7.params.toList ++ Rows.fnExactHasFinitePowersSpec.plain.varTypes Tryz.pinned.checked.prog).any (Tryz.pinned.checked.prog.ifacesRec ·)) && (Rows.fnExactHasFinitePowersRow.mapsOut == Tryz.pinned.checked.prog.mapsAmong Tryz.f7.resultTypes.toList) && (Rows.fnExactHasFinitePowersRow.loops == (Tryz.f7.params.toList ++ Rows.fnExactHasFinitePowersSpec.plain.varTypes Tryz.pinned.checked.prog).any (Tryz.pinned.checked.prog.loopsFrom ·)) && (Rows.fnExactHasFinitePowersRow.wideKeys == (Tryz.f7.params.toList ++ Rows.fnExactHasFinitePowersSpec.plain.varTypes Tryz.pinned.checked.prog ++ Tryz.f7.resultTypes.toList).any (Tryz.pinned.checked.prog.wideKeysFrom ·)) && Rows.fnExactHasFinitePowersSpec.vars.all (Tryz.pinned.checked.prog.varReadable ·) && Tryz.f7.resultTypes.all (fun t => Tryz.pinned.checked.prog.readableRec t && decide (t < Tryz.pinned.checked.prog.types.size)) && (Rows.fnExactHasFinitePowersRow.ifacesOut == Tryz.f7.resultTypes.toList.any (Tryz.pinned.checked.prog.ifacesRec ·)) && (Rows.fnExactHasFinitePowersRow.loopsOut == Tryz.f7.resultTypes.toList.any (Tryz.pinned.checked.prog.loopsFrom ·)) && (Rows.fnExactHasFinitePowersRow.plainKeys == Tryz.pinned.checked.prog.plainKeys) && Rows.fnExactHasFinitePowersRow.shortTexts.isNone) = true := by kernel_rfl
theorem k10 : ((Rows.fnExactHasFinitePowersRow.pinned == Rows.fnExactHasFinitePowersRow.pinnedBy) && (Rows.fnExactHasFinitePowersRow.veiled == (Tryz.f7.params.toList ++ Rows.fnExactHasFinitePowersSpec.plain.varTypes Tryz.pinned.checked.prog ++ Tryz.f7.resultTypes.toList).any (Tryz.pinned.checked.prog.veiledRec ·)) && Rows.fnExactHasFinitePowersRow.veiledFits Tryz.pinned.checked.prog Tryz.f7.params.toList (Tryz.f7.params.toList ++ Rows.fnExactHasFinitePowersSpec.plain.varTypes Tryz.pinned.checked.prog ++ Tryz.f7.resultTypes.toList)) = true := by kernel_rfl
theorem k6 : (Tryz.pinned.checked.prog.stopsHeard) = true := joined6
theorem k7 : (Tryz.pinned.checked.prog.mayEnter) = true := joined7
theorem k8 : ((Rows.fnExactHasFinitePowersRow.lifted == Tryz.pinned.checked.prog.liftsFinal)) = true := joined8
theorem k9 : ((Tryz.pinned.checked.prog.make == some Rows.fnExactHasFinitePowersRow.make)) = true := joined9
theorem closed : joinedFacts Tryz.pinned.checked.prog 7 Tryz.f7 Rows.fnExactHasFinitePowersSpec Rows.fnExactHasFinitePowersRow = true := by
  have h := (And.intro k0 (And.intro k1 (And.intro k2 (And.intro k3 (And.intro k4 (And.intro k5 (And.intro k6 (And.intro k7 (And.intro k8 (And.intro k9 k10))))))))))
  unfold joinedFacts
  simp only [Bool.and_eq_true] at h ⊢
  simp only [h, and_self, and_true, true_and]
  exact of_decide_eq_true (by kernel_rfl)
theorem named : Tryz.pinned.checked.prog.funcNamed Rows.fnExactHasFinitePowersRow.func = some 7 := by kernel_rfl
theorem over : Rows.fnExactHasFinitePowersRow.holds Tryz.pinned (OpenSpec.ofChange Rows.fnExactHasFinitePowersSpec) :=
  OpenClaim.holds_of_wide 7 Tryz.f7 rfl rfl rfl rfl rfl rfl rfl ⟨rfl, rfl, rfl, rfl, rfl⟩ rfl rfl rfl rfl rfl named Tryz.func7 closed
    (of_decide_eq_true (by kernel_rfl)) (by unfold Func.isWrapper; first | (rw [if_pos (by decide +kernel)]; kernel_rfl) | (rw [if_neg (by decide +kernel)]; exact ⟨rfl, rfl⟩))
    (fun os started H enc _ => lifted os started H enc)
theorem proved : Rows.FnExactHasFinitePowersSaid := over
#print axioms proved
end Go.Proofs.YtbmlleocidldpaaGreat.fnExactHasFinitePowers
namespace Go.Proofs.YtbmlleocidldpaaGreat
/-- The row, under a short name, for the claim. -/
theorem fnExactHasFinitePowers_holds : Rows.FnExactHasFinitePowersSaid := fnExactHasFinitePowers.proved
end Go.Proofs.YtbmlleocidldpaaGreat
