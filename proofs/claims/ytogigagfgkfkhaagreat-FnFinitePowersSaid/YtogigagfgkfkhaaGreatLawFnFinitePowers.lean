/- The law FnFinitePowers holds for the given program: its row, out of the pure statement and what is told of its functions. -/
import Derived.Test.YtogigagfgkfkhaaGreatRows
import Derived.Test.YtogigagfgkfkhaaGreatJ
import Derived.Test.YtogigagfgkfkhaaGreatPuFnFinitePowers
import Derived.WalkKit
import Derived.ProofKit
import Derived.OpenShut
import Derived.ShutString
import Derived.ChangeOld
import Derived.Below
import Derived.SizedLaws
set_option linter.unusedVariables false
set_option linter.unusedSimpArgs false
namespace Go.Proofs.YtogigagfgkfkhaaGreat.fnFinitePowers
open Go.ChangeShapes Go.WideShapes Go.ChangeAt Go.RowKit Go.Proofs.YtogigagfgkfkhaaGreat Go.Proofs.YtogigagfgkfkhaaGreat.Am
open Go.ChangeMaps (open_string shut_string)
theorem own : ownKnob Tryz.prog.godebug = none := by kernel_rfl
theorem laidOut : laidOutB Tryz.prog = true := by kernel_rfl
theorem walk (x0 : (List Int)) (w : World) (v0 : Value) (r0 : RepV w noWr (.sl (.int .u8)) x0 v0) (h : yn0 x0 = some true) :
    Calls Tryz.prog 3 #[v0] w fun e w' => e = .returned (.bool true) ∧ Below w.heap.size w w' := by
  have := A3_ok (x0, ()) true h w noWr [v0] ⟨fun _ _ h => h.elim, trivial⟩ (by simp only [A3, y0p]; exact ⟨v0, _, rfl, r0, rfl⟩)
  refine this.mono ?_
  rintro e w' ⟨us, rfl, hb, bs, ho, _⟩
  simp only [A3, OwnOuts] at ho
  obtain ⟨v, rfl, cs, ⟨h1, _⟩, rfl⟩ := ho
  simp only [RepC] at h1
  subst h1
  exact ⟨rfl, hb.to⟩
set_option maxRecDepth 100000 in
theorem lifted (os : Os) (started : os.Started) (H : Type) (enc : TypeId × Value → H) :
    ReturnsInHanded {} Tryz.checked os 3 .any (Rows.fnFinitePowersSpec.pre6 enc Tryz.prog Tryz.f3 Rows.fnFinitePowersRow.domain false) (Rows.fnFinitePowersSpec.post enc Tryz.prog Tryz.f3 false true false false) := by
  refine returnsInHanded_of_change_sized (C := Tryz.checked) own started (by kernel_rfl) Tryz.func3
    (ChangeSpec.witness6 (enc := enc) (C := Tryz.checked) false ⟨#[], #[.slice none 0 0], []⟩ 8 (by kernel_rfl) (by kernel_rfl) (by kernel_rfl) (by kernel_rfl)) ?_
  intro W base args ds gs before hval0 hW hcnd hsz0 _
  have hval : ∀ (j : Nat) t v, Tryz.f3.params[j]? = some t → args[j]? = some v → Value.okWide Tryz.prog W .any base t v := hval0
  have hW' := hW
  obtain ⟨p, q, hA0, hV, rfl, hfz, hnd⟩ := hW
  have hA : DataW.TrodAll enc Tryz.prog W 0 (fun _ => true) true Tryz.f3.params.toList args.toList ds p := hA0
  rw [Tryz.params3] at hA hval
  obtain ⟨v0, vs0, d0, ds0, p0, q0, hargs, rfl, rfl, h0, r0⟩ := trodAll_cons hA
  obtain ⟨rfl, rfl, rfl⟩ := trodAll_nil r0
  obtain rfl : args = #[v0] := by cases args; simp_all
  obtain ⟨rfl, rfl⟩ := trodVars_none hV
  have lt0 : ∀ x ∈ p0, x.block < W.heap.size := by obtain ⟨m, hm⟩ := h0; exact DataW.trod_lt m _ _ _ hm
  obtain ⟨x0, rep0, fit0⟩ := z8c (P := Tryz.prog) (n := 12) (k := .sl (.int .u8)) (by kernel_rfl) (hval 0 22 v0 rfl rfl) h0
  refine (walk x0 W v0 rep0 (y6y x0 fit0)).mono fun e W' ⟨he, bel⟩ => ?_
  subst he
  exact ⟨_, rfl, _, _, _, [], _, [], hW', trodAll_mk1 (shut_bool Tryz.underlying4 _), (trodAll_cons_mk (Below.trod laidOut (by kernel_rfl) (of_decide_eq_true (by kernel_rfl)) h0 bel lt0) trodAll_mk0), rfl, bel.frame _, fun h => by cases h⟩
theorem k0 : (Rows.fnFinitePowersRow.wf (OpenSpec.ofChange Rows.fnFinitePowersSpec) && laidOutB Tryz.pinned.checked.prog && mapsRowed Tryz.pinned.checked.prog && Tryz.f3.params.all (Tryz.pinned.checked.prog.readableRec ·) && namedTie Tryz.pinned.checked.prog Rows.fnFinitePowersRow.named Rows.fnFinitePowersSpec.vars && (Rows.fnFinitePowersRow.stops == []) && (Tryz.pinned.checked.prog.stops == []) && (Rows.fnFinitePowersRow.knobs == []) && (Tryz.pinned.checked.prog.stopKnobs == [])) = true := by kernel_rfl
theorem k1 : ((Rows.fnFinitePowersRow.inPlace == Tryz.pinned.checked.prog.inPlace 3)) = true := by kernel_rfl
theorem k2 : ((Rows.fnFinitePowersRow.unfollowed == Tryz.pinned.checked.prog.unfollowed 3)) = true := by kernel_rfl
theorem k3 : ((Rows.fnFinitePowersRow.recurses == Tryz.pinned.checked.prog.recurses 3)) = true := by kernel_rfl
theorem k4 : ((Rows.fnFinitePowersRow.named == Tryz.pinned.checked.prog.varsNamed 3)) = true := by kernel_rfl
theorem k5 : ((Rows.fnFinitePowersRow.maps == (Tryz.f3.params.toList ++ Rows.fnFinitePowersSpec.plain.varTypes Tryz.pinned.checked.prog).any (Tryz.pinned.checked.prog.mapsRec ·)) && (Rows.fnFinitePowersRow.ifaces == (Tryz.f3.params.toList ++ Rows.fnFinitePowersSpec.plain.varTypes Tryz.pinned.checked.prog).any (Tryz.pinned.checked.prog.ifacesRec ·)) && (Rows.fnFinitePowersRow.mapsOut == Tryz.pinned.checked.prog.mapsAmong Tryz.f3.resultTypes.toList) && (Rows.fnFinitePowersRow.loops == (Tryz.f3.params.toList ++ Rows.fnFinitePowersSpec.plain.varTypes Tryz.pinned.checked.prog).any (Tryz.pinned.checked.prog.loopsFrom ·)) && (Rows.fnFinitePowersRow.wideKeys == (Tryz.f3.params.toList ++ Rows.fnFinitePowersSpec.plain.varTypes Tryz.pinned.checked.prog ++ Tryz.f3.resultTypes.toList).any (Tryz.pinned.checked.prog.wideKeysFrom ·)) && Rows.fnFinitePowersSpec.vars.all (Tryz.pinned.checked.prog.varReadable ·) && Tryz.f3.resultTypes.all (fun t => Tryz.pinned.checked.prog.readableRec t && decide (t < Tryz.pinned.checked.prog.types.size)) && (Rows.fnFinitePowersRow.ifacesOut == Tryz.f3.resultTypes.toList.any (Tryz.pinned.checked.prog.ifacesRec ·)) && (Rows.fnFinitePowersRow.loopsOut == Tryz.f3.resultTypes.toList.any (Tryz.pinned.checked.prog.loopsFrom ·)) && (Rows.fnFinitePowersRow.plainKeys == Tryz.pinned.checked.prog.plainKeys) && Rows.fnFinitePowersRow.shortTexts.isNone) = true := by kernel_rfl
theorem k10 : ((Rows.fnFinitePowersRow.pinned == Rows.fnFinitePowersRow.pinnedBy) && (Rows.fnFinitePowersRow.veiled == (Tryz.f3.params.toList ++ Rows.fnFinitePowersSpec.plain.varTypes Tryz.pinned.checked.prog ++ Tryz.f3.resultTypes.toList).any (Tryz.pinned.checked.prog.veiledRec ·)) && Rows.fnFinitePowersRow.veiledFits Tryz.pinned.checked.prog Tryz.f3.params.toList (Tryz.f3.params.toList ++ Rows.fnFinitePowersSpec.plain.varTypes Tryz.pinned.checked.prog ++ Tryz.f3.resultTypes.toList)) = true := by kernel_rfl
theorem k6 : (Tryz.pinned.checked.prog.stopsHeard) = true := joined6
theorem k7 : (Tryz.pinned.checked.prog.mayEnter) = true := joined7
theorem k8 : ((Rows.fnFinitePowersRow.lifted == Tryz.pinned.checked.prog.liftsFinal)) = true := joined8
theorem k9 : ((Tryz.pinned.checked.prog.make == some Rows.fnFinitePowersRow.make)) = true := joined9
theorem closed : joinedFacts Tryz.pinned.checked.prog 3 Tryz.f3 Rows.fnFinitePowersSpec Rows.fnFinitePowersRow = true := by
  have h := (And.intro k0 (And.intro k1 (And.intro k2 (And.intro k3 (And.intro k4 (And.intro k5 (And.intro k6 (And.intro k7 (And.intro k8 (And.intro k9 k10))))))))))
  unfold joinedFacts
  simp only [Bool.and_eq_true] at h ⊢
  simp only [h, and_self, and_true, true_and]
  exact of_decide_eq_true (by kernel_rfl)
theorem named : Tryz.pinned.checked.prog.funcNamed Rows.fnFinitePowersRow.func = some 3 := by kernel_rfl
theorem over : Rows.fnFinitePowersRow.holds Tryz.pinned (OpenSpec.ofChange Rows.fnFinitePowersSpec) :=
  OpenClaim.holds_of_wide 3 Tryz.f3 rfl rfl rfl rfl rfl rfl rfl ⟨rfl, rfl, rfl, rfl, rfl⟩ rfl rfl rfl rfl rfl named Tryz.func3 closed
    (of_decide_eq_true (by kernel_rfl)) (by unfold Func.isWrapper; first | (rw [if_pos (by decide +kernel)]; kernel_rfl) | (rw [if_neg (by decide +kernel)]; exact ⟨rfl, rfl⟩))
    (fun os started H enc _ => lifted os started H enc)
theorem proved : Rows.FnFinitePowersSaid := over
#print axioms proved
end Go.Proofs.YtogigagfgkfkhaaGreat.fnFinitePowers
namespace Go.Proofs.YtogigagfgkfkhaaGreat
/-- The row, under a short name, for the claim. -/
theorem fnFinitePowers_holds : Rows.FnFinitePowersSaid := fnFinitePowers.proved
end Go.Proofs.YtogigagfgkfkhaaGreat
