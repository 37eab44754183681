/-
  No cell of these rows narrows 'for every input' (looked for: loops, veiled, ifaces, maps, wideKeys, modest, calm, conditions, laid).
  DERIVED. THE GIVEN ROWS OF THIS SEAT. 4 by the template 'for every input the law returns true; each argument reads behind the call as it read before'; 0 by the template 'total and deterministic' (their statements: YtcmcjhdccnbmoaaGreatTotals.lean).
  GIVEN WITH THE SEED: the statements are not yours to turn. If you find one false, say at which input.
  Laid BY PROGRAM, IN A SANDBOX (cutbox-rows.mjs): the forced cells as the released guide's own fill.sh prints them over the translation f61e91e2592902e8… (all of the seat's roots in one cut). By AI agents, Wed Nov 11 2026. No macro, syntax, notation, axiom, sorry.
-/
import Derived.Test.YtcmcjhdccnbmoaaGreatChecked
import GoSem.Claim
import GoSem.ClaimJoined
import GoSem.ClaimMapViews
import Derived.JoinedTies
import Derived.KernelRfl
namespace Go.Proofs.YtcmcjhdccnbmoaaGreat
/- THE CELL 'sum', in the pinned program and in every row, IS THE sha256 OF THE DUMP (.gsa) THAT YtcmcjhdccnbmoaaGreatProg.lean LOADS. Nothing in Lean hashes anything: it is a label: what it is worth is what the hold of that sum in a sandbox is worth. -/
noncomputable def Tryz.pinned : Pinned := { name := "ytcmcjhdccnbmoaagreat", sum := "f61e91e2592902e87870d73dbf6816de9693f2a285c43a704c24b4095e458a01", checked := Tryz.checked }
namespace Rows
def none {H : Type} : Left H := { results := [], args := [] }

/-- 'laws.FnExactGradesIn': WHATEVER THE INPUT: true; the input reads as it did. -/
def fnExactGradesInSpec : ChangeSpec := { name := "fnExactGradesIn", fn := fun _ => fun
  | [d] => { results := [.lit (.bool true)], args := [d] }
  | _ => none }
def fnExactGradesInRow : OpenClaim := { program := "ytcmcjhdccnbmoaagreat", sum := "f61e91e2592902e87870d73dbf6816de9693f2a285c43a704c24b4095e458a01", func := "loop.example/distanceautomata/laws.FnExactGradesIn", spec := "fnExactGradesIn", inPlace := ["internal/bytealg.abigen_runtime_cmpstring"], unfollowed := true, recurses := true, apart := false }
def FnExactGradesInSaid : Prop := fnExactGradesInRow.holds Tryz.pinned (OpenSpec.ofChange fnExactGradesInSpec)

/-- ITS FALSE NEIGHBOUR: 'it returns false'. Refute it at one input. -/
def fnExactGradesInWrong : ChangeSpec := { name := "fnExactGradesIn", fn := fun _ => fun
  | [d] => { results := [.lit (.bool false)], args := [d] }
  | _ => none }
def FnExactGradesInWrongFalsely : Prop := fnExactGradesInRow.holds Tryz.pinned (OpenSpec.ofChange fnExactGradesInWrong)

/-- 'laws.FnGradesIn': WHATEVER THE INPUT: true; the input reads as it did. -/
def fnGradesInSpec : ChangeSpec := { name := "fnGradesIn", fn := fun _ => fun
  | [d] => { results := [.lit (.bool true)], args := [d] }
  | _ => none }
def fnGradesInRow : OpenClaim := { program := "ytcmcjhdccnbmoaagreat", sum := "f61e91e2592902e87870d73dbf6816de9693f2a285c43a704c24b4095e458a01", func := "loop.example/distanceautomata/laws.FnGradesIn", spec := "fnGradesIn", inPlace := ["internal/bytealg.abigen_runtime_cmpstring"], unfollowed := true, recurses := true, apart := false }
def FnGradesInSaid : Prop := fnGradesInRow.holds Tryz.pinned (OpenSpec.ofChange fnGradesInSpec)

/-- ITS FALSE NEIGHBOUR: 'it returns false'. Refute it at one input. -/
def fnGradesInWrong : ChangeSpec := { name := "fnGradesIn", fn := fun _ => fun
  | [d] => { results := [.lit (.bool false)], args := [d] }
  | _ => none }
def FnGradesInWrongFalsely : Prop := fnGradesInRow.holds Tryz.pinned (OpenSpec.ofChange fnGradesInWrong)

/-- 'laws.FnExactVerdictOf': WHATEVER THE INPUT: true; the input reads as it did. -/
def fnExactVerdictOfSpec : ChangeSpec := { name := "fnExactVerdictOf", fn := fun _ => fun
  | [d] => { results := [.lit (.bool true)], args := [d] }
  | _ => none }
def fnExactVerdictOfRow : OpenClaim := { program := "ytcmcjhdccnbmoaagreat", sum := "f61e91e2592902e87870d73dbf6816de9693f2a285c43a704c24b4095e458a01", func := "loop.example/distanceautomata/laws.FnExactVerdictOf", spec := "fnExactVerdictOf", inPlace := ["internal/bytealg.abigen_runtime_cmpstring"], unfollowed := true, recurses := true, apart := false }
def FnExactVerdictOfSaid : Prop := fnExactVerdictOfRow.holds Tryz.pinned (OpenSpec.ofChange fnExactVerdictOfSpec)

/-- ITS FALSE NEIGHBOUR: 'it returns false'. Refute it at one input. -/
def fnExactVerdictOfWrong : ChangeSpec := { name := "fnExactVerdictOf", fn := fun _ => fun
  | [d] => { results := [.lit (.bool false)], args := [d] }
  | _ => none }
def FnExactVerdictOfWrongFalsely : Prop := fnExactVerdictOfRow.holds Tryz.pinned (OpenSpec.ofChange fnExactVerdictOfWrong)

/-- 'laws.FnVerdict': WHATEVER THE INPUT: true; the input reads as it did. -/
def fnVerdictSpec : ChangeSpec := { name := "fnVerdict", fn := fun _ => fun
  | [d] => { results := [.lit (.bool true)], args := [d] }
  | _ => none }
def fnVerdictRow : OpenClaim := { program := "ytcmcjhdccnbmoaagreat", sum := "f61e91e2592902e87870d73dbf6816de9693f2a285c43a704c24b4095e458a01", func := "loop.example/distanceautomata/laws.FnVerdict", spec := "fnVerdict", inPlace := ["internal/bytealg.abigen_runtime_cmpstring"], unfollowed := true, recurses := true, apart := false }
def FnVerdictSaid : Prop := fnVerdictRow.holds Tryz.pinned (OpenSpec.ofChange fnVerdictSpec)

/-- ITS FALSE NEIGHBOUR: 'it returns false'. Refute it at one input. -/
def fnVerdictWrong : ChangeSpec := { name := "fnVerdict", fn := fun _ => fun
  | [d] => { results := [.lit (.bool false)], args := [d] }
  | _ => none }
def FnVerdictWrongFalsely : Prop := fnVerdictRow.holds Tryz.pinned (OpenSpec.ofChange fnVerdictWrong)

/- THE SECOND FORM. 'bulk': how many values and letters a reading holds, each counted each time it is reached (what is shared counts as often as it is met; a slice's spare places count too). A statement '..UptoSaid' is the law's where the arguments, and the package variables that the reading takes, are together of bulk at most 1048576: NARROWER than '..Said'. Prove '..Said' where nothing that the law and all that it calls make is longer than what came in: it says more and counts as full. Else prove '..UptoSaid'. A law counts once. -/
mutual
def uptoBulk {H : Type} : DataW H → Nat
  | .lit (.string bytes) => bytes.length + 1
  | .lit _ => 1
  | .nil => 1
  | .ptr d => uptoBulk d + 1
  | .slice elems spare => uptoBulkAll elems + uptoBulkAll spare + 1
  | .agg parts => uptoBulkAll parts + 1
  | .iface _ d => uptoBulk d + 1
  | .map entries => uptoBulkEntries entries + 1
  | .held _ => 1
def uptoBulkAll {H : Type} : List (DataW H) → Nat
  | [] => 0
  | d :: r => uptoBulk d + uptoBulkAll r
def uptoBulkEntries {H : Type} : List (Lit × DataW H) → Nat
  | [] => 0
  | x :: r => uptoBulkEntry x + uptoBulkEntries r
def uptoBulkEntry {H : Type} : Lit × DataW H → Nat
  | (.string bytes, d) => bytes.length + uptoBulk d + 1
  | (_, d) => uptoBulk d + 1
 end
def uptoSmall : (H : Type) → List (DataW H) → Bool := fun _ ds => decide (uptoBulkAll ds ≤ 1048576)
def OpenSpec.upto (s : _root_.Go.ChangeSpec) : _root_.Go.OpenSpec := { _root_.Go.OpenSpec.ofChange s with cond := some uptoSmall }

/-- 'laws.FnExactGradesIn', WHERE WHAT IT READS IS OF BULK AT MOST 1048576: true; the input reads as it did. -/
def fnExactGradesInUptoRow : OpenClaim := { program := "ytcmcjhdccnbmoaagreat", sum := "f61e91e2592902e87870d73dbf6816de9693f2a285c43a704c24b4095e458a01", func := "loop.example/distanceautomata/laws.FnExactGradesIn", spec := "fnExactGradesIn", inPlace := ["internal/bytealg.abigen_runtime_cmpstring"], unfollowed := true, recurses := true, apart := false, narrowed := true }
def FnExactGradesInUptoSaid : Prop := fnExactGradesInUptoRow.holds Tryz.pinned (OpenSpec.upto fnExactGradesInSpec)

/-- 'laws.FnGradesIn', WHERE WHAT IT READS IS OF BULK AT MOST 1048576: true; the input reads as it did. -/
def fnGradesInUptoRow : OpenClaim := { program := "ytcmcjhdccnbmoaagreat", sum := "f61e91e2592902e87870d73dbf6816de9693f2a285c43a704c24b4095e458a01", func := "loop.example/distanceautomata/laws.FnGradesIn", spec := "fnGradesIn", inPlace := ["internal/bytealg.abigen_runtime_cmpstring"], unfollowed := true, recurses := true, apart := false, narrowed := true }
def FnGradesInUptoSaid : Prop := fnGradesInUptoRow.holds Tryz.pinned (OpenSpec.upto fnGradesInSpec)

/-- 'laws.FnExactVerdictOf', WHERE WHAT IT READS IS OF BULK AT MOST 1048576: true; the input reads as it did. -/
def fnExactVerdictOfUptoRow : OpenClaim := { program := "ytcmcjhdccnbmoaagreat", sum := "f61e91e2592902e87870d73dbf6816de9693f2a285c43a704c24b4095e458a01", func := "loop.example/distanceautomata/laws.FnExactVerdictOf", spec := "fnExactVerdictOf", inPlace := ["internal/bytealg.abigen_runtime_cmpstring"], unfollowed := true, recurses := true, apart := false, narrowed := true }
def FnExactVerdictOfUptoSaid : Prop := fnExactVerdictOfUptoRow.holds Tryz.pinned (OpenSpec.upto fnExactVerdictOfSpec)

/-- 'laws.FnVerdict', WHERE WHAT IT READS IS OF BULK AT MOST 1048576: true; the input reads as it did. -/
def fnVerdictUptoRow : OpenClaim := { program := "ytcmcjhdccnbmoaagreat", sum := "f61e91e2592902e87870d73dbf6816de9693f2a285c43a704c24b4095e458a01", func := "loop.example/distanceautomata/laws.FnVerdict", spec := "fnVerdict", inPlace := ["internal/bytealg.abigen_runtime_cmpstring"], unfollowed := true, recurses := true, apart := false, narrowed := true }
def FnVerdictUptoSaid : Prop := fnVerdictUptoRow.holds Tryz.pinned (OpenSpec.upto fnVerdictSpec)

end Rows
end Go.Proofs.YtcmcjhdccnbmoaaGreat
