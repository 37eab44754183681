/-
  No cell of these rows narrows 'for every input' (looked for: loops, veiled, ifaces, maps, wideKeys, modest, calm, conditions, laid).
  DERIVED. THE GIVEN ROWS OF THIS SEAT. 11 by the template 'for every input the law returns true; each argument reads behind the call as it read before'; 0 by the template 'total and deterministic' (their statements: YtcjlhckebkibaaaTotals.lean).
  GIVEN WITH THE SEED: the statements are not yours to turn. If you find one false, say at which input.
  Laid BY PROGRAM, IN A SANDBOX (cutbox-rows.mjs): the forced cells as the released guide's own fill.sh prints them over the translation 6e9e85fab56959fd… (all of the seat's roots in one cut). By AI agents, Wed Nov 11 2026. No macro, syntax, notation, axiom, sorry.
-/
import Derived.Test.YtcjlhckebkibaaaChecked
import GoSem.Claim
import GoSem.ClaimJoined
import GoSem.ClaimMapViews
import Derived.JoinedTies
import Derived.KernelRfl
namespace Go.Proofs.Ytcjlhckebkibaaa
/- THE CELL 'sum', in the pinned program and in every row, IS THE sha256 OF THE DUMP (.gsa) THAT YtcjlhckebkibaaaProg.lean LOADS. Nothing in Lean hashes anything: it is a label: what it is worth is what the hold of that sum in a sandbox is worth. -/
noncomputable def Try.pinned : Pinned := { name := "ytcjlhckebkibaaa", sum := "6e9e85fab56959fd47a3f2e4144f78cbd42653212dd2baf4e4f6a9d0721961fe", checked := Try.checked }
namespace Rows
def none {H : Type} : Left H := { results := [], args := [] }

/-- 'laws.FnExactShowWord': WHATEVER THE INPUT: true; the input reads as it did. -/
def fnExactShowWordSpec : ChangeSpec := { name := "fnExactShowWord", fn := fun _ => fun
  | [d] => { results := [.lit (.bool true)], args := [d] }
  | _ => none }
def fnExactShowWordRow : OpenClaim := { program := "ytcjlhckebkibaaa", sum := "6e9e85fab56959fd47a3f2e4144f78cbd42653212dd2baf4e4f6a9d0721961fe", func := "loop.example/distanceautomata/laws.FnExactShowWord", spec := "fnExactShowWord", apart := false }
def FnExactShowWordSaid : Prop := fnExactShowWordRow.holds Try.pinned (OpenSpec.ofChange fnExactShowWordSpec)

/-- ITS FALSE NEIGHBOUR: 'it returns false'. Refute it at one input. -/
def fnExactShowWordWrong : ChangeSpec := { name := "fnExactShowWord", fn := fun _ => fun
  | [d] => { results := [.lit (.bool false)], args := [d] }
  | _ => none }
def FnExactShowWordWrongFalsely : Prop := fnExactShowWordRow.holds Try.pinned (OpenSpec.ofChange fnExactShowWordWrong)

/-- 'laws.FnExactFormatElement': WHATEVER THE INPUT: true; the input reads as it did. -/
def fnExactFormatElementSpec : ChangeSpec := { name := "fnExactFormatElement", fn := fun _ => fun
  | [d] => { results := [.lit (.bool true)], args := [d] }
  | _ => none }
def fnExactFormatElementRow : OpenClaim := { program := "ytcjlhckebkibaaa", sum := "6e9e85fab56959fd47a3f2e4144f78cbd42653212dd2baf4e4f6a9d0721961fe", func := "loop.example/distanceautomata/laws.FnExactFormatElement", spec := "fnExactFormatElement", inPlace := ["internal/abi.NoEscape", "internal/bytealg.MakeNoZero"], unfollowed := true, recurses := true, apart := false }
def FnExactFormatElementSaid : Prop := fnExactFormatElementRow.holds Try.pinned (OpenSpec.ofChange fnExactFormatElementSpec)

/-- ITS FALSE NEIGHBOUR: 'it returns false'. Refute it at one input. -/
def fnExactFormatElementWrong : ChangeSpec := { name := "fnExactFormatElement", fn := fun _ => fun
  | [d] => { results := [.lit (.bool false)], args := [d] }
  | _ => none }
def FnExactFormatElementWrongFalsely : Prop := fnExactFormatElementRow.holds Try.pinned (OpenSpec.ofChange fnExactFormatElementWrong)

/-- 'laws.FnExactAreApart': WHATEVER THE INPUT: true; the input reads as it did. -/
def fnExactAreApartSpec : ChangeSpec := { name := "fnExactAreApart", fn := fun _ => fun
  | [d1, d2, d3] => { results := [.lit (.bool true)], args := [d1, d2, d3] }
  | _ => none }
def fnExactAreApartRow : OpenClaim := { program := "ytcjlhckebkibaaa", sum := "6e9e85fab56959fd47a3f2e4144f78cbd42653212dd2baf4e4f6a9d0721961fe", func := "loop.example/distanceautomata/laws.FnExactAreApart", spec := "fnExactAreApart", inPlace := ["internal/bytealg.abigen_runtime_cmpstring"], apart := false }
def FnExactAreApartSaid : Prop := fnExactAreApartRow.holds Try.pinned (OpenSpec.ofChange fnExactAreApartSpec)

/-- ITS FALSE NEIGHBOUR: 'it returns false'. Refute it at one input. -/
def fnExactAreApartWrong : ChangeSpec := { name := "fnExactAreApart", fn := fun _ => fun
  | [d1, d2, d3] => { results := [.lit (.bool false)], args := [d1, d2, d3] }
  | _ => none }
def FnExactAreApartWrongFalsely : Prop := fnExactAreApartRow.holds Try.pinned (OpenSpec.ofChange fnExactAreApartWrong)

/-- 'laws.FnExactFirstOver': WHATEVER THE INPUT: true; the input reads as it did. -/
def fnExactFirstOverSpec : ChangeSpec := { name := "fnExactFirstOver", fn := fun _ => fun
  | [d1, d2, d3] => { results := [.lit (.bool true)], args := [d1, d2, d3] }
  | _ => none }
def fnExactFirstOverRow : OpenClaim := { program := "ytcjlhckebkibaaa", sum := "6e9e85fab56959fd47a3f2e4144f78cbd42653212dd2baf4e4f6a9d0721961fe", func := "loop.example/distanceautomata/laws.FnExactFirstOver", spec := "fnExactFirstOver", inPlace := ["internal/bytealg.abigen_runtime_cmpstring"], apart := false }
def FnExactFirstOverSaid : Prop := fnExactFirstOverRow.holds Try.pinned (OpenSpec.ofChange fnExactFirstOverSpec)

/-- ITS FALSE NEIGHBOUR: 'it returns false'. Refute it at one input. -/
def fnExactFirstOverWrong : ChangeSpec := { name := "fnExactFirstOver", fn := fun _ => fun
  | [d1, d2, d3] => { results := [.lit (.bool false)], args := [d1, d2, d3] }
  | _ => none }
def FnExactFirstOverWrongFalsely : Prop := fnExactFirstOverRow.holds Try.pinned (OpenSpec.ofChange fnExactFirstOverWrong)

/-- 'laws.FnExactSameCosts': WHATEVER THE INPUT: true; the input reads as it did. -/
def fnExactSameCostsSpec : ChangeSpec := { name := "fnExactSameCosts", fn := fun _ => fun
  | [d1, d2, d3] => { results := [.lit (.bool true)], args := [d1, d2, d3] }
  | _ => none }
def fnExactSameCostsRow : OpenClaim := { program := "ytcjlhckebkibaaa", sum := "6e9e85fab56959fd47a3f2e4144f78cbd42653212dd2baf4e4f6a9d0721961fe", func := "loop.example/distanceautomata/laws.FnExactSameCosts", spec := "fnExactSameCosts", inPlace := ["internal/bytealg.abigen_runtime_cmpstring"], apart := false }
def FnExactSameCostsSaid : Prop := fnExactSameCostsRow.holds Try.pinned (OpenSpec.ofChange fnExactSameCostsSpec)

/-- ITS FALSE NEIGHBOUR: 'it returns false'. Refute it at one input. -/
def fnExactSameCostsWrong : ChangeSpec := { name := "fnExactSameCosts", fn := fun _ => fun
  | [d1, d2, d3] => { results := [.lit (.bool false)], args := [d1, d2, d3] }
  | _ => none }
def FnExactSameCostsWrongFalsely : Prop := fnExactSameCostsRow.holds Try.pinned (OpenSpec.ofChange fnExactSameCostsWrong)

/-- 'laws.FnExactFactorsOf': WHATEVER THE INPUT: true; the input reads as it did. -/
def fnExactFactorsOfSpec : ChangeSpec := { name := "fnExactFactorsOf", fn := fun _ => fun
  | [d1, d2] => { results := [.lit (.bool true)], args := [d1, d2] }
  | _ => none }
def fnExactFactorsOfRow : OpenClaim := { program := "ytcjlhckebkibaaa", sum := "6e9e85fab56959fd47a3f2e4144f78cbd42653212dd2baf4e4f6a9d0721961fe", func := "loop.example/distanceautomata/laws.FnExactFactorsOf", spec := "fnExactFactorsOf", inPlace := ["internal/bytealg.abigen_runtime_cmpstring"], apart := false }
def FnExactFactorsOfSaid : Prop := fnExactFactorsOfRow.holds Try.pinned (OpenSpec.ofChange fnExactFactorsOfSpec)

/-- ITS FALSE NEIGHBOUR: 'it returns false'. Refute it at one input. -/
def fnExactFactorsOfWrong : ChangeSpec := { name := "fnExactFactorsOf", fn := fun _ => fun
  | [d1, d2] => { results := [.lit (.bool false)], args := [d1, d2] }
  | _ => none }
def FnExactFactorsOfWrongFalsely : Prop := fnExactFactorsOfRow.holds Try.pinned (OpenSpec.ofChange fnExactFactorsOfWrong)

/-- 'laws.FnExactHardestWord': WHATEVER THE INPUT: true; the input reads as it did. -/
def fnExactHardestWordSpec : ChangeSpec := { name := "fnExactHardestWord", fn := fun _ => fun
  | [d1, d2] => { results := [.lit (.bool true)], args := [d1, d2] }
  | _ => none }
def fnExactHardestWordRow : OpenClaim := { program := "ytcjlhckebkibaaa", sum := "6e9e85fab56959fd47a3f2e4144f78cbd42653212dd2baf4e4f6a9d0721961fe", func := "loop.example/distanceautomata/laws.FnExactHardestWord", spec := "fnExactHardestWord", inPlace := ["internal/bytealg.abigen_runtime_cmpstring"], apart := false }
def FnExactHardestWordSaid : Prop := fnExactHardestWordRow.holds Try.pinned (OpenSpec.ofChange fnExactHardestWordSpec)

/-- ITS FALSE NEIGHBOUR: 'it returns false'. Refute it at one input. -/
def fnExactHardestWordWrong : ChangeSpec := { name := "fnExactHardestWord", fn := fun _ => fun
  | [d1, d2] => { results := [.lit (.bool false)], args := [d1, d2] }
  | _ => none }
def FnExactHardestWordWrongFalsely : Prop := fnExactHardestWordRow.holds Try.pinned (OpenSpec.ofChange fnExactHardestWordWrong)

/-- 'laws.FnExactLeastOf': WHATEVER THE INPUT: true; the input reads as it did. -/
def fnExactLeastOfSpec : ChangeSpec := { name := "fnExactLeastOf", fn := fun _ => fun
  | [d1, d2] => { results := [.lit (.bool true)], args := [d1, d2] }
  | _ => none }
def fnExactLeastOfRow : OpenClaim := { program := "ytcjlhckebkibaaa", sum := "6e9e85fab56959fd47a3f2e4144f78cbd42653212dd2baf4e4f6a9d0721961fe", func := "loop.example/distanceautomata/laws.FnExactLeastOf", spec := "fnExactLeastOf", inPlace := ["internal/bytealg.abigen_runtime_cmpstring"], unfollowed := true, recurses := true, apart := false }
def FnExactLeastOfSaid : Prop := fnExactLeastOfRow.holds Try.pinned (OpenSpec.ofChange fnExactLeastOfSpec)

/-- ITS FALSE NEIGHBOUR: 'it returns false'. Refute it at one input. -/
def fnExactLeastOfWrong : ChangeSpec := { name := "fnExactLeastOf", fn := fun _ => fun
  | [d1, d2] => { results := [.lit (.bool false)], args := [d1, d2] }
  | _ => none }
def FnExactLeastOfWrongFalsely : Prop := fnExactLeastOfRow.holds Try.pinned (OpenSpec.ofChange fnExactLeastOfWrong)

/-- 'laws.FnExactTableOf': WHATEVER THE INPUT: true; the input reads as it did. -/
def fnExactTableOfSpec : ChangeSpec := { name := "fnExactTableOf", fn := fun _ => fun
  | [d1, d2] => { results := [.lit (.bool true)], args := [d1, d2] }
  | _ => none }
def fnExactTableOfRow : OpenClaim := { program := "ytcjlhckebkibaaa", sum := "6e9e85fab56959fd47a3f2e4144f78cbd42653212dd2baf4e4f6a9d0721961fe", func := "loop.example/distanceautomata/laws.FnExactTableOf", spec := "fnExactTableOf", inPlace := ["internal/bytealg.abigen_runtime_cmpstring"], apart := false }
def FnExactTableOfSaid : Prop := fnExactTableOfRow.holds Try.pinned (OpenSpec.ofChange fnExactTableOfSpec)

/-- ITS FALSE NEIGHBOUR: 'it returns false'. Refute it at one input. -/
def fnExactTableOfWrong : ChangeSpec := { name := "fnExactTableOf", fn := fun _ => fun
  | [d1, d2] => { results := [.lit (.bool false)], args := [d1, d2] }
  | _ => none }
def FnExactTableOfWrongFalsely : Prop := fnExactTableOfRow.holds Try.pinned (OpenSpec.ofChange fnExactTableOfWrong)

/-- 'laws.FnExactCountsOf': WHATEVER THE INPUT: true; the input reads as it did. -/
def fnExactCountsOfSpec : ChangeSpec := { name := "fnExactCountsOf", fn := fun _ => fun
  | [d1, d2] => { results := [.lit (.bool true)], args := [d1, d2] }
  | _ => none }
def fnExactCountsOfRow : OpenClaim := { program := "ytcjlhckebkibaaa", sum := "6e9e85fab56959fd47a3f2e4144f78cbd42653212dd2baf4e4f6a9d0721961fe", func := "loop.example/distanceautomata/laws.FnExactCountsOf", spec := "fnExactCountsOf", inPlace := ["internal/bytealg.abigen_runtime_cmpstring"], apart := false }
def FnExactCountsOfSaid : Prop := fnExactCountsOfRow.holds Try.pinned (OpenSpec.ofChange fnExactCountsOfSpec)

/-- ITS FALSE NEIGHBOUR: 'it returns false'. Refute it at one input. -/
def fnExactCountsOfWrong : ChangeSpec := { name := "fnExactCountsOf", fn := fun _ => fun
  | [d1, d2] => { results := [.lit (.bool false)], args := [d1, d2] }
  | _ => none }
def FnExactCountsOfWrongFalsely : Prop := fnExactCountsOfRow.holds Try.pinned (OpenSpec.ofChange fnExactCountsOfWrong)

/-- 'laws.FnExactMostFactors': WHATEVER THE INPUT: true; the input reads as it did. -/
def fnExactMostFactorsSpec : ChangeSpec := { name := "fnExactMostFactors", fn := fun _ => fun
  | [d1, d2] => { results := [.lit (.bool true)], args := [d1, d2] }
  | _ => none }
def fnExactMostFactorsRow : OpenClaim := { program := "ytcjlhckebkibaaa", sum := "6e9e85fab56959fd47a3f2e4144f78cbd42653212dd2baf4e4f6a9d0721961fe", func := "loop.example/distanceautomata/laws.FnExactMostFactors", spec := "fnExactMostFactors", inPlace := ["internal/bytealg.abigen_runtime_cmpstring"], apart := false }
def FnExactMostFactorsSaid : Prop := fnExactMostFactorsRow.holds Try.pinned (OpenSpec.ofChange fnExactMostFactorsSpec)

/-- ITS FALSE NEIGHBOUR: 'it returns false'. Refute it at one input. -/
def fnExactMostFactorsWrong : ChangeSpec := { name := "fnExactMostFactors", fn := fun _ => fun
  | [d1, d2] => { results := [.lit (.bool false)], args := [d1, d2] }
  | _ => none }
def FnExactMostFactorsWrongFalsely : Prop := fnExactMostFactorsRow.holds Try.pinned (OpenSpec.ofChange fnExactMostFactorsWrong)

/- THE SECOND FORM. 'bulk': how many values and letters a reading holds, each counted each time it is reached (what is shared counts as often as it is met; a slice's spare places count too). A statement '..UptoSaid' is the law's where the arguments, and the package variables that the reading takes, are together of bulk at most 1048576: NARROWER than '..Said'. Prove '..Said' where nothing that the law and all that it calls make is longer than what came in: it says more and counts as full. Else prove '..UptoSaid'. A law counts once. -/
mutual
def uptoBulk {H : Type} : DataW H → Nat
  | .lit (.string bytes) => bytes.length + 1
  | .lit _ => 1
  | .nil => 1
  | .ptr d => uptoBulk d + 1
  | .slice elems spare => uptoBulkAll elems + uptoBulkAll spare + 1
  | .agg parts => uptoBulkAll parts + 1
  | .iface _ d => uptoBulk d + 1
  | .map entries => uptoBulkEntries entries + 1
  | .held _ => 1
def uptoBulkAll {H : Type} : List (DataW H) → Nat
  | [] => 0
  | d :: r => uptoBulk d + uptoBulkAll r
def uptoBulkEntries {H : Type} : List (Lit × DataW H) → Nat
  | [] => 0
  | x :: r => uptoBulkEntry x + uptoBulkEntries r
def uptoBulkEntry {H : Type} : Lit × DataW H → Nat
  | (.string bytes, d) => bytes.length + uptoBulk d + 1
  | (_, d) => uptoBulk d + 1
 end
def uptoSmall : (H : Type) → List (DataW H) → Bool := fun _ ds => decide (uptoBulkAll ds ≤ 1048576)
def OpenSpec.upto (s : _root_.Go.ChangeSpec) : _root_.Go.OpenSpec := { _root_.Go.OpenSpec.ofChange s with cond := some uptoSmall }

/-- 'laws.FnExactShowWord', WHERE WHAT IT READS IS OF BULK AT MOST 1048576: true; the input reads as it did. -/
def fnExactShowWordUptoRow : OpenClaim := { program := "ytcjlhckebkibaaa", sum := "6e9e85fab56959fd47a3f2e4144f78cbd42653212dd2baf4e4f6a9d0721961fe", func := "loop.example/distanceautomata/laws.FnExactShowWord", spec := "fnExactShowWord", apart := false, narrowed := true }
def FnExactShowWordUptoSaid : Prop := fnExactShowWordUptoRow.holds Try.pinned (OpenSpec.upto fnExactShowWordSpec)

/-- 'laws.FnExactFormatElement', WHERE WHAT IT READS IS OF BULK AT MOST 1048576: true; the input reads as it did. -/
def fnExactFormatElementUptoRow : OpenClaim := { program := "ytcjlhckebkibaaa", sum := "6e9e85fab56959fd47a3f2e4144f78cbd42653212dd2baf4e4f6a9d0721961fe", func := "loop.example/distanceautomata/laws.FnExactFormatElement", spec := "fnExactFormatElement", inPlace := ["internal/abi.NoEscape", "internal/bytealg.MakeNoZero"], unfollowed := true, recurses := true, apart := false, narrowed := true }
def FnExactFormatElementUptoSaid : Prop := fnExactFormatElementUptoRow.holds Try.pinned (OpenSpec.upto fnExactFormatElementSpec)

/-- 'laws.FnExactAreApart', WHERE WHAT IT READS IS OF BULK AT MOST 1048576: true; the input reads as it did. -/
def fnExactAreApartUptoRow : OpenClaim := { program := "ytcjlhckebkibaaa", sum := "6e9e85fab56959fd47a3f2e4144f78cbd42653212dd2baf4e4f6a9d0721961fe", func := "loop.example/distanceautomata/laws.FnExactAreApart", spec := "fnExactAreApart", inPlace := ["internal/bytealg.abigen_runtime_cmpstring"], apart := false, narrowed := true }
def FnExactAreApartUptoSaid : Prop := fnExactAreApartUptoRow.holds Try.pinned (OpenSpec.upto fnExactAreApartSpec)

/-- 'laws.FnExactFirstOver', WHERE WHAT IT READS IS OF BULK AT MOST 1048576: true; the input reads as it did. -/
def fnExactFirstOverUptoRow : OpenClaim := { program := "ytcjlhckebkibaaa", sum := "6e9e85fab56959fd47a3f2e4144f78cbd42653212dd2baf4e4f6a9d0721961fe", func := "loop.example/distanceautomata/laws.FnExactFirstOver", spec := "fnExactFirstOver", inPlace := ["internal/bytealg.abigen_runtime_cmpstring"], apart := false, narrowed := true }
def FnExactFirstOverUptoSaid : Prop := fnExactFirstOverUptoRow.holds Try.pinned (OpenSpec.upto fnExactFirstOverSpec)

/-- 'laws.FnExactSameCosts', WHERE WHAT IT READS IS OF BULK AT MOST 1048576: true; the input reads as it did. -/
def fnExactSameCostsUptoRow : OpenClaim := { program := "ytcjlhckebkibaaa", sum := "6e9e85fab56959fd47a3f2e4144f78cbd42653212dd2baf4e4f6a9d0721961fe", func := "loop.example/distanceautomata/laws.FnExactSameCosts", spec := "fnExactSameCosts", inPlace := ["internal/bytealg.abigen_runtime_cmpstring"], apart := false, narrowed := true }
def FnExactSameCostsUptoSaid : Prop := fnExactSameCostsUptoRow.holds Try.pinned (OpenSpec.upto fnExactSameCostsSpec)

/-- 'laws.FnExactFactorsOf', WHERE WHAT IT READS IS OF BULK AT MOST 1048576: true; the input reads as it did. -/
def fnExactFactorsOfUptoRow : OpenClaim := { program := "ytcjlhckebkibaaa", sum := "6e9e85fab56959fd47a3f2e4144f78cbd42653212dd2baf4e4f6a9d0721961fe", func := "loop.example/distanceautomata/laws.FnExactFactorsOf", spec := "fnExactFactorsOf", inPlace := ["internal/bytealg.abigen_runtime_cmpstring"], apart := false, narrowed := true }
def FnExactFactorsOfUptoSaid : Prop := fnExactFactorsOfUptoRow.holds Try.pinned (OpenSpec.upto fnExactFactorsOfSpec)

/-- 'laws.FnExactHardestWord', WHERE WHAT IT READS IS OF BULK AT MOST 1048576: true; the input reads as it did. -/
def fnExactHardestWordUptoRow : OpenClaim := { program := "ytcjlhckebkibaaa", sum := "6e9e85fab56959fd47a3f2e4144f78cbd42653212dd2baf4e4f6a9d0721961fe", func := "loop.example/distanceautomata/laws.FnExactHardestWord", spec := "fnExactHardestWord", inPlace := ["internal/bytealg.abigen_runtime_cmpstring"], apart := false, narrowed := true }
def FnExactHardestWordUptoSaid : Prop := fnExactHardestWordUptoRow.holds Try.pinned (OpenSpec.upto fnExactHardestWordSpec)

/-- 'laws.FnExactLeastOf', WHERE WHAT IT READS IS OF BULK AT MOST 1048576: true; the input reads as it did. -/
def fnExactLeastOfUptoRow : OpenClaim := { program := "ytcjlhckebkibaaa", sum := "6e9e85fab56959fd47a3f2e4144f78cbd42653212dd2baf4e4f6a9d0721961fe", func := "loop.example/distanceautomata/laws.FnExactLeastOf", spec := "fnExactLeastOf", inPlace := ["internal/bytealg.abigen_runtime_cmpstring"], unfollowed := true, recurses := true, apart := false, narrowed := true }
def FnExactLeastOfUptoSaid : Prop := fnExactLeastOfUptoRow.holds Try.pinned (OpenSpec.upto fnExactLeastOfSpec)

/-- 'laws.FnExactTableOf', WHERE WHAT IT READS IS OF BULK AT MOST 1048576: true; the input reads as it did. -/
def fnExactTableOfUptoRow : OpenClaim := { program := "ytcjlhckebkibaaa", sum := "6e9e85fab56959fd47a3f2e4144f78cbd42653212dd2baf4e4f6a9d0721961fe", func := "loop.example/distanceautomata/laws.FnExactTableOf", spec := "fnExactTableOf", inPlace := ["internal/bytealg.abigen_runtime_cmpstring"], apart := false, narrowed := true }
def FnExactTableOfUptoSaid : Prop := fnExactTableOfUptoRow.holds Try.pinned (OpenSpec.upto fnExactTableOfSpec)

/-- 'laws.FnExactCountsOf', WHERE WHAT IT READS IS OF BULK AT MOST 1048576: true; the input reads as it did. -/
def fnExactCountsOfUptoRow : OpenClaim := { program := "ytcjlhckebkibaaa", sum := "6e9e85fab56959fd47a3f2e4144f78cbd42653212dd2baf4e4f6a9d0721961fe", func := "loop.example/distanceautomata/laws.FnExactCountsOf", spec := "fnExactCountsOf", inPlace := ["internal/bytealg.abigen_runtime_cmpstring"], apart := false, narrowed := true }
def FnExactCountsOfUptoSaid : Prop := fnExactCountsOfUptoRow.holds Try.pinned (OpenSpec.upto fnExactCountsOfSpec)

/-- 'laws.FnExactMostFactors', WHERE WHAT IT READS IS OF BULK AT MOST 1048576: true; the input reads as it did. -/
def fnExactMostFactorsUptoRow : OpenClaim := { program := "ytcjlhckebkibaaa", sum := "6e9e85fab56959fd47a3f2e4144f78cbd42653212dd2baf4e4f6a9d0721961fe", func := "loop.example/distanceautomata/laws.FnExactMostFactors", spec := "fnExactMostFactors", inPlace := ["internal/bytealg.abigen_runtime_cmpstring"], apart := false, narrowed := true }
def FnExactMostFactorsUptoSaid : Prop := fnExactMostFactorsUptoRow.holds Try.pinned (OpenSpec.upto fnExactMostFactorsSpec)

end Rows
end Go.Proofs.Ytcjlhckebkibaaa
