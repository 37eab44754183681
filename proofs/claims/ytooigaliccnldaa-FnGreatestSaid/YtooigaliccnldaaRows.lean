/-
  No cell of these rows narrows 'for every input' (looked for: loops, veiled, ifaces, maps, wideKeys, modest, calm, conditions, laid).
  DERIVED. THE GIVEN ROWS OF THIS SEAT. 12 by the template 'for every input the law returns true; each argument reads behind the call as it read before'; 0 by the template 'total and deterministic' (their statements: YtooigaliccnldaaTotals.lean).
  GIVEN WITH THE SEED: the statements are not yours to turn. If you find one false, say at which input.
  Laid BY PROGRAM, IN A SANDBOX (cutbox-rows.mjs): the forced cells as the released guide's own fill.sh prints them over the translation 9bed44764d23339c… (all of the seat's roots in one cut). By AI agents, Wed Nov 11 2026. No macro, syntax, notation, axiom, sorry.
-/
import Derived.Test.YtooigaliccnldaaChecked
import GoSem.Claim
import GoSem.ClaimJoined
import GoSem.ClaimMapViews
import Derived.JoinedTies
import Derived.KernelRfl
namespace Go.Proofs.Ytooigaliccnldaa
/- THE CELL 'sum', in the pinned program and in every row, IS THE sha256 OF THE DUMP (.gsa) THAT YtooigaliccnldaaProg.lean LOADS. Nothing in Lean hashes anything: it is a label: what it is worth is what the hold of that sum in a sandbox is worth. -/
noncomputable def Try.pinned : Pinned := { name := "ytooigaliccnldaa", sum := "9bed44764d23339c051603d92b240548ee8f57e5314813ec616c99ba0a5643ce", checked := Try.checked }
namespace Rows
def none {H : Type} : Left H := { results := [], args := [] }

/-- 'laws.FnExactFormatElement': WHATEVER THE INPUT: true; the input reads as it did. -/
def fnExactFormatElementSpec : ChangeSpec := { name := "fnExactFormatElement", fn := fun _ => fun
  | [d] => { results := [.lit (.bool true)], args := [d] }
  | _ => none }
def fnExactFormatElementRow : OpenClaim := { program := "ytooigaliccnldaa", sum := "9bed44764d23339c051603d92b240548ee8f57e5314813ec616c99ba0a5643ce", func := "loop.example/distanceautomata/laws.FnExactFormatElement", spec := "fnExactFormatElement", inPlace := ["internal/abi.NoEscape", "internal/bytealg.MakeNoZero"], unfollowed := true, recurses := true, apart := false }
def FnExactFormatElementSaid : Prop := fnExactFormatElementRow.holds Try.pinned (OpenSpec.ofChange fnExactFormatElementSpec)

/-- ITS FALSE NEIGHBOUR: 'it returns false'. Refute it at one input. -/
def fnExactFormatElementWrong : ChangeSpec := { name := "fnExactFormatElement", fn := fun _ => fun
  | [d] => { results := [.lit (.bool false)], args := [d] }
  | _ => none }
def FnExactFormatElementWrongFalsely : Prop := fnExactFormatElementRow.holds Try.pinned (OpenSpec.ofChange fnExactFormatElementWrong)

/-- 'laws.FnExactFreeWords': WHATEVER THE INPUT: true; the input reads as it did. -/
def fnExactFreeWordsSpec : ChangeSpec := { name := "fnExactFreeWords", fn := fun _ => fun
  | [d1, d2] => { results := [.lit (.bool true)], args := [d1, d2] }
  | _ => none }
def fnExactFreeWordsRow : OpenClaim := { program := "ytooigaliccnldaa", sum := "9bed44764d23339c051603d92b240548ee8f57e5314813ec616c99ba0a5643ce", func := "loop.example/distanceautomata/laws.FnExactFreeWords", spec := "fnExactFreeWords", inPlace := ["internal/bytealg.abigen_runtime_cmpstring"], apart := false }
def FnExactFreeWordsSaid : Prop := fnExactFreeWordsRow.holds Try.pinned (OpenSpec.ofChange fnExactFreeWordsSpec)

/-- ITS FALSE NEIGHBOUR: 'it returns false'. Refute it at one input. -/
def fnExactFreeWordsWrong : ChangeSpec := { name := "fnExactFreeWords", fn := fun _ => fun
  | [d1, d2] => { results := [.lit (.bool false)], args := [d1, d2] }
  | _ => none }
def FnExactFreeWordsWrongFalsely : Prop := fnExactFreeWordsRow.holds Try.pinned (OpenSpec.ofChange fnExactFreeWordsWrong)

/-- 'laws.FnExactGreatestOf': WHATEVER THE INPUT: true; the input reads as it did. -/
def fnExactGreatestOfSpec : ChangeSpec := { name := "fnExactGreatestOf", fn := fun _ => fun
  | [d1, d2] => { results := [.lit (.bool true)], args := [d1, d2] }
  | _ => none }
def fnExactGreatestOfRow : OpenClaim := { program := "ytooigaliccnldaa", sum := "9bed44764d23339c051603d92b240548ee8f57e5314813ec616c99ba0a5643ce", func := "loop.example/distanceautomata/laws.FnExactGreatestOf", spec := "fnExactGreatestOf", inPlace := ["internal/bytealg.abigen_runtime_cmpstring"], unfollowed := true, recurses := true, apart := false }
def FnExactGreatestOfSaid : Prop := fnExactGreatestOfRow.holds Try.pinned (OpenSpec.ofChange fnExactGreatestOfSpec)

/-- ITS FALSE NEIGHBOUR: 'it returns false'. Refute it at one input. -/
def fnExactGreatestOfWrong : ChangeSpec := { name := "fnExactGreatestOf", fn := fun _ => fun
  | [d1, d2] => { results := [.lit (.bool false)], args := [d1, d2] }
  | _ => none }
def FnExactGreatestOfWrongFalsely : Prop := fnExactGreatestOfRow.holds Try.pinned (OpenSpec.ofChange fnExactGreatestOfWrong)

/-- 'laws.FnExactSplitOf': WHATEVER THE INPUT: true; the input reads as it did. -/
def fnExactSplitOfSpec : ChangeSpec := { name := "fnExactSplitOf", fn := fun _ => fun
  | [d1, d2] => { results := [.lit (.bool true)], args := [d1, d2] }
  | _ => none }
def fnExactSplitOfRow : OpenClaim := { program := "ytooigaliccnldaa", sum := "9bed44764d23339c051603d92b240548ee8f57e5314813ec616c99ba0a5643ce", func := "loop.example/distanceautomata/laws.FnExactSplitOf", spec := "fnExactSplitOf", inPlace := ["internal/bytealg.abigen_runtime_cmpstring"], apart := false }
def FnExactSplitOfSaid : Prop := fnExactSplitOfRow.holds Try.pinned (OpenSpec.ofChange fnExactSplitOfSpec)

/-- ITS FALSE NEIGHBOUR: 'it returns false'. Refute it at one input. -/
def fnExactSplitOfWrong : ChangeSpec := { name := "fnExactSplitOf", fn := fun _ => fun
  | [d1, d2] => { results := [.lit (.bool false)], args := [d1, d2] }
  | _ => none }
def FnExactSplitOfWrongFalsely : Prop := fnExactSplitOfRow.holds Try.pinned (OpenSpec.ofChange fnExactSplitOfWrong)

/-- 'laws.FnTable': WHATEVER THE INPUT: true; the input reads as it did. -/
def fnTableSpec : ChangeSpec := { name := "fnTable", fn := fun _ => fun
  | [d] => { results := [.lit (.bool true)], args := [d] }
  | _ => none }
def fnTableRow : OpenClaim := { program := "ytooigaliccnldaa", sum := "9bed44764d23339c051603d92b240548ee8f57e5314813ec616c99ba0a5643ce", func := "loop.example/distanceautomata/laws.FnTable", spec := "fnTable", inPlace := ["internal/bytealg.abigen_runtime_cmpstring"], apart := false }
def FnTableSaid : Prop := fnTableRow.holds Try.pinned (OpenSpec.ofChange fnTableSpec)

/-- ITS FALSE NEIGHBOUR: 'it returns false'. Refute it at one input. -/
def fnTableWrong : ChangeSpec := { name := "fnTable", fn := fun _ => fun
  | [d] => { results := [.lit (.bool false)], args := [d] }
  | _ => none }
def FnTableWrongFalsely : Prop := fnTableRow.holds Try.pinned (OpenSpec.ofChange fnTableWrong)

/-- 'laws.FnSplitOf': WHATEVER THE INPUT: true; the input reads as it did. -/
def fnSplitOfSpec : ChangeSpec := { name := "fnSplitOf", fn := fun _ => fun
  | [d] => { results := [.lit (.bool true)], args := [d] }
  | _ => none }
def fnSplitOfRow : OpenClaim := { program := "ytooigaliccnldaa", sum := "9bed44764d23339c051603d92b240548ee8f57e5314813ec616c99ba0a5643ce", func := "loop.example/distanceautomata/laws.FnSplitOf", spec := "fnSplitOf", inPlace := ["internal/bytealg.abigen_runtime_cmpstring"], apart := false }
def FnSplitOfSaid : Prop := fnSplitOfRow.holds Try.pinned (OpenSpec.ofChange fnSplitOfSpec)

/-- ITS FALSE NEIGHBOUR: 'it returns false'. Refute it at one input. -/
def fnSplitOfWrong : ChangeSpec := { name := "fnSplitOf", fn := fun _ => fun
  | [d] => { results := [.lit (.bool false)], args := [d] }
  | _ => none }
def FnSplitOfWrongFalsely : Prop := fnSplitOfRow.holds Try.pinned (OpenSpec.ofChange fnSplitOfWrong)

/-- 'laws.FnCounts': WHATEVER THE INPUT: true; the input reads as it did. -/
def fnCountsSpec : ChangeSpec := { name := "fnCounts", fn := fun _ => fun
  | [d] => { results := [.lit (.bool true)], args := [d] }
  | _ => none }
def fnCountsRow : OpenClaim := { program := "ytooigaliccnldaa", sum := "9bed44764d23339c051603d92b240548ee8f57e5314813ec616c99ba0a5643ce", func := "loop.example/distanceautomata/laws.FnCounts", spec := "fnCounts", inPlace := ["internal/bytealg.abigen_runtime_cmpstring"], apart := false }
def FnCountsSaid : Prop := fnCountsRow.holds Try.pinned (OpenSpec.ofChange fnCountsSpec)

/-- ITS FALSE NEIGHBOUR: 'it returns false'. Refute it at one input. -/
def fnCountsWrong : ChangeSpec := { name := "fnCounts", fn := fun _ => fun
  | [d] => { results := [.lit (.bool false)], args := [d] }
  | _ => none }
def FnCountsWrongFalsely : Prop := fnCountsRow.holds Try.pinned (OpenSpec.ofChange fnCountsWrong)

/-- 'laws.FnHardest': WHATEVER THE INPUT: true; the input reads as it did. -/
def fnHardestSpec : ChangeSpec := { name := "fnHardest", fn := fun _ => fun
  | [d] => { results := [.lit (.bool true)], args := [d] }
  | _ => none }
def fnHardestRow : OpenClaim := { program := "ytooigaliccnldaa", sum := "9bed44764d23339c051603d92b240548ee8f57e5314813ec616c99ba0a5643ce", func := "loop.example/distanceautomata/laws.FnHardest", spec := "fnHardest", inPlace := ["internal/bytealg.abigen_runtime_cmpstring"], apart := false }
def FnHardestSaid : Prop := fnHardestRow.holds Try.pinned (OpenSpec.ofChange fnHardestSpec)

/-- ITS FALSE NEIGHBOUR: 'it returns false'. Refute it at one input. -/
def fnHardestWrong : ChangeSpec := { name := "fnHardest", fn := fun _ => fun
  | [d] => { results := [.lit (.bool false)], args := [d] }
  | _ => none }
def FnHardestWrongFalsely : Prop := fnHardestRow.holds Try.pinned (OpenSpec.ofChange fnHardestWrong)

/-- 'laws.FnFirstOver': WHATEVER THE INPUT: true; the input reads as it did. -/
def fnFirstOverSpec : ChangeSpec := { name := "fnFirstOver", fn := fun _ => fun
  | [d] => { results := [.lit (.bool true)], args := [d] }
  | _ => none }
def fnFirstOverRow : OpenClaim := { program := "ytooigaliccnldaa", sum := "9bed44764d23339c051603d92b240548ee8f57e5314813ec616c99ba0a5643ce", func := "loop.example/distanceautomata/laws.FnFirstOver", spec := "fnFirstOver", inPlace := ["internal/bytealg.abigen_runtime_cmpstring"], apart := false }
def FnFirstOverSaid : Prop := fnFirstOverRow.holds Try.pinned (OpenSpec.ofChange fnFirstOverSpec)

/-- ITS FALSE NEIGHBOUR: 'it returns false'. Refute it at one input. -/
def fnFirstOverWrong : ChangeSpec := { name := "fnFirstOver", fn := fun _ => fun
  | [d] => { results := [.lit (.bool false)], args := [d] }
  | _ => none }
def FnFirstOverWrongFalsely : Prop := fnFirstOverRow.holds Try.pinned (OpenSpec.ofChange fnFirstOverWrong)

/-- 'laws.FnGreatest': WHATEVER THE INPUT: true; the input reads as it did. -/
def fnGreatestSpec : ChangeSpec := { name := "fnGreatest", fn := fun _ => fun
  | [d] => { results := [.lit (.bool true)], args := [d] }
  | _ => none }
def fnGreatestRow : OpenClaim := { program := "ytooigaliccnldaa", sum := "9bed44764d23339c051603d92b240548ee8f57e5314813ec616c99ba0a5643ce", func := "loop.example/distanceautomata/laws.FnGreatest", spec := "fnGreatest", inPlace := ["internal/bytealg.abigen_runtime_cmpstring"], unfollowed := true, recurses := true, apart := false }
def FnGreatestSaid : Prop := fnGreatestRow.holds Try.pinned (OpenSpec.ofChange fnGreatestSpec)

/-- ITS FALSE NEIGHBOUR: 'it returns false'. Refute it at one input. -/
def fnGreatestWrong : ChangeSpec := { name := "fnGreatest", fn := fun _ => fun
  | [d] => { results := [.lit (.bool false)], args := [d] }
  | _ => none }
def FnGreatestWrongFalsely : Prop := fnGreatestRow.holds Try.pinned (OpenSpec.ofChange fnGreatestWrong)

/-- 'laws.FnExactGrowingBetween': WHATEVER THE INPUT: true; the input reads as it did. -/
def fnExactGrowingBetweenSpec : ChangeSpec := { name := "fnExactGrowingBetween", fn := fun _ => fun
  | [d1, d2, d3] => { results := [.lit (.bool true)], args := [d1, d2, d3] }
  | _ => none }
def fnExactGrowingBetweenRow : OpenClaim := { program := "ytooigaliccnldaa", sum := "9bed44764d23339c051603d92b240548ee8f57e5314813ec616c99ba0a5643ce", func := "loop.example/distanceautomata/laws.FnExactGrowingBetween", spec := "fnExactGrowingBetween", inPlace := ["internal/bytealg.abigen_runtime_cmpstring"], unfollowed := true, recurses := true, apart := false }
def FnExactGrowingBetweenSaid : Prop := fnExactGrowingBetweenRow.holds Try.pinned (OpenSpec.ofChange fnExactGrowingBetweenSpec)

/-- ITS FALSE NEIGHBOUR: 'it returns false'. Refute it at one input. -/
def fnExactGrowingBetweenWrong : ChangeSpec := { name := "fnExactGrowingBetween", fn := fun _ => fun
  | [d1, d2, d3] => { results := [.lit (.bool false)], args := [d1, d2, d3] }
  | _ => none }
def FnExactGrowingBetweenWrongFalsely : Prop := fnExactGrowingBetweenRow.holds Try.pinned (OpenSpec.ofChange fnExactGrowingBetweenWrong)

/-- 'laws.FnExactIsBounded': WHATEVER THE INPUT: true; the input reads as it did. -/
def fnExactIsBoundedSpec : ChangeSpec := { name := "fnExactIsBounded", fn := fun _ => fun
  | [d] => { results := [.lit (.bool true)], args := [d] }
  | _ => none }
def fnExactIsBoundedRow : OpenClaim := { program := "ytooigaliccnldaa", sum := "9bed44764d23339c051603d92b240548ee8f57e5314813ec616c99ba0a5643ce", func := "loop.example/distanceautomata/laws.FnExactIsBounded", spec := "fnExactIsBounded", inPlace := ["internal/bytealg.abigen_runtime_cmpstring"], unfollowed := true, recurses := true, apart := false }
def FnExactIsBoundedSaid : Prop := fnExactIsBoundedRow.holds Try.pinned (OpenSpec.ofChange fnExactIsBoundedSpec)

/-- ITS FALSE NEIGHBOUR: 'it returns false'. Refute it at one input. -/
def fnExactIsBoundedWrong : ChangeSpec := { name := "fnExactIsBounded", fn := fun _ => fun
  | [d] => { results := [.lit (.bool false)], args := [d] }
  | _ => none }
def FnExactIsBoundedWrongFalsely : Prop := fnExactIsBoundedRow.holds Try.pinned (OpenSpec.ofChange fnExactIsBoundedWrong)

/- THE SECOND FORM. 'bulk': how many values and letters a reading holds, each counted each time it is reached (what is shared counts as often as it is met; a slice's spare places count too). A statement '..UptoSaid' is the law's where the arguments, and the package variables that the reading takes, are together of bulk at most 1048576: NARROWER than '..Said'. Prove '..Said' where nothing that the law and all that it calls make is longer than what came in: it says more and counts as full. Else prove '..UptoSaid'. A law counts once. -/
mutual
def uptoBulk {H : Type} : DataW H → Nat
  | .lit (.string bytes) => bytes.length + 1
  | .lit _ => 1
  | .nil => 1
  | .ptr d => uptoBulk d + 1
  | .slice elems spare => uptoBulkAll elems + uptoBulkAll spare + 1
  | .agg parts => uptoBulkAll parts + 1
  | .iface _ d => uptoBulk d + 1
  | .map entries => uptoBulkEntries entries + 1
  | .held _ => 1
def uptoBulkAll {H : Type} : List (DataW H) → Nat
  | [] => 0
  | d :: r => uptoBulk d + uptoBulkAll r
def uptoBulkEntries {H : Type} : List (Lit × DataW H) → Nat
  | [] => 0
  | x :: r => uptoBulkEntry x + uptoBulkEntries r
def uptoBulkEntry {H : Type} : Lit × DataW H → Nat
  | (.string bytes, d) => bytes.length + uptoBulk d + 1
  | (_, d) => uptoBulk d + 1
 end
def uptoSmall : (H : Type) → List (DataW H) → Bool := fun _ ds => decide (uptoBulkAll ds ≤ 1048576)
def OpenSpec.upto (s : _root_.Go.ChangeSpec) : _root_.Go.OpenSpec := { _root_.Go.OpenSpec.ofChange s with cond := some uptoSmall }

/-- 'laws.FnExactFormatElement', WHERE WHAT IT READS IS OF BULK AT MOST 1048576: true; the input reads as it did. -/
def fnExactFormatElementUptoRow : OpenClaim := { program := "ytooigaliccnldaa", sum := "9bed44764d23339c051603d92b240548ee8f57e5314813ec616c99ba0a5643ce", func := "loop.example/distanceautomata/laws.FnExactFormatElement", spec := "fnExactFormatElement", inPlace := ["internal/abi.NoEscape", "internal/bytealg.MakeNoZero"], unfollowed := true, recurses := true, apart := false, narrowed := true }
def FnExactFormatElementUptoSaid : Prop := fnExactFormatElementUptoRow.holds Try.pinned (OpenSpec.upto fnExactFormatElementSpec)

/-- 'laws.FnExactFreeWords', WHERE WHAT IT READS IS OF BULK AT MOST 1048576: true; the input reads as it did. -/
def fnExactFreeWordsUptoRow : OpenClaim := { program := "ytooigaliccnldaa", sum := "9bed44764d23339c051603d92b240548ee8f57e5314813ec616c99ba0a5643ce", func := "loop.example/distanceautomata/laws.FnExactFreeWords", spec := "fnExactFreeWords", inPlace := ["internal/bytealg.abigen_runtime_cmpstring"], apart := false, narrowed := true }
def FnExactFreeWordsUptoSaid : Prop := fnExactFreeWordsUptoRow.holds Try.pinned (OpenSpec.upto fnExactFreeWordsSpec)

/-- 'laws.FnExactGreatestOf', WHERE WHAT IT READS IS OF BULK AT MOST 1048576: true; the input reads as it did. -/
def fnExactGreatestOfUptoRow : OpenClaim := { program := "ytooigaliccnldaa", sum := "9bed44764d23339c051603d92b240548ee8f57e5314813ec616c99ba0a5643ce", func := "loop.example/distanceautomata/laws.FnExactGreatestOf", spec := "fnExactGreatestOf", inPlace := ["internal/bytealg.abigen_runtime_cmpstring"], unfollowed := true, recurses := true, apart := false, narrowed := true }
def FnExactGreatestOfUptoSaid : Prop := fnExactGreatestOfUptoRow.holds Try.pinned (OpenSpec.upto fnExactGreatestOfSpec)

/-- 'laws.FnExactSplitOf', WHERE WHAT IT READS IS OF BULK AT MOST 1048576: true; the input reads as it did. -/
def fnExactSplitOfUptoRow : OpenClaim := { program := "ytooigaliccnldaa", sum := "9bed44764d23339c051603d92b240548ee8f57e5314813ec616c99ba0a5643ce", func := "loop.example/distanceautomata/laws.FnExactSplitOf", spec := "fnExactSplitOf", inPlace := ["internal/bytealg.abigen_runtime_cmpstring"], apart := false, narrowed := true }
def FnExactSplitOfUptoSaid : Prop := fnExactSplitOfUptoRow.holds Try.pinned (OpenSpec.upto fnExactSplitOfSpec)

/-- 'laws.FnTable', WHERE WHAT IT READS IS OF BULK AT MOST 1048576: true; the input reads as it did. -/
def fnTableUptoRow : OpenClaim := { program := "ytooigaliccnldaa", sum := "9bed44764d23339c051603d92b240548ee8f57e5314813ec616c99ba0a5643ce", func := "loop.example/distanceautomata/laws.FnTable", spec := "fnTable", inPlace := ["internal/bytealg.abigen_runtime_cmpstring"], apart := false, narrowed := true }
def FnTableUptoSaid : Prop := fnTableUptoRow.holds Try.pinned (OpenSpec.upto fnTableSpec)

/-- 'laws.FnSplitOf', WHERE WHAT IT READS IS OF BULK AT MOST 1048576: true; the input reads as it did. -/
def fnSplitOfUptoRow : OpenClaim := { program := "ytooigaliccnldaa", sum := "9bed44764d23339c051603d92b240548ee8f57e5314813ec616c99ba0a5643ce", func := "loop.example/distanceautomata/laws.FnSplitOf", spec := "fnSplitOf", inPlace := ["internal/bytealg.abigen_runtime_cmpstring"], apart := false, narrowed := true }
def FnSplitOfUptoSaid : Prop := fnSplitOfUptoRow.holds Try.pinned (OpenSpec.upto fnSplitOfSpec)

/-- 'laws.FnCounts', WHERE WHAT IT READS IS OF BULK AT MOST 1048576: true; the input reads as it did. -/
def fnCountsUptoRow : OpenClaim := { program := "ytooigaliccnldaa", sum := "9bed44764d23339c051603d92b240548ee8f57e5314813ec616c99ba0a5643ce", func := "loop.example/distanceautomata/laws.FnCounts", spec := "fnCounts", inPlace := ["internal/bytealg.abigen_runtime_cmpstring"], apart := false, narrowed := true }
def FnCountsUptoSaid : Prop := fnCountsUptoRow.holds Try.pinned (OpenSpec.upto fnCountsSpec)

/-- 'laws.FnHardest', WHERE WHAT IT READS IS OF BULK AT MOST 1048576: true; the input reads as it did. -/
def fnHardestUptoRow : OpenClaim := { program := "ytooigaliccnldaa", sum := "9bed44764d23339c051603d92b240548ee8f57e5314813ec616c99ba0a5643ce", func := "loop.example/distanceautomata/laws.FnHardest", spec := "fnHardest", inPlace := ["internal/bytealg.abigen_runtime_cmpstring"], apart := false, narrowed := true }
def FnHardestUptoSaid : Prop := fnHardestUptoRow.holds Try.pinned (OpenSpec.upto fnHardestSpec)

/-- 'laws.FnFirstOver', WHERE WHAT IT READS IS OF BULK AT MOST 1048576: true; the input reads as it did. -/
def fnFirstOverUptoRow : OpenClaim := { program := "ytooigaliccnldaa", sum := "9bed44764d23339c051603d92b240548ee8f57e5314813ec616c99ba0a5643ce", func := "loop.example/distanceautomata/laws.FnFirstOver", spec := "fnFirstOver", inPlace := ["internal/bytealg.abigen_runtime_cmpstring"], apart := false, narrowed := true }
def FnFirstOverUptoSaid : Prop := fnFirstOverUptoRow.holds Try.pinned (OpenSpec.upto fnFirstOverSpec)

/-- 'laws.FnGreatest', WHERE WHAT IT READS IS OF BULK AT MOST 1048576: true; the input reads as it did. -/
def fnGreatestUptoRow : OpenClaim := { program := "ytooigaliccnldaa", sum := "9bed44764d23339c051603d92b240548ee8f57e5314813ec616c99ba0a5643ce", func := "loop.example/distanceautomata/laws.FnGreatest", spec := "fnGreatest", inPlace := ["internal/bytealg.abigen_runtime_cmpstring"], unfollowed := true, recurses := true, apart := false, narrowed := true }
def FnGreatestUptoSaid : Prop := fnGreatestUptoRow.holds Try.pinned (OpenSpec.upto fnGreatestSpec)

/-- 'laws.FnExactGrowingBetween', WHERE WHAT IT READS IS OF BULK AT MOST 1048576: true; the input reads as it did. -/
def fnExactGrowingBetweenUptoRow : OpenClaim := { program := "ytooigaliccnldaa", sum := "9bed44764d23339c051603d92b240548ee8f57e5314813ec616c99ba0a5643ce", func := "loop.example/distanceautomata/laws.FnExactGrowingBetween", spec := "fnExactGrowingBetween", inPlace := ["internal/bytealg.abigen_runtime_cmpstring"], unfollowed := true, recurses := true, apart := false, narrowed := true }
def FnExactGrowingBetweenUptoSaid : Prop := fnExactGrowingBetweenUptoRow.holds Try.pinned (OpenSpec.upto fnExactGrowingBetweenSpec)

/-- 'laws.FnExactIsBounded', WHERE WHAT IT READS IS OF BULK AT MOST 1048576: true; the input reads as it did. -/
def fnExactIsBoundedUptoRow : OpenClaim := { program := "ytooigaliccnldaa", sum := "9bed44764d23339c051603d92b240548ee8f57e5314813ec616c99ba0a5643ce", func := "loop.example/distanceautomata/laws.FnExactIsBounded", spec := "fnExactIsBounded", inPlace := ["internal/bytealg.abigen_runtime_cmpstring"], unfollowed := true, recurses := true, apart := false, narrowed := true }
def FnExactIsBoundedUptoSaid : Prop := fnExactIsBoundedUptoRow.holds Try.pinned (OpenSpec.upto fnExactIsBoundedSpec)

end Rows
end Go.Proofs.Ytooigaliccnldaa
