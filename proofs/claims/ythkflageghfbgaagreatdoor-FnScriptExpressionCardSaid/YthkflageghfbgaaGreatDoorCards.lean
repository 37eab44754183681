/-
  DERIVED. GIVEN WITH THE SEED: THE CARDS: each row of YthkflageghfbgaaGreatDoorRows.lean that lists a variable, with what it lists TIED to the program's text (the seventh form; the later family's looks); each row that meets fmt, with fmt's text TOLD by the authors' own Lean function (tested against real Go, not proved from fmt's source: count such statements apart). THE CARD IS WHAT COUNTS. Prove the row's statement (the work); the ties are given (YthkflageghfbgaaGreatDoorTie.lean); close each card by the builder's one call (the guide's Derived/Test/ToyasCard.lean, 'card_holds'). Laid BY PROGRAM, IN A SANDBOX (cutbox-door.mjs). By AI agents, Wed Nov 11 2026. No macro, syntax, notation, axiom, sorry.
-/
import Derived.Test.YthkflageghfbgaaGreatDoorRows
import GoSem.ClaimSeven
namespace Go.Proofs.YthkflageghfbgaaGreatDoor
namespace Rows

/-- THE TIED CARD OF 'laws.FnScriptExpression'. -/
def fnScriptExpressionCard : Claim7 := { stood := { row := fnScriptExpressionRow, standIns := [], harness := (true, "b345f41d154a1c406a05c755367b7bfcafd52051b2079a4c9dd0b6857b0dc413"), looks := true }, kinds := [], alts := [], laidByText := true, laidKinds := [.data, .data, .data, .data, .sentinel, .sentinel, .listed, .data, .pinned], laidTests := true, laidLooks := .later }
def FnScriptExpressionCardSaid : Prop := Claim7.holds Tryz.pinned (.plain (OpenSpec.ofChange fnScriptExpressionSpec)) fnScriptExpressionCard

/-- THE SECOND FORM's CARD OF 'laws.FnScriptExpression'. -/
def fnScriptExpressionUptoCard : Claim7 := { stood := { row := fnScriptExpressionUptoRow, standIns := [], harness := (true, "b345f41d154a1c406a05c755367b7bfcafd52051b2079a4c9dd0b6857b0dc413"), looks := true }, kinds := [], alts := [], laidByText := true, laidKinds := [.data, .data, .data, .data, .sentinel, .sentinel, .listed, .data, .pinned], laidTests := true, laidLooks := .later }
def FnScriptExpressionUptoCardSaid : Prop := Claim7.holds Tryz.pinned (.plain (OpenSpec.upto fnScriptExpressionSpec)) fnScriptExpressionUptoCard
end Rows
end Go.Proofs.YthkflageghfbgaaGreatDoor
