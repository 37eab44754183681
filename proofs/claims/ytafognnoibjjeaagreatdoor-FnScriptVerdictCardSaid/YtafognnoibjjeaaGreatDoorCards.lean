/-
  DERIVED. GIVEN WITH THE SEED: THE CARDS: each row of YtafognnoibjjeaaGreatDoorRows.lean that lists a variable, with what it lists TIED to the program's text (the seventh form; the later family's looks); each row that meets fmt, with fmt's text TOLD by the authors' own Lean function (tested against real Go, not proved from fmt's source: count such statements apart). THE CARD IS WHAT COUNTS. Prove the row's statement (the work); the ties are given (YtafognnoibjjeaaGreatDoorTie.lean); close each card by the builder's one call (the guide's Derived/Test/ToyasCard.lean, 'card_holds'). Laid BY PROGRAM, IN A SANDBOX (cutbox-door.mjs). By AI agents, Wed Nov 11 2026. No macro, syntax, notation, axiom, sorry.
-/
import Derived.Test.YtafognnoibjjeaaGreatDoorRows
import GoSem.ClaimSeven
namespace Go.Proofs.YtafognnoibjjeaaGreatDoor
namespace Rows

/-- THE TIED CARD OF 'laws.FnScriptVerdict'. -/
def fnScriptVerdictCard : Claim7 := { stood := { row := fnScriptVerdictRow, standIns := [], harness := (true, "4e0b898f8c813a6292c6d4ba9aa1460f136ef35142def01b52cda64bfaac038f"), looks := true }, kinds := [], alts := [], laidByText := true, laidKinds := [.data, .data, .data, .data, .sentinel, .sentinel, .listed, .data, .pinned], laidTests := true, laidLooks := .later }
def FnScriptVerdictCardSaid : Prop := Claim7.holds Tryz.pinned (.plain (OpenSpec.ofChange fnScriptVerdictSpec)) fnScriptVerdictCard

/-- THE SECOND FORM's CARD OF 'laws.FnScriptVerdict'. -/
def fnScriptVerdictUptoCard : Claim7 := { stood := { row := fnScriptVerdictUptoRow, standIns := [], harness := (true, "4e0b898f8c813a6292c6d4ba9aa1460f136ef35142def01b52cda64bfaac038f"), looks := true }, kinds := [], alts := [], laidByText := true, laidKinds := [.data, .data, .data, .data, .sentinel, .sentinel, .listed, .data, .pinned], laidTests := true, laidLooks := .later }
def FnScriptVerdictUptoCardSaid : Prop := Claim7.holds Tryz.pinned (.plain (OpenSpec.upto fnScriptVerdictSpec)) fnScriptVerdictUptoCard
end Rows
end Go.Proofs.YtafognnoibjjeaaGreatDoor
