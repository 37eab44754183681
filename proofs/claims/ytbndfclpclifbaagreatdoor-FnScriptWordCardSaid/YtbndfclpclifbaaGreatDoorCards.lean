/-
  DERIVED. GIVEN WITH THE SEED: THE CARDS: each row of YtbndfclpclifbaaGreatDoorRows.lean that lists a variable, with what it lists TIED to the program's text (the seventh form; the later family's looks); each row that meets fmt, with fmt's text TOLD by the authors' own Lean function (tested against real Go, not proved from fmt's source: count such statements apart). THE CARD IS WHAT COUNTS. Prove the row's statement (the work); the ties are given (YtbndfclpclifbaaGreatDoorTie.lean); close each card by the builder's one call (the guide's Derived/Test/ToyasCard.lean, 'card_holds'). Laid BY PROGRAM, IN A SANDBOX (cutbox-door.mjs). By AI agents, Wed Nov 11 2026. No macro, syntax, notation, axiom, sorry.
-/
import Derived.Test.YtbndfclpclifbaaGreatDoorRows
import GoSem.ClaimSeven
namespace Go.Proofs.YtbndfclpclifbaaGreatDoor
namespace Rows

/-- THE TIED CARD OF 'laws.FnScriptWord'. -/
def fnScriptWordCard : Claim7 := { stood := { row := fnScriptWordRow, standIns := [], harness := (true, "3d95541b93ad4b68134cc843faed5bf4e03bf8ba7dac6f51f5240a5f8bad559d"), looks := true }, kinds := [], alts := [], laidByText := true, laidKinds := [.data, .data, .data, .data, .sentinel, .sentinel, .listed, .data, .pinned], laidTests := true, laidLooks := .later }
def FnScriptWordCardSaid : Prop := Claim7.holds Tryz.pinned (.plain (OpenSpec.ofChange fnScriptWordSpec)) fnScriptWordCard

/-- THE SECOND FORM's CARD OF 'laws.FnScriptWord'. -/
def fnScriptWordUptoCard : Claim7 := { stood := { row := fnScriptWordUptoRow, standIns := [], harness := (true, "3d95541b93ad4b68134cc843faed5bf4e03bf8ba7dac6f51f5240a5f8bad559d"), looks := true }, kinds := [], alts := [], laidByText := true, laidKinds := [.data, .data, .data, .data, .sentinel, .sentinel, .listed, .data, .pinned], laidTests := true, laidLooks := .later }
def FnScriptWordUptoCardSaid : Prop := Claim7.holds Tryz.pinned (.plain (OpenSpec.upto fnScriptWordSpec)) fnScriptWordUptoCard
end Rows
end Go.Proofs.YtbndfclpclifbaaGreatDoor
