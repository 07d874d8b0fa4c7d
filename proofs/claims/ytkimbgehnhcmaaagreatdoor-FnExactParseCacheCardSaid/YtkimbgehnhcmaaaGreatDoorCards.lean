/-
  DERIVED. GIVEN WITH THE SEED: THE CARDS: each row of YtkimbgehnhcmaaaGreatDoorRows.lean that lists a variable, with what it lists TIED to the program's text (the seventh form; the later family's looks); each row that meets fmt, with fmt's text TOLD by the authors' own Lean function (tested against real Go, not proved from fmt's source: count such statements apart). THE CARD IS WHAT COUNTS. Prove the row's statement (the work); the ties are given (YtkimbgehnhcmaaaGreatDoorTie.lean); close each card by the builder's one call (the guide's Derived/Test/ToyasCard.lean, 'card_holds'). Laid BY PROGRAM, IN A SANDBOX (cutbox-door.mjs). By AI agents, Wed Nov 11 2026. No macro, syntax, notation, axiom, sorry.
-/
import Derived.Test.YtkimbgehnhcmaaaGreatDoorRows
import GoSem.ClaimSeven
namespace Go.Proofs.YtkimbgehnhcmaaaGreatDoor
namespace Rows

/-- THE TIED CARD OF 'laws.FnExactParseCache'. -/
def fnExactParseCacheCard : Claim7 := { stood := { row := fnExactParseCacheRow, standIns := [], harness := (true, "36306ced8821272e6104ee479d9c33ad1f500632c7de687f28eef9b07b7e720d"), looks := true }, kinds := [], alts := [], laidByText := true, laidKinds := [.data, .data, .data, .data, .sentinel, .sentinel, .pinned], laidTests := true, laidLooks := .later }
def FnExactParseCacheCardSaid : Prop := Claim7.holds Tryz.pinned (.plain (OpenSpec.ofChange fnExactParseCacheSpec)) fnExactParseCacheCard

/-- THE SECOND FORM's CARD OF 'laws.FnExactParseCache'. -/
def fnExactParseCacheUptoCard : Claim7 := { stood := { row := fnExactParseCacheUptoRow, standIns := [], harness := (true, "36306ced8821272e6104ee479d9c33ad1f500632c7de687f28eef9b07b7e720d"), looks := true }, kinds := [], alts := [], laidByText := true, laidKinds := [.data, .data, .data, .data, .sentinel, .sentinel, .pinned], laidTests := true, laidLooks := .later }
def FnExactParseCacheUptoCardSaid : Prop := Claim7.holds Tryz.pinned (.plain (OpenSpec.upto fnExactParseCacheSpec)) fnExactParseCacheUptoCard
end Rows
end Go.Proofs.YtkimbgehnhcmaaaGreatDoor
