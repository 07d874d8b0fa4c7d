/-
  DERIVED. GIVEN WITH THE SEED: THE CARDS: each row of YtkimbgehnhcmaaaDoorRows.lean that lists a variable, with what it lists TIED to the program's text (the seventh form; the later family's looks); each row that meets fmt, with fmt's text TOLD by the authors' own Lean function (tested against real Go, not proved from fmt's source: count such statements apart). THE CARD IS WHAT COUNTS. Prove the row's statement (the work); the ties are given (YtkimbgehnhcmaaaDoorTie.lean); close each card by the builder's one call (the guide's Derived/Test/ToyasCard.lean, 'card_holds'). Laid BY PROGRAM, IN A SANDBOX (cutbox-door.mjs). By AI agents, Wed Nov 11 2026. No macro, syntax, notation, axiom, sorry.
-/
import Derived.Test.YtkimbgehnhcmaaaDoorRows
import GoSem.ClaimSeven
namespace Go.Proofs.YtkimbgehnhcmaaaDoor
namespace Rows

/-- THE TIED CARD OF 'laws.FnExactCacheText'. -/
def fnExactCacheTextCard : Claim7 := { stood := { row := fnExactCacheTextRow, standIns := [], harness := (true, "aad44c785d57e28b91172241af5eb9fc1200b184e90aba834b390bf32a28d93b"), looks := false }, kinds := [], alts := [], laidByText := true, laidKinds := [.data, .data, .data, .data, .pinned], laidTests := true, laidLooks := .later }
def FnExactCacheTextCardSaid : Prop := Claim7.holds Tryd.pinned (.plain (OpenSpec.ofChange fnExactCacheTextSpec)) fnExactCacheTextCard

/-- THE SECOND FORM's CARD OF 'laws.FnExactCacheText'. -/
def fnExactCacheTextUptoCard : Claim7 := { stood := { row := fnExactCacheTextUptoRow, standIns := [], harness := (true, "aad44c785d57e28b91172241af5eb9fc1200b184e90aba834b390bf32a28d93b"), looks := false }, kinds := [], alts := [], laidByText := true, laidKinds := [.data, .data, .data, .data, .pinned], laidTests := true, laidLooks := .later }
def FnExactCacheTextUptoCardSaid : Prop := Claim7.holds Tryd.pinned (.plain (OpenSpec.upto fnExactCacheTextSpec)) fnExactCacheTextUptoCard
end Rows
end Go.Proofs.YtkimbgehnhcmaaaDoor
