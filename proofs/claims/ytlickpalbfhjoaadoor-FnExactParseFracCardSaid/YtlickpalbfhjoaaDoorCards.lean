/-
  DERIVED. GIVEN WITH THE SEED: THE CARDS: each row of YtlickpalbfhjoaaDoorRows.lean that lists a variable, with what it lists TIED to the program's text (the seventh form; the later family's looks); each row that meets fmt, with fmt's text TOLD by the authors' own Lean function (tested against real Go, not proved from fmt's source: count such statements apart). THE CARD IS WHAT COUNTS. Prove the row's statement (the work); the ties are given (YtlickpalbfhjoaaDoorTie.lean); close each card by the builder's one call (the guide's Derived/Test/ToyasCard.lean, 'card_holds'). Laid BY PROGRAM, IN A SANDBOX (cutbox-door.mjs). By AI agents, Wed Nov 11 2026. No macro, syntax, notation, axiom, sorry.
-/
import Derived.Test.YtlickpalbfhjoaaDoorRows
import GoSem.ClaimSeven
namespace Go.Proofs.YtlickpalbfhjoaaDoor
namespace Rows

/-- THE TIED CARD OF 'laws.FnExactFormatInt'. -/
def fnExactFormatIntCard : Claim7 := { stood := { row := fnExactFormatIntRow, standIns := [], harness := (true, "18a9b2a44eee5f44cca1172e4aa805444c60d667677191ee53b24d6cb6b26ac8"), looks := true }, kinds := [], alts := [], laidByText := true, laidKinds := [.data, .data, .data], laidTests := true, laidLooks := .later }
def FnExactFormatIntCardSaid : Prop := Claim7.holds Tryd.pinned (.plain (OpenSpec.ofChange fnExactFormatIntSpec)) fnExactFormatIntCard

/-- THE TIED CARD OF 'laws.FnExactFracText'. -/
def fnExactFracTextCard : Claim7 := { stood := { row := fnExactFracTextRow, standIns := [], harness := (true, "18a9b2a44eee5f44cca1172e4aa805444c60d667677191ee53b24d6cb6b26ac8"), looks := true }, kinds := [], alts := [], laidByText := true, laidKinds := [.data, .data, .data], laidTests := true, laidLooks := .later }
def FnExactFracTextCardSaid : Prop := Claim7.holds Tryd.pinned (.plain (OpenSpec.ofChange fnExactFracTextSpec)) fnExactFracTextCard

/-- THE TIED CARD OF 'laws.FnExactAppendChecksum'. -/
def fnExactAppendChecksumCard : Claim7 := { stood := { row := fnExactAppendChecksumRow, standIns := [], harness := (true, "18a9b2a44eee5f44cca1172e4aa805444c60d667677191ee53b24d6cb6b26ac8"), looks := true }, kinds := [], alts := [], laidByText := true, laidKinds := [.data, .data, .data], laidTests := true, laidLooks := .later }
def FnExactAppendChecksumCardSaid : Prop := Claim7.holds Tryd.pinned (.plain (OpenSpec.ofChange fnExactAppendChecksumSpec)) fnExactAppendChecksumCard

/-- THE TIED CARD OF 'laws.FnExactRequestsText'. -/
def fnExactRequestsTextCard : Claim7 := { stood := { row := fnExactRequestsTextRow, standIns := [], harness := (true, "18a9b2a44eee5f44cca1172e4aa805444c60d667677191ee53b24d6cb6b26ac8"), looks := true }, kinds := [], alts := [], laidByText := true, laidKinds := [.data, .data, .data], laidTests := true, laidLooks := .later }
def FnExactRequestsTextCardSaid : Prop := Claim7.holds Tryd.pinned (.plain (OpenSpec.ofChange fnExactRequestsTextSpec)) fnExactRequestsTextCard

/-- THE TIED CARD OF 'laws.FnExactVerifyChecksum'. -/
def fnExactVerifyChecksumCard : Claim7 := { stood := { row := fnExactVerifyChecksumRow, standIns := [], harness := (true, "18a9b2a44eee5f44cca1172e4aa805444c60d667677191ee53b24d6cb6b26ac8"), looks := true }, kinds := [], alts := [], laidByText := true, laidKinds := [.data, .data, .data], laidTests := true, laidLooks := .later }
def FnExactVerifyChecksumCardSaid : Prop := Claim7.holds Tryd.pinned (.plain (OpenSpec.ofChange fnExactVerifyChecksumSpec)) fnExactVerifyChecksumCard

/-- THE TIED CARD OF 'laws.FnExactParseInt'. -/
def fnExactParseIntCard : Claim7 := { stood := { row := fnExactParseIntRow, standIns := [], harness := (true, "18a9b2a44eee5f44cca1172e4aa805444c60d667677191ee53b24d6cb6b26ac8"), looks := true }, kinds := [], alts := [], laidByText := true, laidKinds := [.data, .data, .data, .sentinel, .sentinel], laidTests := true, laidLooks := .later }
def FnExactParseIntCardSaid : Prop := Claim7.holds Tryd.pinned (.plain (OpenSpec.ofChange fnExactParseIntSpec)) fnExactParseIntCard

/-- THE TIED CARD OF 'laws.FnExactParseFrac'. -/
def fnExactParseFracCard : Claim7 := { stood := { row := fnExactParseFracRow, standIns := [], harness := (true, "18a9b2a44eee5f44cca1172e4aa805444c60d667677191ee53b24d6cb6b26ac8"), looks := true }, kinds := [], alts := [], laidByText := true, laidKinds := [.data, .data, .data, .sentinel, .sentinel], laidTests := true, laidLooks := .later }
def FnExactParseFracCardSaid : Prop := Claim7.holds Tryd.pinned (.plain (OpenSpec.ofChange fnExactParseFracSpec)) fnExactParseFracCard

/-- THE TIED CARD OF 'laws.FnExactParseRequests'. -/
def fnExactParseRequestsCard : Claim7 := { stood := { row := fnExactParseRequestsRow, standIns := [], harness := (true, "18a9b2a44eee5f44cca1172e4aa805444c60d667677191ee53b24d6cb6b26ac8"), looks := true }, kinds := [], alts := [], laidByText := true, laidKinds := [.data, .data, .data, .sentinel, .sentinel], laidTests := true, laidLooks := .later }
def FnExactParseRequestsCardSaid : Prop := Claim7.holds Tryd.pinned (.plain (OpenSpec.ofChange fnExactParseRequestsSpec)) fnExactParseRequestsCard

/-- THE TIED CARD OF 'laws.FnExactPolicyName'. -/
def fnExactPolicyNameCard : Claim7 := { stood := { row := fnExactPolicyNameRow, standIns := [], harness := (true, "18a9b2a44eee5f44cca1172e4aa805444c60d667677191ee53b24d6cb6b26ac8"), looks := true }, kinds := [], alts := [], laidByText := true, laidKinds := [.data, .pinned], laidTests := true, laidLooks := .later }
def FnExactPolicyNameCardSaid : Prop := Claim7.holds Tryd.pinned (.plain (OpenSpec.ofChange fnExactPolicyNameSpec)) fnExactPolicyNameCard

/-- THE TIED CARD OF 'laws.FnExactPolicyOf'. -/
def fnExactPolicyOfCard : Claim7 := { stood := { row := fnExactPolicyOfRow, standIns := [], harness := (true, "18a9b2a44eee5f44cca1172e4aa805444c60d667677191ee53b24d6cb6b26ac8"), looks := true }, kinds := [], alts := [], laidByText := true, laidKinds := [.data, .pinned], laidTests := true, laidLooks := .later }
def FnExactPolicyOfCardSaid : Prop := Claim7.holds Tryd.pinned (.plain (OpenSpec.ofChange fnExactPolicyOfSpec)) fnExactPolicyOfCard

/-- THE SECOND FORM's CARD OF 'laws.FnExactFormatInt'. -/
def fnExactFormatIntUptoCard : Claim7 := { stood := { row := fnExactFormatIntUptoRow, standIns := [], harness := (true, "18a9b2a44eee5f44cca1172e4aa805444c60d667677191ee53b24d6cb6b26ac8"), looks := true }, kinds := [], alts := [], laidByText := true, laidKinds := [.data, .data, .data], laidTests := true, laidLooks := .later }
def FnExactFormatIntUptoCardSaid : Prop := Claim7.holds Tryd.pinned (.plain (OpenSpec.upto fnExactFormatIntSpec)) fnExactFormatIntUptoCard

/-- THE SECOND FORM's CARD OF 'laws.FnExactFracText'. -/
def fnExactFracTextUptoCard : Claim7 := { stood := { row := fnExactFracTextUptoRow, standIns := [], harness := (true, "18a9b2a44eee5f44cca1172e4aa805444c60d667677191ee53b24d6cb6b26ac8"), looks := true }, kinds := [], alts := [], laidByText := true, laidKinds := [.data, .data, .data], laidTests := true, laidLooks := .later }
def FnExactFracTextUptoCardSaid : Prop := Claim7.holds Tryd.pinned (.plain (OpenSpec.upto fnExactFracTextSpec)) fnExactFracTextUptoCard

/-- THE SECOND FORM's CARD OF 'laws.FnExactAppendChecksum'. -/
def fnExactAppendChecksumUptoCard : Claim7 := { stood := { row := fnExactAppendChecksumUptoRow, standIns := [], harness := (true, "18a9b2a44eee5f44cca1172e4aa805444c60d667677191ee53b24d6cb6b26ac8"), looks := true }, kinds := [], alts := [], laidByText := true, laidKinds := [.data, .data, .data], laidTests := true, laidLooks := .later }
def FnExactAppendChecksumUptoCardSaid : Prop := Claim7.holds Tryd.pinned (.plain (OpenSpec.upto fnExactAppendChecksumSpec)) fnExactAppendChecksumUptoCard

/-- THE SECOND FORM's CARD OF 'laws.FnExactRequestsText'. -/
def fnExactRequestsTextUptoCard : Claim7 := { stood := { row := fnExactRequestsTextUptoRow, standIns := [], harness := (true, "18a9b2a44eee5f44cca1172e4aa805444c60d667677191ee53b24d6cb6b26ac8"), looks := true }, kinds := [], alts := [], laidByText := true, laidKinds := [.data, .data, .data], laidTests := true, laidLooks := .later }
def FnExactRequestsTextUptoCardSaid : Prop := Claim7.holds Tryd.pinned (.plain (OpenSpec.upto fnExactRequestsTextSpec)) fnExactRequestsTextUptoCard

/-- THE SECOND FORM's CARD OF 'laws.FnExactVerifyChecksum'. -/
def fnExactVerifyChecksumUptoCard : Claim7 := { stood := { row := fnExactVerifyChecksumUptoRow, standIns := [], harness := (true, "18a9b2a44eee5f44cca1172e4aa805444c60d667677191ee53b24d6cb6b26ac8"), looks := true }, kinds := [], alts := [], laidByText := true, laidKinds := [.data, .data, .data], laidTests := true, laidLooks := .later }
def FnExactVerifyChecksumUptoCardSaid : Prop := Claim7.holds Tryd.pinned (.plain (OpenSpec.upto fnExactVerifyChecksumSpec)) fnExactVerifyChecksumUptoCard

/-- THE SECOND FORM's CARD OF 'laws.FnExactParseInt'. -/
def fnExactParseIntUptoCard : Claim7 := { stood := { row := fnExactParseIntUptoRow, standIns := [], harness := (true, "18a9b2a44eee5f44cca1172e4aa805444c60d667677191ee53b24d6cb6b26ac8"), looks := true }, kinds := [], alts := [], laidByText := true, laidKinds := [.data, .data, .data, .sentinel, .sentinel], laidTests := true, laidLooks := .later }
def FnExactParseIntUptoCardSaid : Prop := Claim7.holds Tryd.pinned (.plain (OpenSpec.upto fnExactParseIntSpec)) fnExactParseIntUptoCard

/-- THE SECOND FORM's CARD OF 'laws.FnExactParseFrac'. -/
def fnExactParseFracUptoCard : Claim7 := { stood := { row := fnExactParseFracUptoRow, standIns := [], harness := (true, "18a9b2a44eee5f44cca1172e4aa805444c60d667677191ee53b24d6cb6b26ac8"), looks := true }, kinds := [], alts := [], laidByText := true, laidKinds := [.data, .data, .data, .sentinel, .sentinel], laidTests := true, laidLooks := .later }
def FnExactParseFracUptoCardSaid : Prop := Claim7.holds Tryd.pinned (.plain (OpenSpec.upto fnExactParseFracSpec)) fnExactParseFracUptoCard

/-- THE SECOND FORM's CARD OF 'laws.FnExactParseRequests'. -/
def fnExactParseRequestsUptoCard : Claim7 := { stood := { row := fnExactParseRequestsUptoRow, standIns := [], harness := (true, "18a9b2a44eee5f44cca1172e4aa805444c60d667677191ee53b24d6cb6b26ac8"), looks := true }, kinds := [], alts := [], laidByText := true, laidKinds := [.data, .data, .data, .sentinel, .sentinel], laidTests := true, laidLooks := .later }
def FnExactParseRequestsUptoCardSaid : Prop := Claim7.holds Tryd.pinned (.plain (OpenSpec.upto fnExactParseRequestsSpec)) fnExactParseRequestsUptoCard

/-- THE SECOND FORM's CARD OF 'laws.FnExactPolicyName'. -/
def fnExactPolicyNameUptoCard : Claim7 := { stood := { row := fnExactPolicyNameUptoRow, standIns := [], harness := (true, "18a9b2a44eee5f44cca1172e4aa805444c60d667677191ee53b24d6cb6b26ac8"), looks := true }, kinds := [], alts := [], laidByText := true, laidKinds := [.data, .pinned], laidTests := true, laidLooks := .later }
def FnExactPolicyNameUptoCardSaid : Prop := Claim7.holds Tryd.pinned (.plain (OpenSpec.upto fnExactPolicyNameSpec)) fnExactPolicyNameUptoCard

/-- THE SECOND FORM's CARD OF 'laws.FnExactPolicyOf'. -/
def fnExactPolicyOfUptoCard : Claim7 := { stood := { row := fnExactPolicyOfUptoRow, standIns := [], harness := (true, "18a9b2a44eee5f44cca1172e4aa805444c60d667677191ee53b24d6cb6b26ac8"), looks := true }, kinds := [], alts := [], laidByText := true, laidKinds := [.data, .pinned], laidTests := true, laidLooks := .later }
def FnExactPolicyOfUptoCardSaid : Prop := Claim7.holds Tryd.pinned (.plain (OpenSpec.upto fnExactPolicyOfSpec)) fnExactPolicyOfUptoCard
end Rows
end Go.Proofs.YtlickpalbfhjoaaDoor
