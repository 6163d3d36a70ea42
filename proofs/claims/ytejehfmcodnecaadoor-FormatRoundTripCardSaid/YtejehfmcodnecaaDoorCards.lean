/-
  DERIVED. GIVEN WITH THE SEED: THE CARDS: each row of YtejehfmcodnecaaDoorRows.lean that lists a variable, with what it lists TIED to the program's text (the seventh form; the later family's looks); each row that meets fmt, with fmt's text TOLD by the authors' own Lean function (tested against real Go, not proved from fmt's source: count such statements apart). THE CARD IS WHAT COUNTS. Prove the row's statement (the work); the ties are given (YtejehfmcodnecaaDoorTie.lean); close each card by the builder's one call (the guide's Derived/Test/ToyasCard.lean, 'card_holds'). Laid BY PROGRAM, IN A SANDBOX (cutbox-door.mjs). By AI agents, Wed Nov 11 2026. No macro, syntax, notation, axiom, sorry.
-/
import Derived.Test.YtejehfmcodnecaaDoorRows
import GoSem.ClaimSeven
namespace Go.Proofs.YtejehfmcodnecaaDoor
namespace Rows

/-- THE TIED CARD OF 'caromlaw08.FormatNumbers'. -/
def formatNumbersCard : Claim7 := { stood := { row := formatNumbersRow, standIns := [], harness := (true, "758dd2c03278f1d982e82c4b5369277e14bbf7cec51f29b2d0034b85f6ca1d67"), looks := false }, kinds := [], alts := [], laidByText := true, laidKinds := [.data, .pinned], laidTests := true, laidLooks := .later }
def FormatNumbersCardSaid : Prop := Claim7.holds Tryd.pinned (.plain (OpenSpec.ofChange formatNumbersSpec)) formatNumbersCard

/-- THE TIED CARD OF 'caromlaw08.FormatParseNumbers'. -/
def formatParseNumbersCard : Claim7 := { stood := { row := formatParseNumbersRow, standIns := [], harness := (true, "758dd2c03278f1d982e82c4b5369277e14bbf7cec51f29b2d0034b85f6ca1d67"), looks := false }, kinds := [], alts := [], laidByText := true, laidKinds := [.data, .pinned], laidTests := true, laidLooks := .later }
def FormatParseNumbersCardSaid : Prop := Claim7.holds Tryd.pinned (.plain (OpenSpec.ofChange formatParseNumbersSpec)) formatParseNumbersCard

/-- THE TIED CARD OF 'caromlaw08.FormatLongNumbers'. -/
def formatLongNumbersCard : Claim7 := { stood := { row := formatLongNumbersRow, standIns := [], harness := (true, "758dd2c03278f1d982e82c4b5369277e14bbf7cec51f29b2d0034b85f6ca1d67"), looks := false }, kinds := [], alts := [], laidByText := true, laidKinds := [.data, .pinned], laidTests := true, laidLooks := .later }
def FormatLongNumbersCardSaid : Prop := Claim7.holds Tryd.pinned (.plain (OpenSpec.ofChange formatLongNumbersSpec)) formatLongNumbersCard

/-- THE TIED CARD OF 'caromlaw08.FormatSplitLines'. -/
def formatSplitLinesCard : Claim7 := { stood := { row := formatSplitLinesRow, standIns := [], harness := (true, "758dd2c03278f1d982e82c4b5369277e14bbf7cec51f29b2d0034b85f6ca1d67"), looks := false }, kinds := [], alts := [], laidByText := true, laidKinds := [.data, .pinned], laidTests := true, laidLooks := .later }
def FormatSplitLinesCardSaid : Prop := Claim7.holds Tryd.pinned (.plain (OpenSpec.ofChange formatSplitLinesSpec)) formatSplitLinesCard

/-- THE TIED CARD OF 'caromlaw08.FormatRoundTrip'. -/
def formatRoundTripCard : Claim7 := { stood := { row := formatRoundTripRow, standIns := [], harness := (true, "758dd2c03278f1d982e82c4b5369277e14bbf7cec51f29b2d0034b85f6ca1d67"), looks := false }, kinds := [], alts := [], laidByText := true, laidKinds := [.data, .pinned], laidTests := true, laidLooks := .later }
def FormatRoundTripCardSaid : Prop := Claim7.holds Tryd.pinned (.plain (OpenSpec.ofChange formatRoundTripSpec)) formatRoundTripCard

/-- THE TIED CARD OF 'caromlaw08.FormatFieldsAndLines'. -/
def formatFieldsAndLinesCard : Claim7 := { stood := { row := formatFieldsAndLinesRow, standIns := [], harness := (true, "758dd2c03278f1d982e82c4b5369277e14bbf7cec51f29b2d0034b85f6ca1d67"), looks := false }, kinds := [], alts := [], laidByText := true, laidKinds := [.data, .pinned], laidTests := true, laidLooks := .later }
def FormatFieldsAndLinesCardSaid : Prop := Claim7.holds Tryd.pinned (.plain (OpenSpec.ofChange formatFieldsAndLinesSpec)) formatFieldsAndLinesCard

/-- THE SECOND FORM's CARD OF 'caromlaw08.FormatNumbers'. -/
def formatNumbersUptoCard : Claim7 := { stood := { row := formatNumbersUptoRow, standIns := [], harness := (true, "758dd2c03278f1d982e82c4b5369277e14bbf7cec51f29b2d0034b85f6ca1d67"), looks := false }, kinds := [], alts := [], laidByText := true, laidKinds := [.data, .pinned], laidTests := true, laidLooks := .later }
def FormatNumbersUptoCardSaid : Prop := Claim7.holds Tryd.pinned (.plain (OpenSpec.upto formatNumbersSpec)) formatNumbersUptoCard

/-- THE SECOND FORM's CARD OF 'caromlaw08.FormatParseNumbers'. -/
def formatParseNumbersUptoCard : Claim7 := { stood := { row := formatParseNumbersUptoRow, standIns := [], harness := (true, "758dd2c03278f1d982e82c4b5369277e14bbf7cec51f29b2d0034b85f6ca1d67"), looks := false }, kinds := [], alts := [], laidByText := true, laidKinds := [.data, .pinned], laidTests := true, laidLooks := .later }
def FormatParseNumbersUptoCardSaid : Prop := Claim7.holds Tryd.pinned (.plain (OpenSpec.upto formatParseNumbersSpec)) formatParseNumbersUptoCard

/-- THE SECOND FORM's CARD OF 'caromlaw08.FormatLongNumbers'. -/
def formatLongNumbersUptoCard : Claim7 := { stood := { row := formatLongNumbersUptoRow, standIns := [], harness := (true, "758dd2c03278f1d982e82c4b5369277e14bbf7cec51f29b2d0034b85f6ca1d67"), looks := false }, kinds := [], alts := [], laidByText := true, laidKinds := [.data, .pinned], laidTests := true, laidLooks := .later }
def FormatLongNumbersUptoCardSaid : Prop := Claim7.holds Tryd.pinned (.plain (OpenSpec.upto formatLongNumbersSpec)) formatLongNumbersUptoCard

/-- THE SECOND FORM's CARD OF 'caromlaw08.FormatSplitLines'. -/
def formatSplitLinesUptoCard : Claim7 := { stood := { row := formatSplitLinesUptoRow, standIns := [], harness := (true, "758dd2c03278f1d982e82c4b5369277e14bbf7cec51f29b2d0034b85f6ca1d67"), looks := false }, kinds := [], alts := [], laidByText := true, laidKinds := [.data, .pinned], laidTests := true, laidLooks := .later }
def FormatSplitLinesUptoCardSaid : Prop := Claim7.holds Tryd.pinned (.plain (OpenSpec.upto formatSplitLinesSpec)) formatSplitLinesUptoCard

/-- THE SECOND FORM's CARD OF 'caromlaw08.FormatRoundTrip'. -/
def formatRoundTripUptoCard : Claim7 := { stood := { row := formatRoundTripUptoRow, standIns := [], harness := (true, "758dd2c03278f1d982e82c4b5369277e14bbf7cec51f29b2d0034b85f6ca1d67"), looks := false }, kinds := [], alts := [], laidByText := true, laidKinds := [.data, .pinned], laidTests := true, laidLooks := .later }
def FormatRoundTripUptoCardSaid : Prop := Claim7.holds Tryd.pinned (.plain (OpenSpec.upto formatRoundTripSpec)) formatRoundTripUptoCard

/-- THE SECOND FORM's CARD OF 'caromlaw08.FormatFieldsAndLines'. -/
def formatFieldsAndLinesUptoCard : Claim7 := { stood := { row := formatFieldsAndLinesUptoRow, standIns := [], harness := (true, "758dd2c03278f1d982e82c4b5369277e14bbf7cec51f29b2d0034b85f6ca1d67"), looks := false }, kinds := [], alts := [], laidByText := true, laidKinds := [.data, .pinned], laidTests := true, laidLooks := .later }
def FormatFieldsAndLinesUptoCardSaid : Prop := Claim7.holds Tryd.pinned (.plain (OpenSpec.upto formatFieldsAndLinesSpec)) formatFieldsAndLinesUptoCard
end Rows
end Go.Proofs.YtejehfmcodnecaaDoor
