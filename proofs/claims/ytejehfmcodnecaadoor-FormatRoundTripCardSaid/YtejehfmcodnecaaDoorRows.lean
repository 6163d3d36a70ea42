/-
  NARROWER THAN 'FOR EVERY INPUT', by the rows' own cells (each row's printed sentence says how): FormatNumbers: laid · FormatParseNumbers: laid · FormatLongNumbers: laid · FormatSplitLines: laid · FormatRoundTrip: laid · FormatFieldsAndLines: laid.
  DERIVED. THE GIVEN ROWS OF THIS SEAT. 6 by the template 'for every input the law returns true; each argument reads behind the call as it read before'; 0 by the template 'total and deterministic' (their statements: YtejehfmcodnecaaDoorTotals.lean).
  GIVEN WITH THE SEED: the statements are not yours to turn. If you find one false, say at which input.
  Laid BY PROGRAM, IN A SANDBOX (cutbox-rows.mjs): the forced cells as the released guide's own fill.sh prints them over the translation ce035cc23e1e373f… (all of the seat's roots in one cut). By AI agents, Wed Nov 11 2026. No macro, syntax, notation, axiom, sorry.
-/
import Derived.Test.YtejehfmcodnecaaDoorChecked
import GoSem.PinnedTables
import GoSem.Claim
import GoSem.ClaimJoined
import GoSem.ClaimMapViews
import Derived.JoinedTies
import Derived.KernelRfl
namespace Go.Proofs.YtejehfmcodnecaaDoor
/- THE CELL 'sum', in the pinned program and in every row, IS THE sha256 OF THE DUMP (.gsa) THAT YtejehfmcodnecaaDoorProg.lean LOADS. Nothing in Lean hashes anything: it is a label: what it is worth is what the hold of that sum in a sandbox is worth. -/
noncomputable def Tryd.pinned : Pinned := { name := "ytejehfmcodnecaadoor", sum := "ce035cc23e1e373fbbe5c9dab19ad052c6712923e33bf254271a7a3c9c30ff1b", checked := Tryd.checked }
namespace Rows
def none {H : Type} : Left H := { results := [], args := [] }

/- WHAT THE LISTED PACKAGE-LEVEL VARIABLES READ AS WHEN THE CALL BEGINS. Each datum BY PROGRAM (the guide's laid-datum.mjs) off the statement by which the dump's own 'gosem.cut.vars' lays the variable. In a bare row this is a premise. The card (YtejehfmcodnecaaDoorCards.lean) ties it to the program's text. -/
def laid_unicode_utf8_acceptRanges {H : Type} : DataW H := .agg [.agg [.lit (.int .u8 128), .lit (.int .u8 191)], .agg [.lit (.int .u8 160), .lit (.int .u8 191)], .agg [.lit (.int .u8 128), .lit (.int .u8 159)], .agg [.lit (.int .u8 144), .lit (.int .u8 191)], .agg [.lit (.int .u8 128), .lit (.int .u8 143)], .agg [.lit (.int .u8 0), .lit (.int .u8 0)], .agg [.lit (.int .u8 0), .lit (.int .u8 0)], .agg [.lit (.int .u8 0), .lit (.int .u8 0)], .agg [.lit (.int .u8 0), .lit (.int .u8 0)], .agg [.lit (.int .u8 0), .lit (.int .u8 0)], .agg [.lit (.int .u8 0), .lit (.int .u8 0)], .agg [.lit (.int .u8 0), .lit (.int .u8 0)], .agg [.lit (.int .u8 0), .lit (.int .u8 0)], .agg [.lit (.int .u8 0), .lit (.int .u8 0)], .agg [.lit (.int .u8 0), .lit (.int .u8 0)], .agg [.lit (.int .u8 0), .lit (.int .u8 0)]]
/-- One of Go's own tables, pinned by name: the form's constant. -/
def laid_unicode_utf8_first : DataW Unit := Go.Pinned.utf8First

/-- 'caromlaw08.FormatNumbers': WHATEVER THE INPUT: true; the input reads as it did. -/
def formatNumbersSpec : ChangeSpec := { name := "formatNumbers", fn := fun _ => fun
  | [d] => { results := [.lit (.bool true)], args := [d] }
  | _ => none }
def formatNumbersRow : OpenClaim := { program := "ytejehfmcodnecaadoor", sum := "ce035cc23e1e373fbbe5c9dab19ad052c6712923e33bf254271a7a3c9c30ff1b", func := "carom/caromlaw08.FormatNumbers", spec := "formatNumbers", inPlace := ["internal/bytealg.CountString", "internal/bytealg.IndexByteString", "internal/bytealg.IndexString"], named := ["unicode/utf8.first", "unicode/utf8.acceptRanges", "internal/bytealg.MaxLen"], apart := false, laid := [("unicode/utf8.acceptRanges", laid_unicode_utf8_acceptRanges), ("unicode/utf8.first", laid_unicode_utf8_first)] }
def FormatNumbersSaid : Prop := formatNumbersRow.holds Tryd.pinned (OpenSpec.ofChange formatNumbersSpec)

/-- ITS FALSE NEIGHBOUR: 'it returns false'. Refute it at one input. -/
def formatNumbersWrong : ChangeSpec := { name := "formatNumbers", fn := fun _ => fun
  | [d] => { results := [.lit (.bool false)], args := [d] }
  | _ => none }
def FormatNumbersWrongFalsely : Prop := formatNumbersRow.holds Tryd.pinned (OpenSpec.ofChange formatNumbersWrong)

/-- 'caromlaw08.FormatParseNumbers': WHATEVER THE INPUT: true; the input reads as it did. -/
def formatParseNumbersSpec : ChangeSpec := { name := "formatParseNumbers", fn := fun _ => fun
  | [d] => { results := [.lit (.bool true)], args := [d] }
  | _ => none }
def formatParseNumbersRow : OpenClaim := { program := "ytejehfmcodnecaadoor", sum := "ce035cc23e1e373fbbe5c9dab19ad052c6712923e33bf254271a7a3c9c30ff1b", func := "carom/caromlaw08.FormatParseNumbers", spec := "formatParseNumbers", inPlace := ["internal/bytealg.CountString", "internal/bytealg.IndexByteString", "internal/bytealg.IndexString"], named := ["unicode/utf8.first", "unicode/utf8.acceptRanges", "internal/bytealg.MaxLen"], apart := false, laid := [("unicode/utf8.acceptRanges", laid_unicode_utf8_acceptRanges), ("unicode/utf8.first", laid_unicode_utf8_first)] }
def FormatParseNumbersSaid : Prop := formatParseNumbersRow.holds Tryd.pinned (OpenSpec.ofChange formatParseNumbersSpec)

/-- ITS FALSE NEIGHBOUR: 'it returns false'. Refute it at one input. -/
def formatParseNumbersWrong : ChangeSpec := { name := "formatParseNumbers", fn := fun _ => fun
  | [d] => { results := [.lit (.bool false)], args := [d] }
  | _ => none }
def FormatParseNumbersWrongFalsely : Prop := formatParseNumbersRow.holds Tryd.pinned (OpenSpec.ofChange formatParseNumbersWrong)

/-- 'caromlaw08.FormatLongNumbers': WHATEVER THE INPUT: true; the input reads as it did. -/
def formatLongNumbersSpec : ChangeSpec := { name := "formatLongNumbers", fn := fun _ => fun
  | [d1, d2, d3] => { results := [.lit (.bool true)], args := [d1, d2, d3] }
  | _ => none }
def formatLongNumbersRow : OpenClaim := { program := "ytejehfmcodnecaadoor", sum := "ce035cc23e1e373fbbe5c9dab19ad052c6712923e33bf254271a7a3c9c30ff1b", func := "carom/caromlaw08.FormatLongNumbers", spec := "formatLongNumbers", inPlace := ["internal/bytealg.CountString", "internal/bytealg.IndexByteString", "internal/bytealg.IndexString"], named := ["unicode/utf8.first", "unicode/utf8.acceptRanges", "internal/bytealg.MaxLen"], apart := false, laid := [("unicode/utf8.acceptRanges", laid_unicode_utf8_acceptRanges), ("unicode/utf8.first", laid_unicode_utf8_first)] }
def FormatLongNumbersSaid : Prop := formatLongNumbersRow.holds Tryd.pinned (OpenSpec.ofChange formatLongNumbersSpec)

/-- ITS FALSE NEIGHBOUR: 'it returns false'. Refute it at one input. -/
def formatLongNumbersWrong : ChangeSpec := { name := "formatLongNumbers", fn := fun _ => fun
  | [d1, d2, d3] => { results := [.lit (.bool false)], args := [d1, d2, d3] }
  | _ => none }
def FormatLongNumbersWrongFalsely : Prop := formatLongNumbersRow.holds Tryd.pinned (OpenSpec.ofChange formatLongNumbersWrong)

/-- 'caromlaw08.FormatSplitLines': WHATEVER THE INPUT: true; the input reads as it did. -/
def formatSplitLinesSpec : ChangeSpec := { name := "formatSplitLines", fn := fun _ => fun
  | [d] => { results := [.lit (.bool true)], args := [d] }
  | _ => none }
def formatSplitLinesRow : OpenClaim := { program := "ytejehfmcodnecaadoor", sum := "ce035cc23e1e373fbbe5c9dab19ad052c6712923e33bf254271a7a3c9c30ff1b", func := "carom/caromlaw08.FormatSplitLines", spec := "formatSplitLines", inPlace := ["internal/bytealg.CountString", "internal/bytealg.IndexByteString", "internal/bytealg.IndexString"], named := ["unicode/utf8.first", "unicode/utf8.acceptRanges", "internal/bytealg.MaxLen"], apart := false, laid := [("unicode/utf8.acceptRanges", laid_unicode_utf8_acceptRanges), ("unicode/utf8.first", laid_unicode_utf8_first)] }
def FormatSplitLinesSaid : Prop := formatSplitLinesRow.holds Tryd.pinned (OpenSpec.ofChange formatSplitLinesSpec)

/-- ITS FALSE NEIGHBOUR: 'it returns false'. Refute it at one input. -/
def formatSplitLinesWrong : ChangeSpec := { name := "formatSplitLines", fn := fun _ => fun
  | [d] => { results := [.lit (.bool false)], args := [d] }
  | _ => none }
def FormatSplitLinesWrongFalsely : Prop := formatSplitLinesRow.holds Tryd.pinned (OpenSpec.ofChange formatSplitLinesWrong)

/-- 'caromlaw08.FormatRoundTrip': WHATEVER THE INPUT: true; the input reads as it did. -/
def formatRoundTripSpec : ChangeSpec := { name := "formatRoundTrip", fn := fun _ => fun
  | [d1, d2, d3, d4] => { results := [.lit (.bool true)], args := [d1, d2, d3, d4] }
  | _ => none }
def formatRoundTripRow : OpenClaim := { program := "ytejehfmcodnecaadoor", sum := "ce035cc23e1e373fbbe5c9dab19ad052c6712923e33bf254271a7a3c9c30ff1b", func := "carom/caromlaw08.FormatRoundTrip", spec := "formatRoundTrip", inPlace := ["internal/bytealg.CountString", "internal/bytealg.IndexByteString", "internal/bytealg.IndexString", "internal/abi.NoEscape", "internal/bytealg.MakeNoZero"], named := ["unicode/utf8.first", "unicode/utf8.acceptRanges", "internal/bytealg.MaxLen"], apart := false, laid := [("unicode/utf8.acceptRanges", laid_unicode_utf8_acceptRanges), ("unicode/utf8.first", laid_unicode_utf8_first)] }
def FormatRoundTripSaid : Prop := formatRoundTripRow.holds Tryd.pinned (OpenSpec.ofChange formatRoundTripSpec)

/-- ITS FALSE NEIGHBOUR: 'it returns false'. Refute it at one input. -/
def formatRoundTripWrong : ChangeSpec := { name := "formatRoundTrip", fn := fun _ => fun
  | [d1, d2, d3, d4] => { results := [.lit (.bool false)], args := [d1, d2, d3, d4] }
  | _ => none }
def FormatRoundTripWrongFalsely : Prop := formatRoundTripRow.holds Tryd.pinned (OpenSpec.ofChange formatRoundTripWrong)

/-- 'caromlaw08.FormatFieldsAndLines': WHATEVER THE INPUT: true; the input reads as it did. -/
def formatFieldsAndLinesSpec : ChangeSpec := { name := "formatFieldsAndLines", fn := fun _ => fun
  | [d1, d2] => { results := [.lit (.bool true)], args := [d1, d2] }
  | _ => none }
def formatFieldsAndLinesRow : OpenClaim := { program := "ytejehfmcodnecaadoor", sum := "ce035cc23e1e373fbbe5c9dab19ad052c6712923e33bf254271a7a3c9c30ff1b", func := "carom/caromlaw08.FormatFieldsAndLines", spec := "formatFieldsAndLines", inPlace := ["internal/bytealg.CountString", "internal/bytealg.IndexByteString", "internal/bytealg.IndexString", "internal/abi.NoEscape", "internal/bytealg.MakeNoZero"], named := ["unicode/utf8.first", "unicode/utf8.acceptRanges", "internal/bytealg.MaxLen"], apart := false, laid := [("unicode/utf8.acceptRanges", laid_unicode_utf8_acceptRanges), ("unicode/utf8.first", laid_unicode_utf8_first)] }
def FormatFieldsAndLinesSaid : Prop := formatFieldsAndLinesRow.holds Tryd.pinned (OpenSpec.ofChange formatFieldsAndLinesSpec)

/-- ITS FALSE NEIGHBOUR: 'it returns false'. Refute it at one input. -/
def formatFieldsAndLinesWrong : ChangeSpec := { name := "formatFieldsAndLines", fn := fun _ => fun
  | [d1, d2] => { results := [.lit (.bool false)], args := [d1, d2] }
  | _ => none }
def FormatFieldsAndLinesWrongFalsely : Prop := formatFieldsAndLinesRow.holds Tryd.pinned (OpenSpec.ofChange formatFieldsAndLinesWrong)

/- THE SECOND FORM. 'bulk': how many values and letters a reading holds, each counted each time it is reached (what is shared counts as often as it is met; a slice's spare places count too). A statement '..UptoSaid' is the law's where the arguments, and the package variables that the reading takes, are together of bulk at most 1048576: NARROWER than '..Said'. Prove '..Said' where nothing that the law and all that it calls make is longer than what came in: it says more and counts as full. Else prove '..UptoSaid'. A law counts once. -/
mutual
def uptoBulk {H : Type} : DataW H → Nat
  | .lit (.string bytes) => bytes.length + 1
  | .lit _ => 1
  | .nil => 1
  | .ptr d => uptoBulk d + 1
  | .slice elems spare => uptoBulkAll elems + uptoBulkAll spare + 1
  | .agg parts => uptoBulkAll parts + 1
  | .iface _ d => uptoBulk d + 1
  | .map entries => uptoBulkEntries entries + 1
  | .held _ => 1
def uptoBulkAll {H : Type} : List (DataW H) → Nat
  | [] => 0
  | d :: r => uptoBulk d + uptoBulkAll r
def uptoBulkEntries {H : Type} : List (Lit × DataW H) → Nat
  | [] => 0
  | x :: r => uptoBulkEntry x + uptoBulkEntries r
def uptoBulkEntry {H : Type} : Lit × DataW H → Nat
  | (.string bytes, d) => bytes.length + uptoBulk d + 1
  | (_, d) => uptoBulk d + 1
 end
def uptoSmall : (H : Type) → List (DataW H) → Bool := fun _ ds => decide (uptoBulkAll ds ≤ 1048576)
def OpenSpec.upto (s : _root_.Go.ChangeSpec) : _root_.Go.OpenSpec := { _root_.Go.OpenSpec.ofChange s with cond := some uptoSmall }

/-- 'caromlaw08.FormatNumbers', WHERE WHAT IT READS IS OF BULK AT MOST 1048576: true; the input reads as it did. -/
def formatNumbersUptoRow : OpenClaim := { program := "ytejehfmcodnecaadoor", sum := "ce035cc23e1e373fbbe5c9dab19ad052c6712923e33bf254271a7a3c9c30ff1b", func := "carom/caromlaw08.FormatNumbers", spec := "formatNumbers", inPlace := ["internal/bytealg.CountString", "internal/bytealg.IndexByteString", "internal/bytealg.IndexString"], named := ["unicode/utf8.first", "unicode/utf8.acceptRanges", "internal/bytealg.MaxLen"], apart := false, laid := [("unicode/utf8.acceptRanges", laid_unicode_utf8_acceptRanges), ("unicode/utf8.first", laid_unicode_utf8_first)], narrowed := true }
def FormatNumbersUptoSaid : Prop := formatNumbersUptoRow.holds Tryd.pinned (OpenSpec.upto formatNumbersSpec)

/-- 'caromlaw08.FormatParseNumbers', WHERE WHAT IT READS IS OF BULK AT MOST 1048576: true; the input reads as it did. -/
def formatParseNumbersUptoRow : OpenClaim := { program := "ytejehfmcodnecaadoor", sum := "ce035cc23e1e373fbbe5c9dab19ad052c6712923e33bf254271a7a3c9c30ff1b", func := "carom/caromlaw08.FormatParseNumbers", spec := "formatParseNumbers", inPlace := ["internal/bytealg.CountString", "internal/bytealg.IndexByteString", "internal/bytealg.IndexString"], named := ["unicode/utf8.first", "unicode/utf8.acceptRanges", "internal/bytealg.MaxLen"], apart := false, laid := [("unicode/utf8.acceptRanges", laid_unicode_utf8_acceptRanges), ("unicode/utf8.first", laid_unicode_utf8_first)], narrowed := true }
def FormatParseNumbersUptoSaid : Prop := formatParseNumbersUptoRow.holds Tryd.pinned (OpenSpec.upto formatParseNumbersSpec)

/-- 'caromlaw08.FormatLongNumbers', WHERE WHAT IT READS IS OF BULK AT MOST 1048576: true; the input reads as it did. -/
def formatLongNumbersUptoRow : OpenClaim := { program := "ytejehfmcodnecaadoor", sum := "ce035cc23e1e373fbbe5c9dab19ad052c6712923e33bf254271a7a3c9c30ff1b", func := "carom/caromlaw08.FormatLongNumbers", spec := "formatLongNumbers", inPlace := ["internal/bytealg.CountString", "internal/bytealg.IndexByteString", "internal/bytealg.IndexString"], named := ["unicode/utf8.first", "unicode/utf8.acceptRanges", "internal/bytealg.MaxLen"], apart := false, laid := [("unicode/utf8.acceptRanges", laid_unicode_utf8_acceptRanges), ("unicode/utf8.first", laid_unicode_utf8_first)], narrowed := true }
def FormatLongNumbersUptoSaid : Prop := formatLongNumbersUptoRow.holds Tryd.pinned (OpenSpec.upto formatLongNumbersSpec)

/-- 'caromlaw08.FormatSplitLines', WHERE WHAT IT READS IS OF BULK AT MOST 1048576: true; the input reads as it did. -/
def formatSplitLinesUptoRow : OpenClaim := { program := "ytejehfmcodnecaadoor", sum := "ce035cc23e1e373fbbe5c9dab19ad052c6712923e33bf254271a7a3c9c30ff1b", func := "carom/caromlaw08.FormatSplitLines", spec := "formatSplitLines", inPlace := ["internal/bytealg.CountString", "internal/bytealg.IndexByteString", "internal/bytealg.IndexString"], named := ["unicode/utf8.first", "unicode/utf8.acceptRanges", "internal/bytealg.MaxLen"], apart := false, laid := [("unicode/utf8.acceptRanges", laid_unicode_utf8_acceptRanges), ("unicode/utf8.first", laid_unicode_utf8_first)], narrowed := true }
def FormatSplitLinesUptoSaid : Prop := formatSplitLinesUptoRow.holds Tryd.pinned (OpenSpec.upto formatSplitLinesSpec)

/-- 'caromlaw08.FormatRoundTrip', WHERE WHAT IT READS IS OF BULK AT MOST 1048576: true; the input reads as it did. -/
def formatRoundTripUptoRow : OpenClaim := { program := "ytejehfmcodnecaadoor", sum := "ce035cc23e1e373fbbe5c9dab19ad052c6712923e33bf254271a7a3c9c30ff1b", func := "carom/caromlaw08.FormatRoundTrip", spec := "formatRoundTrip", inPlace := ["internal/bytealg.CountString", "internal/bytealg.IndexByteString", "internal/bytealg.IndexString", "internal/abi.NoEscape", "internal/bytealg.MakeNoZero"], named := ["unicode/utf8.first", "unicode/utf8.acceptRanges", "internal/bytealg.MaxLen"], apart := false, laid := [("unicode/utf8.acceptRanges", laid_unicode_utf8_acceptRanges), ("unicode/utf8.first", laid_unicode_utf8_first)], narrowed := true }
def FormatRoundTripUptoSaid : Prop := formatRoundTripUptoRow.holds Tryd.pinned (OpenSpec.upto formatRoundTripSpec)

/-- 'caromlaw08.FormatFieldsAndLines', WHERE WHAT IT READS IS OF BULK AT MOST 1048576: true; the input reads as it did. -/
def formatFieldsAndLinesUptoRow : OpenClaim := { program := "ytejehfmcodnecaadoor", sum := "ce035cc23e1e373fbbe5c9dab19ad052c6712923e33bf254271a7a3c9c30ff1b", func := "carom/caromlaw08.FormatFieldsAndLines", spec := "formatFieldsAndLines", inPlace := ["internal/bytealg.CountString", "internal/bytealg.IndexByteString", "internal/bytealg.IndexString", "internal/abi.NoEscape", "internal/bytealg.MakeNoZero"], named := ["unicode/utf8.first", "unicode/utf8.acceptRanges", "internal/bytealg.MaxLen"], apart := false, laid := [("unicode/utf8.acceptRanges", laid_unicode_utf8_acceptRanges), ("unicode/utf8.first", laid_unicode_utf8_first)], narrowed := true }
def FormatFieldsAndLinesUptoSaid : Prop := formatFieldsAndLinesUptoRow.holds Tryd.pinned (OpenSpec.upto formatFieldsAndLinesSpec)

end Rows
end Go.Proofs.YtejehfmcodnecaaDoor
