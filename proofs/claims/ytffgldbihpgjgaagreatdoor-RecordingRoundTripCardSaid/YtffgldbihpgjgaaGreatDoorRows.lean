/-
  NARROWER THAN 'FOR EVERY INPUT', by the rows' own cells (each row's printed sentence says how): RecordingRoundTrip: laid · RecordingValidate: laid · RecordingBinary: laid · RecordingText: laid · RecordingAppendTwice: laid · RecordingEdit: laid · RecordingSlices: laid.
  DERIVED. THE GIVEN ROWS OF THIS SEAT. 7 by the template 'for every input the law returns true; each argument reads behind the call as it read before'; 0 by the template 'total and deterministic' (their statements: YtffgldbihpgjgaaGreatDoorTotals.lean).
  GIVEN WITH THE SEED: the statements are not yours to turn. If you find one false, say at which input.
  Laid BY PROGRAM, IN A SANDBOX (cutbox-rows.mjs): the forced cells as the released guide's own fill.sh prints them over the translation caf4ae3092b6a9e0… (all of the seat's roots in one cut). By AI agents, Wed Nov 11 2026. No macro, syntax, notation, axiom, sorry.
-/
import Derived.Test.YtffgldbihpgjgaaGreatDoorChecked
import GoSem.PinnedTables
import GoSem.Claim
import GoSem.ClaimJoined
import GoSem.ClaimMapViews
import Derived.JoinedTies
import Derived.KernelRfl
namespace Go.Proofs.YtffgldbihpgjgaaGreatDoor
/- THE CELL 'sum', in the pinned program and in every row, IS THE sha256 OF THE DUMP (.gsa) THAT YtffgldbihpgjgaaGreatDoorProg.lean LOADS. Nothing in Lean hashes anything: it is a label: what it is worth is what the hold of that sum in a sandbox is worth. -/
noncomputable def Tryz.pinned : Pinned := { name := "ytffgldbihpgjgaagreatdoor", sum := "caf4ae3092b6a9e09b04639082aabcdcbaf79e35e5e1b6d49555452fc9e7ca02", checked := Tryz.checked }
namespace Rows
def none {H : Type} : Left H := { results := [], args := [] }

/- WHAT THE LISTED PACKAGE-LEVEL VARIABLES READ AS WHEN THE CALL BEGINS. Each datum BY PROGRAM (the guide's laid-datum.mjs) off the statement by which the dump's own 'gosem.cut.vars' lays the variable. In a bare row this is a premise. The card (YtffgldbihpgjgaaGreatDoorCards.lean) ties it to the program's text. -/
def laid_unicode_utf8_acceptRanges {H : Type} : DataW H := .agg [.agg [.lit (.int .u8 128), .lit (.int .u8 191)], .agg [.lit (.int .u8 160), .lit (.int .u8 191)], .agg [.lit (.int .u8 128), .lit (.int .u8 159)], .agg [.lit (.int .u8 144), .lit (.int .u8 191)], .agg [.lit (.int .u8 128), .lit (.int .u8 143)], .agg [.lit (.int .u8 0), .lit (.int .u8 0)], .agg [.lit (.int .u8 0), .lit (.int .u8 0)], .agg [.lit (.int .u8 0), .lit (.int .u8 0)], .agg [.lit (.int .u8 0), .lit (.int .u8 0)], .agg [.lit (.int .u8 0), .lit (.int .u8 0)], .agg [.lit (.int .u8 0), .lit (.int .u8 0)], .agg [.lit (.int .u8 0), .lit (.int .u8 0)], .agg [.lit (.int .u8 0), .lit (.int .u8 0)], .agg [.lit (.int .u8 0), .lit (.int .u8 0)], .agg [.lit (.int .u8 0), .lit (.int .u8 0)], .agg [.lit (.int .u8 0), .lit (.int .u8 0)]]
def laid_errors_errorType {H : Type} : DataW H := .iface "internal/reflectlite.rtype" (.agg [.ptr (.lit (.string [101, 114, 114, 111, 114]))])
/-- One of Go's own tables, pinned by name: the form's constant. -/
def laid_unicode_utf8_first : DataW Unit := Go.Pinned.utf8First

/-- 'caromlaw47.RecordingRoundTrip': WHATEVER THE INPUT: true; the input reads as it did. -/
def recordingRoundTripSpec : ChangeSpec := { name := "recordingRoundTrip", fn := fun _ => fun
  | [d1, d2, d3] => { results := [.lit (.bool true)], args := [d1, d2, d3] }
  | _ => none }
def recordingRoundTripRow : OpenClaim := { program := "ytffgldbihpgjgaagreatdoor", sum := "caf4ae3092b6a9e09b04639082aabcdcbaf79e35e5e1b6d49555452fc9e7ca02", func := "carom/caromlaw47.RecordingRoundTrip", spec := "recordingRoundTrip", inPlace := ["internal/abi.NoEscape", "internal/bytealg.MakeNoZero", "internal/bytealg.CountString", "internal/bytealg.IndexByteString", "internal/bytealg.IndexString", "internal/reflectlite.ValueOf", "(internal/reflectlite.Value).Type", "(internal/reflectlite.Value).IsNil", "internal/reflectlite.TypeOf", "(internal/reflectlite.Value).Elem", "(internal/reflectlite.Value).Set"], unfollowed := true, recurses := true, named := ["unicode/utf8.first", "unicode/utf8.acceptRanges", "internal/bytealg.MaxLen", "errors.errorType"], apart := false, laid := [("unicode/utf8.acceptRanges", laid_unicode_utf8_acceptRanges), ("errors.errorType", laid_errors_errorType), ("unicode/utf8.first", laid_unicode_utf8_first)] }
def RecordingRoundTripSaid : Prop := recordingRoundTripRow.holds Tryz.pinned (OpenSpec.ofChange recordingRoundTripSpec)

/-- ITS FALSE NEIGHBOUR: 'it returns false'. Refute it at one input. -/
def recordingRoundTripWrong : ChangeSpec := { name := "recordingRoundTrip", fn := fun _ => fun
  | [d1, d2, d3] => { results := [.lit (.bool false)], args := [d1, d2, d3] }
  | _ => none }
def RecordingRoundTripWrongFalsely : Prop := recordingRoundTripRow.holds Tryz.pinned (OpenSpec.ofChange recordingRoundTripWrong)

/-- 'caromlaw47.RecordingValidate': WHATEVER THE INPUT: true; the input reads as it did. -/
def recordingValidateSpec : ChangeSpec := { name := "recordingValidate", fn := fun _ => fun
  | [d1, d2] => { results := [.lit (.bool true)], args := [d1, d2] }
  | _ => none }
def recordingValidateRow : OpenClaim := { program := "ytffgldbihpgjgaagreatdoor", sum := "caf4ae3092b6a9e09b04639082aabcdcbaf79e35e5e1b6d49555452fc9e7ca02", func := "carom/caromlaw47.RecordingValidate", spec := "recordingValidate", inPlace := ["internal/abi.NoEscape", "internal/bytealg.MakeNoZero", "internal/bytealg.CountString", "internal/bytealg.IndexByteString", "internal/bytealg.IndexString", "internal/reflectlite.ValueOf", "(internal/reflectlite.Value).Type", "(internal/reflectlite.Value).IsNil", "internal/reflectlite.TypeOf", "(internal/reflectlite.Value).Elem", "(internal/reflectlite.Value).Set"], unfollowed := true, recurses := true, named := ["unicode/utf8.first", "unicode/utf8.acceptRanges", "internal/bytealg.MaxLen", "errors.errorType"], apart := false, laid := [("unicode/utf8.acceptRanges", laid_unicode_utf8_acceptRanges), ("errors.errorType", laid_errors_errorType), ("unicode/utf8.first", laid_unicode_utf8_first)] }
def RecordingValidateSaid : Prop := recordingValidateRow.holds Tryz.pinned (OpenSpec.ofChange recordingValidateSpec)

/-- ITS FALSE NEIGHBOUR: 'it returns false'. Refute it at one input. -/
def recordingValidateWrong : ChangeSpec := { name := "recordingValidate", fn := fun _ => fun
  | [d1, d2] => { results := [.lit (.bool false)], args := [d1, d2] }
  | _ => none }
def RecordingValidateWrongFalsely : Prop := recordingValidateRow.holds Tryz.pinned (OpenSpec.ofChange recordingValidateWrong)

/-- 'caromlaw47.RecordingBinary': WHATEVER THE INPUT: true; the input reads as it did. -/
def recordingBinarySpec : ChangeSpec := { name := "recordingBinary", fn := fun _ => fun
  | [d1, d2] => { results := [.lit (.bool true)], args := [d1, d2] }
  | _ => none }
def recordingBinaryRow : OpenClaim := { program := "ytffgldbihpgjgaagreatdoor", sum := "caf4ae3092b6a9e09b04639082aabcdcbaf79e35e5e1b6d49555452fc9e7ca02", func := "carom/caromlaw47.RecordingBinary", spec := "recordingBinary", inPlace := ["internal/abi.NoEscape", "internal/bytealg.MakeNoZero", "internal/bytealg.CountString", "internal/bytealg.IndexByteString", "internal/bytealg.IndexString", "internal/reflectlite.ValueOf", "(internal/reflectlite.Value).Type", "(internal/reflectlite.Value).IsNil", "internal/reflectlite.TypeOf", "(internal/reflectlite.Value).Elem", "(internal/reflectlite.Value).Set"], unfollowed := true, recurses := true, named := ["unicode/utf8.first", "unicode/utf8.acceptRanges", "internal/bytealg.MaxLen", "errors.errorType"], apart := false, laid := [("unicode/utf8.acceptRanges", laid_unicode_utf8_acceptRanges), ("errors.errorType", laid_errors_errorType), ("unicode/utf8.first", laid_unicode_utf8_first)] }
def RecordingBinarySaid : Prop := recordingBinaryRow.holds Tryz.pinned (OpenSpec.ofChange recordingBinarySpec)

/-- ITS FALSE NEIGHBOUR: 'it returns false'. Refute it at one input. -/
def recordingBinaryWrong : ChangeSpec := { name := "recordingBinary", fn := fun _ => fun
  | [d1, d2] => { results := [.lit (.bool false)], args := [d1, d2] }
  | _ => none }
def RecordingBinaryWrongFalsely : Prop := recordingBinaryRow.holds Tryz.pinned (OpenSpec.ofChange recordingBinaryWrong)

/-- 'caromlaw47.RecordingText': WHATEVER THE INPUT: true; the input reads as it did. -/
def recordingTextSpec : ChangeSpec := { name := "recordingText", fn := fun _ => fun
  | [d1, d2] => { results := [.lit (.bool true)], args := [d1, d2] }
  | _ => none }
def recordingTextRow : OpenClaim := { program := "ytffgldbihpgjgaagreatdoor", sum := "caf4ae3092b6a9e09b04639082aabcdcbaf79e35e5e1b6d49555452fc9e7ca02", func := "carom/caromlaw47.RecordingText", spec := "recordingText", inPlace := ["internal/abi.NoEscape", "internal/bytealg.MakeNoZero", "internal/bytealg.CountString", "internal/bytealg.IndexByteString", "internal/bytealg.IndexString", "internal/reflectlite.ValueOf", "(internal/reflectlite.Value).Type", "(internal/reflectlite.Value).IsNil", "internal/reflectlite.TypeOf", "(internal/reflectlite.Value).Elem", "(internal/reflectlite.Value).Set"], unfollowed := true, recurses := true, named := ["unicode/utf8.first", "unicode/utf8.acceptRanges", "internal/bytealg.MaxLen", "errors.errorType"], apart := false, laid := [("unicode/utf8.acceptRanges", laid_unicode_utf8_acceptRanges), ("errors.errorType", laid_errors_errorType), ("unicode/utf8.first", laid_unicode_utf8_first)] }
def RecordingTextSaid : Prop := recordingTextRow.holds Tryz.pinned (OpenSpec.ofChange recordingTextSpec)

/-- ITS FALSE NEIGHBOUR: 'it returns false'. Refute it at one input. -/
def recordingTextWrong : ChangeSpec := { name := "recordingText", fn := fun _ => fun
  | [d1, d2] => { results := [.lit (.bool false)], args := [d1, d2] }
  | _ => none }
def RecordingTextWrongFalsely : Prop := recordingTextRow.holds Tryz.pinned (OpenSpec.ofChange recordingTextWrong)

/-- 'caromlaw47.RecordingAppendTwice': WHATEVER THE INPUT: true; the input reads as it did. -/
def recordingAppendTwiceSpec : ChangeSpec := { name := "recordingAppendTwice", fn := fun _ => fun
  | [d1, d2, d3, d4] => { results := [.lit (.bool true)], args := [d1, d2, d3, d4] }
  | _ => none }
def recordingAppendTwiceRow : OpenClaim := { program := "ytffgldbihpgjgaagreatdoor", sum := "caf4ae3092b6a9e09b04639082aabcdcbaf79e35e5e1b6d49555452fc9e7ca02", func := "carom/caromlaw47.RecordingAppendTwice", spec := "recordingAppendTwice", inPlace := ["internal/abi.NoEscape", "internal/bytealg.MakeNoZero", "internal/bytealg.CountString", "internal/bytealg.IndexByteString", "internal/bytealg.IndexString", "internal/reflectlite.ValueOf", "(internal/reflectlite.Value).Type", "(internal/reflectlite.Value).IsNil", "internal/reflectlite.TypeOf", "(internal/reflectlite.Value).Elem", "(internal/reflectlite.Value).Set"], unfollowed := true, recurses := true, named := ["unicode/utf8.first", "unicode/utf8.acceptRanges", "internal/bytealg.MaxLen", "errors.errorType"], apart := false, laid := [("unicode/utf8.acceptRanges", laid_unicode_utf8_acceptRanges), ("errors.errorType", laid_errors_errorType), ("unicode/utf8.first", laid_unicode_utf8_first)] }
def RecordingAppendTwiceSaid : Prop := recordingAppendTwiceRow.holds Tryz.pinned (OpenSpec.ofChange recordingAppendTwiceSpec)

/-- ITS FALSE NEIGHBOUR: 'it returns false'. Refute it at one input. -/
def recordingAppendTwiceWrong : ChangeSpec := { name := "recordingAppendTwice", fn := fun _ => fun
  | [d1, d2, d3, d4] => { results := [.lit (.bool false)], args := [d1, d2, d3, d4] }
  | _ => none }
def RecordingAppendTwiceWrongFalsely : Prop := recordingAppendTwiceRow.holds Tryz.pinned (OpenSpec.ofChange recordingAppendTwiceWrong)

/-- 'caromlaw47.RecordingEdit': WHATEVER THE INPUT: true; the input reads as it did. -/
def recordingEditSpec : ChangeSpec := { name := "recordingEdit", fn := fun _ => fun
  | [d1, d2, d3, d4, d5] => { results := [.lit (.bool true)], args := [d1, d2, d3, d4, d5] }
  | _ => none }
def recordingEditRow : OpenClaim := { program := "ytffgldbihpgjgaagreatdoor", sum := "caf4ae3092b6a9e09b04639082aabcdcbaf79e35e5e1b6d49555452fc9e7ca02", func := "carom/caromlaw47.RecordingEdit", spec := "recordingEdit", inPlace := ["internal/abi.NoEscape", "internal/bytealg.MakeNoZero", "internal/bytealg.CountString", "internal/bytealg.IndexByteString", "internal/bytealg.IndexString", "internal/reflectlite.ValueOf", "(internal/reflectlite.Value).Type", "(internal/reflectlite.Value).IsNil", "internal/reflectlite.TypeOf", "(internal/reflectlite.Value).Elem", "(internal/reflectlite.Value).Set"], unfollowed := true, recurses := true, named := ["unicode/utf8.first", "unicode/utf8.acceptRanges", "internal/bytealg.MaxLen", "errors.errorType"], apart := false, laid := [("unicode/utf8.acceptRanges", laid_unicode_utf8_acceptRanges), ("errors.errorType", laid_errors_errorType), ("unicode/utf8.first", laid_unicode_utf8_first)] }
def RecordingEditSaid : Prop := recordingEditRow.holds Tryz.pinned (OpenSpec.ofChange recordingEditSpec)

/-- ITS FALSE NEIGHBOUR: 'it returns false'. Refute it at one input. -/
def recordingEditWrong : ChangeSpec := { name := "recordingEdit", fn := fun _ => fun
  | [d1, d2, d3, d4, d5] => { results := [.lit (.bool false)], args := [d1, d2, d3, d4, d5] }
  | _ => none }
def RecordingEditWrongFalsely : Prop := recordingEditRow.holds Tryz.pinned (OpenSpec.ofChange recordingEditWrong)

/-- 'caromlaw47.RecordingSlices': WHATEVER THE INPUT: true; the input reads as it did. -/
def recordingSlicesSpec : ChangeSpec := { name := "recordingSlices", fn := fun _ => fun
  | [d1, d2, d3] => { results := [.lit (.bool true)], args := [d1, d2, d3] }
  | _ => none }
def recordingSlicesRow : OpenClaim := { program := "ytffgldbihpgjgaagreatdoor", sum := "caf4ae3092b6a9e09b04639082aabcdcbaf79e35e5e1b6d49555452fc9e7ca02", func := "carom/caromlaw47.RecordingSlices", spec := "recordingSlices", inPlace := ["internal/abi.NoEscape", "internal/bytealg.MakeNoZero", "internal/bytealg.CountString", "internal/bytealg.IndexByteString", "internal/bytealg.IndexString", "internal/reflectlite.ValueOf", "(internal/reflectlite.Value).Type", "(internal/reflectlite.Value).IsNil", "internal/reflectlite.TypeOf", "(internal/reflectlite.Value).Elem", "(internal/reflectlite.Value).Set"], unfollowed := true, recurses := true, named := ["unicode/utf8.first", "unicode/utf8.acceptRanges", "internal/bytealg.MaxLen", "errors.errorType"], apart := false, laid := [("unicode/utf8.acceptRanges", laid_unicode_utf8_acceptRanges), ("errors.errorType", laid_errors_errorType), ("unicode/utf8.first", laid_unicode_utf8_first)] }
def RecordingSlicesSaid : Prop := recordingSlicesRow.holds Tryz.pinned (OpenSpec.ofChange recordingSlicesSpec)

/-- ITS FALSE NEIGHBOUR: 'it returns false'. Refute it at one input. -/
def recordingSlicesWrong : ChangeSpec := { name := "recordingSlices", fn := fun _ => fun
  | [d1, d2, d3] => { results := [.lit (.bool false)], args := [d1, d2, d3] }
  | _ => none }
def RecordingSlicesWrongFalsely : Prop := recordingSlicesRow.holds Tryz.pinned (OpenSpec.ofChange recordingSlicesWrong)

/- THE SECOND FORM. 'bulk': how many values and letters a reading holds, each counted each time it is reached (what is shared counts as often as it is met; a slice's spare places count too). A statement '..UptoSaid' is the law's where the arguments, and the package variables that the reading takes, are together of bulk at most 1048576: NARROWER than '..Said'. Prove '..Said' where nothing that the law and all that it calls make is longer than what came in: it says more and counts as full. Else prove '..UptoSaid'. A law counts once. -/
mutual
def uptoBulk {H : Type} : DataW H → Nat
  | .lit (.string bytes) => bytes.length + 1
  | .lit _ => 1
  | .nil => 1
  | .ptr d => uptoBulk d + 1
  | .slice elems spare => uptoBulkAll elems + uptoBulkAll spare + 1
  | .agg parts => uptoBulkAll parts + 1
  | .iface _ d => uptoBulk d + 1
  | .map entries => uptoBulkEntries entries + 1
  | .held _ => 1
def uptoBulkAll {H : Type} : List (DataW H) → Nat
  | [] => 0
  | d :: r => uptoBulk d + uptoBulkAll r
def uptoBulkEntries {H : Type} : List (Lit × DataW H) → Nat
  | [] => 0
  | x :: r => uptoBulkEntry x + uptoBulkEntries r
def uptoBulkEntry {H : Type} : Lit × DataW H → Nat
  | (.string bytes, d) => bytes.length + uptoBulk d + 1
  | (_, d) => uptoBulk d + 1
 end
def uptoSmall : (H : Type) → List (DataW H) → Bool := fun _ ds => decide (uptoBulkAll ds ≤ 1048576)
def OpenSpec.upto (s : _root_.Go.ChangeSpec) : _root_.Go.OpenSpec := { _root_.Go.OpenSpec.ofChange s with cond := some uptoSmall }

/-- 'caromlaw47.RecordingRoundTrip', WHERE WHAT IT READS IS OF BULK AT MOST 1048576: true; the input reads as it did. -/
def recordingRoundTripUptoRow : OpenClaim := { program := "ytffgldbihpgjgaagreatdoor", sum := "caf4ae3092b6a9e09b04639082aabcdcbaf79e35e5e1b6d49555452fc9e7ca02", func := "carom/caromlaw47.RecordingRoundTrip", spec := "recordingRoundTrip", inPlace := ["internal/abi.NoEscape", "internal/bytealg.MakeNoZero", "internal/bytealg.CountString", "internal/bytealg.IndexByteString", "internal/bytealg.IndexString", "internal/reflectlite.ValueOf", "(internal/reflectlite.Value).Type", "(internal/reflectlite.Value).IsNil", "internal/reflectlite.TypeOf", "(internal/reflectlite.Value).Elem", "(internal/reflectlite.Value).Set"], unfollowed := true, recurses := true, named := ["unicode/utf8.first", "unicode/utf8.acceptRanges", "internal/bytealg.MaxLen", "errors.errorType"], apart := false, laid := [("unicode/utf8.acceptRanges", laid_unicode_utf8_acceptRanges), ("errors.errorType", laid_errors_errorType), ("unicode/utf8.first", laid_unicode_utf8_first)], narrowed := true }
def RecordingRoundTripUptoSaid : Prop := recordingRoundTripUptoRow.holds Tryz.pinned (OpenSpec.upto recordingRoundTripSpec)

/-- 'caromlaw47.RecordingValidate', WHERE WHAT IT READS IS OF BULK AT MOST 1048576: true; the input reads as it did. -/
def recordingValidateUptoRow : OpenClaim := { program := "ytffgldbihpgjgaagreatdoor", sum := "caf4ae3092b6a9e09b04639082aabcdcbaf79e35e5e1b6d49555452fc9e7ca02", func := "carom/caromlaw47.RecordingValidate", spec := "recordingValidate", inPlace := ["internal/abi.NoEscape", "internal/bytealg.MakeNoZero", "internal/bytealg.CountString", "internal/bytealg.IndexByteString", "internal/bytealg.IndexString", "internal/reflectlite.ValueOf", "(internal/reflectlite.Value).Type", "(internal/reflectlite.Value).IsNil", "internal/reflectlite.TypeOf", "(internal/reflectlite.Value).Elem", "(internal/reflectlite.Value).Set"], unfollowed := true, recurses := true, named := ["unicode/utf8.first", "unicode/utf8.acceptRanges", "internal/bytealg.MaxLen", "errors.errorType"], apart := false, laid := [("unicode/utf8.acceptRanges", laid_unicode_utf8_acceptRanges), ("errors.errorType", laid_errors_errorType), ("unicode/utf8.first", laid_unicode_utf8_first)], narrowed := true }
def RecordingValidateUptoSaid : Prop := recordingValidateUptoRow.holds Tryz.pinned (OpenSpec.upto recordingValidateSpec)

/-- 'caromlaw47.RecordingBinary', WHERE WHAT IT READS IS OF BULK AT MOST 1048576: true; the input reads as it did. -/
def recordingBinaryUptoRow : OpenClaim := { program := "ytffgldbihpgjgaagreatdoor", sum := "caf4ae3092b6a9e09b04639082aabcdcbaf79e35e5e1b6d49555452fc9e7ca02", func := "carom/caromlaw47.RecordingBinary", spec := "recordingBinary", inPlace := ["internal/abi.NoEscape", "internal/bytealg.MakeNoZero", "internal/bytealg.CountString", "internal/bytealg.IndexByteString", "internal/bytealg.IndexString", "internal/reflectlite.ValueOf", "(internal/reflectlite.Value).Type", "(internal/reflectlite.Value).IsNil", "internal/reflectlite.TypeOf", "(internal/reflectlite.Value).Elem", "(internal/reflectlite.Value).Set"], unfollowed := true, recurses := true, named := ["unicode/utf8.first", "unicode/utf8.acceptRanges", "internal/bytealg.MaxLen", "errors.errorType"], apart := false, laid := [("unicode/utf8.acceptRanges", laid_unicode_utf8_acceptRanges), ("errors.errorType", laid_errors_errorType), ("unicode/utf8.first", laid_unicode_utf8_first)], narrowed := true }
def RecordingBinaryUptoSaid : Prop := recordingBinaryUptoRow.holds Tryz.pinned (OpenSpec.upto recordingBinarySpec)

/-- 'caromlaw47.RecordingText', WHERE WHAT IT READS IS OF BULK AT MOST 1048576: true; the input reads as it did. -/
def recordingTextUptoRow : OpenClaim := { program := "ytffgldbihpgjgaagreatdoor", sum := "caf4ae3092b6a9e09b04639082aabcdcbaf79e35e5e1b6d49555452fc9e7ca02", func := "carom/caromlaw47.RecordingText", spec := "recordingText", inPlace := ["internal/abi.NoEscape", "internal/bytealg.MakeNoZero", "internal/bytealg.CountString", "internal/bytealg.IndexByteString", "internal/bytealg.IndexString", "internal/reflectlite.ValueOf", "(internal/reflectlite.Value).Type", "(internal/reflectlite.Value).IsNil", "internal/reflectlite.TypeOf", "(internal/reflectlite.Value).Elem", "(internal/reflectlite.Value).Set"], unfollowed := true, recurses := true, named := ["unicode/utf8.first", "unicode/utf8.acceptRanges", "internal/bytealg.MaxLen", "errors.errorType"], apart := false, laid := [("unicode/utf8.acceptRanges", laid_unicode_utf8_acceptRanges), ("errors.errorType", laid_errors_errorType), ("unicode/utf8.first", laid_unicode_utf8_first)], narrowed := true }
def RecordingTextUptoSaid : Prop := recordingTextUptoRow.holds Tryz.pinned (OpenSpec.upto recordingTextSpec)

/-- 'caromlaw47.RecordingAppendTwice', WHERE WHAT IT READS IS OF BULK AT MOST 1048576: true; the input reads as it did. -/
def recordingAppendTwiceUptoRow : OpenClaim := { program := "ytffgldbihpgjgaagreatdoor", sum := "caf4ae3092b6a9e09b04639082aabcdcbaf79e35e5e1b6d49555452fc9e7ca02", func := "carom/caromlaw47.RecordingAppendTwice", spec := "recordingAppendTwice", inPlace := ["internal/abi.NoEscape", "internal/bytealg.MakeNoZero", "internal/bytealg.CountString", "internal/bytealg.IndexByteString", "internal/bytealg.IndexString", "internal/reflectlite.ValueOf", "(internal/reflectlite.Value).Type", "(internal/reflectlite.Value).IsNil", "internal/reflectlite.TypeOf", "(internal/reflectlite.Value).Elem", "(internal/reflectlite.Value).Set"], unfollowed := true, recurses := true, named := ["unicode/utf8.first", "unicode/utf8.acceptRanges", "internal/bytealg.MaxLen", "errors.errorType"], apart := false, laid := [("unicode/utf8.acceptRanges", laid_unicode_utf8_acceptRanges), ("errors.errorType", laid_errors_errorType), ("unicode/utf8.first", laid_unicode_utf8_first)], narrowed := true }
def RecordingAppendTwiceUptoSaid : Prop := recordingAppendTwiceUptoRow.holds Tryz.pinned (OpenSpec.upto recordingAppendTwiceSpec)

/-- 'caromlaw47.RecordingEdit', WHERE WHAT IT READS IS OF BULK AT MOST 1048576: true; the input reads as it did. -/
def recordingEditUptoRow : OpenClaim := { program := "ytffgldbihpgjgaagreatdoor", sum := "caf4ae3092b6a9e09b04639082aabcdcbaf79e35e5e1b6d49555452fc9e7ca02", func := "carom/caromlaw47.RecordingEdit", spec := "recordingEdit", inPlace := ["internal/abi.NoEscape", "internal/bytealg.MakeNoZero", "internal/bytealg.CountString", "internal/bytealg.IndexByteString", "internal/bytealg.IndexString", "internal/reflectlite.ValueOf", "(internal/reflectlite.Value).Type", "(internal/reflectlite.Value).IsNil", "internal/reflectlite.TypeOf", "(internal/reflectlite.Value).Elem", "(internal/reflectlite.Value).Set"], unfollowed := true, recurses := true, named := ["unicode/utf8.first", "unicode/utf8.acceptRanges", "internal/bytealg.MaxLen", "errors.errorType"], apart := false, laid := [("unicode/utf8.acceptRanges", laid_unicode_utf8_acceptRanges), ("errors.errorType", laid_errors_errorType), ("unicode/utf8.first", laid_unicode_utf8_first)], narrowed := true }
def RecordingEditUptoSaid : Prop := recordingEditUptoRow.holds Tryz.pinned (OpenSpec.upto recordingEditSpec)

/-- 'caromlaw47.RecordingSlices', WHERE WHAT IT READS IS OF BULK AT MOST 1048576: true; the input reads as it did. -/
def recordingSlicesUptoRow : OpenClaim := { program := "ytffgldbihpgjgaagreatdoor", sum := "caf4ae3092b6a9e09b04639082aabcdcbaf79e35e5e1b6d49555452fc9e7ca02", func := "carom/caromlaw47.RecordingSlices", spec := "recordingSlices", inPlace := ["internal/abi.NoEscape", "internal/bytealg.MakeNoZero", "internal/bytealg.CountString", "internal/bytealg.IndexByteString", "internal/bytealg.IndexString", "internal/reflectlite.ValueOf", "(internal/reflectlite.Value).Type", "(internal/reflectlite.Value).IsNil", "internal/reflectlite.TypeOf", "(internal/reflectlite.Value).Elem", "(internal/reflectlite.Value).Set"], unfollowed := true, recurses := true, named := ["unicode/utf8.first", "unicode/utf8.acceptRanges", "internal/bytealg.MaxLen", "errors.errorType"], apart := false, laid := [("unicode/utf8.acceptRanges", laid_unicode_utf8_acceptRanges), ("errors.errorType", laid_errors_errorType), ("unicode/utf8.first", laid_unicode_utf8_first)], narrowed := true }
def RecordingSlicesUptoSaid : Prop := recordingSlicesUptoRow.holds Tryz.pinned (OpenSpec.upto recordingSlicesSpec)

end Rows
end Go.Proofs.YtffgldbihpgjgaaGreatDoor
