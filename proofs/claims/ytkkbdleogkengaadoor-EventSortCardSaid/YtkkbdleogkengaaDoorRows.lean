/-
  NARROWER THAN 'FOR EVERY INPUT', by the rows' own cells (each row's printed sentence says how): EventRoundTrip: laid · EventText: laid · EventLess: laid · EventActiveContacts: laid · EventConcatenation: laid · EventLists: laid · EventSort: laid.
  DERIVED. THE GIVEN ROWS OF THIS SEAT. 7 by the template 'for every input the law returns true; each argument reads behind the call as it read before'; 0 by the template 'total and deterministic' (their statements: YtkkbdleogkengaaDoorTotals.lean).
  GIVEN WITH THE SEED: the statements are not yours to turn. If you find one false, say at which input.
  Laid BY PROGRAM, IN A SANDBOX (cutbox-rows.mjs): the forced cells as the released guide's own fill.sh prints them over the translation 3c470b1a09725773… (all of the seat's roots in one cut). By AI agents, Wed Nov 11 2026. No macro, syntax, notation, axiom, sorry.
-/
import Derived.Test.YtkkbdleogkengaaDoorChecked
import GoSem.PinnedTables
import GoSem.Claim
import GoSem.ClaimJoined
import GoSem.ClaimMapViews
import Derived.JoinedTies
import Derived.KernelRfl
namespace Go.Proofs.YtkkbdleogkengaaDoor
/- THE CELL 'sum', in the pinned program and in every row, IS THE sha256 OF THE DUMP (.gsa) THAT YtkkbdleogkengaaDoorProg.lean LOADS. Nothing in Lean hashes anything: it is a label: what it is worth is what the hold of that sum in a sandbox is worth. -/
noncomputable def Tryd.pinned : Pinned := { name := "ytkkbdleogkengaadoor", sum := "3c470b1a09725773973adbb646c76915123a32510a61f9099bcfb2ac357a21f5", checked := Tryd.checked }
namespace Rows
def none {H : Type} : Left H := { results := [], args := [] }

/- WHAT THE LISTED PACKAGE-LEVEL VARIABLES READ AS WHEN THE CALL BEGINS. Each datum BY PROGRAM (the guide's laid-datum.mjs) off the statement by which the dump's own 'gosem.cut.vars' lays the variable. In a bare row this is a premise. The card (YtkkbdleogkengaaDoorCards.lean) ties it to the program's text. -/
def laid_unicode_utf8_acceptRanges {H : Type} : DataW H := .agg [.agg [.lit (.int .u8 128), .lit (.int .u8 191)], .agg [.lit (.int .u8 160), .lit (.int .u8 191)], .agg [.lit (.int .u8 128), .lit (.int .u8 159)], .agg [.lit (.int .u8 144), .lit (.int .u8 191)], .agg [.lit (.int .u8 128), .lit (.int .u8 143)], .agg [.lit (.int .u8 0), .lit (.int .u8 0)], .agg [.lit (.int .u8 0), .lit (.int .u8 0)], .agg [.lit (.int .u8 0), .lit (.int .u8 0)], .agg [.lit (.int .u8 0), .lit (.int .u8 0)], .agg [.lit (.int .u8 0), .lit (.int .u8 0)], .agg [.lit (.int .u8 0), .lit (.int .u8 0)], .agg [.lit (.int .u8 0), .lit (.int .u8 0)], .agg [.lit (.int .u8 0), .lit (.int .u8 0)], .agg [.lit (.int .u8 0), .lit (.int .u8 0)], .agg [.lit (.int .u8 0), .lit (.int .u8 0)], .agg [.lit (.int .u8 0), .lit (.int .u8 0)]]
/-- One of Go's own tables, pinned by name: the form's constant. -/
def laid_unicode_utf8_first : DataW Unit := Go.Pinned.utf8First

/-- 'caromlaw44.EventRoundTrip': WHATEVER THE INPUT: true; the input reads as it did. -/
def eventRoundTripSpec : ChangeSpec := { name := "eventRoundTrip", fn := fun _ => fun
  | [d1, d2] => { results := [.lit (.bool true)], args := [d1, d2] }
  | _ => none }
def eventRoundTripRow : OpenClaim := { program := "ytkkbdleogkengaadoor", sum := "3c470b1a09725773973adbb646c76915123a32510a61f9099bcfb2ac357a21f5", func := "carom/caromlaw44.EventRoundTrip", spec := "eventRoundTrip", inPlace := ["internal/bytealg.CountString", "internal/bytealg.IndexByteString", "internal/bytealg.IndexString", "internal/abi.NoEscape", "internal/bytealg.MakeNoZero"], unfollowed := true, recurses := true, named := ["unicode/utf8.first", "unicode/utf8.acceptRanges", "internal/bytealg.MaxLen"], apart := false, laid := [("unicode/utf8.acceptRanges", laid_unicode_utf8_acceptRanges), ("unicode/utf8.first", laid_unicode_utf8_first)] }
def EventRoundTripSaid : Prop := eventRoundTripRow.holds Tryd.pinned (OpenSpec.ofChange eventRoundTripSpec)

/-- ITS FALSE NEIGHBOUR: 'it returns false'. Refute it at one input. -/
def eventRoundTripWrong : ChangeSpec := { name := "eventRoundTrip", fn := fun _ => fun
  | [d1, d2] => { results := [.lit (.bool false)], args := [d1, d2] }
  | _ => none }
def EventRoundTripWrongFalsely : Prop := eventRoundTripRow.holds Tryd.pinned (OpenSpec.ofChange eventRoundTripWrong)

/-- 'caromlaw44.EventText': WHATEVER THE INPUT: true; the input reads as it did. -/
def eventTextSpec : ChangeSpec := { name := "eventText", fn := fun _ => fun
  | [d1, d2] => { results := [.lit (.bool true)], args := [d1, d2] }
  | _ => none }
def eventTextRow : OpenClaim := { program := "ytkkbdleogkengaadoor", sum := "3c470b1a09725773973adbb646c76915123a32510a61f9099bcfb2ac357a21f5", func := "carom/caromlaw44.EventText", spec := "eventText", inPlace := ["internal/bytealg.CountString", "internal/bytealg.IndexByteString", "internal/bytealg.IndexString", "internal/abi.NoEscape", "internal/bytealg.MakeNoZero"], unfollowed := true, recurses := true, named := ["unicode/utf8.first", "unicode/utf8.acceptRanges", "internal/bytealg.MaxLen"], apart := false, laid := [("unicode/utf8.acceptRanges", laid_unicode_utf8_acceptRanges), ("unicode/utf8.first", laid_unicode_utf8_first)] }
def EventTextSaid : Prop := eventTextRow.holds Tryd.pinned (OpenSpec.ofChange eventTextSpec)

/-- ITS FALSE NEIGHBOUR: 'it returns false'. Refute it at one input. -/
def eventTextWrong : ChangeSpec := { name := "eventText", fn := fun _ => fun
  | [d1, d2] => { results := [.lit (.bool false)], args := [d1, d2] }
  | _ => none }
def EventTextWrongFalsely : Prop := eventTextRow.holds Tryd.pinned (OpenSpec.ofChange eventTextWrong)

/-- 'caromlaw44.EventLess': WHATEVER THE INPUT: true; the input reads as it did. -/
def eventLessSpec : ChangeSpec := { name := "eventLess", fn := fun _ => fun
  | [d1, d2, d3] => { results := [.lit (.bool true)], args := [d1, d2, d3] }
  | _ => none }
def eventLessRow : OpenClaim := { program := "ytkkbdleogkengaadoor", sum := "3c470b1a09725773973adbb646c76915123a32510a61f9099bcfb2ac357a21f5", func := "carom/caromlaw44.EventLess", spec := "eventLess", inPlace := ["internal/bytealg.CountString", "internal/bytealg.IndexByteString", "internal/bytealg.IndexString", "internal/abi.NoEscape", "internal/bytealg.MakeNoZero"], unfollowed := true, recurses := true, named := ["unicode/utf8.first", "unicode/utf8.acceptRanges", "internal/bytealg.MaxLen"], apart := false, laid := [("unicode/utf8.acceptRanges", laid_unicode_utf8_acceptRanges), ("unicode/utf8.first", laid_unicode_utf8_first)] }
def EventLessSaid : Prop := eventLessRow.holds Tryd.pinned (OpenSpec.ofChange eventLessSpec)

/-- ITS FALSE NEIGHBOUR: 'it returns false'. Refute it at one input. -/
def eventLessWrong : ChangeSpec := { name := "eventLess", fn := fun _ => fun
  | [d1, d2, d3] => { results := [.lit (.bool false)], args := [d1, d2, d3] }
  | _ => none }
def EventLessWrongFalsely : Prop := eventLessRow.holds Tryd.pinned (OpenSpec.ofChange eventLessWrong)

/-- 'caromlaw44.EventActiveContacts': WHATEVER THE INPUT: true; the input reads as it did. -/
def eventActiveContactsSpec : ChangeSpec := { name := "eventActiveContacts", fn := fun _ => fun
  | [d1, d2] => { results := [.lit (.bool true)], args := [d1, d2] }
  | _ => none }
def eventActiveContactsRow : OpenClaim := { program := "ytkkbdleogkengaadoor", sum := "3c470b1a09725773973adbb646c76915123a32510a61f9099bcfb2ac357a21f5", func := "carom/caromlaw44.EventActiveContacts", spec := "eventActiveContacts", inPlace := ["internal/bytealg.CountString", "internal/bytealg.IndexByteString", "internal/bytealg.IndexString", "internal/abi.NoEscape", "internal/bytealg.MakeNoZero"], unfollowed := true, recurses := true, named := ["unicode/utf8.first", "unicode/utf8.acceptRanges", "internal/bytealg.MaxLen"], apart := false, laid := [("unicode/utf8.acceptRanges", laid_unicode_utf8_acceptRanges), ("unicode/utf8.first", laid_unicode_utf8_first)] }
def EventActiveContactsSaid : Prop := eventActiveContactsRow.holds Tryd.pinned (OpenSpec.ofChange eventActiveContactsSpec)

/-- ITS FALSE NEIGHBOUR: 'it returns false'. Refute it at one input. -/
def eventActiveContactsWrong : ChangeSpec := { name := "eventActiveContacts", fn := fun _ => fun
  | [d1, d2] => { results := [.lit (.bool false)], args := [d1, d2] }
  | _ => none }
def EventActiveContactsWrongFalsely : Prop := eventActiveContactsRow.holds Tryd.pinned (OpenSpec.ofChange eventActiveContactsWrong)

/-- 'caromlaw44.EventConcatenation': WHATEVER THE INPUT: true; the input reads as it did. -/
def eventConcatenationSpec : ChangeSpec := { name := "eventConcatenation", fn := fun _ => fun
  | [d1, d2, d3] => { results := [.lit (.bool true)], args := [d1, d2, d3] }
  | _ => none }
def eventConcatenationRow : OpenClaim := { program := "ytkkbdleogkengaadoor", sum := "3c470b1a09725773973adbb646c76915123a32510a61f9099bcfb2ac357a21f5", func := "carom/caromlaw44.EventConcatenation", spec := "eventConcatenation", inPlace := ["internal/bytealg.CountString", "internal/bytealg.IndexByteString", "internal/bytealg.IndexString", "internal/abi.NoEscape", "internal/bytealg.MakeNoZero"], unfollowed := true, recurses := true, named := ["unicode/utf8.first", "unicode/utf8.acceptRanges", "internal/bytealg.MaxLen"], apart := false, laid := [("unicode/utf8.acceptRanges", laid_unicode_utf8_acceptRanges), ("unicode/utf8.first", laid_unicode_utf8_first)] }
def EventConcatenationSaid : Prop := eventConcatenationRow.holds Tryd.pinned (OpenSpec.ofChange eventConcatenationSpec)

/-- ITS FALSE NEIGHBOUR: 'it returns false'. Refute it at one input. -/
def eventConcatenationWrong : ChangeSpec := { name := "eventConcatenation", fn := fun _ => fun
  | [d1, d2, d3] => { results := [.lit (.bool false)], args := [d1, d2, d3] }
  | _ => none }
def EventConcatenationWrongFalsely : Prop := eventConcatenationRow.holds Tryd.pinned (OpenSpec.ofChange eventConcatenationWrong)

/-- 'caromlaw44.EventLists': WHATEVER THE INPUT: true; the input reads as it did. -/
def eventListsSpec : ChangeSpec := { name := "eventLists", fn := fun _ => fun
  | [d1, d2, d3] => { results := [.lit (.bool true)], args := [d1, d2, d3] }
  | _ => none }
def eventListsRow : OpenClaim := { program := "ytkkbdleogkengaadoor", sum := "3c470b1a09725773973adbb646c76915123a32510a61f9099bcfb2ac357a21f5", func := "carom/caromlaw44.EventLists", spec := "eventLists", inPlace := ["internal/bytealg.CountString", "internal/bytealg.IndexByteString", "internal/bytealg.IndexString", "internal/abi.NoEscape", "internal/bytealg.MakeNoZero"], unfollowed := true, recurses := true, named := ["unicode/utf8.first", "unicode/utf8.acceptRanges", "internal/bytealg.MaxLen"], apart := false, laid := [("unicode/utf8.acceptRanges", laid_unicode_utf8_acceptRanges), ("unicode/utf8.first", laid_unicode_utf8_first)] }
def EventListsSaid : Prop := eventListsRow.holds Tryd.pinned (OpenSpec.ofChange eventListsSpec)

/-- ITS FALSE NEIGHBOUR: 'it returns false'. Refute it at one input. -/
def eventListsWrong : ChangeSpec := { name := "eventLists", fn := fun _ => fun
  | [d1, d2, d3] => { results := [.lit (.bool false)], args := [d1, d2, d3] }
  | _ => none }
def EventListsWrongFalsely : Prop := eventListsRow.holds Tryd.pinned (OpenSpec.ofChange eventListsWrong)

/-- 'caromlaw44.EventSort': WHATEVER THE INPUT: true; the input reads as it did. -/
def eventSortSpec : ChangeSpec := { name := "eventSort", fn := fun _ => fun
  | [d1, d2] => { results := [.lit (.bool true)], args := [d1, d2] }
  | _ => none }
def eventSortRow : OpenClaim := { program := "ytkkbdleogkengaadoor", sum := "3c470b1a09725773973adbb646c76915123a32510a61f9099bcfb2ac357a21f5", func := "carom/caromlaw44.EventSort", spec := "eventSort", inPlace := ["internal/bytealg.CountString", "internal/bytealg.IndexByteString", "internal/bytealg.IndexString", "internal/abi.NoEscape", "internal/bytealg.MakeNoZero"], unfollowed := true, recurses := true, named := ["unicode/utf8.first", "unicode/utf8.acceptRanges", "internal/bytealg.MaxLen"], apart := false, laid := [("unicode/utf8.acceptRanges", laid_unicode_utf8_acceptRanges), ("unicode/utf8.first", laid_unicode_utf8_first)] }
def EventSortSaid : Prop := eventSortRow.holds Tryd.pinned (OpenSpec.ofChange eventSortSpec)

/-- ITS FALSE NEIGHBOUR: 'it returns false'. Refute it at one input. -/
def eventSortWrong : ChangeSpec := { name := "eventSort", fn := fun _ => fun
  | [d1, d2] => { results := [.lit (.bool false)], args := [d1, d2] }
  | _ => none }
def EventSortWrongFalsely : Prop := eventSortRow.holds Tryd.pinned (OpenSpec.ofChange eventSortWrong)

/- THE SECOND FORM. 'bulk': how many values and letters a reading holds, each counted each time it is reached (what is shared counts as often as it is met; a slice's spare places count too). A statement '..UptoSaid' is the law's where the arguments, and the package variables that the reading takes, are together of bulk at most 1048576: NARROWER than '..Said'. Prove '..Said' where nothing that the law and all that it calls make is longer than what came in: it says more and counts as full. Else prove '..UptoSaid'. A law counts once. -/
mutual
def uptoBulk {H : Type} : DataW H → Nat
  | .lit (.string bytes) => bytes.length + 1
  | .lit _ => 1
  | .nil => 1
  | .ptr d => uptoBulk d + 1
  | .slice elems spare => uptoBulkAll elems + uptoBulkAll spare + 1
  | .agg parts => uptoBulkAll parts + 1
  | .iface _ d => uptoBulk d + 1
  | .map entries => uptoBulkEntries entries + 1
  | .held _ => 1
def uptoBulkAll {H : Type} : List (DataW H) → Nat
  | [] => 0
  | d :: r => uptoBulk d + uptoBulkAll r
def uptoBulkEntries {H : Type} : List (Lit × DataW H) → Nat
  | [] => 0
  | x :: r => uptoBulkEntry x + uptoBulkEntries r
def uptoBulkEntry {H : Type} : Lit × DataW H → Nat
  | (.string bytes, d) => bytes.length + uptoBulk d + 1
  | (_, d) => uptoBulk d + 1
 end
def uptoSmall : (H : Type) → List (DataW H) → Bool := fun _ ds => decide (uptoBulkAll ds ≤ 1048576)
def OpenSpec.upto (s : _root_.Go.ChangeSpec) : _root_.Go.OpenSpec := { _root_.Go.OpenSpec.ofChange s with cond := some uptoSmall }

/-- 'caromlaw44.EventRoundTrip', WHERE WHAT IT READS IS OF BULK AT MOST 1048576: true; the input reads as it did. -/
def eventRoundTripUptoRow : OpenClaim := { program := "ytkkbdleogkengaadoor", sum := "3c470b1a09725773973adbb646c76915123a32510a61f9099bcfb2ac357a21f5", func := "carom/caromlaw44.EventRoundTrip", spec := "eventRoundTrip", inPlace := ["internal/bytealg.CountString", "internal/bytealg.IndexByteString", "internal/bytealg.IndexString", "internal/abi.NoEscape", "internal/bytealg.MakeNoZero"], unfollowed := true, recurses := true, named := ["unicode/utf8.first", "unicode/utf8.acceptRanges", "internal/bytealg.MaxLen"], apart := false, laid := [("unicode/utf8.acceptRanges", laid_unicode_utf8_acceptRanges), ("unicode/utf8.first", laid_unicode_utf8_first)], narrowed := true }
def EventRoundTripUptoSaid : Prop := eventRoundTripUptoRow.holds Tryd.pinned (OpenSpec.upto eventRoundTripSpec)

/-- 'caromlaw44.EventText', WHERE WHAT IT READS IS OF BULK AT MOST 1048576: true; the input reads as it did. -/
def eventTextUptoRow : OpenClaim := { program := "ytkkbdleogkengaadoor", sum := "3c470b1a09725773973adbb646c76915123a32510a61f9099bcfb2ac357a21f5", func := "carom/caromlaw44.EventText", spec := "eventText", inPlace := ["internal/bytealg.CountString", "internal/bytealg.IndexByteString", "internal/bytealg.IndexString", "internal/abi.NoEscape", "internal/bytealg.MakeNoZero"], unfollowed := true, recurses := true, named := ["unicode/utf8.first", "unicode/utf8.acceptRanges", "internal/bytealg.MaxLen"], apart := false, laid := [("unicode/utf8.acceptRanges", laid_unicode_utf8_acceptRanges), ("unicode/utf8.first", laid_unicode_utf8_first)], narrowed := true }
def EventTextUptoSaid : Prop := eventTextUptoRow.holds Tryd.pinned (OpenSpec.upto eventTextSpec)

/-- 'caromlaw44.EventLess', WHERE WHAT IT READS IS OF BULK AT MOST 1048576: true; the input reads as it did. -/
def eventLessUptoRow : OpenClaim := { program := "ytkkbdleogkengaadoor", sum := "3c470b1a09725773973adbb646c76915123a32510a61f9099bcfb2ac357a21f5", func := "carom/caromlaw44.EventLess", spec := "eventLess", inPlace := ["internal/bytealg.CountString", "internal/bytealg.IndexByteString", "internal/bytealg.IndexString", "internal/abi.NoEscape", "internal/bytealg.MakeNoZero"], unfollowed := true, recurses := true, named := ["unicode/utf8.first", "unicode/utf8.acceptRanges", "internal/bytealg.MaxLen"], apart := false, laid := [("unicode/utf8.acceptRanges", laid_unicode_utf8_acceptRanges), ("unicode/utf8.first", laid_unicode_utf8_first)], narrowed := true }
def EventLessUptoSaid : Prop := eventLessUptoRow.holds Tryd.pinned (OpenSpec.upto eventLessSpec)

/-- 'caromlaw44.EventActiveContacts', WHERE WHAT IT READS IS OF BULK AT MOST 1048576: true; the input reads as it did. -/
def eventActiveContactsUptoRow : OpenClaim := { program := "ytkkbdleogkengaadoor", sum := "3c470b1a09725773973adbb646c76915123a32510a61f9099bcfb2ac357a21f5", func := "carom/caromlaw44.EventActiveContacts", spec := "eventActiveContacts", inPlace := ["internal/bytealg.CountString", "internal/bytealg.IndexByteString", "internal/bytealg.IndexString", "internal/abi.NoEscape", "internal/bytealg.MakeNoZero"], unfollowed := true, recurses := true, named := ["unicode/utf8.first", "unicode/utf8.acceptRanges", "internal/bytealg.MaxLen"], apart := false, laid := [("unicode/utf8.acceptRanges", laid_unicode_utf8_acceptRanges), ("unicode/utf8.first", laid_unicode_utf8_first)], narrowed := true }
def EventActiveContactsUptoSaid : Prop := eventActiveContactsUptoRow.holds Tryd.pinned (OpenSpec.upto eventActiveContactsSpec)

/-- 'caromlaw44.EventConcatenation', WHERE WHAT IT READS IS OF BULK AT MOST 1048576: true; the input reads as it did. -/
def eventConcatenationUptoRow : OpenClaim := { program := "ytkkbdleogkengaadoor", sum := "3c470b1a09725773973adbb646c76915123a32510a61f9099bcfb2ac357a21f5", func := "carom/caromlaw44.EventConcatenation", spec := "eventConcatenation", inPlace := ["internal/bytealg.CountString", "internal/bytealg.IndexByteString", "internal/bytealg.IndexString", "internal/abi.NoEscape", "internal/bytealg.MakeNoZero"], unfollowed := true, recurses := true, named := ["unicode/utf8.first", "unicode/utf8.acceptRanges", "internal/bytealg.MaxLen"], apart := false, laid := [("unicode/utf8.acceptRanges", laid_unicode_utf8_acceptRanges), ("unicode/utf8.first", laid_unicode_utf8_first)], narrowed := true }
def EventConcatenationUptoSaid : Prop := eventConcatenationUptoRow.holds Tryd.pinned (OpenSpec.upto eventConcatenationSpec)

/-- 'caromlaw44.EventLists', WHERE WHAT IT READS IS OF BULK AT MOST 1048576: true; the input reads as it did. -/
def eventListsUptoRow : OpenClaim := { program := "ytkkbdleogkengaadoor", sum := "3c470b1a09725773973adbb646c76915123a32510a61f9099bcfb2ac357a21f5", func := "carom/caromlaw44.EventLists", spec := "eventLists", inPlace := ["internal/bytealg.CountString", "internal/bytealg.IndexByteString", "internal/bytealg.IndexString", "internal/abi.NoEscape", "internal/bytealg.MakeNoZero"], unfollowed := true, recurses := true, named := ["unicode/utf8.first", "unicode/utf8.acceptRanges", "internal/bytealg.MaxLen"], apart := false, laid := [("unicode/utf8.acceptRanges", laid_unicode_utf8_acceptRanges), ("unicode/utf8.first", laid_unicode_utf8_first)], narrowed := true }
def EventListsUptoSaid : Prop := eventListsUptoRow.holds Tryd.pinned (OpenSpec.upto eventListsSpec)

/-- 'caromlaw44.EventSort', WHERE WHAT IT READS IS OF BULK AT MOST 1048576: true; the input reads as it did. -/
def eventSortUptoRow : OpenClaim := { program := "ytkkbdleogkengaadoor", sum := "3c470b1a09725773973adbb646c76915123a32510a61f9099bcfb2ac357a21f5", func := "carom/caromlaw44.EventSort", spec := "eventSort", inPlace := ["internal/bytealg.CountString", "internal/bytealg.IndexByteString", "internal/bytealg.IndexString", "internal/abi.NoEscape", "internal/bytealg.MakeNoZero"], unfollowed := true, recurses := true, named := ["unicode/utf8.first", "unicode/utf8.acceptRanges", "internal/bytealg.MaxLen"], apart := false, laid := [("unicode/utf8.acceptRanges", laid_unicode_utf8_acceptRanges), ("unicode/utf8.first", laid_unicode_utf8_first)], narrowed := true }
def EventSortUptoSaid : Prop := eventSortUptoRow.holds Tryd.pinned (OpenSpec.upto eventSortSpec)

end Rows
end Go.Proofs.YtkkbdleogkengaaDoor
