/-
  NARROWER THAN 'FOR EVERY INPUT', by the rows' own cells (each row's printed sentence says how): SceneRoundTrip: laid · SceneFormat: laid · SceneParse: laid · SceneFields: laid · SceneCanonical: laid · SceneDistinct: laid.
  DERIVED. THE GIVEN ROWS OF THIS SEAT. 6 by the template 'for every input the law returns true; each argument reads behind the call as it read before'; 0 by the template 'total and deterministic' (their statements: YtelkhkmeoahhlaaGreatDoorTotals.lean).
  GIVEN WITH THE SEED: the statements are not yours to turn. If you find one false, say at which input.
  Laid BY PROGRAM, IN A SANDBOX (cutbox-rows.mjs): the forced cells as the released guide's own fill.sh prints them over the translation 15d2cd2422218e3d… (all of the seat's roots in one cut). By AI agents, Wed Nov 11 2026. No macro, syntax, notation, axiom, sorry.
-/
import Derived.Test.YtelkhkmeoahhlaaGreatDoorChecked
import GoSem.PinnedTables
import GoSem.Claim
import GoSem.ClaimJoined
import GoSem.ClaimMapViews
import Derived.JoinedTies
import Derived.KernelRfl
namespace Go.Proofs.YtelkhkmeoahhlaaGreatDoor
/- THE CELL 'sum', in the pinned program and in every row, IS THE sha256 OF THE DUMP (.gsa) THAT YtelkhkmeoahhlaaGreatDoorProg.lean LOADS. Nothing in Lean hashes anything: it is a label: what it is worth is what the hold of that sum in a sandbox is worth. -/
noncomputable def Tryz.pinned : Pinned := { name := "ytelkhkmeoahhlaagreatdoor", sum := "15d2cd2422218e3d954dc5c8bb61fac5e175a6460a782d74403fedfe43e449a3", checked := Tryz.checked }
namespace Rows
def none {H : Type} : Left H := { results := [], args := [] }

/- WHAT THE LISTED PACKAGE-LEVEL VARIABLES READ AS WHEN THE CALL BEGINS. Each datum BY PROGRAM (the guide's laid-datum.mjs) off the statement by which the dump's own 'gosem.cut.vars' lays the variable. In a bare row this is a premise. The card (YtelkhkmeoahhlaaGreatDoorCards.lean) ties it to the program's text. -/
def laid_unicode_utf8_acceptRanges {H : Type} : DataW H := .agg [.agg [.lit (.int .u8 128), .lit (.int .u8 191)], .agg [.lit (.int .u8 160), .lit (.int .u8 191)], .agg [.lit (.int .u8 128), .lit (.int .u8 159)], .agg [.lit (.int .u8 144), .lit (.int .u8 191)], .agg [.lit (.int .u8 128), .lit (.int .u8 143)], .agg [.lit (.int .u8 0), .lit (.int .u8 0)], .agg [.lit (.int .u8 0), .lit (.int .u8 0)], .agg [.lit (.int .u8 0), .lit (.int .u8 0)], .agg [.lit (.int .u8 0), .lit (.int .u8 0)], .agg [.lit (.int .u8 0), .lit (.int .u8 0)], .agg [.lit (.int .u8 0), .lit (.int .u8 0)], .agg [.lit (.int .u8 0), .lit (.int .u8 0)], .agg [.lit (.int .u8 0), .lit (.int .u8 0)], .agg [.lit (.int .u8 0), .lit (.int .u8 0)], .agg [.lit (.int .u8 0), .lit (.int .u8 0)], .agg [.lit (.int .u8 0), .lit (.int .u8 0)]]
/-- One of Go's own tables, pinned by name: the form's constant. -/
def laid_unicode_utf8_first : DataW Unit := Go.Pinned.utf8First

/-- 'caromlaw52.SceneRoundTrip': WHATEVER THE INPUT: true; the input reads as it did. -/
def sceneRoundTripSpec : ChangeSpec := { name := "sceneRoundTrip", fn := fun _ => fun
  | [d] => { results := [.lit (.bool true)], args := [d] }
  | _ => none }
def sceneRoundTripRow : OpenClaim := { program := "ytelkhkmeoahhlaagreatdoor", sum := "15d2cd2422218e3d954dc5c8bb61fac5e175a6460a782d74403fedfe43e449a3", func := "carom/caromlaw52.SceneRoundTrip", spec := "sceneRoundTrip", inPlace := ["internal/abi.NoEscape", "internal/bytealg.MakeNoZero", "internal/bytealg.CountString", "internal/bytealg.IndexByteString", "internal/bytealg.IndexString", "internal/reflectlite.TypeOf"], unfollowed := true, recurses := true, named := ["unicode/utf8.first", "unicode/utf8.acceptRanges", "internal/bytealg.MaxLen"], apart := false, laid := [("unicode/utf8.acceptRanges", laid_unicode_utf8_acceptRanges), ("unicode/utf8.first", laid_unicode_utf8_first)] }
def SceneRoundTripSaid : Prop := sceneRoundTripRow.holds Tryz.pinned (OpenSpec.ofChange sceneRoundTripSpec)

/-- ITS FALSE NEIGHBOUR: 'it returns false'. Refute it at one input. -/
def sceneRoundTripWrong : ChangeSpec := { name := "sceneRoundTrip", fn := fun _ => fun
  | [d] => { results := [.lit (.bool false)], args := [d] }
  | _ => none }
def SceneRoundTripWrongFalsely : Prop := sceneRoundTripRow.holds Tryz.pinned (OpenSpec.ofChange sceneRoundTripWrong)

/-- 'caromlaw52.SceneFormat': WHATEVER THE INPUT: true; the input reads as it did. -/
def sceneFormatSpec : ChangeSpec := { name := "sceneFormat", fn := fun _ => fun
  | [d1, d2, d3] => { results := [.lit (.bool true)], args := [d1, d2, d3] }
  | _ => none }
def sceneFormatRow : OpenClaim := { program := "ytelkhkmeoahhlaagreatdoor", sum := "15d2cd2422218e3d954dc5c8bb61fac5e175a6460a782d74403fedfe43e449a3", func := "carom/caromlaw52.SceneFormat", spec := "sceneFormat", inPlace := ["internal/abi.NoEscape", "internal/bytealg.MakeNoZero", "internal/bytealg.CountString", "internal/bytealg.IndexByteString", "internal/bytealg.IndexString", "internal/reflectlite.TypeOf"], unfollowed := true, recurses := true, named := ["unicode/utf8.first", "unicode/utf8.acceptRanges", "internal/bytealg.MaxLen"], apart := false, laid := [("unicode/utf8.acceptRanges", laid_unicode_utf8_acceptRanges), ("unicode/utf8.first", laid_unicode_utf8_first)] }
def SceneFormatSaid : Prop := sceneFormatRow.holds Tryz.pinned (OpenSpec.ofChange sceneFormatSpec)

/-- ITS FALSE NEIGHBOUR: 'it returns false'. Refute it at one input. -/
def sceneFormatWrong : ChangeSpec := { name := "sceneFormat", fn := fun _ => fun
  | [d1, d2, d3] => { results := [.lit (.bool false)], args := [d1, d2, d3] }
  | _ => none }
def SceneFormatWrongFalsely : Prop := sceneFormatRow.holds Tryz.pinned (OpenSpec.ofChange sceneFormatWrong)

/-- 'caromlaw52.SceneParse': WHATEVER THE INPUT: true; the input reads as it did. -/
def sceneParseSpec : ChangeSpec := { name := "sceneParse", fn := fun _ => fun
  | [d] => { results := [.lit (.bool true)], args := [d] }
  | _ => none }
def sceneParseRow : OpenClaim := { program := "ytelkhkmeoahhlaagreatdoor", sum := "15d2cd2422218e3d954dc5c8bb61fac5e175a6460a782d74403fedfe43e449a3", func := "carom/caromlaw52.SceneParse", spec := "sceneParse", inPlace := ["internal/abi.NoEscape", "internal/bytealg.MakeNoZero", "internal/bytealg.CountString", "internal/bytealg.IndexByteString", "internal/bytealg.IndexString", "internal/reflectlite.TypeOf"], unfollowed := true, recurses := true, named := ["unicode/utf8.first", "unicode/utf8.acceptRanges", "internal/bytealg.MaxLen"], apart := false, laid := [("unicode/utf8.acceptRanges", laid_unicode_utf8_acceptRanges), ("unicode/utf8.first", laid_unicode_utf8_first)] }
def SceneParseSaid : Prop := sceneParseRow.holds Tryz.pinned (OpenSpec.ofChange sceneParseSpec)

/-- ITS FALSE NEIGHBOUR: 'it returns false'. Refute it at one input. -/
def sceneParseWrong : ChangeSpec := { name := "sceneParse", fn := fun _ => fun
  | [d] => { results := [.lit (.bool false)], args := [d] }
  | _ => none }
def SceneParseWrongFalsely : Prop := sceneParseRow.holds Tryz.pinned (OpenSpec.ofChange sceneParseWrong)

/-- 'caromlaw52.SceneFields': WHATEVER THE INPUT: true; the input reads as it did. -/
def sceneFieldsSpec : ChangeSpec := { name := "sceneFields", fn := fun _ => fun
  | [d] => { results := [.lit (.bool true)], args := [d] }
  | _ => none }
def sceneFieldsRow : OpenClaim := { program := "ytelkhkmeoahhlaagreatdoor", sum := "15d2cd2422218e3d954dc5c8bb61fac5e175a6460a782d74403fedfe43e449a3", func := "carom/caromlaw52.SceneFields", spec := "sceneFields", inPlace := ["internal/abi.NoEscape", "internal/bytealg.MakeNoZero", "internal/bytealg.CountString", "internal/bytealg.IndexByteString", "internal/bytealg.IndexString", "internal/reflectlite.TypeOf"], unfollowed := true, recurses := true, named := ["unicode/utf8.first", "unicode/utf8.acceptRanges", "internal/bytealg.MaxLen"], apart := false, laid := [("unicode/utf8.acceptRanges", laid_unicode_utf8_acceptRanges), ("unicode/utf8.first", laid_unicode_utf8_first)] }
def SceneFieldsSaid : Prop := sceneFieldsRow.holds Tryz.pinned (OpenSpec.ofChange sceneFieldsSpec)

/-- ITS FALSE NEIGHBOUR: 'it returns false'. Refute it at one input. -/
def sceneFieldsWrong : ChangeSpec := { name := "sceneFields", fn := fun _ => fun
  | [d] => { results := [.lit (.bool false)], args := [d] }
  | _ => none }
def SceneFieldsWrongFalsely : Prop := sceneFieldsRow.holds Tryz.pinned (OpenSpec.ofChange sceneFieldsWrong)

/-- 'caromlaw52.SceneCanonical': WHATEVER THE INPUT: true; the input reads as it did. -/
def sceneCanonicalSpec : ChangeSpec := { name := "sceneCanonical", fn := fun _ => fun
  | [d] => { results := [.lit (.bool true)], args := [d] }
  | _ => none }
def sceneCanonicalRow : OpenClaim := { program := "ytelkhkmeoahhlaagreatdoor", sum := "15d2cd2422218e3d954dc5c8bb61fac5e175a6460a782d74403fedfe43e449a3", func := "carom/caromlaw52.SceneCanonical", spec := "sceneCanonical", inPlace := ["internal/abi.NoEscape", "internal/bytealg.MakeNoZero", "internal/bytealg.CountString", "internal/bytealg.IndexByteString", "internal/bytealg.IndexString", "internal/reflectlite.TypeOf"], unfollowed := true, recurses := true, named := ["unicode/utf8.first", "unicode/utf8.acceptRanges", "internal/bytealg.MaxLen"], apart := false, laid := [("unicode/utf8.acceptRanges", laid_unicode_utf8_acceptRanges), ("unicode/utf8.first", laid_unicode_utf8_first)] }
def SceneCanonicalSaid : Prop := sceneCanonicalRow.holds Tryz.pinned (OpenSpec.ofChange sceneCanonicalSpec)

/-- ITS FALSE NEIGHBOUR: 'it returns false'. Refute it at one input. -/
def sceneCanonicalWrong : ChangeSpec := { name := "sceneCanonical", fn := fun _ => fun
  | [d] => { results := [.lit (.bool false)], args := [d] }
  | _ => none }
def SceneCanonicalWrongFalsely : Prop := sceneCanonicalRow.holds Tryz.pinned (OpenSpec.ofChange sceneCanonicalWrong)

/-- 'caromlaw52.SceneDistinct': WHATEVER THE INPUT: true; the input reads as it did. -/
def sceneDistinctSpec : ChangeSpec := { name := "sceneDistinct", fn := fun _ => fun
  | [d1, d2] => { results := [.lit (.bool true)], args := [d1, d2] }
  | _ => none }
def sceneDistinctRow : OpenClaim := { program := "ytelkhkmeoahhlaagreatdoor", sum := "15d2cd2422218e3d954dc5c8bb61fac5e175a6460a782d74403fedfe43e449a3", func := "carom/caromlaw52.SceneDistinct", spec := "sceneDistinct", inPlace := ["internal/abi.NoEscape", "internal/bytealg.MakeNoZero", "internal/bytealg.CountString", "internal/bytealg.IndexByteString", "internal/bytealg.IndexString", "internal/reflectlite.TypeOf"], unfollowed := true, recurses := true, named := ["unicode/utf8.first", "unicode/utf8.acceptRanges", "internal/bytealg.MaxLen"], apart := false, laid := [("unicode/utf8.acceptRanges", laid_unicode_utf8_acceptRanges), ("unicode/utf8.first", laid_unicode_utf8_first)] }
def SceneDistinctSaid : Prop := sceneDistinctRow.holds Tryz.pinned (OpenSpec.ofChange sceneDistinctSpec)

/-- ITS FALSE NEIGHBOUR: 'it returns false'. Refute it at one input. -/
def sceneDistinctWrong : ChangeSpec := { name := "sceneDistinct", fn := fun _ => fun
  | [d1, d2] => { results := [.lit (.bool false)], args := [d1, d2] }
  | _ => none }
def SceneDistinctWrongFalsely : Prop := sceneDistinctRow.holds Tryz.pinned (OpenSpec.ofChange sceneDistinctWrong)

/- THE SECOND FORM. 'bulk': how many values and letters a reading holds, each counted each time it is reached (what is shared counts as often as it is met; a slice's spare places count too). A statement '..UptoSaid' is the law's where the arguments, and the package variables that the reading takes, are together of bulk at most 1048576: NARROWER than '..Said'. Prove '..Said' where nothing that the law and all that it calls make is longer than what came in: it says more and counts as full. Else prove '..UptoSaid'. A law counts once. -/
mutual
def uptoBulk {H : Type} : DataW H → Nat
  | .lit (.string bytes) => bytes.length + 1
  | .lit _ => 1
  | .nil => 1
  | .ptr d => uptoBulk d + 1
  | .slice elems spare => uptoBulkAll elems + uptoBulkAll spare + 1
  | .agg parts => uptoBulkAll parts + 1
  | .iface _ d => uptoBulk d + 1
  | .map entries => uptoBulkEntries entries + 1
  | .held _ => 1
def uptoBulkAll {H : Type} : List (DataW H) → Nat
  | [] => 0
  | d :: r => uptoBulk d + uptoBulkAll r
def uptoBulkEntries {H : Type} : List (Lit × DataW H) → Nat
  | [] => 0
  | x :: r => uptoBulkEntry x + uptoBulkEntries r
def uptoBulkEntry {H : Type} : Lit × DataW H → Nat
  | (.string bytes, d) => bytes.length + uptoBulk d + 1
  | (_, d) => uptoBulk d + 1
 end
def uptoSmall : (H : Type) → List (DataW H) → Bool := fun _ ds => decide (uptoBulkAll ds ≤ 1048576)
def OpenSpec.upto (s : _root_.Go.ChangeSpec) : _root_.Go.OpenSpec := { _root_.Go.OpenSpec.ofChange s with cond := some uptoSmall }

/-- 'caromlaw52.SceneRoundTrip', WHERE WHAT IT READS IS OF BULK AT MOST 1048576: true; the input reads as it did. -/
def sceneRoundTripUptoRow : OpenClaim := { program := "ytelkhkmeoahhlaagreatdoor", sum := "15d2cd2422218e3d954dc5c8bb61fac5e175a6460a782d74403fedfe43e449a3", func := "carom/caromlaw52.SceneRoundTrip", spec := "sceneRoundTrip", inPlace := ["internal/abi.NoEscape", "internal/bytealg.MakeNoZero", "internal/bytealg.CountString", "internal/bytealg.IndexByteString", "internal/bytealg.IndexString", "internal/reflectlite.TypeOf"], unfollowed := true, recurses := true, named := ["unicode/utf8.first", "unicode/utf8.acceptRanges", "internal/bytealg.MaxLen"], apart := false, laid := [("unicode/utf8.acceptRanges", laid_unicode_utf8_acceptRanges), ("unicode/utf8.first", laid_unicode_utf8_first)], narrowed := true }
def SceneRoundTripUptoSaid : Prop := sceneRoundTripUptoRow.holds Tryz.pinned (OpenSpec.upto sceneRoundTripSpec)

/-- 'caromlaw52.SceneFormat', WHERE WHAT IT READS IS OF BULK AT MOST 1048576: true; the input reads as it did. -/
def sceneFormatUptoRow : OpenClaim := { program := "ytelkhkmeoahhlaagreatdoor", sum := "15d2cd2422218e3d954dc5c8bb61fac5e175a6460a782d74403fedfe43e449a3", func := "carom/caromlaw52.SceneFormat", spec := "sceneFormat", inPlace := ["internal/abi.NoEscape", "internal/bytealg.MakeNoZero", "internal/bytealg.CountString", "internal/bytealg.IndexByteString", "internal/bytealg.IndexString", "internal/reflectlite.TypeOf"], unfollowed := true, recurses := true, named := ["unicode/utf8.first", "unicode/utf8.acceptRanges", "internal/bytealg.MaxLen"], apart := false, laid := [("unicode/utf8.acceptRanges", laid_unicode_utf8_acceptRanges), ("unicode/utf8.first", laid_unicode_utf8_first)], narrowed := true }
def SceneFormatUptoSaid : Prop := sceneFormatUptoRow.holds Tryz.pinned (OpenSpec.upto sceneFormatSpec)

/-- 'caromlaw52.SceneParse', WHERE WHAT IT READS IS OF BULK AT MOST 1048576: true; the input reads as it did. -/
def sceneParseUptoRow : OpenClaim := { program := "ytelkhkmeoahhlaagreatdoor", sum := "15d2cd2422218e3d954dc5c8bb61fac5e175a6460a782d74403fedfe43e449a3", func := "carom/caromlaw52.SceneParse", spec := "sceneParse", inPlace := ["internal/abi.NoEscape", "internal/bytealg.MakeNoZero", "internal/bytealg.CountString", "internal/bytealg.IndexByteString", "internal/bytealg.IndexString", "internal/reflectlite.TypeOf"], unfollowed := true, recurses := true, named := ["unicode/utf8.first", "unicode/utf8.acceptRanges", "internal/bytealg.MaxLen"], apart := false, laid := [("unicode/utf8.acceptRanges", laid_unicode_utf8_acceptRanges), ("unicode/utf8.first", laid_unicode_utf8_first)], narrowed := true }
def SceneParseUptoSaid : Prop := sceneParseUptoRow.holds Tryz.pinned (OpenSpec.upto sceneParseSpec)

/-- 'caromlaw52.SceneFields', WHERE WHAT IT READS IS OF BULK AT MOST 1048576: true; the input reads as it did. -/
def sceneFieldsUptoRow : OpenClaim := { program := "ytelkhkmeoahhlaagreatdoor", sum := "15d2cd2422218e3d954dc5c8bb61fac5e175a6460a782d74403fedfe43e449a3", func := "carom/caromlaw52.SceneFields", spec := "sceneFields", inPlace := ["internal/abi.NoEscape", "internal/bytealg.MakeNoZero", "internal/bytealg.CountString", "internal/bytealg.IndexByteString", "internal/bytealg.IndexString", "internal/reflectlite.TypeOf"], unfollowed := true, recurses := true, named := ["unicode/utf8.first", "unicode/utf8.acceptRanges", "internal/bytealg.MaxLen"], apart := false, laid := [("unicode/utf8.acceptRanges", laid_unicode_utf8_acceptRanges), ("unicode/utf8.first", laid_unicode_utf8_first)], narrowed := true }
def SceneFieldsUptoSaid : Prop := sceneFieldsUptoRow.holds Tryz.pinned (OpenSpec.upto sceneFieldsSpec)

/-- 'caromlaw52.SceneCanonical', WHERE WHAT IT READS IS OF BULK AT MOST 1048576: true; the input reads as it did. -/
def sceneCanonicalUptoRow : OpenClaim := { program := "ytelkhkmeoahhlaagreatdoor", sum := "15d2cd2422218e3d954dc5c8bb61fac5e175a6460a782d74403fedfe43e449a3", func := "carom/caromlaw52.SceneCanonical", spec := "sceneCanonical", inPlace := ["internal/abi.NoEscape", "internal/bytealg.MakeNoZero", "internal/bytealg.CountString", "internal/bytealg.IndexByteString", "internal/bytealg.IndexString", "internal/reflectlite.TypeOf"], unfollowed := true, recurses := true, named := ["unicode/utf8.first", "unicode/utf8.acceptRanges", "internal/bytealg.MaxLen"], apart := false, laid := [("unicode/utf8.acceptRanges", laid_unicode_utf8_acceptRanges), ("unicode/utf8.first", laid_unicode_utf8_first)], narrowed := true }
def SceneCanonicalUptoSaid : Prop := sceneCanonicalUptoRow.holds Tryz.pinned (OpenSpec.upto sceneCanonicalSpec)

/-- 'caromlaw52.SceneDistinct', WHERE WHAT IT READS IS OF BULK AT MOST 1048576: true; the input reads as it did. -/
def sceneDistinctUptoRow : OpenClaim := { program := "ytelkhkmeoahhlaagreatdoor", sum := "15d2cd2422218e3d954dc5c8bb61fac5e175a6460a782d74403fedfe43e449a3", func := "carom/caromlaw52.SceneDistinct", spec := "sceneDistinct", inPlace := ["internal/abi.NoEscape", "internal/bytealg.MakeNoZero", "internal/bytealg.CountString", "internal/bytealg.IndexByteString", "internal/bytealg.IndexString", "internal/reflectlite.TypeOf"], unfollowed := true, recurses := true, named := ["unicode/utf8.first", "unicode/utf8.acceptRanges", "internal/bytealg.MaxLen"], apart := false, laid := [("unicode/utf8.acceptRanges", laid_unicode_utf8_acceptRanges), ("unicode/utf8.first", laid_unicode_utf8_first)], narrowed := true }
def SceneDistinctUptoSaid : Prop := sceneDistinctUptoRow.holds Tryz.pinned (OpenSpec.upto sceneDistinctSpec)

end Rows
end Go.Proofs.YtelkhkmeoahhlaaGreatDoor
