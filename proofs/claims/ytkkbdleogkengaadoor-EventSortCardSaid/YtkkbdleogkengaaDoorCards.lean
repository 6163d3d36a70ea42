/-
  DERIVED. GIVEN WITH THE SEED: THE CARDS: each row of YtkkbdleogkengaaDoorRows.lean that lists a variable, with what it lists TIED to the program's text (the seventh form; the later family's looks); each row that meets fmt, with fmt's text TOLD by the authors' own Lean function (tested against real Go, not proved from fmt's source: count such statements apart). THE CARD IS WHAT COUNTS. Prove the row's statement (the work); the ties are given (YtkkbdleogkengaaDoorTie.lean); close each card by the builder's one call (the guide's Derived/Test/ToyasCard.lean, 'card_holds'). Laid BY PROGRAM, IN A SANDBOX (cutbox-door.mjs). By AI agents, Wed Nov 11 2026. No macro, syntax, notation, axiom, sorry.
-/
import Derived.Test.YtkkbdleogkengaaDoorRows
import GoSem.ClaimSeven
namespace Go.Proofs.YtkkbdleogkengaaDoor
namespace Rows

/-- THE TIED CARD OF 'caromlaw44.EventRoundTrip'. -/
def eventRoundTripCard : Claim7 := { stood := { row := eventRoundTripRow, standIns := [], harness := (true, "2aba1d98a65e977bef2283c325d370c24c4e4134ce074994f140d0b3b6c08240"), looks := false }, kinds := [], alts := [], laidByText := true, laidKinds := [.data, .pinned], laidTests := true, laidLooks := .later }
def EventRoundTripCardSaid : Prop := Claim7.holds Tryd.pinned (.plain (OpenSpec.ofChange eventRoundTripSpec)) eventRoundTripCard

/-- THE TIED CARD OF 'caromlaw44.EventText'. -/
def eventTextCard : Claim7 := { stood := { row := eventTextRow, standIns := [], harness := (true, "2aba1d98a65e977bef2283c325d370c24c4e4134ce074994f140d0b3b6c08240"), looks := false }, kinds := [], alts := [], laidByText := true, laidKinds := [.data, .pinned], laidTests := true, laidLooks := .later }
def EventTextCardSaid : Prop := Claim7.holds Tryd.pinned (.plain (OpenSpec.ofChange eventTextSpec)) eventTextCard

/-- THE TIED CARD OF 'caromlaw44.EventLess'. -/
def eventLessCard : Claim7 := { stood := { row := eventLessRow, standIns := [], harness := (true, "2aba1d98a65e977bef2283c325d370c24c4e4134ce074994f140d0b3b6c08240"), looks := false }, kinds := [], alts := [], laidByText := true, laidKinds := [.data, .pinned], laidTests := true, laidLooks := .later }
def EventLessCardSaid : Prop := Claim7.holds Tryd.pinned (.plain (OpenSpec.ofChange eventLessSpec)) eventLessCard

/-- THE TIED CARD OF 'caromlaw44.EventActiveContacts'. -/
def eventActiveContactsCard : Claim7 := { stood := { row := eventActiveContactsRow, standIns := [], harness := (true, "2aba1d98a65e977bef2283c325d370c24c4e4134ce074994f140d0b3b6c08240"), looks := false }, kinds := [], alts := [], laidByText := true, laidKinds := [.data, .pinned], laidTests := true, laidLooks := .later }
def EventActiveContactsCardSaid : Prop := Claim7.holds Tryd.pinned (.plain (OpenSpec.ofChange eventActiveContactsSpec)) eventActiveContactsCard

/-- THE TIED CARD OF 'caromlaw44.EventConcatenation'. -/
def eventConcatenationCard : Claim7 := { stood := { row := eventConcatenationRow, standIns := [], harness := (true, "2aba1d98a65e977bef2283c325d370c24c4e4134ce074994f140d0b3b6c08240"), looks := false }, kinds := [], alts := [], laidByText := true, laidKinds := [.data, .pinned], laidTests := true, laidLooks := .later }
def EventConcatenationCardSaid : Prop := Claim7.holds Tryd.pinned (.plain (OpenSpec.ofChange eventConcatenationSpec)) eventConcatenationCard

/-- THE TIED CARD OF 'caromlaw44.EventLists'. -/
def eventListsCard : Claim7 := { stood := { row := eventListsRow, standIns := [], harness := (true, "2aba1d98a65e977bef2283c325d370c24c4e4134ce074994f140d0b3b6c08240"), looks := false }, kinds := [], alts := [], laidByText := true, laidKinds := [.data, .pinned], laidTests := true, laidLooks := .later }
def EventListsCardSaid : Prop := Claim7.holds Tryd.pinned (.plain (OpenSpec.ofChange eventListsSpec)) eventListsCard

/-- THE TIED CARD OF 'caromlaw44.EventSort'. -/
def eventSortCard : Claim7 := { stood := { row := eventSortRow, standIns := [], harness := (true, "2aba1d98a65e977bef2283c325d370c24c4e4134ce074994f140d0b3b6c08240"), looks := false }, kinds := [], alts := [], laidByText := true, laidKinds := [.data, .pinned], laidTests := true, laidLooks := .later }
def EventSortCardSaid : Prop := Claim7.holds Tryd.pinned (.plain (OpenSpec.ofChange eventSortSpec)) eventSortCard

/-- THE SECOND FORM's CARD OF 'caromlaw44.EventRoundTrip'. -/
def eventRoundTripUptoCard : Claim7 := { stood := { row := eventRoundTripUptoRow, standIns := [], harness := (true, "2aba1d98a65e977bef2283c325d370c24c4e4134ce074994f140d0b3b6c08240"), looks := false }, kinds := [], alts := [], laidByText := true, laidKinds := [.data, .pinned], laidTests := true, laidLooks := .later }
def EventRoundTripUptoCardSaid : Prop := Claim7.holds Tryd.pinned (.plain (OpenSpec.upto eventRoundTripSpec)) eventRoundTripUptoCard

/-- THE SECOND FORM's CARD OF 'caromlaw44.EventText'. -/
def eventTextUptoCard : Claim7 := { stood := { row := eventTextUptoRow, standIns := [], harness := (true, "2aba1d98a65e977bef2283c325d370c24c4e4134ce074994f140d0b3b6c08240"), looks := false }, kinds := [], alts := [], laidByText := true, laidKinds := [.data, .pinned], laidTests := true, laidLooks := .later }
def EventTextUptoCardSaid : Prop := Claim7.holds Tryd.pinned (.plain (OpenSpec.upto eventTextSpec)) eventTextUptoCard

/-- THE SECOND FORM's CARD OF 'caromlaw44.EventLess'. -/
def eventLessUptoCard : Claim7 := { stood := { row := eventLessUptoRow, standIns := [], harness := (true, "2aba1d98a65e977bef2283c325d370c24c4e4134ce074994f140d0b3b6c08240"), looks := false }, kinds := [], alts := [], laidByText := true, laidKinds := [.data, .pinned], laidTests := true, laidLooks := .later }
def EventLessUptoCardSaid : Prop := Claim7.holds Tryd.pinned (.plain (OpenSpec.upto eventLessSpec)) eventLessUptoCard

/-- THE SECOND FORM's CARD OF 'caromlaw44.EventActiveContacts'. -/
def eventActiveContactsUptoCard : Claim7 := { stood := { row := eventActiveContactsUptoRow, standIns := [], harness := (true, "2aba1d98a65e977bef2283c325d370c24c4e4134ce074994f140d0b3b6c08240"), looks := false }, kinds := [], alts := [], laidByText := true, laidKinds := [.data, .pinned], laidTests := true, laidLooks := .later }
def EventActiveContactsUptoCardSaid : Prop := Claim7.holds Tryd.pinned (.plain (OpenSpec.upto eventActiveContactsSpec)) eventActiveContactsUptoCard

/-- THE SECOND FORM's CARD OF 'caromlaw44.EventConcatenation'. -/
def eventConcatenationUptoCard : Claim7 := { stood := { row := eventConcatenationUptoRow, standIns := [], harness := (true, "2aba1d98a65e977bef2283c325d370c24c4e4134ce074994f140d0b3b6c08240"), looks := false }, kinds := [], alts := [], laidByText := true, laidKinds := [.data, .pinned], laidTests := true, laidLooks := .later }
def EventConcatenationUptoCardSaid : Prop := Claim7.holds Tryd.pinned (.plain (OpenSpec.upto eventConcatenationSpec)) eventConcatenationUptoCard

/-- THE SECOND FORM's CARD OF 'caromlaw44.EventLists'. -/
def eventListsUptoCard : Claim7 := { stood := { row := eventListsUptoRow, standIns := [], harness := (true, "2aba1d98a65e977bef2283c325d370c24c4e4134ce074994f140d0b3b6c08240"), looks := false }, kinds := [], alts := [], laidByText := true, laidKinds := [.data, .pinned], laidTests := true, laidLooks := .later }
def EventListsUptoCardSaid : Prop := Claim7.holds Tryd.pinned (.plain (OpenSpec.upto eventListsSpec)) eventListsUptoCard

/-- THE SECOND FORM's CARD OF 'caromlaw44.EventSort'. -/
def eventSortUptoCard : Claim7 := { stood := { row := eventSortUptoRow, standIns := [], harness := (true, "2aba1d98a65e977bef2283c325d370c24c4e4134ce074994f140d0b3b6c08240"), looks := false }, kinds := [], alts := [], laidByText := true, laidKinds := [.data, .pinned], laidTests := true, laidLooks := .later }
def EventSortUptoCardSaid : Prop := Claim7.holds Tryd.pinned (.plain (OpenSpec.upto eventSortSpec)) eventSortUptoCard
end Rows
end Go.Proofs.YtkkbdleogkengaaDoor
