/-
  DERIVED. GIVEN WITH THE SEED: THE CARDS: each row of YtffgldbihpgjgaaGreatDoorRows.lean that lists a variable, with what it lists TIED to the program's text (the seventh form; the later family's looks); each row that meets fmt, with fmt's text TOLD by the authors' own Lean function (tested against real Go, not proved from fmt's source: count such statements apart). THE CARD IS WHAT COUNTS. Prove the row's statement (the work); the ties are given (YtffgldbihpgjgaaGreatDoorTie.lean); close each card by the builder's one call (the guide's Derived/Test/ToyasCard.lean, 'card_holds'). Laid BY PROGRAM, IN A SANDBOX (cutbox-door.mjs). By AI agents, Wed Nov 11 2026. No macro, syntax, notation, axiom, sorry.
-/
import Derived.Test.YtffgldbihpgjgaaGreatDoorRows
import GoSem.ClaimSeven
namespace Go.Proofs.YtffgldbihpgjgaaGreatDoor
namespace Rows

/-- THE TIED CARD OF 'caromlaw47.RecordingRoundTrip'. -/
def recordingRoundTripCard : Claim7 := { stood := { row := recordingRoundTripRow, standIns := [], harness := (true, "da40ae01403c35640a1f0ed8c636048dd0c3b08b7a97d36f0dbe5cdb154def14"), looks := true }, kinds := [], alts := [], laidByText := true, laidKinds := [.data, .handle, .pinned], laidTests := true, laidLooks := .later }
def RecordingRoundTripCardSaid : Prop := Claim7.holds Tryz.pinned (.plain (OpenSpec.ofChange recordingRoundTripSpec)) recordingRoundTripCard

/-- THE TIED CARD OF 'caromlaw47.RecordingValidate'. -/
def recordingValidateCard : Claim7 := { stood := { row := recordingValidateRow, standIns := [], harness := (true, "da40ae01403c35640a1f0ed8c636048dd0c3b08b7a97d36f0dbe5cdb154def14"), looks := true }, kinds := [], alts := [], laidByText := true, laidKinds := [.data, .handle, .pinned], laidTests := true, laidLooks := .later }
def RecordingValidateCardSaid : Prop := Claim7.holds Tryz.pinned (.plain (OpenSpec.ofChange recordingValidateSpec)) recordingValidateCard

/-- THE TIED CARD OF 'caromlaw47.RecordingBinary'. -/
def recordingBinaryCard : Claim7 := { stood := { row := recordingBinaryRow, standIns := [], harness := (true, "da40ae01403c35640a1f0ed8c636048dd0c3b08b7a97d36f0dbe5cdb154def14"), looks := true }, kinds := [], alts := [], laidByText := true, laidKinds := [.data, .handle, .pinned], laidTests := true, laidLooks := .later }
def RecordingBinaryCardSaid : Prop := Claim7.holds Tryz.pinned (.plain (OpenSpec.ofChange recordingBinarySpec)) recordingBinaryCard

/-- THE TIED CARD OF 'caromlaw47.RecordingText'. -/
def recordingTextCard : Claim7 := { stood := { row := recordingTextRow, standIns := [], harness := (true, "da40ae01403c35640a1f0ed8c636048dd0c3b08b7a97d36f0dbe5cdb154def14"), looks := true }, kinds := [], alts := [], laidByText := true, laidKinds := [.data, .handle, .pinned], laidTests := true, laidLooks := .later }
def RecordingTextCardSaid : Prop := Claim7.holds Tryz.pinned (.plain (OpenSpec.ofChange recordingTextSpec)) recordingTextCard

/-- THE TIED CARD OF 'caromlaw47.RecordingAppendTwice'. -/
def recordingAppendTwiceCard : Claim7 := { stood := { row := recordingAppendTwiceRow, standIns := [], harness := (true, "da40ae01403c35640a1f0ed8c636048dd0c3b08b7a97d36f0dbe5cdb154def14"), looks := true }, kinds := [], alts := [], laidByText := true, laidKinds := [.data, .handle, .pinned], laidTests := true, laidLooks := .later }
def RecordingAppendTwiceCardSaid : Prop := Claim7.holds Tryz.pinned (.plain (OpenSpec.ofChange recordingAppendTwiceSpec)) recordingAppendTwiceCard

/-- THE TIED CARD OF 'caromlaw47.RecordingEdit'. -/
def recordingEditCard : Claim7 := { stood := { row := recordingEditRow, standIns := [], harness := (true, "da40ae01403c35640a1f0ed8c636048dd0c3b08b7a97d36f0dbe5cdb154def14"), looks := true }, kinds := [], alts := [], laidByText := true, laidKinds := [.data, .handle, .pinned], laidTests := true, laidLooks := .later }
def RecordingEditCardSaid : Prop := Claim7.holds Tryz.pinned (.plain (OpenSpec.ofChange recordingEditSpec)) recordingEditCard

/-- THE TIED CARD OF 'caromlaw47.RecordingSlices'. -/
def recordingSlicesCard : Claim7 := { stood := { row := recordingSlicesRow, standIns := [], harness := (true, "da40ae01403c35640a1f0ed8c636048dd0c3b08b7a97d36f0dbe5cdb154def14"), looks := true }, kinds := [], alts := [], laidByText := true, laidKinds := [.data, .handle, .pinned], laidTests := true, laidLooks := .later }
def RecordingSlicesCardSaid : Prop := Claim7.holds Tryz.pinned (.plain (OpenSpec.ofChange recordingSlicesSpec)) recordingSlicesCard

/-- THE SECOND FORM's CARD OF 'caromlaw47.RecordingRoundTrip'. -/
def recordingRoundTripUptoCard : Claim7 := { stood := { row := recordingRoundTripUptoRow, standIns := [], harness := (true, "da40ae01403c35640a1f0ed8c636048dd0c3b08b7a97d36f0dbe5cdb154def14"), looks := true }, kinds := [], alts := [], laidByText := true, laidKinds := [.data, .handle, .pinned], laidTests := true, laidLooks := .later }
def RecordingRoundTripUptoCardSaid : Prop := Claim7.holds Tryz.pinned (.plain (OpenSpec.upto recordingRoundTripSpec)) recordingRoundTripUptoCard

/-- THE SECOND FORM's CARD OF 'caromlaw47.RecordingValidate'. -/
def recordingValidateUptoCard : Claim7 := { stood := { row := recordingValidateUptoRow, standIns := [], harness := (true, "da40ae01403c35640a1f0ed8c636048dd0c3b08b7a97d36f0dbe5cdb154def14"), looks := true }, kinds := [], alts := [], laidByText := true, laidKinds := [.data, .handle, .pinned], laidTests := true, laidLooks := .later }
def RecordingValidateUptoCardSaid : Prop := Claim7.holds Tryz.pinned (.plain (OpenSpec.upto recordingValidateSpec)) recordingValidateUptoCard

/-- THE SECOND FORM's CARD OF 'caromlaw47.RecordingBinary'. -/
def recordingBinaryUptoCard : Claim7 := { stood := { row := recordingBinaryUptoRow, standIns := [], harness := (true, "da40ae01403c35640a1f0ed8c636048dd0c3b08b7a97d36f0dbe5cdb154def14"), looks := true }, kinds := [], alts := [], laidByText := true, laidKinds := [.data, .handle, .pinned], laidTests := true, laidLooks := .later }
def RecordingBinaryUptoCardSaid : Prop := Claim7.holds Tryz.pinned (.plain (OpenSpec.upto recordingBinarySpec)) recordingBinaryUptoCard

/-- THE SECOND FORM's CARD OF 'caromlaw47.RecordingText'. -/
def recordingTextUptoCard : Claim7 := { stood := { row := recordingTextUptoRow, standIns := [], harness := (true, "da40ae01403c35640a1f0ed8c636048dd0c3b08b7a97d36f0dbe5cdb154def14"), looks := true }, kinds := [], alts := [], laidByText := true, laidKinds := [.data, .handle, .pinned], laidTests := true, laidLooks := .later }
def RecordingTextUptoCardSaid : Prop := Claim7.holds Tryz.pinned (.plain (OpenSpec.upto recordingTextSpec)) recordingTextUptoCard

/-- THE SECOND FORM's CARD OF 'caromlaw47.RecordingAppendTwice'. -/
def recordingAppendTwiceUptoCard : Claim7 := { stood := { row := recordingAppendTwiceUptoRow, standIns := [], harness := (true, "da40ae01403c35640a1f0ed8c636048dd0c3b08b7a97d36f0dbe5cdb154def14"), looks := true }, kinds := [], alts := [], laidByText := true, laidKinds := [.data, .handle, .pinned], laidTests := true, laidLooks := .later }
def RecordingAppendTwiceUptoCardSaid : Prop := Claim7.holds Tryz.pinned (.plain (OpenSpec.upto recordingAppendTwiceSpec)) recordingAppendTwiceUptoCard

/-- THE SECOND FORM's CARD OF 'caromlaw47.RecordingEdit'. -/
def recordingEditUptoCard : Claim7 := { stood := { row := recordingEditUptoRow, standIns := [], harness := (true, "da40ae01403c35640a1f0ed8c636048dd0c3b08b7a97d36f0dbe5cdb154def14"), looks := true }, kinds := [], alts := [], laidByText := true, laidKinds := [.data, .handle, .pinned], laidTests := true, laidLooks := .later }
def RecordingEditUptoCardSaid : Prop := Claim7.holds Tryz.pinned (.plain (OpenSpec.upto recordingEditSpec)) recordingEditUptoCard

/-- THE SECOND FORM's CARD OF 'caromlaw47.RecordingSlices'. -/
def recordingSlicesUptoCard : Claim7 := { stood := { row := recordingSlicesUptoRow, standIns := [], harness := (true, "da40ae01403c35640a1f0ed8c636048dd0c3b08b7a97d36f0dbe5cdb154def14"), looks := true }, kinds := [], alts := [], laidByText := true, laidKinds := [.data, .handle, .pinned], laidTests := true, laidLooks := .later }
def RecordingSlicesUptoCardSaid : Prop := Claim7.holds Tryz.pinned (.plain (OpenSpec.upto recordingSlicesSpec)) recordingSlicesUptoCard
end Rows
end Go.Proofs.YtffgldbihpgjgaaGreatDoor
