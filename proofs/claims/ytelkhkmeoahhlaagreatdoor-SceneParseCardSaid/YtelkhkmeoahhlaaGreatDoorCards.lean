/-
  DERIVED. GIVEN WITH THE SEED: THE CARDS: each row of YtelkhkmeoahhlaaGreatDoorRows.lean that lists a variable, with what it lists TIED to the program's text (the seventh form; the later family's looks); each row that meets fmt, with fmt's text TOLD by the authors' own Lean function (tested against real Go, not proved from fmt's source: count such statements apart). THE CARD IS WHAT COUNTS. Prove the row's statement (the work); the ties are given (YtelkhkmeoahhlaaGreatDoorTie.lean); close each card by the builder's one call (the guide's Derived/Test/ToyasCard.lean, 'card_holds'). Laid BY PROGRAM, IN A SANDBOX (cutbox-door.mjs). By AI agents, Wed Nov 11 2026. No macro, syntax, notation, axiom, sorry.
-/
import Derived.Test.YtelkhkmeoahhlaaGreatDoorRows
import GoSem.ClaimSeven
namespace Go.Proofs.YtelkhkmeoahhlaaGreatDoor
namespace Rows

/-- THE TIED CARD OF 'caromlaw52.SceneRoundTrip'. -/
def sceneRoundTripCard : Claim7 := { stood := { row := sceneRoundTripRow, standIns := [], harness := (true, "30bae685c8a1ba9b297e3075d8022bee1adc34256f2e72449b5e353056fee94b"), looks := true }, kinds := [], alts := [], laidByText := true, laidKinds := [.data, .pinned], laidTests := true, laidLooks := .later }
def SceneRoundTripCardSaid : Prop := Claim7.holds Tryz.pinned (.plain (OpenSpec.ofChange sceneRoundTripSpec)) sceneRoundTripCard

/-- THE TIED CARD OF 'caromlaw52.SceneFormat'. -/
def sceneFormatCard : Claim7 := { stood := { row := sceneFormatRow, standIns := [], harness := (true, "30bae685c8a1ba9b297e3075d8022bee1adc34256f2e72449b5e353056fee94b"), looks := true }, kinds := [], alts := [], laidByText := true, laidKinds := [.data, .pinned], laidTests := true, laidLooks := .later }
def SceneFormatCardSaid : Prop := Claim7.holds Tryz.pinned (.plain (OpenSpec.ofChange sceneFormatSpec)) sceneFormatCard

/-- THE TIED CARD OF 'caromlaw52.SceneParse'. -/
def sceneParseCard : Claim7 := { stood := { row := sceneParseRow, standIns := [], harness := (true, "30bae685c8a1ba9b297e3075d8022bee1adc34256f2e72449b5e353056fee94b"), looks := true }, kinds := [], alts := [], laidByText := true, laidKinds := [.data, .pinned], laidTests := true, laidLooks := .later }
def SceneParseCardSaid : Prop := Claim7.holds Tryz.pinned (.plain (OpenSpec.ofChange sceneParseSpec)) sceneParseCard

/-- THE TIED CARD OF 'caromlaw52.SceneFields'. -/
def sceneFieldsCard : Claim7 := { stood := { row := sceneFieldsRow, standIns := [], harness := (true, "30bae685c8a1ba9b297e3075d8022bee1adc34256f2e72449b5e353056fee94b"), looks := true }, kinds := [], alts := [], laidByText := true, laidKinds := [.data, .pinned], laidTests := true, laidLooks := .later }
def SceneFieldsCardSaid : Prop := Claim7.holds Tryz.pinned (.plain (OpenSpec.ofChange sceneFieldsSpec)) sceneFieldsCard

/-- THE TIED CARD OF 'caromlaw52.SceneCanonical'. -/
def sceneCanonicalCard : Claim7 := { stood := { row := sceneCanonicalRow, standIns := [], harness := (true, "30bae685c8a1ba9b297e3075d8022bee1adc34256f2e72449b5e353056fee94b"), looks := true }, kinds := [], alts := [], laidByText := true, laidKinds := [.data, .pinned], laidTests := true, laidLooks := .later }
def SceneCanonicalCardSaid : Prop := Claim7.holds Tryz.pinned (.plain (OpenSpec.ofChange sceneCanonicalSpec)) sceneCanonicalCard

/-- THE TIED CARD OF 'caromlaw52.SceneDistinct'. -/
def sceneDistinctCard : Claim7 := { stood := { row := sceneDistinctRow, standIns := [], harness := (true, "30bae685c8a1ba9b297e3075d8022bee1adc34256f2e72449b5e353056fee94b"), looks := true }, kinds := [], alts := [], laidByText := true, laidKinds := [.data, .pinned], laidTests := true, laidLooks := .later }
def SceneDistinctCardSaid : Prop := Claim7.holds Tryz.pinned (.plain (OpenSpec.ofChange sceneDistinctSpec)) sceneDistinctCard

/-- THE SECOND FORM's CARD OF 'caromlaw52.SceneRoundTrip'. -/
def sceneRoundTripUptoCard : Claim7 := { stood := { row := sceneRoundTripUptoRow, standIns := [], harness := (true, "30bae685c8a1ba9b297e3075d8022bee1adc34256f2e72449b5e353056fee94b"), looks := true }, kinds := [], alts := [], laidByText := true, laidKinds := [.data, .pinned], laidTests := true, laidLooks := .later }
def SceneRoundTripUptoCardSaid : Prop := Claim7.holds Tryz.pinned (.plain (OpenSpec.upto sceneRoundTripSpec)) sceneRoundTripUptoCard

/-- THE SECOND FORM's CARD OF 'caromlaw52.SceneFormat'. -/
def sceneFormatUptoCard : Claim7 := { stood := { row := sceneFormatUptoRow, standIns := [], harness := (true, "30bae685c8a1ba9b297e3075d8022bee1adc34256f2e72449b5e353056fee94b"), looks := true }, kinds := [], alts := [], laidByText := true, laidKinds := [.data, .pinned], laidTests := true, laidLooks := .later }
def SceneFormatUptoCardSaid : Prop := Claim7.holds Tryz.pinned (.plain (OpenSpec.upto sceneFormatSpec)) sceneFormatUptoCard

/-- THE SECOND FORM's CARD OF 'caromlaw52.SceneParse'. -/
def sceneParseUptoCard : Claim7 := { stood := { row := sceneParseUptoRow, standIns := [], harness := (true, "30bae685c8a1ba9b297e3075d8022bee1adc34256f2e72449b5e353056fee94b"), looks := true }, kinds := [], alts := [], laidByText := true, laidKinds := [.data, .pinned], laidTests := true, laidLooks := .later }
def SceneParseUptoCardSaid : Prop := Claim7.holds Tryz.pinned (.plain (OpenSpec.upto sceneParseSpec)) sceneParseUptoCard

/-- THE SECOND FORM's CARD OF 'caromlaw52.SceneFields'. -/
def sceneFieldsUptoCard : Claim7 := { stood := { row := sceneFieldsUptoRow, standIns := [], harness := (true, "30bae685c8a1ba9b297e3075d8022bee1adc34256f2e72449b5e353056fee94b"), looks := true }, kinds := [], alts := [], laidByText := true, laidKinds := [.data, .pinned], laidTests := true, laidLooks := .later }
def SceneFieldsUptoCardSaid : Prop := Claim7.holds Tryz.pinned (.plain (OpenSpec.upto sceneFieldsSpec)) sceneFieldsUptoCard

/-- THE SECOND FORM's CARD OF 'caromlaw52.SceneCanonical'. -/
def sceneCanonicalUptoCard : Claim7 := { stood := { row := sceneCanonicalUptoRow, standIns := [], harness := (true, "30bae685c8a1ba9b297e3075d8022bee1adc34256f2e72449b5e353056fee94b"), looks := true }, kinds := [], alts := [], laidByText := true, laidKinds := [.data, .pinned], laidTests := true, laidLooks := .later }
def SceneCanonicalUptoCardSaid : Prop := Claim7.holds Tryz.pinned (.plain (OpenSpec.upto sceneCanonicalSpec)) sceneCanonicalUptoCard

/-- THE SECOND FORM's CARD OF 'caromlaw52.SceneDistinct'. -/
def sceneDistinctUptoCard : Claim7 := { stood := { row := sceneDistinctUptoRow, standIns := [], harness := (true, "30bae685c8a1ba9b297e3075d8022bee1adc34256f2e72449b5e353056fee94b"), looks := true }, kinds := [], alts := [], laidByText := true, laidKinds := [.data, .pinned], laidTests := true, laidLooks := .later }
def SceneDistinctUptoCardSaid : Prop := Claim7.holds Tryz.pinned (.plain (OpenSpec.upto sceneDistinctSpec)) sceneDistinctUptoCard
end Rows
end Go.Proofs.YtelkhkmeoahhlaaGreatDoor
