/-
  No cell of these rows narrows 'for every input' (looked for: loops, veiled, ifaces, maps, wideKeys, modest, calm, conditions, laid).
  DERIVED. THE GIVEN ROWS OF THIS SEAT. 6 by the template 'for every input the law returns true; each argument reads behind the call as it read before'; 0 by the template 'total and deterministic' (their statements: YtnjcfajaigokdaaTotals.lean).
  GIVEN WITH THE SEED: the statements are not yours to turn. If you find one false, say at which input.
  Laid BY PROGRAM, IN A SANDBOX (cutbox-rows.mjs): the forced cells as the released guide's own fill.sh prints them over the translation 651191937fe4ca77… (all of the seat's roots in one cut). By AI agents, Wed Nov 11 2026. No macro, syntax, notation, axiom, sorry.
-/
import Derived.Test.YtnjcfajaigokdaaChecked
import GoSem.Claim
import GoSem.ClaimJoined
import GoSem.ClaimMapViews
import Derived.JoinedTies
import Derived.KernelRfl
namespace Go.Proofs.Ytnjcfajaigokdaa
/- THE CELL 'sum', in the pinned program and in every row, IS THE sha256 OF THE DUMP (.gsa) THAT YtnjcfajaigokdaaProg.lean LOADS. Nothing in Lean hashes anything: it is a label: what it is worth is what the hold of that sum in a sandbox is worth. -/
noncomputable def Try.pinned : Pinned := { name := "ytnjcfajaigokdaa", sum := "651191937fe4ca775c1c4a83778b0142e594ec42035f9e052a308209bd0b627d", checked := Try.checked }
namespace Rows
def none {H : Type} : Left H := { results := [], args := [] }

/-- 'caromlaw07.CodecCapacity': WHATEVER THE INPUT: true; the input reads as it did. -/
def codecCapacitySpec : ChangeSpec := { name := "codecCapacity", fn := fun _ => fun
  | [d1, d2, d3] => { results := [.lit (.bool true)], args := [d1, d2, d3] }
  | _ => none }
def codecCapacityRow : OpenClaim := { program := "ytnjcfajaigokdaa", sum := "651191937fe4ca775c1c4a83778b0142e594ec42035f9e052a308209bd0b627d", func := "carom/caromlaw07.CodecCapacity", spec := "codecCapacity", apart := false }
def CodecCapacitySaid : Prop := codecCapacityRow.holds Try.pinned (OpenSpec.ofChange codecCapacitySpec)

/-- ITS FALSE NEIGHBOUR: 'it returns false'. Refute it at one input. -/
def codecCapacityWrong : ChangeSpec := { name := "codecCapacity", fn := fun _ => fun
  | [d1, d2, d3] => { results := [.lit (.bool false)], args := [d1, d2, d3] }
  | _ => none }
def CodecCapacityWrongFalsely : Prop := codecCapacityRow.holds Try.pinned (OpenSpec.ofChange codecCapacityWrong)

/-- 'caromlaw07.CodecScalars': WHATEVER THE INPUT: true; the input reads as it did. -/
def codecScalarsSpec : ChangeSpec := { name := "codecScalars", fn := fun _ => fun
  | [d1, d2] => { results := [.lit (.bool true)], args := [d1, d2] }
  | _ => none }
def codecScalarsRow : OpenClaim := { program := "ytnjcfajaigokdaa", sum := "651191937fe4ca775c1c4a83778b0142e594ec42035f9e052a308209bd0b627d", func := "carom/caromlaw07.CodecScalars", spec := "codecScalars", apart := false }
def CodecScalarsSaid : Prop := codecScalarsRow.holds Try.pinned (OpenSpec.ofChange codecScalarsSpec)

/-- ITS FALSE NEIGHBOUR: 'it returns false'. Refute it at one input. -/
def codecScalarsWrong : ChangeSpec := { name := "codecScalars", fn := fun _ => fun
  | [d1, d2] => { results := [.lit (.bool false)], args := [d1, d2] }
  | _ => none }
def CodecScalarsWrongFalsely : Prop := codecScalarsRow.holds Try.pinned (OpenSpec.ofChange codecScalarsWrong)

/-- 'caromlaw07.CodecStrings': WHATEVER THE INPUT: true; the input reads as it did. -/
def codecStringsSpec : ChangeSpec := { name := "codecStrings", fn := fun _ => fun
  | [d1, d2, d3, d4] => { results := [.lit (.bool true)], args := [d1, d2, d3, d4] }
  | _ => none }
def codecStringsRow : OpenClaim := { program := "ytnjcfajaigokdaa", sum := "651191937fe4ca775c1c4a83778b0142e594ec42035f9e052a308209bd0b627d", func := "carom/caromlaw07.CodecStrings", spec := "codecStrings", apart := false }
def CodecStringsSaid : Prop := codecStringsRow.holds Try.pinned (OpenSpec.ofChange codecStringsSpec)

/-- ITS FALSE NEIGHBOUR: 'it returns false'. Refute it at one input. -/
def codecStringsWrong : ChangeSpec := { name := "codecStrings", fn := fun _ => fun
  | [d1, d2, d3, d4] => { results := [.lit (.bool false)], args := [d1, d2, d3, d4] }
  | _ => none }
def CodecStringsWrongFalsely : Prop := codecStringsRow.holds Try.pinned (OpenSpec.ofChange codecStringsWrong)

/-- 'caromlaw07.CodecSlices': WHATEVER THE INPUT: true; the input reads as it did. -/
def codecSlicesSpec : ChangeSpec := { name := "codecSlices", fn := fun _ => fun
  | [d1, d2, d3, d4] => { results := [.lit (.bool true)], args := [d1, d2, d3, d4] }
  | _ => none }
def codecSlicesRow : OpenClaim := { program := "ytnjcfajaigokdaa", sum := "651191937fe4ca775c1c4a83778b0142e594ec42035f9e052a308209bd0b627d", func := "carom/caromlaw07.CodecSlices", spec := "codecSlices", apart := false }
def CodecSlicesSaid : Prop := codecSlicesRow.holds Try.pinned (OpenSpec.ofChange codecSlicesSpec)

/-- ITS FALSE NEIGHBOUR: 'it returns false'. Refute it at one input. -/
def codecSlicesWrong : ChangeSpec := { name := "codecSlices", fn := fun _ => fun
  | [d1, d2, d3, d4] => { results := [.lit (.bool false)], args := [d1, d2, d3, d4] }
  | _ => none }
def CodecSlicesWrongFalsely : Prop := codecSlicesRow.holds Try.pinned (OpenSpec.ofChange codecSlicesWrong)

/-- 'caromlaw07.CodecUnique': WHATEVER THE INPUT: true; the input reads as it did. -/
def codecUniqueSpec : ChangeSpec := { name := "codecUnique", fn := fun _ => fun
  | [d1, d2] => { results := [.lit (.bool true)], args := [d1, d2] }
  | _ => none }
def codecUniqueRow : OpenClaim := { program := "ytnjcfajaigokdaa", sum := "651191937fe4ca775c1c4a83778b0142e594ec42035f9e052a308209bd0b627d", func := "carom/caromlaw07.CodecUnique", spec := "codecUnique", apart := false }
def CodecUniqueSaid : Prop := codecUniqueRow.holds Try.pinned (OpenSpec.ofChange codecUniqueSpec)

/-- ITS FALSE NEIGHBOUR: 'it returns false'. Refute it at one input. -/
def codecUniqueWrong : ChangeSpec := { name := "codecUnique", fn := fun _ => fun
  | [d1, d2] => { results := [.lit (.bool false)], args := [d1, d2] }
  | _ => none }
def CodecUniqueWrongFalsely : Prop := codecUniqueRow.holds Try.pinned (OpenSpec.ofChange codecUniqueWrong)

/-- 'caromlaw07.CodecRoundTrip': WHATEVER THE INPUT: true; the input reads as it did. -/
def codecRoundTripSpec : ChangeSpec := { name := "codecRoundTrip", fn := fun _ => fun
  | [d1, d2, d3, d4, d5] => { results := [.lit (.bool true)], args := [d1, d2, d3, d4, d5] }
  | _ => none }
def codecRoundTripRow : OpenClaim := { program := "ytnjcfajaigokdaa", sum := "651191937fe4ca775c1c4a83778b0142e594ec42035f9e052a308209bd0b627d", func := "carom/caromlaw07.CodecRoundTrip", spec := "codecRoundTrip", apart := false }
def CodecRoundTripSaid : Prop := codecRoundTripRow.holds Try.pinned (OpenSpec.ofChange codecRoundTripSpec)

/-- ITS FALSE NEIGHBOUR: 'it returns false'. Refute it at one input. -/
def codecRoundTripWrong : ChangeSpec := { name := "codecRoundTrip", fn := fun _ => fun
  | [d1, d2, d3, d4, d5] => { results := [.lit (.bool false)], args := [d1, d2, d3, d4, d5] }
  | _ => none }
def CodecRoundTripWrongFalsely : Prop := codecRoundTripRow.holds Try.pinned (OpenSpec.ofChange codecRoundTripWrong)

/- THE SECOND FORM. 'bulk': how many values and letters a reading holds, each counted each time it is reached (what is shared counts as often as it is met; a slice's spare places count too). A statement '..UptoSaid' is the law's where the arguments, and the package variables that the reading takes, are together of bulk at most 1048576: NARROWER than '..Said'. Prove '..Said' where nothing that the law and all that it calls make is longer than what came in: it says more and counts as full. Else prove '..UptoSaid'. A law counts once. -/
mutual
def uptoBulk {H : Type} : DataW H → Nat
  | .lit (.string bytes) => bytes.length + 1
  | .lit _ => 1
  | .nil => 1
  | .ptr d => uptoBulk d + 1
  | .slice elems spare => uptoBulkAll elems + uptoBulkAll spare + 1
  | .agg parts => uptoBulkAll parts + 1
  | .iface _ d => uptoBulk d + 1
  | .map entries => uptoBulkEntries entries + 1
  | .held _ => 1
def uptoBulkAll {H : Type} : List (DataW H) → Nat
  | [] => 0
  | d :: r => uptoBulk d + uptoBulkAll r
def uptoBulkEntries {H : Type} : List (Lit × DataW H) → Nat
  | [] => 0
  | x :: r => uptoBulkEntry x + uptoBulkEntries r
def uptoBulkEntry {H : Type} : Lit × DataW H → Nat
  | (.string bytes, d) => bytes.length + uptoBulk d + 1
  | (_, d) => uptoBulk d + 1
 end
def uptoSmall : (H : Type) → List (DataW H) → Bool := fun _ ds => decide (uptoBulkAll ds ≤ 1048576)
def OpenSpec.upto (s : _root_.Go.ChangeSpec) : _root_.Go.OpenSpec := { _root_.Go.OpenSpec.ofChange s with cond := some uptoSmall }

/-- 'caromlaw07.CodecCapacity', WHERE WHAT IT READS IS OF BULK AT MOST 1048576: true; the input reads as it did. -/
def codecCapacityUptoRow : OpenClaim := { program := "ytnjcfajaigokdaa", sum := "651191937fe4ca775c1c4a83778b0142e594ec42035f9e052a308209bd0b627d", func := "carom/caromlaw07.CodecCapacity", spec := "codecCapacity", apart := false, narrowed := true }
def CodecCapacityUptoSaid : Prop := codecCapacityUptoRow.holds Try.pinned (OpenSpec.upto codecCapacitySpec)

/-- 'caromlaw07.CodecScalars', WHERE WHAT IT READS IS OF BULK AT MOST 1048576: true; the input reads as it did. -/
def codecScalarsUptoRow : OpenClaim := { program := "ytnjcfajaigokdaa", sum := "651191937fe4ca775c1c4a83778b0142e594ec42035f9e052a308209bd0b627d", func := "carom/caromlaw07.CodecScalars", spec := "codecScalars", apart := false, narrowed := true }
def CodecScalarsUptoSaid : Prop := codecScalarsUptoRow.holds Try.pinned (OpenSpec.upto codecScalarsSpec)

/-- 'caromlaw07.CodecStrings', WHERE WHAT IT READS IS OF BULK AT MOST 1048576: true; the input reads as it did. -/
def codecStringsUptoRow : OpenClaim := { program := "ytnjcfajaigokdaa", sum := "651191937fe4ca775c1c4a83778b0142e594ec42035f9e052a308209bd0b627d", func := "carom/caromlaw07.CodecStrings", spec := "codecStrings", apart := false, narrowed := true }
def CodecStringsUptoSaid : Prop := codecStringsUptoRow.holds Try.pinned (OpenSpec.upto codecStringsSpec)

/-- 'caromlaw07.CodecSlices', WHERE WHAT IT READS IS OF BULK AT MOST 1048576: true; the input reads as it did. -/
def codecSlicesUptoRow : OpenClaim := { program := "ytnjcfajaigokdaa", sum := "651191937fe4ca775c1c4a83778b0142e594ec42035f9e052a308209bd0b627d", func := "carom/caromlaw07.CodecSlices", spec := "codecSlices", apart := false, narrowed := true }
def CodecSlicesUptoSaid : Prop := codecSlicesUptoRow.holds Try.pinned (OpenSpec.upto codecSlicesSpec)

/-- 'caromlaw07.CodecUnique', WHERE WHAT IT READS IS OF BULK AT MOST 1048576: true; the input reads as it did. -/
def codecUniqueUptoRow : OpenClaim := { program := "ytnjcfajaigokdaa", sum := "651191937fe4ca775c1c4a83778b0142e594ec42035f9e052a308209bd0b627d", func := "carom/caromlaw07.CodecUnique", spec := "codecUnique", apart := false, narrowed := true }
def CodecUniqueUptoSaid : Prop := codecUniqueUptoRow.holds Try.pinned (OpenSpec.upto codecUniqueSpec)

/-- 'caromlaw07.CodecRoundTrip', WHERE WHAT IT READS IS OF BULK AT MOST 1048576: true; the input reads as it did. -/
def codecRoundTripUptoRow : OpenClaim := { program := "ytnjcfajaigokdaa", sum := "651191937fe4ca775c1c4a83778b0142e594ec42035f9e052a308209bd0b627d", func := "carom/caromlaw07.CodecRoundTrip", spec := "codecRoundTrip", apart := false, narrowed := true }
def CodecRoundTripUptoSaid : Prop := codecRoundTripUptoRow.holds Try.pinned (OpenSpec.upto codecRoundTripSpec)

end Rows
end Go.Proofs.Ytnjcfajaigokdaa
