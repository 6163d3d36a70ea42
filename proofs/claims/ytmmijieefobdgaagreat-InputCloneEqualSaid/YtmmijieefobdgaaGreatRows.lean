/-
  No cell of these rows narrows 'for every input' (looked for: loops, veiled, ifaces, maps, wideKeys, modest, calm, conditions, laid).
  DERIVED. THE GIVEN ROWS OF THIS SEAT. 6 by the template 'for every input the law returns true; each argument reads behind the call as it read before'; 0 by the template 'total and deterministic' (their statements: YtmmijieefobdgaaGreatTotals.lean).
  GIVEN WITH THE SEED: the statements are not yours to turn. If you find one false, say at which input.
  Laid BY PROGRAM, IN A SANDBOX (cutbox-rows.mjs): the forced cells as the released guide's own fill.sh prints them over the translation 2f655d01383e0bf9… (all of the seat's roots in one cut). By AI agents, Wed Nov 11 2026. No macro, syntax, notation, axiom, sorry.
-/
import Derived.Test.YtmmijieefobdgaaGreatChecked
import GoSem.Claim
import GoSem.ClaimJoined
import GoSem.ClaimMapViews
import Derived.JoinedTies
import Derived.KernelRfl
namespace Go.Proofs.YtmmijieefobdgaaGreat
/- THE CELL 'sum', in the pinned program and in every row, IS THE sha256 OF THE DUMP (.gsa) THAT YtmmijieefobdgaaGreatProg.lean LOADS. Nothing in Lean hashes anything: it is a label: what it is worth is what the hold of that sum in a sandbox is worth. -/
noncomputable def Tryz.pinned : Pinned := { name := "ytmmijieefobdgaagreat", sum := "2f655d01383e0bf9ecfa16bd90af1ee81a9923725cfae1a7d0666289c30169a5", checked := Tryz.checked }
namespace Rows
def none {H : Type} : Left H := { results := [], args := [] }

/-- 'caromlaw43.InputValidation': WHATEVER THE INPUT: true; the input reads as it did. -/
def inputValidationSpec : ChangeSpec := { name := "inputValidation", fn := fun _ => fun
  | [d1, d2] => { results := [.lit (.bool true)], args := [d1, d2] }
  | _ => none }
def inputValidationRow : OpenClaim := { program := "ytmmijieefobdgaagreat", sum := "2f655d01383e0bf9ecfa16bd90af1ee81a9923725cfae1a7d0666289c30169a5", func := "carom/caromlaw43.InputValidation", spec := "inputValidation", unfollowed := true, recurses := true, apart := false }
def InputValidationSaid : Prop := inputValidationRow.holds Tryz.pinned (OpenSpec.ofChange inputValidationSpec)

/-- ITS FALSE NEIGHBOUR: 'it returns false'. Refute it at one input. -/
def inputValidationWrong : ChangeSpec := { name := "inputValidation", fn := fun _ => fun
  | [d1, d2] => { results := [.lit (.bool false)], args := [d1, d2] }
  | _ => none }
def InputValidationWrongFalsely : Prop := inputValidationRow.holds Tryz.pinned (OpenSpec.ofChange inputValidationWrong)

/-- 'caromlaw43.InputApply': WHATEVER THE INPUT: true; the input reads as it did. -/
def inputApplySpec : ChangeSpec := { name := "inputApply", fn := fun _ => fun
  | [d1, d2] => { results := [.lit (.bool true)], args := [d1, d2] }
  | _ => none }
def inputApplyRow : OpenClaim := { program := "ytmmijieefobdgaagreat", sum := "2f655d01383e0bf9ecfa16bd90af1ee81a9923725cfae1a7d0666289c30169a5", func := "carom/caromlaw43.InputApply", spec := "inputApply", unfollowed := true, recurses := true, apart := false }
def InputApplySaid : Prop := inputApplyRow.holds Tryz.pinned (OpenSpec.ofChange inputApplySpec)

/-- ITS FALSE NEIGHBOUR: 'it returns false'. Refute it at one input. -/
def inputApplyWrong : ChangeSpec := { name := "inputApply", fn := fun _ => fun
  | [d1, d2] => { results := [.lit (.bool false)], args := [d1, d2] }
  | _ => none }
def InputApplyWrongFalsely : Prop := inputApplyRow.holds Tryz.pinned (OpenSpec.ofChange inputApplyWrong)

/-- 'caromlaw43.InputCloneEqual': WHATEVER THE INPUT: true; the input reads as it did. -/
def inputCloneEqualSpec : ChangeSpec := { name := "inputCloneEqual", fn := fun _ => fun
  | [d1, d2] => { results := [.lit (.bool true)], args := [d1, d2] }
  | _ => none }
def inputCloneEqualRow : OpenClaim := { program := "ytmmijieefobdgaagreat", sum := "2f655d01383e0bf9ecfa16bd90af1ee81a9923725cfae1a7d0666289c30169a5", func := "carom/caromlaw43.InputCloneEqual", spec := "inputCloneEqual", unfollowed := true, recurses := true, apart := false }
def InputCloneEqualSaid : Prop := inputCloneEqualRow.holds Tryz.pinned (OpenSpec.ofChange inputCloneEqualSpec)

/-- ITS FALSE NEIGHBOUR: 'it returns false'. Refute it at one input. -/
def inputCloneEqualWrong : ChangeSpec := { name := "inputCloneEqual", fn := fun _ => fun
  | [d1, d2] => { results := [.lit (.bool false)], args := [d1, d2] }
  | _ => none }
def InputCloneEqualWrongFalsely : Prop := inputCloneEqualRow.holds Tryz.pinned (OpenSpec.ofChange inputCloneEqualWrong)

/-- 'caromlaw43.InputApplyAll': WHATEVER THE INPUT: true; the input reads as it did. -/
def inputApplyAllSpec : ChangeSpec := { name := "inputApplyAll", fn := fun _ => fun
  | [d1, d2] => { results := [.lit (.bool true)], args := [d1, d2] }
  | _ => none }
def inputApplyAllRow : OpenClaim := { program := "ytmmijieefobdgaagreat", sum := "2f655d01383e0bf9ecfa16bd90af1ee81a9923725cfae1a7d0666289c30169a5", func := "carom/caromlaw43.InputApplyAll", spec := "inputApplyAll", unfollowed := true, recurses := true, apart := false }
def InputApplyAllSaid : Prop := inputApplyAllRow.holds Tryz.pinned (OpenSpec.ofChange inputApplyAllSpec)

/-- ITS FALSE NEIGHBOUR: 'it returns false'. Refute it at one input. -/
def inputApplyAllWrong : ChangeSpec := { name := "inputApplyAll", fn := fun _ => fun
  | [d1, d2] => { results := [.lit (.bool false)], args := [d1, d2] }
  | _ => none }
def InputApplyAllWrongFalsely : Prop := inputApplyAllRow.holds Tryz.pinned (OpenSpec.ofChange inputApplyAllWrong)

/-- 'caromlaw43.InputStaysValid': WHATEVER THE INPUT: true; the input reads as it did. -/
def inputStaysValidSpec : ChangeSpec := { name := "inputStaysValid", fn := fun _ => fun
  | [d1, d2] => { results := [.lit (.bool true)], args := [d1, d2] }
  | _ => none }
def inputStaysValidRow : OpenClaim := { program := "ytmmijieefobdgaagreat", sum := "2f655d01383e0bf9ecfa16bd90af1ee81a9923725cfae1a7d0666289c30169a5", func := "carom/caromlaw43.InputStaysValid", spec := "inputStaysValid", unfollowed := true, recurses := true, apart := false }
def InputStaysValidSaid : Prop := inputStaysValidRow.holds Tryz.pinned (OpenSpec.ofChange inputStaysValidSpec)

/-- ITS FALSE NEIGHBOUR: 'it returns false'. Refute it at one input. -/
def inputStaysValidWrong : ChangeSpec := { name := "inputStaysValid", fn := fun _ => fun
  | [d1, d2] => { results := [.lit (.bool false)], args := [d1, d2] }
  | _ => none }
def InputStaysValidWrongFalsely : Prop := inputStaysValidRow.holds Tryz.pinned (OpenSpec.ofChange inputStaysValidWrong)

/-- 'caromlaw43.InputSequence': WHATEVER THE INPUT: true; the input reads as it did. -/
def inputSequenceSpec : ChangeSpec := { name := "inputSequence", fn := fun _ => fun
  | [d1, d2, d3] => { results := [.lit (.bool true)], args := [d1, d2, d3] }
  | _ => none }
def inputSequenceRow : OpenClaim := { program := "ytmmijieefobdgaagreat", sum := "2f655d01383e0bf9ecfa16bd90af1ee81a9923725cfae1a7d0666289c30169a5", func := "carom/caromlaw43.InputSequence", spec := "inputSequence", unfollowed := true, recurses := true, apart := false }
def InputSequenceSaid : Prop := inputSequenceRow.holds Tryz.pinned (OpenSpec.ofChange inputSequenceSpec)

/-- ITS FALSE NEIGHBOUR: 'it returns false'. Refute it at one input. -/
def inputSequenceWrong : ChangeSpec := { name := "inputSequence", fn := fun _ => fun
  | [d1, d2, d3] => { results := [.lit (.bool false)], args := [d1, d2, d3] }
  | _ => none }
def InputSequenceWrongFalsely : Prop := inputSequenceRow.holds Tryz.pinned (OpenSpec.ofChange inputSequenceWrong)

/- THE SECOND FORM. 'bulk': how many values and letters a reading holds, each counted each time it is reached (what is shared counts as often as it is met; a slice's spare places count too). A statement '..UptoSaid' is the law's where the arguments, and the package variables that the reading takes, are together of bulk at most 1048576: NARROWER than '..Said'. Prove '..Said' where nothing that the law and all that it calls make is longer than what came in: it says more and counts as full. Else prove '..UptoSaid'. A law counts once. -/
mutual
def uptoBulk {H : Type} : DataW H → Nat
  | .lit (.string bytes) => bytes.length + 1
  | .lit _ => 1
  | .nil => 1
  | .ptr d => uptoBulk d + 1
  | .slice elems spare => uptoBulkAll elems + uptoBulkAll spare + 1
  | .agg parts => uptoBulkAll parts + 1
  | .iface _ d => uptoBulk d + 1
  | .map entries => uptoBulkEntries entries + 1
  | .held _ => 1
def uptoBulkAll {H : Type} : List (DataW H) → Nat
  | [] => 0
  | d :: r => uptoBulk d + uptoBulkAll r
def uptoBulkEntries {H : Type} : List (Lit × DataW H) → Nat
  | [] => 0
  | x :: r => uptoBulkEntry x + uptoBulkEntries r
def uptoBulkEntry {H : Type} : Lit × DataW H → Nat
  | (.string bytes, d) => bytes.length + uptoBulk d + 1
  | (_, d) => uptoBulk d + 1
 end
def uptoSmall : (H : Type) → List (DataW H) → Bool := fun _ ds => decide (uptoBulkAll ds ≤ 1048576)
def OpenSpec.upto (s : _root_.Go.ChangeSpec) : _root_.Go.OpenSpec := { _root_.Go.OpenSpec.ofChange s with cond := some uptoSmall }

/-- 'caromlaw43.InputValidation', WHERE WHAT IT READS IS OF BULK AT MOST 1048576: true; the input reads as it did. -/
def inputValidationUptoRow : OpenClaim := { program := "ytmmijieefobdgaagreat", sum := "2f655d01383e0bf9ecfa16bd90af1ee81a9923725cfae1a7d0666289c30169a5", func := "carom/caromlaw43.InputValidation", spec := "inputValidation", unfollowed := true, recurses := true, apart := false, narrowed := true }
def InputValidationUptoSaid : Prop := inputValidationUptoRow.holds Tryz.pinned (OpenSpec.upto inputValidationSpec)

/-- 'caromlaw43.InputApply', WHERE WHAT IT READS IS OF BULK AT MOST 1048576: true; the input reads as it did. -/
def inputApplyUptoRow : OpenClaim := { program := "ytmmijieefobdgaagreat", sum := "2f655d01383e0bf9ecfa16bd90af1ee81a9923725cfae1a7d0666289c30169a5", func := "carom/caromlaw43.InputApply", spec := "inputApply", unfollowed := true, recurses := true, apart := false, narrowed := true }
def InputApplyUptoSaid : Prop := inputApplyUptoRow.holds Tryz.pinned (OpenSpec.upto inputApplySpec)

/-- 'caromlaw43.InputCloneEqual', WHERE WHAT IT READS IS OF BULK AT MOST 1048576: true; the input reads as it did. -/
def inputCloneEqualUptoRow : OpenClaim := { program := "ytmmijieefobdgaagreat", sum := "2f655d01383e0bf9ecfa16bd90af1ee81a9923725cfae1a7d0666289c30169a5", func := "carom/caromlaw43.InputCloneEqual", spec := "inputCloneEqual", unfollowed := true, recurses := true, apart := false, narrowed := true }
def InputCloneEqualUptoSaid : Prop := inputCloneEqualUptoRow.holds Tryz.pinned (OpenSpec.upto inputCloneEqualSpec)

/-- 'caromlaw43.InputApplyAll', WHERE WHAT IT READS IS OF BULK AT MOST 1048576: true; the input reads as it did. -/
def inputApplyAllUptoRow : OpenClaim := { program := "ytmmijieefobdgaagreat", sum := "2f655d01383e0bf9ecfa16bd90af1ee81a9923725cfae1a7d0666289c30169a5", func := "carom/caromlaw43.InputApplyAll", spec := "inputApplyAll", unfollowed := true, recurses := true, apart := false, narrowed := true }
def InputApplyAllUptoSaid : Prop := inputApplyAllUptoRow.holds Tryz.pinned (OpenSpec.upto inputApplyAllSpec)

/-- 'caromlaw43.InputStaysValid', WHERE WHAT IT READS IS OF BULK AT MOST 1048576: true; the input reads as it did. -/
def inputStaysValidUptoRow : OpenClaim := { program := "ytmmijieefobdgaagreat", sum := "2f655d01383e0bf9ecfa16bd90af1ee81a9923725cfae1a7d0666289c30169a5", func := "carom/caromlaw43.InputStaysValid", spec := "inputStaysValid", unfollowed := true, recurses := true, apart := false, narrowed := true }
def InputStaysValidUptoSaid : Prop := inputStaysValidUptoRow.holds Tryz.pinned (OpenSpec.upto inputStaysValidSpec)

/-- 'caromlaw43.InputSequence', WHERE WHAT IT READS IS OF BULK AT MOST 1048576: true; the input reads as it did. -/
def inputSequenceUptoRow : OpenClaim := { program := "ytmmijieefobdgaagreat", sum := "2f655d01383e0bf9ecfa16bd90af1ee81a9923725cfae1a7d0666289c30169a5", func := "carom/caromlaw43.InputSequence", spec := "inputSequence", unfollowed := true, recurses := true, apart := false, narrowed := true }
def InputSequenceUptoSaid : Prop := inputSequenceUptoRow.holds Tryz.pinned (OpenSpec.upto inputSequenceSpec)

end Rows
end Go.Proofs.YtmmijieefobdgaaGreat
