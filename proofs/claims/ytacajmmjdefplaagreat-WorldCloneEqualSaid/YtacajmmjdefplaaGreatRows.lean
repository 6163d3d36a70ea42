/-
  No cell of these rows narrows 'for every input' (looked for: loops, veiled, ifaces, maps, wideKeys, modest, calm, conditions, laid).
  DERIVED. THE GIVEN ROWS OF THIS SEAT. 6 by the template 'for every input the law returns true; each argument reads behind the call as it read before'; 0 by the template 'total and deterministic' (their statements: YtacajmmjdefplaaGreatTotals.lean).
  GIVEN WITH THE SEED: the statements are not yours to turn. If you find one false, say at which input.
  Laid BY PROGRAM, IN A SANDBOX (cutbox-rows.mjs): the forced cells as the released guide's own fill.sh prints them over the translation 13078d883a9f6fdf… (all of the seat's roots in one cut). By AI agents, Wed Nov 11 2026. No macro, syntax, notation, axiom, sorry.
-/
import Derived.Test.YtacajmmjdefplaaGreatChecked
import GoSem.Claim
import GoSem.ClaimJoined
import GoSem.ClaimMapViews
import Derived.JoinedTies
import Derived.KernelRfl
namespace Go.Proofs.YtacajmmjdefplaaGreat
/- THE CELL 'sum', in the pinned program and in every row, IS THE sha256 OF THE DUMP (.gsa) THAT YtacajmmjdefplaaGreatProg.lean LOADS. Nothing in Lean hashes anything: it is a label: what it is worth is what the hold of that sum in a sandbox is worth. -/
noncomputable def Tryz.pinned : Pinned := { name := "ytacajmmjdefplaagreat", sum := "13078d883a9f6fdf7018ae86f2f43bac684fb06e856a61919b5c265040a8684e", checked := Tryz.checked }
namespace Rows
def none {H : Type} : Left H := { results := [], args := [] }

/-- 'caromlaw25.WorldValidation': WHATEVER THE INPUT: true; the input reads as it did. -/
def worldValidationSpec : ChangeSpec := { name := "worldValidation", fn := fun _ => fun
  | [d] => { results := [.lit (.bool true)], args := [d] }
  | _ => none }
def worldValidationRow : OpenClaim := { program := "ytacajmmjdefplaagreat", sum := "13078d883a9f6fdf7018ae86f2f43bac684fb06e856a61919b5c265040a8684e", func := "carom/caromlaw25.WorldValidation", spec := "worldValidation", unfollowed := true, recurses := true, apart := false }
def WorldValidationSaid : Prop := worldValidationRow.holds Tryz.pinned (OpenSpec.ofChange worldValidationSpec)

/-- ITS FALSE NEIGHBOUR: 'it returns false'. Refute it at one input. -/
def worldValidationWrong : ChangeSpec := { name := "worldValidation", fn := fun _ => fun
  | [d] => { results := [.lit (.bool false)], args := [d] }
  | _ => none }
def WorldValidationWrongFalsely : Prop := worldValidationRow.holds Tryz.pinned (OpenSpec.ofChange worldValidationWrong)

/-- 'caromlaw25.WorldRemoveBody': WHATEVER THE INPUT: true; the input reads as it did. -/
def worldRemoveBodySpec : ChangeSpec := { name := "worldRemoveBody", fn := fun _ => fun
  | [d1, d2] => { results := [.lit (.bool true)], args := [d1, d2] }
  | _ => none }
def worldRemoveBodyRow : OpenClaim := { program := "ytacajmmjdefplaagreat", sum := "13078d883a9f6fdf7018ae86f2f43bac684fb06e856a61919b5c265040a8684e", func := "carom/caromlaw25.WorldRemoveBody", spec := "worldRemoveBody", unfollowed := true, recurses := true, apart := false }
def WorldRemoveBodySaid : Prop := worldRemoveBodyRow.holds Tryz.pinned (OpenSpec.ofChange worldRemoveBodySpec)

/-- ITS FALSE NEIGHBOUR: 'it returns false'. Refute it at one input. -/
def worldRemoveBodyWrong : ChangeSpec := { name := "worldRemoveBody", fn := fun _ => fun
  | [d1, d2] => { results := [.lit (.bool false)], args := [d1, d2] }
  | _ => none }
def WorldRemoveBodyWrongFalsely : Prop := worldRemoveBodyRow.holds Tryz.pinned (OpenSpec.ofChange worldRemoveBodyWrong)

/-- 'caromlaw25.WorldAddBody': WHATEVER THE INPUT: true; the input reads as it did. -/
def worldAddBodySpec : ChangeSpec := { name := "worldAddBody", fn := fun _ => fun
  | [d1, d2, d3] => { results := [.lit (.bool true)], args := [d1, d2, d3] }
  | _ => none }
def worldAddBodyRow : OpenClaim := { program := "ytacajmmjdefplaagreat", sum := "13078d883a9f6fdf7018ae86f2f43bac684fb06e856a61919b5c265040a8684e", func := "carom/caromlaw25.WorldAddBody", spec := "worldAddBody", unfollowed := true, recurses := true, apart := false }
def WorldAddBodySaid : Prop := worldAddBodyRow.holds Tryz.pinned (OpenSpec.ofChange worldAddBodySpec)

/-- ITS FALSE NEIGHBOUR: 'it returns false'. Refute it at one input. -/
def worldAddBodyWrong : ChangeSpec := { name := "worldAddBody", fn := fun _ => fun
  | [d1, d2, d3] => { results := [.lit (.bool false)], args := [d1, d2, d3] }
  | _ => none }
def WorldAddBodyWrongFalsely : Prop := worldAddBodyRow.holds Tryz.pinned (OpenSpec.ofChange worldAddBodyWrong)

/-- 'caromlaw25.WorldJoints': WHATEVER THE INPUT: true; the input reads as it did. -/
def worldJointsSpec : ChangeSpec := { name := "worldJoints", fn := fun _ => fun
  | [d1, d2, d3] => { results := [.lit (.bool true)], args := [d1, d2, d3] }
  | _ => none }
def worldJointsRow : OpenClaim := { program := "ytacajmmjdefplaagreat", sum := "13078d883a9f6fdf7018ae86f2f43bac684fb06e856a61919b5c265040a8684e", func := "carom/caromlaw25.WorldJoints", spec := "worldJoints", unfollowed := true, recurses := true, apart := false }
def WorldJointsSaid : Prop := worldJointsRow.holds Tryz.pinned (OpenSpec.ofChange worldJointsSpec)

/-- ITS FALSE NEIGHBOUR: 'it returns false'. Refute it at one input. -/
def worldJointsWrong : ChangeSpec := { name := "worldJoints", fn := fun _ => fun
  | [d1, d2, d3] => { results := [.lit (.bool false)], args := [d1, d2, d3] }
  | _ => none }
def WorldJointsWrongFalsely : Prop := worldJointsRow.holds Tryz.pinned (OpenSpec.ofChange worldJointsWrong)

/-- 'caromlaw25.WorldCloneEqual': WHATEVER THE INPUT: true; the input reads as it did. -/
def worldCloneEqualSpec : ChangeSpec := { name := "worldCloneEqual", fn := fun _ => fun
  | [d1, d2, d3] => { results := [.lit (.bool true)], args := [d1, d2, d3] }
  | _ => none }
def worldCloneEqualRow : OpenClaim := { program := "ytacajmmjdefplaagreat", sum := "13078d883a9f6fdf7018ae86f2f43bac684fb06e856a61919b5c265040a8684e", func := "carom/caromlaw25.WorldCloneEqual", spec := "worldCloneEqual", unfollowed := true, recurses := true, apart := false }
def WorldCloneEqualSaid : Prop := worldCloneEqualRow.holds Tryz.pinned (OpenSpec.ofChange worldCloneEqualSpec)

/-- ITS FALSE NEIGHBOUR: 'it returns false'. Refute it at one input. -/
def worldCloneEqualWrong : ChangeSpec := { name := "worldCloneEqual", fn := fun _ => fun
  | [d1, d2, d3] => { results := [.lit (.bool false)], args := [d1, d2, d3] }
  | _ => none }
def WorldCloneEqualWrongFalsely : Prop := worldCloneEqualRow.holds Tryz.pinned (OpenSpec.ofChange worldCloneEqualWrong)

/-- 'caromlaw25.WorldStaysValid': WHATEVER THE INPUT: true; the input reads as it did. -/
def worldStaysValidSpec : ChangeSpec := { name := "worldStaysValid", fn := fun _ => fun
  | [d1, d2, d3, d4] => { results := [.lit (.bool true)], args := [d1, d2, d3, d4] }
  | _ => none }
def worldStaysValidRow : OpenClaim := { program := "ytacajmmjdefplaagreat", sum := "13078d883a9f6fdf7018ae86f2f43bac684fb06e856a61919b5c265040a8684e", func := "carom/caromlaw25.WorldStaysValid", spec := "worldStaysValid", unfollowed := true, recurses := true, apart := false }
def WorldStaysValidSaid : Prop := worldStaysValidRow.holds Tryz.pinned (OpenSpec.ofChange worldStaysValidSpec)

/-- ITS FALSE NEIGHBOUR: 'it returns false'. Refute it at one input. -/
def worldStaysValidWrong : ChangeSpec := { name := "worldStaysValid", fn := fun _ => fun
  | [d1, d2, d3, d4] => { results := [.lit (.bool false)], args := [d1, d2, d3, d4] }
  | _ => none }
def WorldStaysValidWrongFalsely : Prop := worldStaysValidRow.holds Tryz.pinned (OpenSpec.ofChange worldStaysValidWrong)

/- THE SECOND FORM. 'bulk': how many values and letters a reading holds, each counted each time it is reached (what is shared counts as often as it is met; a slice's spare places count too). A statement '..UptoSaid' is the law's where the arguments, and the package variables that the reading takes, are together of bulk at most 1048576: NARROWER than '..Said'. Prove '..Said' where nothing that the law and all that it calls make is longer than what came in: it says more and counts as full. Else prove '..UptoSaid'. A law counts once. -/
mutual
def uptoBulk {H : Type} : DataW H → Nat
  | .lit (.string bytes) => bytes.length + 1
  | .lit _ => 1
  | .nil => 1
  | .ptr d => uptoBulk d + 1
  | .slice elems spare => uptoBulkAll elems + uptoBulkAll spare + 1
  | .agg parts => uptoBulkAll parts + 1
  | .iface _ d => uptoBulk d + 1
  | .map entries => uptoBulkEntries entries + 1
  | .held _ => 1
def uptoBulkAll {H : Type} : List (DataW H) → Nat
  | [] => 0
  | d :: r => uptoBulk d + uptoBulkAll r
def uptoBulkEntries {H : Type} : List (Lit × DataW H) → Nat
  | [] => 0
  | x :: r => uptoBulkEntry x + uptoBulkEntries r
def uptoBulkEntry {H : Type} : Lit × DataW H → Nat
  | (.string bytes, d) => bytes.length + uptoBulk d + 1
  | (_, d) => uptoBulk d + 1
 end
def uptoSmall : (H : Type) → List (DataW H) → Bool := fun _ ds => decide (uptoBulkAll ds ≤ 1048576)
def OpenSpec.upto (s : _root_.Go.ChangeSpec) : _root_.Go.OpenSpec := { _root_.Go.OpenSpec.ofChange s with cond := some uptoSmall }

/-- 'caromlaw25.WorldValidation', WHERE WHAT IT READS IS OF BULK AT MOST 1048576: true; the input reads as it did. -/
def worldValidationUptoRow : OpenClaim := { program := "ytacajmmjdefplaagreat", sum := "13078d883a9f6fdf7018ae86f2f43bac684fb06e856a61919b5c265040a8684e", func := "carom/caromlaw25.WorldValidation", spec := "worldValidation", unfollowed := true, recurses := true, apart := false, narrowed := true }
def WorldValidationUptoSaid : Prop := worldValidationUptoRow.holds Tryz.pinned (OpenSpec.upto worldValidationSpec)

/-- 'caromlaw25.WorldRemoveBody', WHERE WHAT IT READS IS OF BULK AT MOST 1048576: true; the input reads as it did. -/
def worldRemoveBodyUptoRow : OpenClaim := { program := "ytacajmmjdefplaagreat", sum := "13078d883a9f6fdf7018ae86f2f43bac684fb06e856a61919b5c265040a8684e", func := "carom/caromlaw25.WorldRemoveBody", spec := "worldRemoveBody", unfollowed := true, recurses := true, apart := false, narrowed := true }
def WorldRemoveBodyUptoSaid : Prop := worldRemoveBodyUptoRow.holds Tryz.pinned (OpenSpec.upto worldRemoveBodySpec)

/-- 'caromlaw25.WorldAddBody', WHERE WHAT IT READS IS OF BULK AT MOST 1048576: true; the input reads as it did. -/
def worldAddBodyUptoRow : OpenClaim := { program := "ytacajmmjdefplaagreat", sum := "13078d883a9f6fdf7018ae86f2f43bac684fb06e856a61919b5c265040a8684e", func := "carom/caromlaw25.WorldAddBody", spec := "worldAddBody", unfollowed := true, recurses := true, apart := false, narrowed := true }
def WorldAddBodyUptoSaid : Prop := worldAddBodyUptoRow.holds Tryz.pinned (OpenSpec.upto worldAddBodySpec)

/-- 'caromlaw25.WorldJoints', WHERE WHAT IT READS IS OF BULK AT MOST 1048576: true; the input reads as it did. -/
def worldJointsUptoRow : OpenClaim := { program := "ytacajmmjdefplaagreat", sum := "13078d883a9f6fdf7018ae86f2f43bac684fb06e856a61919b5c265040a8684e", func := "carom/caromlaw25.WorldJoints", spec := "worldJoints", unfollowed := true, recurses := true, apart := false, narrowed := true }
def WorldJointsUptoSaid : Prop := worldJointsUptoRow.holds Tryz.pinned (OpenSpec.upto worldJointsSpec)

/-- 'caromlaw25.WorldCloneEqual', WHERE WHAT IT READS IS OF BULK AT MOST 1048576: true; the input reads as it did. -/
def worldCloneEqualUptoRow : OpenClaim := { program := "ytacajmmjdefplaagreat", sum := "13078d883a9f6fdf7018ae86f2f43bac684fb06e856a61919b5c265040a8684e", func := "carom/caromlaw25.WorldCloneEqual", spec := "worldCloneEqual", unfollowed := true, recurses := true, apart := false, narrowed := true }
def WorldCloneEqualUptoSaid : Prop := worldCloneEqualUptoRow.holds Tryz.pinned (OpenSpec.upto worldCloneEqualSpec)

/-- 'caromlaw25.WorldStaysValid', WHERE WHAT IT READS IS OF BULK AT MOST 1048576: true; the input reads as it did. -/
def worldStaysValidUptoRow : OpenClaim := { program := "ytacajmmjdefplaagreat", sum := "13078d883a9f6fdf7018ae86f2f43bac684fb06e856a61919b5c265040a8684e", func := "carom/caromlaw25.WorldStaysValid", spec := "worldStaysValid", unfollowed := true, recurses := true, apart := false, narrowed := true }
def WorldStaysValidUptoSaid : Prop := worldStaysValidUptoRow.holds Tryz.pinned (OpenSpec.upto worldStaysValidSpec)

end Rows
end Go.Proofs.YtacajmmjdefplaaGreat
