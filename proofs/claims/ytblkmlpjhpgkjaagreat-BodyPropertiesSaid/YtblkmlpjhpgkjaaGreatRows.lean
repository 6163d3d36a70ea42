/-
  No cell of these rows narrows 'for every input' (looked for: loops, veiled, ifaces, maps, wideKeys, modest, calm, conditions, laid).
  DERIVED. THE GIVEN ROWS OF THIS SEAT. 3 by the template 'for every input the law returns true; each argument reads behind the call as it read before'; 0 by the template 'total and deterministic' (their statements: YtblkmlpjhpgkjaaGreatTotals.lean).
  GIVEN WITH THE SEED: the statements are not yours to turn. If you find one false, say at which input.
  Laid BY PROGRAM, IN A SANDBOX (cutbox-rows.mjs): the forced cells as the released guide's own fill.sh prints them over the translation cd1a5d98f41a98be… (all of the seat's roots in one cut). By AI agents, Wed Nov 11 2026. No macro, syntax, notation, axiom, sorry.
-/
import Derived.Test.YtblkmlpjhpgkjaaGreatChecked
import GoSem.Claim
import GoSem.ClaimJoined
import GoSem.ClaimMapViews
import Derived.JoinedTies
import Derived.KernelRfl
namespace Go.Proofs.YtblkmlpjhpgkjaaGreat
/- THE CELL 'sum', in the pinned program and in every row, IS THE sha256 OF THE DUMP (.gsa) THAT YtblkmlpjhpgkjaaGreatProg.lean LOADS. Nothing in Lean hashes anything: it is a label: what it is worth is what the hold of that sum in a sandbox is worth. -/
noncomputable def Tryz.pinned : Pinned := { name := "ytblkmlpjhpgkjaagreat", sum := "cd1a5d98f41a98be7f88e9fb6874a8ce3fd449eff9dfe1115828714a36728f89", checked := Tryz.checked }
namespace Rows
def none {H : Type} : Left H := { results := [], args := [] }

/-- 'caromlaw23.BodyValidation': WHATEVER THE INPUT: true; the input reads as it did. -/
def bodyValidationSpec : ChangeSpec := { name := "bodyValidation", fn := fun _ => fun
  | [d1, d2] => { results := [.lit (.bool true)], args := [d1, d2] }
  | _ => none }
def bodyValidationRow : OpenClaim := { program := "ytblkmlpjhpgkjaagreat", sum := "cd1a5d98f41a98be7f88e9fb6874a8ce3fd449eff9dfe1115828714a36728f89", func := "carom/caromlaw23.BodyValidation", spec := "bodyValidation", unfollowed := true, recurses := true, apart := false }
def BodyValidationSaid : Prop := bodyValidationRow.holds Tryz.pinned (OpenSpec.ofChange bodyValidationSpec)

/-- ITS FALSE NEIGHBOUR: 'it returns false'. Refute it at one input. -/
def bodyValidationWrong : ChangeSpec := { name := "bodyValidation", fn := fun _ => fun
  | [d1, d2] => { results := [.lit (.bool false)], args := [d1, d2] }
  | _ => none }
def BodyValidationWrongFalsely : Prop := bodyValidationRow.holds Tryz.pinned (OpenSpec.ofChange bodyValidationWrong)

/-- 'caromlaw23.BodyProperties': WHATEVER THE INPUT: true; the input reads as it did. -/
def bodyPropertiesSpec : ChangeSpec := { name := "bodyProperties", fn := fun _ => fun
  | [d1, d2] => { results := [.lit (.bool true)], args := [d1, d2] }
  | _ => none }
def bodyPropertiesRow : OpenClaim := { program := "ytblkmlpjhpgkjaagreat", sum := "cd1a5d98f41a98be7f88e9fb6874a8ce3fd449eff9dfe1115828714a36728f89", func := "carom/caromlaw23.BodyProperties", spec := "bodyProperties", unfollowed := true, recurses := true, apart := false }
def BodyPropertiesSaid : Prop := bodyPropertiesRow.holds Tryz.pinned (OpenSpec.ofChange bodyPropertiesSpec)

/-- ITS FALSE NEIGHBOUR: 'it returns false'. Refute it at one input. -/
def bodyPropertiesWrong : ChangeSpec := { name := "bodyProperties", fn := fun _ => fun
  | [d1, d2] => { results := [.lit (.bool false)], args := [d1, d2] }
  | _ => none }
def BodyPropertiesWrongFalsely : Prop := bodyPropertiesRow.holds Tryz.pinned (OpenSpec.ofChange bodyPropertiesWrong)

/-- 'caromlaw23.BodyImpulses': WHATEVER THE INPUT: true; the input reads as it did. -/
def bodyImpulsesSpec : ChangeSpec := { name := "bodyImpulses", fn := fun _ => fun
  | [d1, d2, d3, d4] => { results := [.lit (.bool true)], args := [d1, d2, d3, d4] }
  | _ => none }
def bodyImpulsesRow : OpenClaim := { program := "ytblkmlpjhpgkjaagreat", sum := "cd1a5d98f41a98be7f88e9fb6874a8ce3fd449eff9dfe1115828714a36728f89", func := "carom/caromlaw23.BodyImpulses", spec := "bodyImpulses", unfollowed := true, recurses := true, apart := false }
def BodyImpulsesSaid : Prop := bodyImpulsesRow.holds Tryz.pinned (OpenSpec.ofChange bodyImpulsesSpec)

/-- ITS FALSE NEIGHBOUR: 'it returns false'. Refute it at one input. -/
def bodyImpulsesWrong : ChangeSpec := { name := "bodyImpulses", fn := fun _ => fun
  | [d1, d2, d3, d4] => { results := [.lit (.bool false)], args := [d1, d2, d3, d4] }
  | _ => none }
def BodyImpulsesWrongFalsely : Prop := bodyImpulsesRow.holds Tryz.pinned (OpenSpec.ofChange bodyImpulsesWrong)

/- THE SECOND FORM. 'bulk': how many values and letters a reading holds, each counted each time it is reached (what is shared counts as often as it is met; a slice's spare places count too). A statement '..UptoSaid' is the law's where the arguments, and the package variables that the reading takes, are together of bulk at most 1048576: NARROWER than '..Said'. Prove '..Said' where nothing that the law and all that it calls make is longer than what came in: it says more and counts as full. Else prove '..UptoSaid'. A law counts once. -/
mutual
def uptoBulk {H : Type} : DataW H → Nat
  | .lit (.string bytes) => bytes.length + 1
  | .lit _ => 1
  | .nil => 1
  | .ptr d => uptoBulk d + 1
  | .slice elems spare => uptoBulkAll elems + uptoBulkAll spare + 1
  | .agg parts => uptoBulkAll parts + 1
  | .iface _ d => uptoBulk d + 1
  | .map entries => uptoBulkEntries entries + 1
  | .held _ => 1
def uptoBulkAll {H : Type} : List (DataW H) → Nat
  | [] => 0
  | d :: r => uptoBulk d + uptoBulkAll r
def uptoBulkEntries {H : Type} : List (Lit × DataW H) → Nat
  | [] => 0
  | x :: r => uptoBulkEntry x + uptoBulkEntries r
def uptoBulkEntry {H : Type} : Lit × DataW H → Nat
  | (.string bytes, d) => bytes.length + uptoBulk d + 1
  | (_, d) => uptoBulk d + 1
 end
def uptoSmall : (H : Type) → List (DataW H) → Bool := fun _ ds => decide (uptoBulkAll ds ≤ 1048576)
def OpenSpec.upto (s : _root_.Go.ChangeSpec) : _root_.Go.OpenSpec := { _root_.Go.OpenSpec.ofChange s with cond := some uptoSmall }

/-- 'caromlaw23.BodyValidation', WHERE WHAT IT READS IS OF BULK AT MOST 1048576: true; the input reads as it did. -/
def bodyValidationUptoRow : OpenClaim := { program := "ytblkmlpjhpgkjaagreat", sum := "cd1a5d98f41a98be7f88e9fb6874a8ce3fd449eff9dfe1115828714a36728f89", func := "carom/caromlaw23.BodyValidation", spec := "bodyValidation", unfollowed := true, recurses := true, apart := false, narrowed := true }
def BodyValidationUptoSaid : Prop := bodyValidationUptoRow.holds Tryz.pinned (OpenSpec.upto bodyValidationSpec)

/-- 'caromlaw23.BodyProperties', WHERE WHAT IT READS IS OF BULK AT MOST 1048576: true; the input reads as it did. -/
def bodyPropertiesUptoRow : OpenClaim := { program := "ytblkmlpjhpgkjaagreat", sum := "cd1a5d98f41a98be7f88e9fb6874a8ce3fd449eff9dfe1115828714a36728f89", func := "carom/caromlaw23.BodyProperties", spec := "bodyProperties", unfollowed := true, recurses := true, apart := false, narrowed := true }
def BodyPropertiesUptoSaid : Prop := bodyPropertiesUptoRow.holds Tryz.pinned (OpenSpec.upto bodyPropertiesSpec)

/-- 'caromlaw23.BodyImpulses', WHERE WHAT IT READS IS OF BULK AT MOST 1048576: true; the input reads as it did. -/
def bodyImpulsesUptoRow : OpenClaim := { program := "ytblkmlpjhpgkjaagreat", sum := "cd1a5d98f41a98be7f88e9fb6874a8ce3fd449eff9dfe1115828714a36728f89", func := "carom/caromlaw23.BodyImpulses", spec := "bodyImpulses", unfollowed := true, recurses := true, apart := false, narrowed := true }
def BodyImpulsesUptoSaid : Prop := bodyImpulsesUptoRow.holds Tryz.pinned (OpenSpec.upto bodyImpulsesSpec)

end Rows
end Go.Proofs.YtblkmlpjhpgkjaaGreat
