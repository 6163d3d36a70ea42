/-
  No cell of these rows narrows 'for every input' (looked for: loops, veiled, ifaces, maps, wideKeys, modest, calm, conditions, laid).
  DERIVED. THE GIVEN ROWS OF THIS SEAT. 4 by the template 'for every input the law returns true; each argument reads behind the call as it read before'; 0 by the template 'total and deterministic' (their statements: YtblkmlpjhpgkjaaTotals.lean).
  GIVEN WITH THE SEED: the statements are not yours to turn. If you find one false, say at which input.
  Laid BY PROGRAM, IN A SANDBOX (cutbox-rows.mjs): the forced cells as the released guide's own fill.sh prints them over the translation 70e6249145d40869… (all of the seat's roots in one cut). By AI agents, Wed Nov 11 2026. No macro, syntax, notation, axiom, sorry.
-/
import Derived.Test.YtblkmlpjhpgkjaaChecked
import GoSem.Claim
import GoSem.ClaimJoined
import GoSem.ClaimMapViews
import Derived.JoinedTies
import Derived.KernelRfl
namespace Go.Proofs.Ytblkmlpjhpgkjaa
/- THE CELL 'sum', in the pinned program and in every row, IS THE sha256 OF THE DUMP (.gsa) THAT YtblkmlpjhpgkjaaProg.lean LOADS. Nothing in Lean hashes anything: it is a label: what it is worth is what the hold of that sum in a sandbox is worth. -/
noncomputable def Try.pinned : Pinned := { name := "ytblkmlpjhpgkjaa", sum := "70e6249145d4086921ed96f2837c59343475cdb9a96d4f6fe659237825283316", checked := Try.checked }
namespace Rows
def none {H : Type} : Left H := { results := [], args := [] }

/-- 'caromlaw23.BodyCloneEqual': WHATEVER THE INPUT: true; the input reads as it did. -/
def bodyCloneEqualSpec : ChangeSpec := { name := "bodyCloneEqual", fn := fun _ => fun
  | [d1, d2, d3] => { results := [.lit (.bool true)], args := [d1, d2, d3] }
  | _ => none }
def bodyCloneEqualRow : OpenClaim := { program := "ytblkmlpjhpgkjaa", sum := "70e6249145d4086921ed96f2837c59343475cdb9a96d4f6fe659237825283316", func := "carom/caromlaw23.BodyCloneEqual", spec := "bodyCloneEqual", unfollowed := true, recurses := true, apart := false }
def BodyCloneEqualSaid : Prop := bodyCloneEqualRow.holds Try.pinned (OpenSpec.ofChange bodyCloneEqualSpec)

/-- ITS FALSE NEIGHBOUR: 'it returns false'. Refute it at one input. -/
def bodyCloneEqualWrong : ChangeSpec := { name := "bodyCloneEqual", fn := fun _ => fun
  | [d1, d2, d3] => { results := [.lit (.bool false)], args := [d1, d2, d3] }
  | _ => none }
def BodyCloneEqualWrongFalsely : Prop := bodyCloneEqualRow.holds Try.pinned (OpenSpec.ofChange bodyCloneEqualWrong)

/-- 'caromlaw23.BodyImpulseValid': WHATEVER THE INPUT: true; the input reads as it did. -/
def bodyImpulseValidSpec : ChangeSpec := { name := "bodyImpulseValid", fn := fun _ => fun
  | [d1, d2, d3, d4] => { results := [.lit (.bool true)], args := [d1, d2, d3, d4] }
  | _ => none }
def bodyImpulseValidRow : OpenClaim := { program := "ytblkmlpjhpgkjaa", sum := "70e6249145d4086921ed96f2837c59343475cdb9a96d4f6fe659237825283316", func := "carom/caromlaw23.BodyImpulseValid", spec := "bodyImpulseValid", unfollowed := true, recurses := true, apart := false }
def BodyImpulseValidSaid : Prop := bodyImpulseValidRow.holds Try.pinned (OpenSpec.ofChange bodyImpulseValidSpec)

/-- ITS FALSE NEIGHBOUR: 'it returns false'. Refute it at one input. -/
def bodyImpulseValidWrong : ChangeSpec := { name := "bodyImpulseValid", fn := fun _ => fun
  | [d1, d2, d3, d4] => { results := [.lit (.bool false)], args := [d1, d2, d3, d4] }
  | _ => none }
def BodyImpulseValidWrongFalsely : Prop := bodyImpulseValidRow.holds Try.pinned (OpenSpec.ofChange bodyImpulseValidWrong)

/-- 'caromlaw23.BodyOppositeImpulse': WHATEVER THE INPUT: true; the input reads as it did. -/
def bodyOppositeImpulseSpec : ChangeSpec := { name := "bodyOppositeImpulse", fn := fun _ => fun
  | [d1, d2, d3, d4] => { results := [.lit (.bool true)], args := [d1, d2, d3, d4] }
  | _ => none }
def bodyOppositeImpulseRow : OpenClaim := { program := "ytblkmlpjhpgkjaa", sum := "70e6249145d4086921ed96f2837c59343475cdb9a96d4f6fe659237825283316", func := "carom/caromlaw23.BodyOppositeImpulse", spec := "bodyOppositeImpulse", unfollowed := true, recurses := true, apart := false }
def BodyOppositeImpulseSaid : Prop := bodyOppositeImpulseRow.holds Try.pinned (OpenSpec.ofChange bodyOppositeImpulseSpec)

/-- ITS FALSE NEIGHBOUR: 'it returns false'. Refute it at one input. -/
def bodyOppositeImpulseWrong : ChangeSpec := { name := "bodyOppositeImpulse", fn := fun _ => fun
  | [d1, d2, d3, d4] => { results := [.lit (.bool false)], args := [d1, d2, d3, d4] }
  | _ => none }
def BodyOppositeImpulseWrongFalsely : Prop := bodyOppositeImpulseRow.holds Try.pinned (OpenSpec.ofChange bodyOppositeImpulseWrong)

/-- 'caromlaw23.BodyFixtureAt': WHATEVER THE INPUT: true; the input reads as it did. -/
def bodyFixtureAtSpec : ChangeSpec := { name := "bodyFixtureAt", fn := fun _ => fun
  | [d1, d2] => { results := [.lit (.bool true)], args := [d1, d2] }
  | _ => none }
def bodyFixtureAtRow : OpenClaim := { program := "ytblkmlpjhpgkjaa", sum := "70e6249145d4086921ed96f2837c59343475cdb9a96d4f6fe659237825283316", func := "carom/caromlaw23.BodyFixtureAt", spec := "bodyFixtureAt", unfollowed := true, recurses := true, apart := false }
def BodyFixtureAtSaid : Prop := bodyFixtureAtRow.holds Try.pinned (OpenSpec.ofChange bodyFixtureAtSpec)

/-- ITS FALSE NEIGHBOUR: 'it returns false'. Refute it at one input. -/
def bodyFixtureAtWrong : ChangeSpec := { name := "bodyFixtureAt", fn := fun _ => fun
  | [d1, d2] => { results := [.lit (.bool false)], args := [d1, d2] }
  | _ => none }
def BodyFixtureAtWrongFalsely : Prop := bodyFixtureAtRow.holds Try.pinned (OpenSpec.ofChange bodyFixtureAtWrong)

/- THE SECOND FORM. 'bulk': how many values and letters a reading holds, each counted each time it is reached (what is shared counts as often as it is met; a slice's spare places count too). A statement '..UptoSaid' is the law's where the arguments, and the package variables that the reading takes, are together of bulk at most 1048576: NARROWER than '..Said'. Prove '..Said' where nothing that the law and all that it calls make is longer than what came in: it says more and counts as full. Else prove '..UptoSaid'. A law counts once. -/
mutual
def uptoBulk {H : Type} : DataW H → Nat
  | .lit (.string bytes) => bytes.length + 1
  | .lit _ => 1
  | .nil => 1
  | .ptr d => uptoBulk d + 1
  | .slice elems spare => uptoBulkAll elems + uptoBulkAll spare + 1
  | .agg parts => uptoBulkAll parts + 1
  | .iface _ d => uptoBulk d + 1
  | .map entries => uptoBulkEntries entries + 1
  | .held _ => 1
def uptoBulkAll {H : Type} : List (DataW H) → Nat
  | [] => 0
  | d :: r => uptoBulk d + uptoBulkAll r
def uptoBulkEntries {H : Type} : List (Lit × DataW H) → Nat
  | [] => 0
  | x :: r => uptoBulkEntry x + uptoBulkEntries r
def uptoBulkEntry {H : Type} : Lit × DataW H → Nat
  | (.string bytes, d) => bytes.length + uptoBulk d + 1
  | (_, d) => uptoBulk d + 1
 end
def uptoSmall : (H : Type) → List (DataW H) → Bool := fun _ ds => decide (uptoBulkAll ds ≤ 1048576)
def OpenSpec.upto (s : _root_.Go.ChangeSpec) : _root_.Go.OpenSpec := { _root_.Go.OpenSpec.ofChange s with cond := some uptoSmall }

/-- 'caromlaw23.BodyCloneEqual', WHERE WHAT IT READS IS OF BULK AT MOST 1048576: true; the input reads as it did. -/
def bodyCloneEqualUptoRow : OpenClaim := { program := "ytblkmlpjhpgkjaa", sum := "70e6249145d4086921ed96f2837c59343475cdb9a96d4f6fe659237825283316", func := "carom/caromlaw23.BodyCloneEqual", spec := "bodyCloneEqual", unfollowed := true, recurses := true, apart := false, narrowed := true }
def BodyCloneEqualUptoSaid : Prop := bodyCloneEqualUptoRow.holds Try.pinned (OpenSpec.upto bodyCloneEqualSpec)

/-- 'caromlaw23.BodyImpulseValid', WHERE WHAT IT READS IS OF BULK AT MOST 1048576: true; the input reads as it did. -/
def bodyImpulseValidUptoRow : OpenClaim := { program := "ytblkmlpjhpgkjaa", sum := "70e6249145d4086921ed96f2837c59343475cdb9a96d4f6fe659237825283316", func := "carom/caromlaw23.BodyImpulseValid", spec := "bodyImpulseValid", unfollowed := true, recurses := true, apart := false, narrowed := true }
def BodyImpulseValidUptoSaid : Prop := bodyImpulseValidUptoRow.holds Try.pinned (OpenSpec.upto bodyImpulseValidSpec)

/-- 'caromlaw23.BodyOppositeImpulse', WHERE WHAT IT READS IS OF BULK AT MOST 1048576: true; the input reads as it did. -/
def bodyOppositeImpulseUptoRow : OpenClaim := { program := "ytblkmlpjhpgkjaa", sum := "70e6249145d4086921ed96f2837c59343475cdb9a96d4f6fe659237825283316", func := "carom/caromlaw23.BodyOppositeImpulse", spec := "bodyOppositeImpulse", unfollowed := true, recurses := true, apart := false, narrowed := true }
def BodyOppositeImpulseUptoSaid : Prop := bodyOppositeImpulseUptoRow.holds Try.pinned (OpenSpec.upto bodyOppositeImpulseSpec)

/-- 'caromlaw23.BodyFixtureAt', WHERE WHAT IT READS IS OF BULK AT MOST 1048576: true; the input reads as it did. -/
def bodyFixtureAtUptoRow : OpenClaim := { program := "ytblkmlpjhpgkjaa", sum := "70e6249145d4086921ed96f2837c59343475cdb9a96d4f6fe659237825283316", func := "carom/caromlaw23.BodyFixtureAt", spec := "bodyFixtureAt", unfollowed := true, recurses := true, apart := false, narrowed := true }
def BodyFixtureAtUptoSaid : Prop := bodyFixtureAtUptoRow.holds Try.pinned (OpenSpec.upto bodyFixtureAtSpec)

end Rows
end Go.Proofs.Ytblkmlpjhpgkjaa
