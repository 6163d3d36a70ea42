/-
  No cell of these rows narrows 'for every input' (looked for: loops, veiled, ifaces, maps, wideKeys, modest, calm, conditions, laid).
  DERIVED. THE GIVEN ROWS OF THIS SEAT. 5 by the template 'for every input the law returns true; each argument reads behind the call as it read before'; 0 by the template 'total and deterministic' (their statements: YtpdnoblnfledeaaTotals.lean).
  GIVEN WITH THE SEED: the statements are not yours to turn. If you find one false, say at which input.
  Laid BY PROGRAM, IN A SANDBOX (cutbox-rows.mjs): the forced cells as the released guide's own fill.sh prints them over the translation 2c817695eea7dc63… (all of the seat's roots in one cut). By AI agents, Wed Nov 11 2026. No macro, syntax, notation, axiom, sorry.
-/
import Derived.Test.YtpdnoblnfledeaaChecked
import GoSem.Claim
import GoSem.ClaimJoined
import GoSem.ClaimMapViews
import Derived.JoinedTies
import Derived.KernelRfl
namespace Go.Proofs.Ytpdnoblnfledeaa
/- THE CELL 'sum', in the pinned program and in every row, IS THE sha256 OF THE DUMP (.gsa) THAT YtpdnoblnfledeaaProg.lean LOADS. Nothing in Lean hashes anything: it is a label: what it is worth is what the hold of that sum in a sandbox is worth. -/
noncomputable def Try.pinned : Pinned := { name := "ytpdnoblnfledeaa", sum := "2c817695eea7dc63d94dd2640a5c908f509e496e56f0ad03339f90ef07838b5a", checked := Try.checked }
namespace Rows
def none {H : Type} : Left H := { results := [], args := [] }

/-- 'caromlaw26.IntegrateUnchanged': WHATEVER THE INPUT: true; the input reads as it did. -/
def integrateUnchangedSpec : ChangeSpec := { name := "integrateUnchanged", fn := fun _ => fun
  | [d1, d2, d3] => { results := [.lit (.bool true)], args := [d1, d2, d3] }
  | _ => none }
def integrateUnchangedRow : OpenClaim := { program := "ytpdnoblnfledeaa", sum := "2c817695eea7dc63d94dd2640a5c908f509e496e56f0ad03339f90ef07838b5a", func := "carom/caromlaw26.IntegrateUnchanged", spec := "integrateUnchanged", unfollowed := true, recurses := true, apart := false }
def IntegrateUnchangedSaid : Prop := integrateUnchangedRow.holds Try.pinned (OpenSpec.ofChange integrateUnchangedSpec)

/-- ITS FALSE NEIGHBOUR: 'it returns false'. Refute it at one input. -/
def integrateUnchangedWrong : ChangeSpec := { name := "integrateUnchanged", fn := fun _ => fun
  | [d1, d2, d3] => { results := [.lit (.bool false)], args := [d1, d2, d3] }
  | _ => none }
def IntegrateUnchangedWrongFalsely : Prop := integrateUnchangedRow.holds Try.pinned (OpenSpec.ofChange integrateUnchangedWrong)

/-- 'caromlaw26.IntegrateValid': WHATEVER THE INPUT: true; the input reads as it did. -/
def integrateValidSpec : ChangeSpec := { name := "integrateValid", fn := fun _ => fun
  | [d1, d2, d3] => { results := [.lit (.bool true)], args := [d1, d2, d3] }
  | _ => none }
def integrateValidRow : OpenClaim := { program := "ytpdnoblnfledeaa", sum := "2c817695eea7dc63d94dd2640a5c908f509e496e56f0ad03339f90ef07838b5a", func := "carom/caromlaw26.IntegrateValid", spec := "integrateValid", unfollowed := true, recurses := true, apart := false }
def IntegrateValidSaid : Prop := integrateValidRow.holds Try.pinned (OpenSpec.ofChange integrateValidSpec)

/-- ITS FALSE NEIGHBOUR: 'it returns false'. Refute it at one input. -/
def integrateValidWrong : ChangeSpec := { name := "integrateValid", fn := fun _ => fun
  | [d1, d2, d3] => { results := [.lit (.bool false)], args := [d1, d2, d3] }
  | _ => none }
def IntegrateValidWrongFalsely : Prop := integrateValidRow.holds Try.pinned (OpenSpec.ofChange integrateValidWrong)

/-- 'caromlaw26.IntegrateStraight': WHATEVER THE INPUT: true; the input reads as it did. -/
def integrateStraightSpec : ChangeSpec := { name := "integrateStraight", fn := fun _ => fun
  | [d1, d2] => { results := [.lit (.bool true)], args := [d1, d2] }
  | _ => none }
def integrateStraightRow : OpenClaim := { program := "ytpdnoblnfledeaa", sum := "2c817695eea7dc63d94dd2640a5c908f509e496e56f0ad03339f90ef07838b5a", func := "carom/caromlaw26.IntegrateStraight", spec := "integrateStraight", unfollowed := true, recurses := true, apart := false }
def IntegrateStraightSaid : Prop := integrateStraightRow.holds Try.pinned (OpenSpec.ofChange integrateStraightSpec)

/-- ITS FALSE NEIGHBOUR: 'it returns false'. Refute it at one input. -/
def integrateStraightWrong : ChangeSpec := { name := "integrateStraight", fn := fun _ => fun
  | [d1, d2] => { results := [.lit (.bool false)], args := [d1, d2] }
  | _ => none }
def IntegrateStraightWrongFalsely : Prop := integrateStraightRow.holds Try.pinned (OpenSpec.ofChange integrateStraightWrong)

/-- 'caromlaw26.IntegrateDamping': WHATEVER THE INPUT: true; the input reads as it did. -/
def integrateDampingSpec : ChangeSpec := { name := "integrateDamping", fn := fun _ => fun
  | [d1, d2] => { results := [.lit (.bool true)], args := [d1, d2] }
  | _ => none }
def integrateDampingRow : OpenClaim := { program := "ytpdnoblnfledeaa", sum := "2c817695eea7dc63d94dd2640a5c908f509e496e56f0ad03339f90ef07838b5a", func := "carom/caromlaw26.IntegrateDamping", spec := "integrateDamping", unfollowed := true, recurses := true, apart := false }
def IntegrateDampingSaid : Prop := integrateDampingRow.holds Try.pinned (OpenSpec.ofChange integrateDampingSpec)

/-- ITS FALSE NEIGHBOUR: 'it returns false'. Refute it at one input. -/
def integrateDampingWrong : ChangeSpec := { name := "integrateDamping", fn := fun _ => fun
  | [d1, d2] => { results := [.lit (.bool false)], args := [d1, d2] }
  | _ => none }
def IntegrateDampingWrongFalsely : Prop := integrateDampingRow.holds Try.pinned (OpenSpec.ofChange integrateDampingWrong)

/-- 'caromlaw26.IntegrateFreeMotion': WHATEVER THE INPUT: true; the input reads as it did. -/
def integrateFreeMotionSpec : ChangeSpec := { name := "integrateFreeMotion", fn := fun _ => fun
  | [d1, d2] => { results := [.lit (.bool true)], args := [d1, d2] }
  | _ => none }
def integrateFreeMotionRow : OpenClaim := { program := "ytpdnoblnfledeaa", sum := "2c817695eea7dc63d94dd2640a5c908f509e496e56f0ad03339f90ef07838b5a", func := "carom/caromlaw26.IntegrateFreeMotion", spec := "integrateFreeMotion", unfollowed := true, recurses := true, apart := false }
def IntegrateFreeMotionSaid : Prop := integrateFreeMotionRow.holds Try.pinned (OpenSpec.ofChange integrateFreeMotionSpec)

/-- ITS FALSE NEIGHBOUR: 'it returns false'. Refute it at one input. -/
def integrateFreeMotionWrong : ChangeSpec := { name := "integrateFreeMotion", fn := fun _ => fun
  | [d1, d2] => { results := [.lit (.bool false)], args := [d1, d2] }
  | _ => none }
def IntegrateFreeMotionWrongFalsely : Prop := integrateFreeMotionRow.holds Try.pinned (OpenSpec.ofChange integrateFreeMotionWrong)

/- THE SECOND FORM. 'bulk': how many values and letters a reading holds, each counted each time it is reached (what is shared counts as often as it is met; a slice's spare places count too). A statement '..UptoSaid' is the law's where the arguments, and the package variables that the reading takes, are together of bulk at most 1048576: NARROWER than '..Said'. Prove '..Said' where nothing that the law and all that it calls make is longer than what came in: it says more and counts as full. Else prove '..UptoSaid'. A law counts once. -/
mutual
def uptoBulk {H : Type} : DataW H → Nat
  | .lit (.string bytes) => bytes.length + 1
  | .lit _ => 1
  | .nil => 1
  | .ptr d => uptoBulk d + 1
  | .slice elems spare => uptoBulkAll elems + uptoBulkAll spare + 1
  | .agg parts => uptoBulkAll parts + 1
  | .iface _ d => uptoBulk d + 1
  | .map entries => uptoBulkEntries entries + 1
  | .held _ => 1
def uptoBulkAll {H : Type} : List (DataW H) → Nat
  | [] => 0
  | d :: r => uptoBulk d + uptoBulkAll r
def uptoBulkEntries {H : Type} : List (Lit × DataW H) → Nat
  | [] => 0
  | x :: r => uptoBulkEntry x + uptoBulkEntries r
def uptoBulkEntry {H : Type} : Lit × DataW H → Nat
  | (.string bytes, d) => bytes.length + uptoBulk d + 1
  | (_, d) => uptoBulk d + 1
 end
def uptoSmall : (H : Type) → List (DataW H) → Bool := fun _ ds => decide (uptoBulkAll ds ≤ 1048576)
def OpenSpec.upto (s : _root_.Go.ChangeSpec) : _root_.Go.OpenSpec := { _root_.Go.OpenSpec.ofChange s with cond := some uptoSmall }

/-- 'caromlaw26.IntegrateUnchanged', WHERE WHAT IT READS IS OF BULK AT MOST 1048576: true; the input reads as it did. -/
def integrateUnchangedUptoRow : OpenClaim := { program := "ytpdnoblnfledeaa", sum := "2c817695eea7dc63d94dd2640a5c908f509e496e56f0ad03339f90ef07838b5a", func := "carom/caromlaw26.IntegrateUnchanged", spec := "integrateUnchanged", unfollowed := true, recurses := true, apart := false, narrowed := true }
def IntegrateUnchangedUptoSaid : Prop := integrateUnchangedUptoRow.holds Try.pinned (OpenSpec.upto integrateUnchangedSpec)

/-- 'caromlaw26.IntegrateValid', WHERE WHAT IT READS IS OF BULK AT MOST 1048576: true; the input reads as it did. -/
def integrateValidUptoRow : OpenClaim := { program := "ytpdnoblnfledeaa", sum := "2c817695eea7dc63d94dd2640a5c908f509e496e56f0ad03339f90ef07838b5a", func := "carom/caromlaw26.IntegrateValid", spec := "integrateValid", unfollowed := true, recurses := true, apart := false, narrowed := true }
def IntegrateValidUptoSaid : Prop := integrateValidUptoRow.holds Try.pinned (OpenSpec.upto integrateValidSpec)

/-- 'caromlaw26.IntegrateStraight', WHERE WHAT IT READS IS OF BULK AT MOST 1048576: true; the input reads as it did. -/
def integrateStraightUptoRow : OpenClaim := { program := "ytpdnoblnfledeaa", sum := "2c817695eea7dc63d94dd2640a5c908f509e496e56f0ad03339f90ef07838b5a", func := "carom/caromlaw26.IntegrateStraight", spec := "integrateStraight", unfollowed := true, recurses := true, apart := false, narrowed := true }
def IntegrateStraightUptoSaid : Prop := integrateStraightUptoRow.holds Try.pinned (OpenSpec.upto integrateStraightSpec)

/-- 'caromlaw26.IntegrateDamping', WHERE WHAT IT READS IS OF BULK AT MOST 1048576: true; the input reads as it did. -/
def integrateDampingUptoRow : OpenClaim := { program := "ytpdnoblnfledeaa", sum := "2c817695eea7dc63d94dd2640a5c908f509e496e56f0ad03339f90ef07838b5a", func := "carom/caromlaw26.IntegrateDamping", spec := "integrateDamping", unfollowed := true, recurses := true, apart := false, narrowed := true }
def IntegrateDampingUptoSaid : Prop := integrateDampingUptoRow.holds Try.pinned (OpenSpec.upto integrateDampingSpec)

/-- 'caromlaw26.IntegrateFreeMotion', WHERE WHAT IT READS IS OF BULK AT MOST 1048576: true; the input reads as it did. -/
def integrateFreeMotionUptoRow : OpenClaim := { program := "ytpdnoblnfledeaa", sum := "2c817695eea7dc63d94dd2640a5c908f509e496e56f0ad03339f90ef07838b5a", func := "carom/caromlaw26.IntegrateFreeMotion", spec := "integrateFreeMotion", unfollowed := true, recurses := true, apart := false, narrowed := true }
def IntegrateFreeMotionUptoSaid : Prop := integrateFreeMotionUptoRow.holds Try.pinned (OpenSpec.upto integrateFreeMotionSpec)

end Rows
end Go.Proofs.Ytpdnoblnfledeaa
