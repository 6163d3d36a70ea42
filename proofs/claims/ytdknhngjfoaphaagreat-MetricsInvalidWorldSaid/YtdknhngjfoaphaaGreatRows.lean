/-
  No cell of these rows narrows 'for every input' (looked for: loops, veiled, ifaces, maps, wideKeys, modest, calm, conditions, laid).
  DERIVED. THE GIVEN ROWS OF THIS SEAT. 5 by the template 'for every input the law returns true; each argument reads behind the call as it read before'; 0 by the template 'total and deterministic' (their statements: YtdknhngjfoaphaaGreatTotals.lean).
  GIVEN WITH THE SEED: the statements are not yours to turn. If you find one false, say at which input.
  Laid BY PROGRAM, IN A SANDBOX (cutbox-rows.mjs): the forced cells as the released guide's own fill.sh prints them over the translation 8efd4e0d338407a5… (all of the seat's roots in one cut). By AI agents, Wed Nov 11 2026. No macro, syntax, notation, axiom, sorry.
-/
import Derived.Test.YtdknhngjfoaphaaGreatChecked
import GoSem.Claim
import GoSem.ClaimJoined
import GoSem.ClaimMapViews
import Derived.JoinedTies
import Derived.KernelRfl
namespace Go.Proofs.YtdknhngjfoaphaaGreat
/- THE CELL 'sum', in the pinned program and in every row, IS THE sha256 OF THE DUMP (.gsa) THAT YtdknhngjfoaphaaGreatProg.lean LOADS. Nothing in Lean hashes anything: it is a label: what it is worth is what the hold of that sum in a sandbox is worth. -/
noncomputable def Tryz.pinned : Pinned := { name := "ytdknhngjfoaphaagreat", sum := "8efd4e0d338407a5003c5c3ae263983ea685a61baa3aebd49b16e340207a2e02", checked := Tryz.checked }
namespace Rows
def none {H : Type} : Left H := { results := [], args := [] }

/-- 'caromlaw51.MetricsSleepingWorld': WHATEVER THE INPUT: true; the input reads as it did. -/
def metricsSleepingWorldSpec : ChangeSpec := { name := "metricsSleepingWorld", fn := fun _ => fun
  | [d] => { results := [.lit (.bool true)], args := [d] }
  | _ => none }
def metricsSleepingWorldRow : OpenClaim := { program := "ytdknhngjfoaphaagreat", sum := "8efd4e0d338407a5003c5c3ae263983ea685a61baa3aebd49b16e340207a2e02", func := "carom/caromlaw51.MetricsSleepingWorld", spec := "metricsSleepingWorld", unfollowed := true, recurses := true, apart := false }
def MetricsSleepingWorldSaid : Prop := metricsSleepingWorldRow.holds Tryz.pinned (OpenSpec.ofChange metricsSleepingWorldSpec)

/-- ITS FALSE NEIGHBOUR: 'it returns false'. Refute it at one input. -/
def metricsSleepingWorldWrong : ChangeSpec := { name := "metricsSleepingWorld", fn := fun _ => fun
  | [d] => { results := [.lit (.bool false)], args := [d] }
  | _ => none }
def MetricsSleepingWorldWrongFalsely : Prop := metricsSleepingWorldRow.holds Tryz.pinned (OpenSpec.ofChange metricsSleepingWorldWrong)

/-- 'caromlaw51.MetricsExact': WHATEVER THE INPUT: true; the input reads as it did. -/
def metricsExactSpec : ChangeSpec := { name := "metricsExact", fn := fun _ => fun
  | [d] => { results := [.lit (.bool true)], args := [d] }
  | _ => none }
def metricsExactRow : OpenClaim := { program := "ytdknhngjfoaphaagreat", sum := "8efd4e0d338407a5003c5c3ae263983ea685a61baa3aebd49b16e340207a2e02", func := "carom/caromlaw51.MetricsExact", spec := "metricsExact", unfollowed := true, recurses := true, apart := false }
def MetricsExactSaid : Prop := metricsExactRow.holds Tryz.pinned (OpenSpec.ofChange metricsExactSpec)

/-- ITS FALSE NEIGHBOUR: 'it returns false'. Refute it at one input. -/
def metricsExactWrong : ChangeSpec := { name := "metricsExact", fn := fun _ => fun
  | [d] => { results := [.lit (.bool false)], args := [d] }
  | _ => none }
def MetricsExactWrongFalsely : Prop := metricsExactRow.holds Tryz.pinned (OpenSpec.ofChange metricsExactWrong)

/-- 'caromlaw51.MetricsDynamicOnly': WHATEVER THE INPUT: true; the input reads as it did. -/
def metricsDynamicOnlySpec : ChangeSpec := { name := "metricsDynamicOnly", fn := fun _ => fun
  | [d] => { results := [.lit (.bool true)], args := [d] }
  | _ => none }
def metricsDynamicOnlyRow : OpenClaim := { program := "ytdknhngjfoaphaagreat", sum := "8efd4e0d338407a5003c5c3ae263983ea685a61baa3aebd49b16e340207a2e02", func := "carom/caromlaw51.MetricsDynamicOnly", spec := "metricsDynamicOnly", unfollowed := true, recurses := true, apart := false }
def MetricsDynamicOnlySaid : Prop := metricsDynamicOnlyRow.holds Tryz.pinned (OpenSpec.ofChange metricsDynamicOnlySpec)

/-- ITS FALSE NEIGHBOUR: 'it returns false'. Refute it at one input. -/
def metricsDynamicOnlyWrong : ChangeSpec := { name := "metricsDynamicOnly", fn := fun _ => fun
  | [d] => { results := [.lit (.bool false)], args := [d] }
  | _ => none }
def MetricsDynamicOnlyWrongFalsely : Prop := metricsDynamicOnlyRow.holds Tryz.pinned (OpenSpec.ofChange metricsDynamicOnlyWrong)

/-- 'caromlaw51.MetricsExtremes': WHATEVER THE INPUT: true; the input reads as it did. -/
def metricsExtremesSpec : ChangeSpec := { name := "metricsExtremes", fn := fun _ => fun
  | [d] => { results := [.lit (.bool true)], args := [d] }
  | _ => none }
def metricsExtremesRow : OpenClaim := { program := "ytdknhngjfoaphaagreat", sum := "8efd4e0d338407a5003c5c3ae263983ea685a61baa3aebd49b16e340207a2e02", func := "carom/caromlaw51.MetricsExtremes", spec := "metricsExtremes", unfollowed := true, recurses := true, apart := false }
def MetricsExtremesSaid : Prop := metricsExtremesRow.holds Tryz.pinned (OpenSpec.ofChange metricsExtremesSpec)

/-- ITS FALSE NEIGHBOUR: 'it returns false'. Refute it at one input. -/
def metricsExtremesWrong : ChangeSpec := { name := "metricsExtremes", fn := fun _ => fun
  | [d] => { results := [.lit (.bool false)], args := [d] }
  | _ => none }
def MetricsExtremesWrongFalsely : Prop := metricsExtremesRow.holds Tryz.pinned (OpenSpec.ofChange metricsExtremesWrong)

/-- 'caromlaw51.MetricsInvalidWorld': WHATEVER THE INPUT: true; the input reads as it did. -/
def metricsInvalidWorldSpec : ChangeSpec := { name := "metricsInvalidWorld", fn := fun _ => fun
  | [d] => { results := [.lit (.bool true)], args := [d] }
  | _ => none }
def metricsInvalidWorldRow : OpenClaim := { program := "ytdknhngjfoaphaagreat", sum := "8efd4e0d338407a5003c5c3ae263983ea685a61baa3aebd49b16e340207a2e02", func := "carom/caromlaw51.MetricsInvalidWorld", spec := "metricsInvalidWorld", unfollowed := true, recurses := true, apart := false }
def MetricsInvalidWorldSaid : Prop := metricsInvalidWorldRow.holds Tryz.pinned (OpenSpec.ofChange metricsInvalidWorldSpec)

/-- ITS FALSE NEIGHBOUR: 'it returns false'. Refute it at one input. -/
def metricsInvalidWorldWrong : ChangeSpec := { name := "metricsInvalidWorld", fn := fun _ => fun
  | [d] => { results := [.lit (.bool false)], args := [d] }
  | _ => none }
def MetricsInvalidWorldWrongFalsely : Prop := metricsInvalidWorldRow.holds Tryz.pinned (OpenSpec.ofChange metricsInvalidWorldWrong)

/- THE SECOND FORM. 'bulk': how many values and letters a reading holds, each counted each time it is reached (what is shared counts as often as it is met; a slice's spare places count too). A statement '..UptoSaid' is the law's where the arguments, and the package variables that the reading takes, are together of bulk at most 1048576: NARROWER than '..Said'. Prove '..Said' where nothing that the law and all that it calls make is longer than what came in: it says more and counts as full. Else prove '..UptoSaid'. A law counts once. -/
mutual
def uptoBulk {H : Type} : DataW H → Nat
  | .lit (.string bytes) => bytes.length + 1
  | .lit _ => 1
  | .nil => 1
  | .ptr d => uptoBulk d + 1
  | .slice elems spare => uptoBulkAll elems + uptoBulkAll spare + 1
  | .agg parts => uptoBulkAll parts + 1
  | .iface _ d => uptoBulk d + 1
  | .map entries => uptoBulkEntries entries + 1
  | .held _ => 1
def uptoBulkAll {H : Type} : List (DataW H) → Nat
  | [] => 0
  | d :: r => uptoBulk d + uptoBulkAll r
def uptoBulkEntries {H : Type} : List (Lit × DataW H) → Nat
  | [] => 0
  | x :: r => uptoBulkEntry x + uptoBulkEntries r
def uptoBulkEntry {H : Type} : Lit × DataW H → Nat
  | (.string bytes, d) => bytes.length + uptoBulk d + 1
  | (_, d) => uptoBulk d + 1
 end
def uptoSmall : (H : Type) → List (DataW H) → Bool := fun _ ds => decide (uptoBulkAll ds ≤ 1048576)
def OpenSpec.upto (s : _root_.Go.ChangeSpec) : _root_.Go.OpenSpec := { _root_.Go.OpenSpec.ofChange s with cond := some uptoSmall }

/-- 'caromlaw51.MetricsSleepingWorld', WHERE WHAT IT READS IS OF BULK AT MOST 1048576: true; the input reads as it did. -/
def metricsSleepingWorldUptoRow : OpenClaim := { program := "ytdknhngjfoaphaagreat", sum := "8efd4e0d338407a5003c5c3ae263983ea685a61baa3aebd49b16e340207a2e02", func := "carom/caromlaw51.MetricsSleepingWorld", spec := "metricsSleepingWorld", unfollowed := true, recurses := true, apart := false, narrowed := true }
def MetricsSleepingWorldUptoSaid : Prop := metricsSleepingWorldUptoRow.holds Tryz.pinned (OpenSpec.upto metricsSleepingWorldSpec)

/-- 'caromlaw51.MetricsExact', WHERE WHAT IT READS IS OF BULK AT MOST 1048576: true; the input reads as it did. -/
def metricsExactUptoRow : OpenClaim := { program := "ytdknhngjfoaphaagreat", sum := "8efd4e0d338407a5003c5c3ae263983ea685a61baa3aebd49b16e340207a2e02", func := "carom/caromlaw51.MetricsExact", spec := "metricsExact", unfollowed := true, recurses := true, apart := false, narrowed := true }
def MetricsExactUptoSaid : Prop := metricsExactUptoRow.holds Tryz.pinned (OpenSpec.upto metricsExactSpec)

/-- 'caromlaw51.MetricsDynamicOnly', WHERE WHAT IT READS IS OF BULK AT MOST 1048576: true; the input reads as it did. -/
def metricsDynamicOnlyUptoRow : OpenClaim := { program := "ytdknhngjfoaphaagreat", sum := "8efd4e0d338407a5003c5c3ae263983ea685a61baa3aebd49b16e340207a2e02", func := "carom/caromlaw51.MetricsDynamicOnly", spec := "metricsDynamicOnly", unfollowed := true, recurses := true, apart := false, narrowed := true }
def MetricsDynamicOnlyUptoSaid : Prop := metricsDynamicOnlyUptoRow.holds Tryz.pinned (OpenSpec.upto metricsDynamicOnlySpec)

/-- 'caromlaw51.MetricsExtremes', WHERE WHAT IT READS IS OF BULK AT MOST 1048576: true; the input reads as it did. -/
def metricsExtremesUptoRow : OpenClaim := { program := "ytdknhngjfoaphaagreat", sum := "8efd4e0d338407a5003c5c3ae263983ea685a61baa3aebd49b16e340207a2e02", func := "carom/caromlaw51.MetricsExtremes", spec := "metricsExtremes", unfollowed := true, recurses := true, apart := false, narrowed := true }
def MetricsExtremesUptoSaid : Prop := metricsExtremesUptoRow.holds Tryz.pinned (OpenSpec.upto metricsExtremesSpec)

/-- 'caromlaw51.MetricsInvalidWorld', WHERE WHAT IT READS IS OF BULK AT MOST 1048576: true; the input reads as it did. -/
def metricsInvalidWorldUptoRow : OpenClaim := { program := "ytdknhngjfoaphaagreat", sum := "8efd4e0d338407a5003c5c3ae263983ea685a61baa3aebd49b16e340207a2e02", func := "carom/caromlaw51.MetricsInvalidWorld", spec := "metricsInvalidWorld", unfollowed := true, recurses := true, apart := false, narrowed := true }
def MetricsInvalidWorldUptoSaid : Prop := metricsInvalidWorldUptoRow.holds Tryz.pinned (OpenSpec.upto metricsInvalidWorldSpec)

end Rows
end Go.Proofs.YtdknhngjfoaphaaGreat
