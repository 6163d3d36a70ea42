/- BodyFixtureAt: for every input the law returns true; each argument reads behind the call as it read before. No conditions. -/
import Derived.Test.YtblkmlpjhpgkjaaCxU
import Derived.Test.YtblkmlpjhpgkjaaF23W
import Derived.Test.YtblkmlpjhpgkjaaF23W1
import Derived.Test.YtblkmlpjhpgkjaaF23W2
import Derived.Test.YtblkmlpjhpgkjaaF23W3
import Derived.Test.YtblkmlpjhpgkjaaF23T5
import Derived.Test.YtblkmlpjhpgkjaaRows
set_option linter.all false
set_option maxRecDepth 100000
namespace Go.Proofs.Ytblkmlpjhpgkjaa
open Go.Cx GoForm Go.ChangeShapes Go.WideShapes Go.ChangeAt Go.RowKit
theorem own : ownKnob Try.prog.godebug = none := by kernel_rfl
theorem laidOut : laidOutB Try.prog = true := by kernel_rfl
theorem op3 (W : World) : Opens Try.prog W 3 (fun (x : Int) => [(iAV x)]) (fun (x : Int) => (IntKind.i64.min ≤ x ∧ x ≤ IntKind.i64.max)) := opens_int Try.underlying3
theorem op4 (W : World) : Opens Try.prog W 4 (fun (x : Bool) => [(boolAV x)]) (fun (x : Bool) => True) := opens_bool Try.underlying4
theorem op24 (W : World) : Opens Try.prog W 24 (fun (x : Vec) => (Vec.cells x)) (fun (x : Vec) => Vec.Wf x) := opens_struct (N := 2) (fun b => ⟨b.1, b.2⟩) Try.underlying24 (by kernel_rfl) (opensF_cons (i := 0) (off := 0) (off' := 1) (n := 1) (N := 2) rfl rfl (by kernel_rfl) rfl (op3 W) (opensF_last (i := 1) (off := 1) (n := 1) rfl rfl (by kernel_rfl) (op3 W))) (fun _ => rfl) (fun _ h => h)
theorem op35 (W : World) : Opens Try.prog W 35 (fun (x : List Vec) => [((slAV 2 Vec.av) x)]) (fun (x : List Vec) => ((∀ a ∈ x, Vec.Wf a) ∧ (x).length ≤ 9223372036854775807)) := opens_slice (sz := 2) Try.underlying35 (by kernel_rfl) (by decide) (op24 W) (fun _ => rfl) (fun _ => rfl)
theorem op34 (W : World) : Opens Try.prog W 34 (fun (x : Int) => [(iAV x)]) (fun (x : Int) => (IntKind.i64.min ≤ x ∧ x ≤ IntKind.i64.max)) := opens_int Try.underlying34
theorem op37 (W : World) : Opens Try.prog W 37 (fun (x : Shape) => (Shape.cells x)) (fun (x : Shape) => Shape.Wf x) := opens_struct (N := 3) (fun b => ⟨b.1, b.2.1, b.2.2⟩) Try.underlying37 (by kernel_rfl) (opensF_cons (i := 0) (off := 0) (off' := 1) (n := 1) (N := 3) rfl rfl (by kernel_rfl) rfl (op34 W) (opensF_cons (i := 1) (off := 1) (off' := 2) (n := 1) (N := 3) rfl rfl (by kernel_rfl) rfl (op3 W) (opensF_last (i := 2) (off := 2) (n := 1) rfl rfl (by kernel_rfl) (op35 W)))) (fun _ => rfl) (fun _ h => h)
theorem op39 (W : World) : Opens Try.prog W 39 (fun (x : Fixture) => (Fixture.cells x)) (fun (x : Fixture) => Fixture.Wf x) := opens_struct (N := 10) (fun b => ⟨b.1, b.2.1, b.2.2.1, b.2.2.2.1, b.2.2.2.2.1, b.2.2.2.2.2.1, b.2.2.2.2.2.2.1, b.2.2.2.2.2.2.2⟩) Try.underlying39 (by kernel_rfl) (opensF_cons (i := 0) (off := 0) (off' := 3) (n := 3) (N := 10) rfl rfl (by kernel_rfl) rfl (op37 W) (opensF_cons (i := 1) (off := 3) (off' := 4) (n := 1) (N := 10) rfl rfl (by kernel_rfl) rfl (op3 W) (opensF_cons (i := 2) (off := 4) (off' := 5) (n := 1) (N := 10) rfl rfl (by kernel_rfl) rfl (op3 W) (opensF_cons (i := 3) (off := 5) (off' := 6) (n := 1) (N := 10) rfl rfl (by kernel_rfl) rfl (op3 W) (opensF_cons (i := 4) (off := 6) (off' := 7) (n := 1) (N := 10) rfl rfl (by kernel_rfl) rfl (op4 W) (opensF_cons (i := 5) (off := 7) (off' := 8) (n := 1) (N := 10) rfl rfl (by kernel_rfl) rfl (op3 W) (opensF_cons (i := 6) (off := 8) (off' := 9) (n := 1) (N := 10) rfl rfl (by kernel_rfl) rfl (op3 W) (opensF_last (i := 7) (off := 9) (n := 1) rfl rfl (by kernel_rfl) (op3 W))))))))) (fun _ => rfl) (fun _ h => h)
theorem op27 (W : World) : Opens Try.prog W 27 (fun (x : List Fixture) => [((slAV 10 Fixture.av) x)]) (fun (x : List Fixture) => ((∀ a ∈ x, Fixture.Wf a) ∧ (x).length ≤ 9223372036854775807)) := opens_slice (sz := 10) Try.underlying27 (by kernel_rfl) (by decide) (op39 W) (fun _ => rfl) (fun _ => rfl)
theorem op26 (W : World) : Opens Try.prog W 26 (fun (x : Transform) => (Transform.cells x)) (fun (x : Transform) => Transform.Wf x) := opens_struct (N := 3) (fun b => ⟨b.1, b.2⟩) Try.underlying26 (by kernel_rfl) (opensF_cons (i := 0) (off := 0) (off' := 2) (n := 2) (N := 3) rfl rfl (by kernel_rfl) rfl (op24 W) (opensF_last (i := 1) (off := 2) (n := 1) rfl rfl (by kernel_rfl) (op3 W))) (fun _ => rfl) (fun _ h => h)
theorem op22 (W : World) : Opens Try.prog W 22 (fun (x : Int) => [(iAV x)]) (fun (x : Int) => (IntKind.i64.min ≤ x ∧ x ≤ IntKind.i64.max)) := opens_int Try.underlying22
theorem op29 (W : World) : Opens Try.prog W 29 (fun (x : Body) => (Body.cells x)) (fun (x : Body) => Body.Wf x) := opens_struct (N := 20) (fun b => ⟨b.1, b.2.1, b.2.2.1, b.2.2.2.1, b.2.2.2.2.1, b.2.2.2.2.2.1, b.2.2.2.2.2.2.1, b.2.2.2.2.2.2.2.1, b.2.2.2.2.2.2.2.2.1, b.2.2.2.2.2.2.2.2.2.1, b.2.2.2.2.2.2.2.2.2.2.1, b.2.2.2.2.2.2.2.2.2.2.2.1, b.2.2.2.2.2.2.2.2.2.2.2.2.1, b.2.2.2.2.2.2.2.2.2.2.2.2.2.1, b.2.2.2.2.2.2.2.2.2.2.2.2.2.2.1, b.2.2.2.2.2.2.2.2.2.2.2.2.2.2.2⟩) Try.underlying29 (by kernel_rfl) (opensF_cons (i := 0) (off := 0) (off' := 1) (n := 1) (N := 20) rfl rfl (by kernel_rfl) rfl (op3 W) (opensF_cons (i := 1) (off := 1) (off' := 2) (n := 1) (N := 20) rfl rfl (by kernel_rfl) rfl (op22 W) (opensF_cons (i := 2) (off := 2) (off' := 5) (n := 3) (N := 20) rfl rfl (by kernel_rfl) rfl (op26 W) (opensF_cons (i := 3) (off := 5) (off' := 7) (n := 2) (N := 20) rfl rfl (by kernel_rfl) rfl (op24 W) (opensF_cons (i := 4) (off := 7) (off' := 8) (n := 1) (N := 20) rfl rfl (by kernel_rfl) rfl (op3 W) (opensF_cons (i := 5) (off := 8) (off' := 10) (n := 2) (N := 20) rfl rfl (by kernel_rfl) rfl (op24 W) (opensF_cons (i := 6) (off := 10) (off' := 11) (n := 1) (N := 20) rfl rfl (by kernel_rfl) rfl (op3 W) (opensF_cons (i := 7) (off := 11) (off' := 12) (n := 1) (N := 20) rfl rfl (by kernel_rfl) rfl (op3 W) (opensF_cons (i := 8) (off := 12) (off' := 13) (n := 1) (N := 20) rfl rfl (by kernel_rfl) rfl (op3 W) (opensF_cons (i := 9) (off := 13) (off' := 14) (n := 1) (N := 20) rfl rfl (by kernel_rfl) rfl (op3 W) (opensF_cons (i := 10) (off := 14) (off' := 15) (n := 1) (N := 20) rfl rfl (by kernel_rfl) rfl (op4 W) (opensF_cons (i := 11) (off := 15) (off' := 16) (n := 1) (N := 20) rfl rfl (by kernel_rfl) rfl (op4 W) (opensF_cons (i := 12) (off := 16) (off' := 17) (n := 1) (N := 20) rfl rfl (by kernel_rfl) rfl (op4 W) (opensF_cons (i := 13) (off := 17) (off' := 18) (n := 1) (N := 20) rfl rfl (by kernel_rfl) rfl (op4 W) (opensF_cons (i := 14) (off := 18) (off' := 19) (n := 1) (N := 20) rfl rfl (by kernel_rfl) rfl (op3 W) (opensF_last (i := 15) (off := 19) (n := 1) rfl rfl (by kernel_rfl) (op27 W))))))))))))))))) (fun _ => rfl) (fun _ h => h)
theorem bodyFixtureAt_lifted (os : Os) (started : os.Started) (H : Type) (enc : TypeId × Value → H) :
    ReturnsInHanded {} Try.checked os 6 .any (Rows.bodyFixtureAtSpec.pre6 enc Try.prog Try.f6 Rows.bodyFixtureAtRow.domain false) (Rows.bodyFixtureAtSpec.post enc Try.prog Try.f6 false true false false) := by
  refine returnsInHanded_of_change (C := Try.checked) own started (by kernel_rfl) Try.func6
    (ChangeSpec.witness6 (enc := enc) (C := Try.checked) false ⟨#[], #[.agg #[(.int .i64 0), (.int .i64 0), (.int .i64 0), (.int .i64 0), (.int .i64 0), (.int .i64 0), (.int .i64 0), (.int .i64 0), (.int .i64 0), (.int .i64 0), (.int .i64 0), (.int .i64 0), (.int .i64 0), (.int .i64 0), (.bool false), (.bool false), (.bool false), (.bool false), (.int .i64 0), (.slice none 0 0)], .agg #[(.int .i64 0), (.int .i64 0)]], []⟩ 8 (by kernel_rfl) (by kernel_rfl) (by kernel_rfl) (by kernel_rfl)) ?_
  intro W base args ds gs before hval0 hW _ _
  have hval : ∀ (j : Nat) t v, Try.f6.params[j]? = some t → args[j]? = some v → Value.okWide Try.prog W .any base t v := hval0
  have hW' := hW
  obtain ⟨p, q, hA0, hV, rfl, hfz, hnd⟩ := hW
  have hA : DataW.TrodAll enc Try.prog W 0 (fun _ => true) true Try.f6.params.toList args.toList ds p := hA0
  rw [Try.params6] at hA hval
  obtain ⟨v0, vs0, d0, ds0, p0, q0, hargs, rfl, rfl, h0, r0⟩ := trodAll_cons hA
  obtain ⟨v1, vs1, d1, ds1, p1, q1, rfl, rfl, rfl, h1, r1⟩ := trodAll_cons r0
  obtain ⟨rfl, rfl, rfl⟩ := trodAll_nil r1
  obtain rfl : args = #[v0, v1] := by cases args; simp_all
  obtain ⟨rfl, rfl⟩ := trodVars_none hV
  have ok0 := hval 0 29 v0 rfl rfl
  obtain ⟨a0, e0, w0⟩ := arg_agg Try.underlying29 ok0 (op29 W) h0
  have ok1 := hval 1 24 v1 rfl rfl
  obtain ⟨a1, e1, w1⟩ := arg_agg Try.underlying24 ok1 (op24 W) h1
  exact law_post laidOut (by kernel_rfl) rfl Try.underlying4 rfl hW' rfl (.cons e0 (.cons e1 .nil)) (law23_BodyFixtureAt_ok (GoForm.law23_BodyFixtureAt_true a0 a1 w0 w1))
theorem bodyFixtureAt_holds : Rows.BodyFixtureAtSaid :=
  OpenClaim.holds_of_wide 6 Try.f6 rfl rfl rfl rfl rfl rfl rfl ⟨rfl, rfl, rfl, rfl, rfl⟩ rfl rfl rfl rfl rfl (by kernel_rfl) Try.func6 (by kernel_rfl)
    (of_decide_eq_true (by kernel_rfl)) (by unfold Func.isWrapper; first | (rw [if_pos (by decide +kernel)]; kernel_rfl) | (rw [if_neg (by decide +kernel)]; exact ⟨rfl, rfl⟩))
    (fun os started H enc _ => bodyFixtureAt_lifted os started H enc)
end Go.Proofs.Ytblkmlpjhpgkjaa
