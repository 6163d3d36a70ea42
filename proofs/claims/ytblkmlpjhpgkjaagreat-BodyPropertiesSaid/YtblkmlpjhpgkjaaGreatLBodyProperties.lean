/- BodyProperties: for every input the law returns true; each argument reads behind the call as it read before. No conditions. -/
import Derived.Test.YtblkmlpjhpgkjaaGreatCxU
import Derived.Test.YtblkmlpjhpgkjaaGreatF23XW
import Derived.Test.YtblkmlpjhpgkjaaGreatF23XW1
import Derived.Test.YtblkmlpjhpgkjaaGreatF23XW2
import Derived.Test.YtblkmlpjhpgkjaaGreatF23XW3
import Derived.Test.YtblkmlpjhpgkjaaGreatF23XW4
import Derived.Test.YtblkmlpjhpgkjaaGreatF23XW5
import Derived.Test.YtblkmlpjhpgkjaaGreatF23XS2
import Derived.Test.YtblkmlpjhpgkjaaGreatRows
set_option linter.all false
set_option maxRecDepth 100000
namespace Go.Proofs.YtblkmlpjhpgkjaaGreat
open Go.Cx GoForm Go.ChangeShapes Go.WideShapes Go.ChangeAt Go.RowKit
theorem own : ownKnob Tryz.prog.godebug = none := by kernel_rfl
theorem laidOut : laidOutB Tryz.prog = true := by kernel_rfl
theorem op3 (W : World) : Opens Tryz.prog W 3 (fun (x : Int) => [(iAV x)]) (fun (x : Int) => (IntKind.i64.min ≤ x ∧ x ≤ IntKind.i64.max)) := opens_int Tryz.underlying3
theorem op4 (W : World) : Opens Tryz.prog W 4 (fun (x : Bool) => [(boolAV x)]) (fun (x : Bool) => True) := opens_bool Tryz.underlying4
theorem op24 (W : World) : Opens Tryz.prog W 24 (fun (x : Vec) => (Vec.cells x)) (fun (x : Vec) => Vec.Wf x) := opens_struct (N := 2) (fun b => ⟨b.1, b.2⟩) Tryz.underlying24 (by kernel_rfl) (opensF_cons (i := 0) (off := 0) (off' := 1) (n := 1) (N := 2) rfl rfl (by kernel_rfl) rfl (op3 W) (opensF_last (i := 1) (off := 1) (n := 1) rfl rfl (by kernel_rfl) (op3 W))) (fun _ => rfl) (fun _ h => h)
theorem op31 (W : World) : Opens Tryz.prog W 31 (fun (x : List Vec) => [((slAV 2 Vec.av) x)]) (fun (x : List Vec) => ((∀ a ∈ x, Vec.Wf a) ∧ (x).length ≤ 9223372036854775807)) := opens_slice (sz := 2) Tryz.underlying31 (by kernel_rfl) (by decide) (op24 W) (fun _ => rfl) (fun _ => rfl)
theorem op30 (W : World) : Opens Tryz.prog W 30 (fun (x : Int) => [(iAV x)]) (fun (x : Int) => (IntKind.i64.min ≤ x ∧ x ≤ IntKind.i64.max)) := opens_int Tryz.underlying30
theorem op33 (W : World) : Opens Tryz.prog W 33 (fun (x : Shape) => (Shape.cells x)) (fun (x : Shape) => Shape.Wf x) := opens_struct (N := 3) (fun b => ⟨b.1, b.2.1, b.2.2⟩) Tryz.underlying33 (by kernel_rfl) (opensF_cons (i := 0) (off := 0) (off' := 1) (n := 1) (N := 3) rfl rfl (by kernel_rfl) rfl (op30 W) (opensF_cons (i := 1) (off := 1) (off' := 2) (n := 1) (N := 3) rfl rfl (by kernel_rfl) rfl (op3 W) (opensF_last (i := 2) (off := 2) (n := 1) rfl rfl (by kernel_rfl) (op31 W)))) (fun _ => rfl) (fun _ h => h)
theorem op35 (W : World) : Opens Tryz.prog W 35 (fun (x : Fixture) => (Fixture.cells x)) (fun (x : Fixture) => Fixture.Wf x) := opens_struct (N := 10) (fun b => ⟨b.1, b.2.1, b.2.2.1, b.2.2.2.1, b.2.2.2.2.1, b.2.2.2.2.2.1, b.2.2.2.2.2.2.1, b.2.2.2.2.2.2.2⟩) Tryz.underlying35 (by kernel_rfl) (opensF_cons (i := 0) (off := 0) (off' := 3) (n := 3) (N := 10) rfl rfl (by kernel_rfl) rfl (op33 W) (opensF_cons (i := 1) (off := 3) (off' := 4) (n := 1) (N := 10) rfl rfl (by kernel_rfl) rfl (op3 W) (opensF_cons (i := 2) (off := 4) (off' := 5) (n := 1) (N := 10) rfl rfl (by kernel_rfl) rfl (op3 W) (opensF_cons (i := 3) (off := 5) (off' := 6) (n := 1) (N := 10) rfl rfl (by kernel_rfl) rfl (op3 W) (opensF_cons (i := 4) (off := 6) (off' := 7) (n := 1) (N := 10) rfl rfl (by kernel_rfl) rfl (op4 W) (opensF_cons (i := 5) (off := 7) (off' := 8) (n := 1) (N := 10) rfl rfl (by kernel_rfl) rfl (op3 W) (opensF_cons (i := 6) (off := 8) (off' := 9) (n := 1) (N := 10) rfl rfl (by kernel_rfl) rfl (op3 W) (opensF_last (i := 7) (off := 9) (n := 1) rfl rfl (by kernel_rfl) (op3 W))))))))) (fun _ => rfl) (fun _ h => h)
theorem op27 (W : World) : Opens Tryz.prog W 27 (fun (x : List Fixture) => [((slAV 10 Fixture.av) x)]) (fun (x : List Fixture) => ((∀ a ∈ x, Fixture.Wf a) ∧ (x).length ≤ 9223372036854775807)) := opens_slice (sz := 10) Tryz.underlying27 (by kernel_rfl) (by decide) (op35 W) (fun _ => rfl) (fun _ => rfl)
theorem op26 (W : World) : Opens Tryz.prog W 26 (fun (x : Transform) => (Transform.cells x)) (fun (x : Transform) => Transform.Wf x) := opens_struct (N := 3) (fun b => ⟨b.1, b.2⟩) Tryz.underlying26 (by kernel_rfl) (opensF_cons (i := 0) (off := 0) (off' := 2) (n := 2) (N := 3) rfl rfl (by kernel_rfl) rfl (op24 W) (opensF_last (i := 1) (off := 2) (n := 1) rfl rfl (by kernel_rfl) (op3 W))) (fun _ => rfl) (fun _ h => h)
theorem op22 (W : World) : Opens Tryz.prog W 22 (fun (x : Int) => [(iAV x)]) (fun (x : Int) => (IntKind.i64.min ≤ x ∧ x ≤ IntKind.i64.max)) := opens_int Tryz.underlying22
theorem op29 (W : World) : Opens Tryz.prog W 29 (fun (x : Body) => (Body.cells x)) (fun (x : Body) => Body.Wf x) := opens_struct (N := 20) (fun b => ⟨b.1, b.2.1, b.2.2.1, b.2.2.2.1, b.2.2.2.2.1, b.2.2.2.2.2.1, b.2.2.2.2.2.2.1, b.2.2.2.2.2.2.2.1, b.2.2.2.2.2.2.2.2.1, b.2.2.2.2.2.2.2.2.2.1, b.2.2.2.2.2.2.2.2.2.2.1, b.2.2.2.2.2.2.2.2.2.2.2.1, b.2.2.2.2.2.2.2.2.2.2.2.2.1, b.2.2.2.2.2.2.2.2.2.2.2.2.2.1, b.2.2.2.2.2.2.2.2.2.2.2.2.2.2.1, b.2.2.2.2.2.2.2.2.2.2.2.2.2.2.2⟩) Tryz.underlying29 (by kernel_rfl) (opensF_cons (i := 0) (off := 0) (off' := 1) (n := 1) (N := 20) rfl rfl (by kernel_rfl) rfl (op3 W) (opensF_cons (i := 1) (off := 1) (off' := 2) (n := 1) (N := 20) rfl rfl (by kernel_rfl) rfl (op22 W) (opensF_cons (i := 2) (off := 2) (off' := 5) (n := 3) (N := 20) rfl rfl (by kernel_rfl) rfl (op26 W) (opensF_cons (i := 3) (off := 5) (off' := 7) (n := 2) (N := 20) rfl rfl (by kernel_rfl) rfl (op24 W) (opensF_cons (i := 4) (off := 7) (off' := 8) (n := 1) (N := 20) rfl rfl (by kernel_rfl) rfl (op3 W) (opensF_cons (i := 5) (off := 8) (off' := 10) (n := 2) (N := 20) rfl rfl (by kernel_rfl) rfl (op24 W) (opensF_cons (i := 6) (off := 10) (off' := 11) (n := 1) (N := 20) rfl rfl (by kernel_rfl) rfl (op3 W) (opensF_cons (i := 7) (off := 11) (off' := 12) (n := 1) (N := 20) rfl rfl (by kernel_rfl) rfl (op3 W) (opensF_cons (i := 8) (off := 12) (off' := 13) (n := 1) (N := 20) rfl rfl (by kernel_rfl) rfl (op3 W) (opensF_cons (i := 9) (off := 13) (off' := 14) (n := 1) (N := 20) rfl rfl (by kernel_rfl) rfl (op3 W) (opensF_cons (i := 10) (off := 14) (off' := 15) (n := 1) (N := 20) rfl rfl (by kernel_rfl) rfl (op4 W) (opensF_cons (i := 11) (off := 15) (off' := 16) (n := 1) (N := 20) rfl rfl (by kernel_rfl) rfl (op4 W) (opensF_cons (i := 12) (off := 16) (off' := 17) (n := 1) (N := 20) rfl rfl (by kernel_rfl) rfl (op4 W) (opensF_cons (i := 13) (off := 17) (off' := 18) (n := 1) (N := 20) rfl rfl (by kernel_rfl) rfl (op4 W) (opensF_cons (i := 14) (off := 18) (off' := 19) (n := 1) (N := 20) rfl rfl (by kernel_rfl) rfl (op3 W) (opensF_last (i := 15) (off := 19) (n := 1) rfl rfl (by kernel_rfl) (op27 W))))))))))))))))) (fun _ => rfl) (fun _ h => h)
theorem bodyProperties_lifted (os : Os) (started : os.Started) (H : Type) (enc : TypeId × Value → H) :
    ReturnsInHanded {} Tryz.checked os 4 .any (Rows.bodyPropertiesSpec.pre6 enc Tryz.prog Tryz.f4 Rows.bodyPropertiesRow.domain false) (Rows.bodyPropertiesSpec.post enc Tryz.prog Tryz.f4 false true false false) := by
  refine returnsInHanded_of_change (C := Tryz.checked) own started (by kernel_rfl) Tryz.func4
    (ChangeSpec.witness6 (enc := enc) (C := Tryz.checked) false ⟨#[], #[.agg #[(.int .i64 0), (.int .i64 0), (.int .i64 0), (.int .i64 0), (.int .i64 0), (.int .i64 0), (.int .i64 0), (.int .i64 0), (.int .i64 0), (.int .i64 0), (.int .i64 0), (.int .i64 0), (.int .i64 0), (.int .i64 0), (.bool false), (.bool false), (.bool false), (.bool false), (.int .i64 0), (.slice none 0 0)], .agg #[(.int .i64 0), (.int .i64 0)]], []⟩ 8 (by kernel_rfl) (by kernel_rfl) (by kernel_rfl) (by kernel_rfl)) ?_
  intro W base args ds gs before hval0 hW _ _
  have hval : ∀ (j : Nat) t v, Tryz.f4.params[j]? = some t → args[j]? = some v → Value.okWide Tryz.prog W .any base t v := hval0
  have hW' := hW
  obtain ⟨p, q, hA0, hV, rfl, hfz, hnd⟩ := hW
  have hA : DataW.TrodAll enc Tryz.prog W 0 (fun _ => true) true Tryz.f4.params.toList args.toList ds p := hA0
  rw [Tryz.params4] at hA hval
  obtain ⟨v0, vs0, d0, ds0, p0, q0, hargs, rfl, rfl, h0, r0⟩ := trodAll_cons hA
  obtain ⟨v1, vs1, d1, ds1, p1, q1, rfl, rfl, rfl, h1, r1⟩ := trodAll_cons r0
  obtain ⟨rfl, rfl, rfl⟩ := trodAll_nil r1
  obtain rfl : args = #[v0, v1] := by cases args; simp_all
  obtain ⟨rfl, rfl⟩ := trodVars_none hV
  have ok0 := hval 0 29 v0 rfl rfl
  obtain ⟨a0, e0, w0⟩ := arg_agg Tryz.underlying29 ok0 (op29 W) h0
  have ok1 := hval 1 24 v1 rfl rfl
  obtain ⟨a1, e1, w1⟩ := arg_agg Tryz.underlying24 ok1 (op24 W) h1
  exact law_post laidOut (by kernel_rfl) rfl Tryz.underlying4 rfl hW' rfl (.cons e0 (.cons e1 .nil)) (law23_BodyProperties_ok (GoForm.law23_BodyProperties_true a0 a1 w0 w1))
theorem bodyProperties_holds : Rows.BodyPropertiesSaid :=
  OpenClaim.holds_of_wide 4 Tryz.f4 rfl rfl rfl rfl rfl rfl rfl ⟨rfl, rfl, rfl, rfl, rfl⟩ rfl rfl rfl rfl rfl (by kernel_rfl) Tryz.func4 (by kernel_rfl)
    (of_decide_eq_true (by kernel_rfl)) (by unfold Func.isWrapper; first | (rw [if_pos (by decide +kernel)]; kernel_rfl) | (rw [if_neg (by decide +kernel)]; exact ⟨rfl, rfl⟩))
    (fun os started H enc _ => bodyProperties_lifted os started H enc)
end Go.Proofs.YtblkmlpjhpgkjaaGreat
