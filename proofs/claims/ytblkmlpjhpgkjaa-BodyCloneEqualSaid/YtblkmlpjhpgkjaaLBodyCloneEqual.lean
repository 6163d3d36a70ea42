/- BodyCloneEqual: for every input the law returns true; each argument reads behind the call as it read before. No conditions. -/
import Derived.Test.YtblkmlpjhpgkjaaQF
import Derived.Test.YtblkmlpjhpgkjaaF23C
import Derived.Test.YtblkmlpjhpgkjaaDX
import Derived.Test.YtblkmlpjhpgkjaaRows
set_option linter.all false
set_option maxRecDepth 100000
namespace Go.Proofs.Ytblkmlpjhpgkjaa
open Go.Rx GoForm Go.ChangeShapes Go.WideShapes Go.ChangeAt Go.RowKit
theorem own : ownKnob Try.prog.godebug = none := by kernel_rfl
theorem laidOut : laidOutB Try.prog = true := by kernel_rfl
def Vec_Wf (x : Vec) : Prop := (IntKind.i64.min ≤ x.X ∧ x.X ≤ IntKind.i64.max) ∧ (IntKind.i64.min ≤ x.Y ∧ x.Y ≤ IntKind.i64.max)
def Transform_Wf (x : Transform) : Prop := Vec_Wf x.Position ∧ (IntKind.i64.min ≤ x.Angle ∧ x.Angle ≤ IntKind.i64.max)
def Shape_Wf (x : Shape) : Prop := (IntKind.i64.min ≤ x.Kind ∧ x.Kind ≤ IntKind.i64.max) ∧ (IntKind.i64.min ≤ x.Radius ∧ x.Radius ≤ IntKind.i64.max) ∧ ((∀ a ∈ x.Vertices, Vec_Wf a) ∧ (x.Vertices).length ≤ 9223372036854775807)
def Fixture_Wf (x : Fixture) : Prop := Shape_Wf x.Shape ∧ (IntKind.i64.min ≤ x.Density ∧ x.Density ≤ IntKind.i64.max) ∧ (IntKind.i64.min ≤ x.Friction ∧ x.Friction ≤ IntKind.i64.max) ∧ (IntKind.i64.min ≤ x.Restitution ∧ x.Restitution ≤ IntKind.i64.max) ∧ True ∧ (IntKind.i64.min ≤ x.Category ∧ x.Category ≤ IntKind.i64.max) ∧ (IntKind.i64.min ≤ x.Mask ∧ x.Mask ≤ IntKind.i64.max) ∧ (IntKind.i64.min ≤ x.Group ∧ x.Group ≤ IntKind.i64.max)
def Body_Wf (x : Body) : Prop := (IntKind.i64.min ≤ x.ID ∧ x.ID ≤ IntKind.i64.max) ∧ (IntKind.i64.min ≤ x.Kind ∧ x.Kind ≤ IntKind.i64.max) ∧ Transform_Wf x.Transform ∧ Vec_Wf x.Velocity ∧ (IntKind.i64.min ≤ x.AngularVelocity ∧ x.AngularVelocity ≤ IntKind.i64.max) ∧ Vec_Wf x.Force ∧ (IntKind.i64.min ≤ x.Torque ∧ x.Torque ≤ IntKind.i64.max) ∧ (IntKind.i64.min ≤ x.LinearDamping ∧ x.LinearDamping ≤ IntKind.i64.max) ∧ (IntKind.i64.min ≤ x.AngularDamping ∧ x.AngularDamping ≤ IntKind.i64.max) ∧ (IntKind.i64.min ≤ x.GravityScale ∧ x.GravityScale ≤ IntKind.i64.max) ∧ True ∧ True ∧ True ∧ True ∧ (IntKind.i64.min ≤ x.IdleSteps ∧ x.IdleSteps ≤ IntKind.i64.max) ∧ ((∀ a ∈ x.Fixtures, Fixture_Wf a) ∧ (x.Fixtures).length ≤ 9223372036854775807)
theorem op3 (W : Go.World) : Opens Try.prog W 3 (fun (x : Int) => [e_int x]) (fun (x : Int) => (IntKind.i64.min ≤ x ∧ x ≤ IntKind.i64.max)) := opens_int Try.underlying3
theorem op4 (W : Go.World) : Opens Try.prog W 4 (fun (x : Bool) => [e_bool x]) (fun (x : Bool) => True) := opens_bool Try.underlying4
theorem op24 (W : Go.World) : Opens Try.prog W 24 (fun (x : Vec) => a_Vec.ca x) (fun (x : Vec) => Vec_Wf x) := opens_struct (N := 2) (fun b => ⟨b.1, b.2⟩) Try.underlying24 (by kernel_rfl) (opensF_cons (i := 0) (off := 0) (off' := 1) (n := 1) (N := 2) rfl rfl (by kernel_rfl) rfl (op3 W) (opensF_last (i := 1) (off := 1) (n := 1) rfl rfl (by kernel_rfl) (op3 W))) (fun _ => rfl) (fun _ h => h)
theorem op35 (W : Go.World) : Opens Try.prog W 35 (fun (x : (List Vec)) => [e_sl_Vec x]) (fun (x : (List Vec)) => ((∀ a ∈ x, Vec_Wf a) ∧ (x).length ≤ 9223372036854775807)) := opens_slice (sz := 2) (E := e_Vec) Try.underlying35 (by kernel_rfl) (by decide) (op24 W) (fun _ => rfl) (fun _ => rfl)
theorem op34 (W : Go.World) : Opens Try.prog W 34 (fun (x : Int) => [e_int x]) (fun (x : Int) => (IntKind.i64.min ≤ x ∧ x ≤ IntKind.i64.max)) := opens_int Try.underlying34
theorem op37 (W : Go.World) : Opens Try.prog W 37 (fun (x : Shape) => a_Shape.ca x) (fun (x : Shape) => Shape_Wf x) := opens_struct (N := 3) (fun b => ⟨b.1, b.2.1, b.2.2⟩) Try.underlying37 (by kernel_rfl) (opensF_cons (i := 0) (off := 0) (off' := 1) (n := 1) (N := 3) rfl rfl (by kernel_rfl) rfl (op34 W) (opensF_cons (i := 1) (off := 1) (off' := 2) (n := 1) (N := 3) rfl rfl (by kernel_rfl) rfl (op3 W) (opensF_last (i := 2) (off := 2) (n := 1) rfl rfl (by kernel_rfl) (op35 W)))) (fun _ => rfl) (fun _ h => h)
theorem op39 (W : Go.World) : Opens Try.prog W 39 (fun (x : Fixture) => a_Fixture.ca x) (fun (x : Fixture) => Fixture_Wf x) := opens_struct (N := 10) (fun b => ⟨b.1, b.2.1, b.2.2.1, b.2.2.2.1, b.2.2.2.2.1, b.2.2.2.2.2.1, b.2.2.2.2.2.2.1, b.2.2.2.2.2.2.2⟩) Try.underlying39 (by kernel_rfl) (opensF_cons (i := 0) (off := 0) (off' := 3) (n := 3) (N := 10) rfl rfl (by kernel_rfl) rfl (op37 W) (opensF_cons (i := 1) (off := 3) (off' := 4) (n := 1) (N := 10) rfl rfl (by kernel_rfl) rfl (op3 W) (opensF_cons (i := 2) (off := 4) (off' := 5) (n := 1) (N := 10) rfl rfl (by kernel_rfl) rfl (op3 W) (opensF_cons (i := 3) (off := 5) (off' := 6) (n := 1) (N := 10) rfl rfl (by kernel_rfl) rfl (op3 W) (opensF_cons (i := 4) (off := 6) (off' := 7) (n := 1) (N := 10) rfl rfl (by kernel_rfl) rfl (op4 W) (opensF_cons (i := 5) (off := 7) (off' := 8) (n := 1) (N := 10) rfl rfl (by kernel_rfl) rfl (op3 W) (opensF_cons (i := 6) (off := 8) (off' := 9) (n := 1) (N := 10) rfl rfl (by kernel_rfl) rfl (op3 W) (opensF_last (i := 7) (off := 9) (n := 1) rfl rfl (by kernel_rfl) (op3 W))))))))) (fun _ => rfl) (fun _ h => h)
theorem op27 (W : Go.World) : Opens Try.prog W 27 (fun (x : (List Fixture)) => [e_sl_Fixture x]) (fun (x : (List Fixture)) => ((∀ a ∈ x, Fixture_Wf a) ∧ (x).length ≤ 9223372036854775807)) := opens_slice (sz := 10) (E := e_Fixture) Try.underlying27 (by kernel_rfl) (by decide) (op39 W) (fun _ => rfl) (fun _ => rfl)
theorem op26 (W : Go.World) : Opens Try.prog W 26 (fun (x : Transform) => a_Transform.ca x) (fun (x : Transform) => Transform_Wf x) := opens_struct (N := 3) (fun b => ⟨b.1, b.2⟩) Try.underlying26 (by kernel_rfl) (opensF_cons (i := 0) (off := 0) (off' := 2) (n := 2) (N := 3) rfl rfl (by kernel_rfl) rfl (op24 W) (opensF_last (i := 1) (off := 2) (n := 1) rfl rfl (by kernel_rfl) (op3 W))) (fun _ => rfl) (fun _ h => h)
theorem op22 (W : Go.World) : Opens Try.prog W 22 (fun (x : Int) => [e_int x]) (fun (x : Int) => (IntKind.i64.min ≤ x ∧ x ≤ IntKind.i64.max)) := opens_int Try.underlying22
theorem op29 (W : Go.World) : Opens Try.prog W 29 (fun (x : Body) => a_Body.ca x) (fun (x : Body) => Body_Wf x) := opens_struct (N := 20) (fun b => ⟨b.1, b.2.1, b.2.2.1, b.2.2.2.1, b.2.2.2.2.1, b.2.2.2.2.2.1, b.2.2.2.2.2.2.1, b.2.2.2.2.2.2.2.1, b.2.2.2.2.2.2.2.2.1, b.2.2.2.2.2.2.2.2.2.1, b.2.2.2.2.2.2.2.2.2.2.1, b.2.2.2.2.2.2.2.2.2.2.2.1, b.2.2.2.2.2.2.2.2.2.2.2.2.1, b.2.2.2.2.2.2.2.2.2.2.2.2.2.1, b.2.2.2.2.2.2.2.2.2.2.2.2.2.2.1, b.2.2.2.2.2.2.2.2.2.2.2.2.2.2.2⟩) Try.underlying29 (by kernel_rfl) (opensF_cons (i := 0) (off := 0) (off' := 1) (n := 1) (N := 20) rfl rfl (by kernel_rfl) rfl (op3 W) (opensF_cons (i := 1) (off := 1) (off' := 2) (n := 1) (N := 20) rfl rfl (by kernel_rfl) rfl (op22 W) (opensF_cons (i := 2) (off := 2) (off' := 5) (n := 3) (N := 20) rfl rfl (by kernel_rfl) rfl (op26 W) (opensF_cons (i := 3) (off := 5) (off' := 7) (n := 2) (N := 20) rfl rfl (by kernel_rfl) rfl (op24 W) (opensF_cons (i := 4) (off := 7) (off' := 8) (n := 1) (N := 20) rfl rfl (by kernel_rfl) rfl (op3 W) (opensF_cons (i := 5) (off := 8) (off' := 10) (n := 2) (N := 20) rfl rfl (by kernel_rfl) rfl (op24 W) (opensF_cons (i := 6) (off := 10) (off' := 11) (n := 1) (N := 20) rfl rfl (by kernel_rfl) rfl (op3 W) (opensF_cons (i := 7) (off := 11) (off' := 12) (n := 1) (N := 20) rfl rfl (by kernel_rfl) rfl (op3 W) (opensF_cons (i := 8) (off := 12) (off' := 13) (n := 1) (N := 20) rfl rfl (by kernel_rfl) rfl (op3 W) (opensF_cons (i := 9) (off := 13) (off' := 14) (n := 1) (N := 20) rfl rfl (by kernel_rfl) rfl (op3 W) (opensF_cons (i := 10) (off := 14) (off' := 15) (n := 1) (N := 20) rfl rfl (by kernel_rfl) rfl (op4 W) (opensF_cons (i := 11) (off := 15) (off' := 16) (n := 1) (N := 20) rfl rfl (by kernel_rfl) rfl (op4 W) (opensF_cons (i := 12) (off := 16) (off' := 17) (n := 1) (N := 20) rfl rfl (by kernel_rfl) rfl (op4 W) (opensF_cons (i := 13) (off := 17) (off' := 18) (n := 1) (N := 20) rfl rfl (by kernel_rfl) rfl (op4 W) (opensF_cons (i := 14) (off := 18) (off' := 19) (n := 1) (N := 20) rfl rfl (by kernel_rfl) rfl (op3 W) (opensF_last (i := 15) (off := 19) (n := 1) rfl rfl (by kernel_rfl) (op27 W))))))))))))))))) (fun _ => rfl) (fun _ h => h)
theorem op5 (W : Go.World) : Opens Try.prog W 5 (fun (x : UInt8) => [e_byte x]) (fun (x : UInt8) => True) := opens_byte Try.underlying5
theorem bodyCloneEqual_lifted (os : Os) (started : os.Started) (H : Type) (enc : TypeId × Value → H) :
    ReturnsInHanded {} Try.checked os 3 .any (Rows.bodyCloneEqualSpec.pre6 enc Try.prog Try.f3 Rows.bodyCloneEqualRow.domain false) (Rows.bodyCloneEqualSpec.post enc Try.prog Try.f3 false true false false) := by
  refine returnsInHanded_of_change (C := Try.checked) own started (by kernel_rfl) Try.func3
    (ChangeSpec.witness6 (enc := enc) (C := Try.checked) false ⟨#[], #[(.agg #[(.int .i64 0), (.int .i64 0), (.int .i64 0), (.int .i64 0), (.int .i64 0), (.int .i64 0), (.int .i64 0), (.int .i64 0), (.int .i64 0), (.int .i64 0), (.int .i64 0), (.int .i64 0), (.int .i64 0), (.int .i64 0), (.bool false), (.bool false), (.bool false), (.bool false), (.int .i64 0), (.slice none 0 0)]), (.agg #[(.int .i64 0), (.int .i64 0), (.int .i64 0), (.int .i64 0), (.int .i64 0), (.int .i64 0), (.int .i64 0), (.int .i64 0), (.int .i64 0), (.int .i64 0), (.int .i64 0), (.int .i64 0), (.int .i64 0), (.int .i64 0), (.bool false), (.bool false), (.bool false), (.bool false), (.int .i64 0), (.slice none 0 0)]), (.int .u8 0)], []⟩ 8 (by kernel_rfl) (by kernel_rfl) (by kernel_rfl) (by kernel_rfl)) ?_
  intro W base args ds gs before hval0 hW _ _
  have hval : ∀ (j : Nat) t v, Try.f3.params[j]? = some t → args[j]? = some v → Value.okWide Try.prog W .any base t v := hval0
  have hW' := hW
  obtain ⟨p, q, hA0, hV, rfl, hfz, hnd⟩ := hW
  have hA : DataW.TrodAll enc Try.prog W 0 (fun _ => true) true Try.f3.params.toList args.toList ds p := hA0
  rw [Try.params3] at hA hval
  obtain ⟨v0, vs0, d0, ds0, p0, q0, hargs, rfl, rfl, h0, r0⟩ := trodAll_cons hA
  obtain ⟨v1, vs1, d1, ds1, p1, q1, rfl, rfl, rfl, h1, r1⟩ := trodAll_cons r0
  obtain ⟨v2, vs2, d2, ds2, p2, q2, rfl, rfl, rfl, h2, r2⟩ := trodAll_cons r1
  obtain ⟨rfl, rfl, rfl⟩ := trodAll_nil r2
  obtain rfl : args = #[v0, v1, v2] := by cases args; simp_all
  obtain ⟨rfl, rfl⟩ := trodVars_none hV
  have ok0 := hval 0 29 v0 rfl rfl
  obtain ⟨a0, e0, w0⟩ := arg_agg Try.underlying29 ok0 (op29 W) h0
  have ok1 := hval 1 29 v1 rfl rfl
  obtain ⟨a1, e1, w1⟩ := arg_agg Try.underlying29 ok1 (op29 W) h1
  have ok2 := hval 2 5 v2 rfl rfl
  obtain ⟨a2, e2, w2⟩ := arg_one (not_agg Try.underlying5 rfl ok2) (op5 W) h2 ok2
  have hc : FnR Try.prog 3 [e_Body a0, e_Body a1, e_byte a2] (.v (.bool true)) [] := GoForm.caromlaw23_BodyCloneEqual_fnr a0 a1 a2 w0 w1 w2
  exact law_post laidOut (by kernel_rfl) rfl Try.underlying4 rfl hW' rfl (.cons e0 (.cons e1 (.cons e2 .nil))) hc
theorem bodyCloneEqual_holds : Rows.BodyCloneEqualSaid :=
  OpenClaim.holds_of_wide 3 Try.f3 rfl rfl rfl rfl rfl rfl rfl ⟨rfl, rfl, rfl, rfl, rfl⟩ rfl rfl rfl rfl rfl (by kernel_rfl) Try.func3 (by kernel_rfl)
    (of_decide_eq_true (by kernel_rfl)) (by unfold Func.isWrapper; first | (rw [if_pos (by decide +kernel)]; kernel_rfl) | (rw [if_neg (by decide +kernel)]; exact ⟨rfl, rfl⟩))
    (fun os started H enc _ => bodyCloneEqual_lifted os started H enc)
end Go.Proofs.Ytblkmlpjhpgkjaa
