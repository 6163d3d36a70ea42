/- The plain law of impulses. No conditions. -/
import Derived.Test.YtblkmlpjhpgkjaaGreatF23XH1
set_option linter.all false
open Go Go.Cx
namespace GoForm
def centerW (b : Body) : Vec := applyT b.Transform (massM b.Fixtures).Center
theorem body_WorldCenter_eq (b : Body) : body_WorldCenter b = some (centerW b) := by
  unfold body_WorldCenter; simp only [body_MassData_eq, transform_Apply_eq, Bind_some, Let_eq]; rfl
def awakeB (b : Body) : Body := { clampB b with Asleep := false, IdleSteps := 0 }
theorem body_awake_eq (b : Body) : body_awake b = awakeB b := by
  unfold body_awake awakeB; simp only [body_ClampVelocity_eq, Let_eq]
def impB (b : Body) (p i : Vec) : Body :=
  if b.Kind ≠ 3 then b else
  awakeB { b with Velocity := addV b.Velocity (scaleV i (solverB b).InvMass), AngularVelocity := addS b.AngularVelocity (mulS (crossV (subV p (centerW b)) i) (solverB b).InvInertia) }
theorem body_ApplyImpulse_eq (b : Body) (p i : Vec) : body_ApplyImpulse b p i = some (impB b p i) := by
  unfold body_ApplyImpulse impB
  simp only [bne_iff_ne, body_SolverBody_eq, body_WorldCenter_eq, vec2_Sub_eq, vec2_Scale_eq, vec2_Add_eq, vec2_Cross_eq, fixed_Mul_eq, fixed_Add_eq, body_awake_eq, Bind_some, Let_eq]
  split <;> rfl
def angB (b : Body) (i : Int) : Body :=
  if b.Kind ≠ 3 then b else awakeB { b with AngularVelocity := addS b.AngularVelocity (mulS i (solverB b).InvInertia) }
theorem impB_fix (b : Body) (p i : Vec) : (impB b p i).Fixtures = b.Fixtures := by unfold impB; split <;> rfl
theorem angB_fix (b : Body) (i : Int) : (angB b i).Fixtures = b.Fixtures := by unfold angB; split <;> rfl
theorem example23 : law23_example = some true := by kernel_rfl
theorem awake_valid {b c : Body} (h : validB b = 0) (k : b.Kind = 3) (hc : c = { b with Velocity := c.Velocity, AngularVelocity := c.AngularVelocity }) : validB (awakeB c) = 0 := by
  rw [hc]
  rw [validB_ok] at h ⊢
  obtain ⟨h1, h2, h3, h4, h5⟩ := h
  rw [consB_iff] at h5 ⊢
  refine ⟨h1, ?_, h3, h4, ?_⟩
  · obtain ⟨r1, r2, r3, r4, r5⟩ := h2
    refine ⟨r1, r2, ⟨clampS_bd (by omega), clampS_bd (by omega)⟩, clampS_bd (by omega), r5.1, r5.2.1, r5.2.2.1, r5.2.2.2.1, r5.2.2.2.2.1, ?_⟩
    exact ⟨by show (0 : Int) ≤ 0; omega, by show (0 : Int) ≤ 1048576; omega⟩
  · refine ⟨fun q => ?_, fun q => absurd k q, fun q => ?_⟩
    · have : b.Kind = 1 := q
      omega
    · cases (show false = true from q)
theorem clampB_id {b : Body} (h : validB b = 0) : clampB b = b := by
  rw [validB_ok] at h
  obtain ⟨h1, ⟨-, -, ⟨x1, x2⟩, x3, -⟩, -⟩ := h
  unfold Wn at x1 x2 x3
  unfold clampB
  rw [clampS_id (by omega), clampS_id (by omega), clampS_id (by omega)]
end GoForm
