/- The plain law of impulses. No conditions. -/
import Derived.Test.YtblkmlpjhpgkjaaF23H1
set_option linter.all false
open Go Go.Cx
namespace GoForm
def centerW (b : Body) : Vec := applyT b.Transform (massM b.Fixtures).Center
theorem body_WorldCenter_eq (b : Body) : body_WorldCenter b = some (centerW b) := by
  unfold body_WorldCenter; simp only [body_MassData_eq, transform_Apply_eq, Bind_some, Let_eq]; rfl
def awakeB (b : Body) : Body := { clampB b with Asleep := false, IdleSteps := 0 }
theorem body_awake_eq (b : Body) : body_awake b = awakeB b := by
  unfold body_awake awakeB; simp only [body_ClampVelocity_eq, Let_eq]
def impB (b : Body) (p i : Vec) : Body :=
  if b.Kind ≠ 3 then b else
  awakeB { b with Velocity := addV b.Velocity (scaleV i (solverB b).InvMass), AngularVelocity := addS b.AngularVelocity (mulS (crossV (subV p (centerW b)) i) (solverB b).InvInertia) }
theorem body_ApplyImpulse_eq (b : Body) (p i : Vec) : body_ApplyImpulse b p i = some (impB b p i) := by
  unfold body_ApplyImpulse impB
  simp only [bne_iff_ne, body_SolverBody_eq, body_WorldCenter_eq, vec2_Sub_eq, vec2_Scale_eq, vec2_Add_eq, vec2_Cross_eq, fixed_Mul_eq, fixed_Add_eq, body_awake_eq, Bind_some, Let_eq]
  split <;> rfl
def angB (b : Body) (i : Int) : Body :=
  if b.Kind ≠ 3 then b else awakeB { b with AngularVelocity := addS b.AngularVelocity (mulS i (solverB b).InvInertia) }
theorem body_ApplyAngularImpulse_eq (b : Body) (i : Int) : body_ApplyAngularImpulse b i = some (angB b i) := by
  unfold body_ApplyAngularImpulse angB
  simp only [bne_iff_ne, body_SolverBody_eq, fixed_Mul_eq, fixed_Add_eq, body_awake_eq, Bind_some, Let_eq]
  split <;> rfl
theorem impB_fix (b : Body) (p i : Vec) : (impB b p i).Fixtures = b.Fixtures := by unfold impB; split <;> rfl
theorem angB_fix (b : Body) (i : Int) : (angB b i).Fixtures = b.Fixtures := by unfold angB; split <;> rfl
theorem example23 : law23_example = some true := by kernel_rfl
/-- A dynamic body with its velocities clamped, and awake, is as valid as it was. -/
theorem awake_valid {b c : Body} (h : validB b = 0) (k : b.Kind = 3) (hc : c = { b with Velocity := c.Velocity, AngularVelocity := c.AngularVelocity }) : validB (awakeB c) = 0 := by
  rw [hc]
  rw [validB_ok] at h ⊢
  obtain ⟨h1, h2, h3, h4, h5⟩ := h
  rw [consB_iff] at h5 ⊢
  refine ⟨h1, ?_, h3, h4, ?_⟩
  · obtain ⟨r1, r2, r3, r4, r5⟩ := h2
    refine ⟨r1, r2, ⟨clampS_bd (by omega), clampS_bd (by omega)⟩, clampS_bd (by omega), r5.1, r5.2.1, r5.2.2.1, r5.2.2.2.1, r5.2.2.2.2.1, ?_⟩
    exact ⟨by show (0 : Int) ≤ 0; omega, by show (0 : Int) ≤ 1048576; omega⟩
  · refine ⟨fun q => ?_, fun q => absurd k q, fun q => ?_⟩
    · have : b.Kind = 1 := q
      omega
    · cases (show false = true from q)
theorem clampB_id {b : Body} (h : validB b = 0) : clampB b = b := by
  rw [validB_ok] at h
  obtain ⟨h1, ⟨-, -, ⟨x1, x2⟩, x3, -⟩, -⟩ := h
  unfold Wn at x1 x2 x3
  unfold clampB
  rw [clampS_id (by omega), clampS_id (by omega), clampS_id (by omega)]
theorem law23_BodyImpulseValid_true (a0 : Body) (a1 : Vec) (a2 : Vec) (a3 : Int) (w0 : Body.Wf a0) (w1 : Vec.Wf a1) (w2 : Vec.Wf a2) (w3 : (IntKind.i64.min ≤ a3 ∧ a3 ≤ IntKind.i64.max)) : law23_BodyImpulseValid a0 a1 a2 a3 = some true := by
  unfold law23_BodyImpulseValid
  rw [ref23_Small_eq, Bind_some, example23]
  cases hs : smallB a0
  · rfl
  have f : body_Equal a0 a0 = some true := by rw [body_Equal_eq a0 a0 (smallB_fix hs)]; simp
  simp only [body_ApplyImpulse_eq, body_ApplyAngularImpulse_eq, body_Validate_eq, body_ClampVelocity_eq, Bind_some, Let_eq, cond_or, cond_and, Transform_beq_eq]
  by_cases hk : a0.Kind = 3
  · have e : (a0.Kind != 3) = false := by simp [hk]
    rw [e]
    by_cases hv : validB a0 = 0
    · have v1 : validB (impB a0 a1 a2) = 0 := by
        rw [show impB a0 a1 a2 = _ from if_neg (by simp [hk])]; exact awake_valid hv hk rfl
      have v2 : validB (angB a0 a3) = 0 := by
        rw [show angB a0 a3 = _ from if_neg (by simp [hk])]; exact awake_valid hv hk rfl
      have t : (impB a0 a1 a2).Transform = a0.Transform := by
        rw [show impB a0 a1 a2 = _ from if_neg (by simp [hk])]; rfl
      have n1 : (impB a0 a1 a2).Asleep = false := by
        rw [show impB a0 a1 a2 = _ from if_neg (by simp [hk])]; rfl
      have n2 : (angB a0 a3).Asleep = false := by
        rw [show angB a0 a3 = _ from if_neg (by simp [hk])]; rfl
      simp [hv, v1, v2, clampB_id hv, f, t, n1, n2]
    · simp [hv]
  · have e : (a0.Kind != 3) = true := by simpa using hk
    rw [e, show impB a0 a1 a2 = a0 from if_pos hk, show angB a0 a3 = a0 from if_pos hk]
    by_cases hv : validB a0 = 0
    · have n : a0.Asleep = false := by
        rw [validB_ok, consB_iff] at hv; exact (hv.2.2.2.2.2.1 hk).1
      simp [hv, f, clampB_id hv, n]
    · simp [hv, f]
end GoForm
