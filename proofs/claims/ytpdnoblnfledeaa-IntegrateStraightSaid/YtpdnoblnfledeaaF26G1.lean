/- The plain law of integration. No conditions. -/
import Derived.Test.YtpdnoblnfledeaaF26E1
set_option linter.all false
open Go Go.Cx
namespace GoForm
def velV (b : Body) (s : Settings) : Vec :=
  let v2 := addV (addV b.Velocity (scaleV (scaleV s.Gravity b.GravityScale) s.TimeStep)) (scaleV (scaleV b.Force (solverB b).InvMass) s.TimeStep)
  subV v2 (scaleV v2 (mulS b.LinearDamping s.TimeStep))
def velW (b : Body) (s : Settings) : Int :=
  let w1 := addS b.AngularVelocity (mulS (mulS b.Torque (solverB b).InvInertia) s.TimeStep)
  subS w1 (mulS w1 (mulS b.AngularDamping s.TimeStep))
def velB (b : Body) (s : Settings) : Body :=
  if b.Kind ≠ 3 ∨ b.Asleep = true then b else clampB { b with Velocity := velV b s, AngularVelocity := if b.FixedRotation = true then 0 else velW b s }
theorem integrate_Velocity_eq (b : Body) (s : Settings) : integrate_Velocity b s = some (velB b s) := by
  unfold integrate_Velocity velB
  simp only [cond_or, Bool.or_eq_true, bne_iff_ne, body_SolverBody_eq, vec2_Scale_eq, fixed_Mul_eq, vec2_Add_eq, vec2_Sub_eq, fixed_Add_eq, fixed_Sub_eq, body_ClampVelocity_eq, Bind_some, Let_eq]
  split
  · rfl
  · split <;> rfl
def confP (x : Int) : Int := clampS x (-268435456) 268435456
def confV (x v : Int) : Int := if x < -268435456 ∨ 268435456 < x then 0 else v
theorem integrate_confine_eq (x v : Int) : integrate_confine x v = (confP x, confV x v) := by
  unfold integrate_confine confP confV
  simp only [Let_eq, fixed_Clamp_eq, bne_iff_ne]
  unfold clampS
  by_cases h1 : x < -268435456
  · rw [if_pos (by omega), if_pos (by omega), if_pos (by omega)]
  · rw [if_neg (show ¬ ((268435456 : Int) < -268435456 ∨ x < -268435456) by omega)]
    by_cases h2 : 268435456 < x
    · rw [if_pos h2, if_pos (by omega), if_pos (by omega)]
    · rw [if_neg h2, if_neg (by omega), if_neg (by omega)]
def movedT (b : Body) (dt : Int) : Transform := integT b.Transform (massM b.Fixtures).Center b.Velocity b.AngularVelocity dt
def posB (b : Body) (dt : Int) : Body :=
  if b.Kind = 1 ∨ b.Asleep = true then b else
  { b with Transform := ⟨⟨confP (movedT b dt).Position.X, confP (movedT b dt).Position.Y⟩, (movedT b dt).Angle⟩, Velocity := ⟨confV (movedT b dt).Position.X b.Velocity.X, confV (movedT b dt).Position.Y b.Velocity.Y⟩ }
theorem integrate_Position_eq (b : Body) (dt : Int) : integrate_Position b dt = some (posB b dt) := by
  unfold integrate_Position posB
  simp only [cond_or, Bool.or_eq_true, beq_iff_eq, body_MassData_eq, transform_Integrate_eq, integrate_confine_eq, Bind_some, Let_eq]
  split <;> rfl
def clearB (b : Body) : Body := { b with Force := ⟨0, 0⟩, Torque := 0 }
theorem integrate_ClearForces_eq (b : Body) : integrate_ClearForces b = clearB b := rfl
theorem velB_fix (b : Body) (s : Settings) : (velB b s).Fixtures = b.Fixtures := by unfold velB; split <;> rfl
theorem posB_fix (b : Body) (dt : Int) : (posB b dt).Fixtures = b.Fixtures := by unfold posB; split <;> rfl
theorem example26 : law26_example = some true := by
  unfold law26_example
  simp only [Let_eq, integrate_Velocity_eq, Bind_some, integrate_Position_eq]
  kernel_rfl
end GoForm
