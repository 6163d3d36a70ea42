/- The plain law of integration: the reference computes the same. No conditions. -/
import Derived.Test.YtpdnoblnfledeaaGreatF26ZE2
import Derived.Test.YtpdnoblnfledeaaGreatF26ZG1
set_option linter.all false
open Go Go.Cx
namespace GoForm
theorem ref26_Velocity_eq (b : Body) (s : Settings) : ref26_Velocity b s = some (velB b s) := by
  unfold ref26_Velocity velB ref26_Velocity_j1
  simp only [cond_or, Bool.or_eq_true, bne_iff_ne, ref23_SolverBody_eq, ref03_Scale_eq, ref01_Mul_eq, ref03_Add_eq, ref03_Sub_eq, ref01_Add_eq, ref01_Sub_eq, ref23_ClampVelocity_eq, Bind_some, Let_eq]
  split
  · rfl
  · split <;> rfl
theorem ref26_Position_eq (b : Body) (dt : Int) : ref26_Position b dt = some (posB b dt) := by
  unfold ref26_Position posB ref26_Position_j2 ref26_Position_j1
  simp only [cond_or, Bool.or_eq_true, beq_iff_eq, decide_eq_true_eq, ref23_MassData_eq, ref04_Integrate_eq, ref01_Clamp_eq, Bind_some, Let_eq]
  split
  · rfl
  · unfold confV
    rw [show integT b.Transform (massM b.Fixtures).Center b.Velocity b.AngularVelocity dt = movedT b dt from rfl]
    split <;> split <;> rfl
theorem ref26_ClearForces_eq (b : Body) : ref26_ClearForces b = clearB b := rfl
theorem law26_IntegrateExact_true (a0 : Body) (a1 : Settings) (a2 : Int) (w0 : Body.Wf a0) (w1 : Settings.Wf a1) (w2 : (IntKind.i64.min ≤ a2 ∧ a2 ≤ IntKind.i64.max)) : law26_IntegrateExact a0 a1 a2 = some true := by
  unfold law26_IntegrateExact
  rw [ref23_Small_eq, Bind_some, example26]
  cases hs : smallB a0
  · rfl
  have f : ∀ c : Body, c.Fixtures = a0.Fixtures → ref23_Equal c c = some true := fun c hc => by
    rw [ref23_Equal_eq c c (smallB_fix (by rw [smallB_same hc]; exact hs))]; simp
  simp only [integrate_Velocity_eq, ref26_Velocity_eq, integrate_Position_eq, ref26_Position_eq, integrate_ClearForces_eq, ref26_ClearForces_eq, Bind_some, Let_eq]
  rw [f _ (velB_fix _ _), f (clearB a0) rfl]
  simp [f _ (posB_fix a0 a2)]
end GoForm
