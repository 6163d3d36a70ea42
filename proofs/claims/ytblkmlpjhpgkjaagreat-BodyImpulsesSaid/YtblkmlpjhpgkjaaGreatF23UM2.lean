/- The plain law of impulses: the reference computes the same. No conditions. -/
import Derived.Test.YtblkmlpjhpgkjaaGreatF23UE2
import Derived.Test.YtblkmlpjhpgkjaaGreatF23UM1
set_option linter.all false
open Go Go.Cx
namespace GoForm
theorem ref23_WorldCenter_eq (b : Body) : ref23_WorldCenter b = some (centerW b) := by
  unfold ref23_WorldCenter; simp only [ref23_MassData_eq, ref04_Apply_eq, Bind_some, Let_eq]; rfl
theorem ref23_ApplyImpulse_eq (b : Body) (p i : Vec) : ref23_ApplyImpulse b p i = some (impB b p i) := by
  unfold ref23_ApplyImpulse impB ref23_wake
  simp only [bne_iff_ne, ref23_SolverBody_eq, ref23_WorldCenter_eq, ref03_Sub_eq, ref03_Scale_eq, ref03_Add_eq, ref03_Cross_eq, ref01_Mul_eq, ref01_Add_eq, ref23_ClampVelocity_eq, Bind_some, Let_eq]
  split <;> rfl
theorem ref23_ApplyAngularImpulse_eq (b : Body) (i : Int) : ref23_ApplyAngularImpulse b i = some (angB b i) := by
  unfold ref23_ApplyAngularImpulse angB ref23_wake
  simp only [bne_iff_ne, ref23_SolverBody_eq, ref01_Mul_eq, ref01_Add_eq, ref23_ClampVelocity_eq, Bind_some, Let_eq]
  split <;> rfl
theorem law23_BodyImpulses_true (a0 : Body) (a1 : Vec) (a2 : Vec) (a3 : Int) (w0 : Body.Wf a0) (w1 : Vec.Wf a1) (w2 : Vec.Wf a2) (w3 : (IntKind.i64.min ≤ a3 ∧ a3 ≤ IntKind.i64.max)) : law23_BodyImpulses a0 a1 a2 a3 = some true := by
  unfold law23_BodyImpulses
  rw [ref23_Small_eq, Bind_some, example23]
  cases hs : smallB a0
  · rfl
  have f : ∀ c : Body, c.Fixtures = a0.Fixtures → ref23_Equal c c = some true := fun c hc => by
    rw [ref23_Equal_eq c c (smallB_fix (by rw [smallB_same hc]; exact hs))]; simp
  simp only [body_ApplyImpulse_eq, ref23_ApplyImpulse_eq, body_ApplyAngularImpulse_eq, ref23_ApplyAngularImpulse_eq, body_ClampVelocity_eq, ref23_ClampVelocity_eq, Bind_some, Let_eq]
  rw [f _ (impB_fix _ _ _)]
  simp [f _ (angB_fix a0 a3), f (clampB a0) rfl]
end GoForm
