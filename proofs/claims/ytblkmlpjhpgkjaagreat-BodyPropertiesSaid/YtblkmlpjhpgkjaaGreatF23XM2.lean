/- The plain law of impulses: the reference computes the same. No conditions. -/
import Derived.Test.YtblkmlpjhpgkjaaGreatF23XE2
import Derived.Test.YtblkmlpjhpgkjaaGreatF23XM1
set_option linter.all false
open Go Go.Cx
namespace GoForm
theorem ref23_WorldCenter_eq (b : Body) : ref23_WorldCenter b = some (centerW b) := by
  unfold ref23_WorldCenter; simp only [ref23_MassData_eq, ref04_Apply_eq, Bind_some, Let_eq]; rfl
end GoForm
