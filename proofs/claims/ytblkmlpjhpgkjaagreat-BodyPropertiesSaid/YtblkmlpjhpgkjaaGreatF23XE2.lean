/- The plain law of bodies: the reference compares and clamps them as the program does. No conditions. -/
import Derived.Test.YtblkmlpjhpgkjaaGreatF23XD2
import Derived.Test.YtblkmlpjhpgkjaaGreatF23XE1
set_option linter.all false
open Go Go.Cx
namespace GoForm
end GoForm
