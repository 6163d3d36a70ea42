/- SceneCanonical. No conditions. -/
import Derived.Test.YtelkhkmeoahhlaaGreatDoorQX
open Go Go.Rx
namespace GoForm
theorem caromlaw52_SceneCanonical_true (s:List UInt8) (hs:s.length≤9223372036854775807):caromlaw52_SceneCanonical s=some true:=Canonical_true s hs
end GoForm
