/- SceneRoundTrip. No conditions. -/
import Derived.Test.YtelkhkmeoahhlaaGreatDoorQX
open Go Go.Rx
namespace GoForm
theorem caromlaw52_SceneRoundTrip_true (w:World_) (hw:World__P w):caromlaw52_SceneRoundTrip w=some true:=RoundTrip52 w hw
end GoForm
