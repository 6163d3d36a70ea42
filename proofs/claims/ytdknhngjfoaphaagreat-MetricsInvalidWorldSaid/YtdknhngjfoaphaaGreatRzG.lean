/-
  A function's contract by a run on given symbolic values: its answer may be a function. No conditions.
-/
import Derived.Test.YtdknhngjfoaphaaGreatRyI
import Derived.Test.YtdknhngjfoaphaaGreatRzX
set_option linter.all false
namespace Go.Rx
open Go.RowKit
section
variable {P : Program} {tb : Tb} {cx : Ctx P tb}
def hfin (P : Program) (vs : List ResultVar) (e : AExit) (L : SLS tb) : Option (SV tb) := match e with
  | .exit _ => none
  | _ => got (resSs P L vs) fun xs => match xs with
    | [x] => tst (x.has fun _ => false) (some x)
    | _ => none
end
end Go.Rx
