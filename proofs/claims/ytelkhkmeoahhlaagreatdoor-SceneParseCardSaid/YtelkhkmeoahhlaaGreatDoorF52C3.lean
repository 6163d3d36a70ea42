/- The functions' contracts. Printed by go3.py. No conditions. -/
import Derived.Test.YtelkhkmeoahhlaaGreatDoorGW
set_option linter.all false
set_option maxRecDepth 100000
open Go Go.Rx Go.Proofs Go.RowKit
namespace GoForm
noncomputable def c_5:Con Tryz.prog tb cd:=⟨5,[.d Ix.tstr],[Ix.tbool],[],fun a=>Zf a.1,Tryz.call5,jq (cx:=cx [c_18,c_10,c_13,c_19,c_14] []) (im:=fun _=>false) (bar:=JJ []) (an:=.n) Tryz.func5 rfl rfl rfl (fun _=>rfl) (fun d=>by kernel_rfl)⟩
end GoForm
