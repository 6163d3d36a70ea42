/- RecordingRoundTrip: for every input the law returns true; each argument reads behind the call as it read before. No conditions. -/
import Derived.Test.YtffgldbihpgjgaaGreatDoorQE
import Derived.Test.YtffgldbihpgjgaaGreatDoorF47C
import Derived.Test.YtffgldbihpgjgaaGreatDoorRY
import Derived.Test.YtffgldbihpgjgaaGreatDoorCards
import Derived.Test.YtffgldbihpgjgaaGreatDoorTie
import Derived.Deep.DeepHandedRow
import Derived.Test.YtffgldbihpgjgaaGreatDoorRows
set_option linter.all false
set_option maxRecDepth 100000
namespace Go.Proofs.YtffgldbihpgjgaaGreatDoor
open Go.Rx GoForm Go.ChangeShapes Go.WideShapes Go.ChangeAt Go.RowKit
theorem own:ownKnob Tryz.prog.godebug=none:=by kernel_rfl
theorem laidOut:laidOutB Tryz.prog=true:=by kernel_rfl
def Ko (x:Vec):Prop:=(IntKind.i64.min<=x.X/\x.X<=IntKind.i64.max)/\(IntKind.i64.min<=x.Y/\x.Y<=IntKind.i64.max)
def VP (x:Transform):Prop:=Ko x.Position/\(IntKind.i64.min<=x.qy/\x.qy<=IntKind.i64.max)
def mh (x:Shape):Prop:=(IntKind.i64.min<=x.Kind/\x.Kind<=IntKind.i64.max)/\(IntKind.i64.min<=x.qM/\x.qM<=IntKind.i64.max)/\((∀a∈x.jS,Ko a)/\(x.jS).length<=9223372036854775807)
def Vy (x:Jy):Prop:=mh x.Shape/\(IntKind.i64.min<=x.yy/\x.yy<=IntKind.i64.max)/\(IntKind.i64.min<=x.JL/\x.JL<=IntKind.i64.max)/\(IntKind.i64.min<=x.jX/\x.jX<=IntKind.i64.max)/\True/\(IntKind.i64.min<=x.Category/\x.Category<=IntKind.i64.max)/\(IntKind.i64.min<=x.Mask/\x.Mask<=IntKind.i64.max)/\(IntKind.i64.min<=x.QH/\x.QH<=IntKind.i64.max)
def jcu (x:Body):Prop:=(IntKind.i64.min<=x.ID/\x.ID<=IntKind.i64.max)/\(IntKind.i64.min<=x.Kind/\x.Kind<=IntKind.i64.max)/\VP x.Transform/\Ko x.jZ/\(IntKind.i64.min<=x.jC/\x.jC<=IntKind.i64.max)/\Ko x.YA/\(IntKind.i64.min<=x.Yl/\x.Yl<=IntKind.i64.max)/\(IntKind.i64.min<=x.jN/\x.jN<=IntKind.i64.max)/\(IntKind.i64.min<=x.jI/\x.jI<=IntKind.i64.max)/\(IntKind.i64.min<=x.jR/\x.jR<=IntKind.i64.max)/\True/\True/\True/\True/\(IntKind.i64.min<=x.Jt/\x.Jt<=IntKind.i64.max)/\((∀a∈x.jk,Vy a)/\(x.jk).length<=9223372036854775807)
def mq (x:jn):Prop:=(IntKind.i64.min<=x.ID/\x.ID<=IntKind.i64.max)/\(IntKind.i64.min<=x.Kind/\x.Kind<=IntKind.i64.max)/\(IntKind.i64.min<=x.QS/\x.QS<=IntKind.i64.max)/\(IntKind.i64.min<=x.QR/\x.QR<=IntKind.i64.max)/\Ko x.JS/\Ko x.JR/\Ko x.KO/\(IntKind.i64.min<=x.jM/\x.jM<=IntKind.i64.max)/\True/\(IntKind.i64.min<=x.QP/\x.QP<=IntKind.i64.max)/\(IntKind.i64.min<=x.QN/\x.QN<=IntKind.i64.max)/\True/\(IntKind.i64.min<=x.Jl/\x.Jl<=IntKind.i64.max)/\(IntKind.i64.min<=x.JQ/\x.JQ<=IntKind.i64.max)/\(IntKind.i64.min<=x.JP/\x.JP<=IntKind.i64.max)/\(IntKind.i64.min<=x.Jm/\x.Jm<=IntKind.i64.max)/\True/\((IntKind.i64.min<=x.jx.1/\x.jx.1<=IntKind.i64.max)/\(IntKind.i64.min<=x.jx.2.1/\x.jx.2.1<=IntKind.i64.max)/\(IntKind.i64.min<=x.jx.2.2.1/\x.jx.2.2.1<=IntKind.i64.max)/\(IntKind.i64.min<=x.jx.2.2.2/\x.jx.2.2.2<=IntKind.i64.max))
def UE (x:GoForm.Input):Prop:=(IntKind.i64.min<=x.Kind/\x.Kind<=IntKind.i64.max)/\(IntKind.i64.min<=x.ID/\x.ID<=IntKind.i64.max)/\Ko x.Vec/\(IntKind.i64.min<=x.Value/\x.Value<=IntKind.i64.max)/\jcu x.Body/\mq x.jn
theorem op3 (W:Go.World):qv Tryz.prog W 3 (fun(x:Int)=>[xH x]) (fun(x:Int)=>(IntKind.i64.min<=x/\x<=IntKind.i64.max)):=kB Tryz.underlying3
theorem jhO (W:Go.World):qv Tryz.prog W 73 (fun(x:(Int × Int × Int × Int))=>(JI (qL .i64) (JI (qL .i64) (JI (qL .i64) (qL .i64)))).ca x) (fun(x:(Int × Int × Int × Int))=>((IntKind.i64.min<=x.1/\x.1<=IntKind.i64.max)/\(IntKind.i64.min<=x.2.1/\x.2.1<=IntKind.i64.max)/\(IntKind.i64.min<=x.2.2.1/\x.2.2.1<=IntKind.i64.max)/\(IntKind.i64.min<=x.2.2.2/\x.2.2.2<=IntKind.i64.max))):=mR Tryz.underlying73 (by kernel_rfl) (by kernel_rfl) (op3 W)
theorem op4 (W:Go.World):qv Tryz.prog W 4 (fun(x:Bool)=>[jeH x]) (fun(x:Bool)=>True):=mQ Tryz.underlying4
theorem jei (W:Go.World):qv Tryz.prog W 65 (fun(x:Vec)=>WC.ca x) (fun(x:Vec)=>Ko x):=qg (N:=2) (fun b=>⟨b.1,b.2⟩) Tryz.underlying65 (by kernel_rfl) (ju (i:=0) (off:=0) (off':=1) (n:=1) (N:=2) rfl rfl (by kernel_rfl) rfl (op3 W) (qB (i:=1) (off:=1) (n:=1) rfl rfl (by kernel_rfl) (op3 W))) (fun _=>rfl) (fun _ h=>h)
theorem jhP (W:Go.World):qv Tryz.prog W 72 (fun(x:Int)=>[xH x]) (fun(x:Int)=>(IntKind.i64.min<=x/\x<=IntKind.i64.max)):=kB Tryz.underlying72
theorem jhN (W:Go.World):qv Tryz.prog W 75 (fun(x:jn)=>WG.ca x) (fun(x:jn)=>mq x):=qg (N:=24) (fun b=>⟨b.1,b.2.1,b.2.2.1,b.2.2.2.1,b.2.2.2.2.1,b.2.2.2.2.2.1,b.2.2.2.2.2.2.1,b.2.2.2.2.2.2.2.1,b.2.2.2.2.2.2.2.2.1,b.2.2.2.2.2.2.2.2.2.1,b.2.2.2.2.2.2.2.2.2.2.1,b.2.2.2.2.2.2.2.2.2.2.2.1,b.2.2.2.2.2.2.2.2.2.2.2.2.1,b.2.2.2.2.2.2.2.2.2.2.2.2.2.1,b.2.2.2.2.2.2.2.2.2.2.2.2.2.2.1,b.2.2.2.2.2.2.2.2.2.2.2.2.2.2.2.1,b.2.2.2.2.2.2.2.2.2.2.2.2.2.2.2.2.1,b.2.2.2.2.2.2.2.2.2.2.2.2.2.2.2.2.2⟩) Tryz.underlying75 (by kernel_rfl) (ju (i:=0) (off:=0) (off':=1) (n:=1) (N:=24) rfl rfl (by kernel_rfl) rfl (op3 W) (ju (i:=1) (off:=1) (off':=2) (n:=1) (N:=24) rfl rfl (by kernel_rfl) rfl (jhP W) (ju (i:=2) (off:=2) (off':=3) (n:=1) (N:=24) rfl rfl (by kernel_rfl) rfl (op3 W) (ju (i:=3) (off:=3) (off':=4) (n:=1) (N:=24) rfl rfl (by kernel_rfl) rfl (op3 W) (ju (i:=4) (off:=4) (off':=6) (n:=2) (N:=24) rfl rfl (by kernel_rfl) rfl (jei W) (ju (i:=5) (off:=6) (off':=8) (n:=2) (N:=24) rfl rfl (by kernel_rfl) rfl (jei W) (ju (i:=6) (off:=8) (off':=10) (n:=2) (N:=24) rfl rfl (by kernel_rfl) rfl (jei W) (ju (i:=7) (off:=10) (off':=11) (n:=1) (N:=24) rfl rfl (by kernel_rfl) rfl (op3 W) (ju (i:=8) (off:=11) (off':=12) (n:=1) (N:=24) rfl rfl (by kernel_rfl) rfl (op4 W) (ju (i:=9) (off:=12) (off':=13) (n:=1) (N:=24) rfl rfl (by kernel_rfl) rfl (op3 W) (ju (i:=10) (off:=13) (off':=14) (n:=1) (N:=24) rfl rfl (by kernel_rfl) rfl (op3 W) (ju (i:=11) (off:=14) (off':=15) (n:=1) (N:=24) rfl rfl (by kernel_rfl) rfl (op4 W) (ju (i:=12) (off:=15) (off':=16) (n:=1) (N:=24) rfl rfl (by kernel_rfl) rfl (op3 W) (ju (i:=13) (off:=16) (off':=17) (n:=1) (N:=24) rfl rfl (by kernel_rfl) rfl (op3 W) (ju (i:=14) (off:=17) (off':=18) (n:=1) (N:=24) rfl rfl (by kernel_rfl) rfl (op3 W) (ju (i:=15) (off:=18) (off':=19) (n:=1) (N:=24) rfl rfl (by kernel_rfl) rfl (op3 W) (ju (i:=16) (off:=19) (off':=20) (n:=1) (N:=24) rfl rfl (by kernel_rfl) rfl (op4 W) (qB (i:=17) (off:=20) (n:=4) rfl rfl (by kernel_rfl) (jhO W))))))))))))))))))) (fun _=>rfl) (fun _ h=>h)
theorem jht (W:Go.World):qv Tryz.prog W 115 (fun(x:(List Vec))=>[wy x]) (fun(x:(List Vec))=>((∀a∈x,Ko a)/\(x).length<=9223372036854775807)):=zj (sz:=2) (E:=QC) Tryz.underlying115 (by kernel_rfl) (by decide) (jei W) (fun _=>rfl) (fun _=>rfl)
theorem jhu (W:Go.World):qv Tryz.prog W 114 (fun(x:Int)=>[xH x]) (fun(x:Int)=>(IntKind.i64.min<=x/\x<=IntKind.i64.max)):=kB Tryz.underlying114
theorem jhs (W:Go.World):qv Tryz.prog W 117 (fun(x:Shape)=>WD.ca x) (fun(x:Shape)=>mh x):=qg (N:=3) (fun b=>⟨b.1,b.2.1,b.2.2⟩) Tryz.underlying117 (by kernel_rfl) (ju (i:=0) (off:=0) (off':=1) (n:=1) (N:=3) rfl rfl (by kernel_rfl) rfl (jhu W) (ju (i:=1) (off:=1) (off':=2) (n:=1) (N:=3) rfl rfl (by kernel_rfl) rfl (op3 W) (qB (i:=2) (off:=2) (n:=1) rfl rfl (by kernel_rfl) (jht W)))) (fun _=>rfl) (fun _ h=>h)
theorem jhr (W:Go.World):qv Tryz.prog W 119 (fun(x:Jy)=>vK.ca x) (fun(x:Jy)=>Vy x):=qg (N:=10) (fun b=>⟨b.1,b.2.1,b.2.2.1,b.2.2.2.1,b.2.2.2.2.1,b.2.2.2.2.2.1,b.2.2.2.2.2.2.1,b.2.2.2.2.2.2.2⟩) Tryz.underlying119 (by kernel_rfl) (ju (i:=0) (off:=0) (off':=3) (n:=3) (N:=10) rfl rfl (by kernel_rfl) rfl (jhs W) (ju (i:=1) (off:=3) (off':=4) (n:=1) (N:=10) rfl rfl (by kernel_rfl) rfl (op3 W) (ju (i:=2) (off:=4) (off':=5) (n:=1) (N:=10) rfl rfl (by kernel_rfl) rfl (op3 W) (ju (i:=3) (off:=5) (off':=6) (n:=1) (N:=10) rfl rfl (by kernel_rfl) rfl (op3 W) (ju (i:=4) (off:=6) (off':=7) (n:=1) (N:=10) rfl rfl (by kernel_rfl) rfl (op4 W) (ju (i:=5) (off:=7) (off':=8) (n:=1) (N:=10) rfl rfl (by kernel_rfl) rfl (op3 W) (ju (i:=6) (off:=8) (off':=9) (n:=1) (N:=10) rfl rfl (by kernel_rfl) rfl (op3 W) (qB (i:=7) (off:=9) (n:=1) rfl rfl (by kernel_rfl) (op3 W))))))))) (fun _=>rfl) (fun _ h=>h)
theorem jhR (W:Go.World):qv Tryz.prog W 69 (fun(x:(List Jy))=>[zS x]) (fun(x:(List Jy))=>((∀a∈x,Vy a)/\(x).length<=9223372036854775807)):=zj (sz:=10) (E:=yj) Tryz.underlying69 (by kernel_rfl) (by decide) (jhr W) (fun _=>rfl) (fun _=>rfl)
theorem jhS (W:Go.World):qv Tryz.prog W 68 (fun(x:Transform)=>zD.ca x) (fun(x:Transform)=>VP x):=qg (N:=3) (fun b=>⟨b.1,b.2⟩) Tryz.underlying68 (by kernel_rfl) (ju (i:=0) (off:=0) (off':=2) (n:=2) (N:=3) rfl rfl (by kernel_rfl) rfl (jei W) (qB (i:=1) (off:=2) (n:=1) rfl rfl (by kernel_rfl) (op3 W))) (fun _=>rfl) (fun _ h=>h)
theorem jhT (W:Go.World):qv Tryz.prog W 66 (fun(x:Int)=>[xH x]) (fun(x:Int)=>(IntKind.i64.min<=x/\x<=IntKind.i64.max)):=kB Tryz.underlying66
theorem jhQ (W:Go.World):qv Tryz.prog W 71 (fun(x:Body)=>xW.ca x) (fun(x:Body)=>jcu x):=qg (N:=20) (fun b=>⟨b.1,b.2.1,b.2.2.1,b.2.2.2.1,b.2.2.2.2.1,b.2.2.2.2.2.1,b.2.2.2.2.2.2.1,b.2.2.2.2.2.2.2.1,b.2.2.2.2.2.2.2.2.1,b.2.2.2.2.2.2.2.2.2.1,b.2.2.2.2.2.2.2.2.2.2.1,b.2.2.2.2.2.2.2.2.2.2.2.1,b.2.2.2.2.2.2.2.2.2.2.2.2.1,b.2.2.2.2.2.2.2.2.2.2.2.2.2.1,b.2.2.2.2.2.2.2.2.2.2.2.2.2.2.1,b.2.2.2.2.2.2.2.2.2.2.2.2.2.2.2⟩) Tryz.underlying71 (by kernel_rfl) (ju (i:=0) (off:=0) (off':=1) (n:=1) (N:=20) rfl rfl (by kernel_rfl) rfl (op3 W) (ju (i:=1) (off:=1) (off':=2) (n:=1) (N:=20) rfl rfl (by kernel_rfl) rfl (jhT W) (ju (i:=2) (off:=2) (off':=5) (n:=3) (N:=20) rfl rfl (by kernel_rfl) rfl (jhS W) (ju (i:=3) (off:=5) (off':=7) (n:=2) (N:=20) rfl rfl (by kernel_rfl) rfl (jei W) (ju (i:=4) (off:=7) (off':=8) (n:=1) (N:=20) rfl rfl (by kernel_rfl) rfl (op3 W) (ju (i:=5) (off:=8) (off':=10) (n:=2) (N:=20) rfl rfl (by kernel_rfl) rfl (jei W) (ju (i:=6) (off:=10) (off':=11) (n:=1) (N:=20) rfl rfl (by kernel_rfl) rfl (op3 W) (ju (i:=7) (off:=11) (off':=12) (n:=1) (N:=20) rfl rfl (by kernel_rfl) rfl (op3 W) (ju (i:=8) (off:=12) (off':=13) (n:=1) (N:=20) rfl rfl (by kernel_rfl) rfl (op3 W) (ju (i:=9) (off:=13) (off':=14) (n:=1) (N:=20) rfl rfl (by kernel_rfl) rfl (op3 W) (ju (i:=10) (off:=14) (off':=15) (n:=1) (N:=20) rfl rfl (by kernel_rfl) rfl (op4 W) (ju (i:=11) (off:=15) (off':=16) (n:=1) (N:=20) rfl rfl (by kernel_rfl) rfl (op4 W) (ju (i:=12) (off:=16) (off':=17) (n:=1) (N:=20) rfl rfl (by kernel_rfl) rfl (op4 W) (ju (i:=13) (off:=17) (off':=18) (n:=1) (N:=20) rfl rfl (by kernel_rfl) rfl (op4 W) (ju (i:=14) (off:=18) (off':=19) (n:=1) (N:=20) rfl rfl (by kernel_rfl) rfl (op3 W) (qB (i:=15) (off:=19) (n:=1) rfl rfl (by kernel_rfl) (jhR W))))))))))))))))) (fun _=>rfl) (fun _ h=>h)
theorem jhU (W:Go.World):qv Tryz.prog W 63 (fun(x:Int)=>[xH x]) (fun(x:Int)=>(IntKind.i64.min<=x/\x<=IntKind.i64.max)):=kB Tryz.underlying63
theorem jhM (W:Go.World):qv Tryz.prog W 77 (fun(x:GoForm.Input)=>Uz.ca x) (fun(x:GoForm.Input)=>UE x):=qg (N:=49) (fun b=>⟨b.1,b.2.1,b.2.2.1,b.2.2.2.1,b.2.2.2.2.1,b.2.2.2.2.2⟩) Tryz.underlying77 (by kernel_rfl) (ju (i:=0) (off:=0) (off':=1) (n:=1) (N:=49) rfl rfl (by kernel_rfl) rfl (jhU W) (ju (i:=1) (off:=1) (off':=2) (n:=1) (N:=49) rfl rfl (by kernel_rfl) rfl (op3 W) (ju (i:=2) (off:=2) (off':=4) (n:=2) (N:=49) rfl rfl (by kernel_rfl) rfl (jei W) (ju (i:=3) (off:=4) (off':=5) (n:=1) (N:=49) rfl rfl (by kernel_rfl) rfl (op3 W) (ju (i:=4) (off:=5) (off':=25) (n:=20) (N:=49) rfl rfl (by kernel_rfl) rfl (jhQ W) (qB (i:=5) (off:=25) (n:=24) rfl rfl (by kernel_rfl) (jhN W))))))) (fun _=>rfl) (fun _ h=>h)
theorem jhV (W:Go.World):qv Tryz.prog W 51 (fun(x:(List GoForm.Input))=>[jE x]) (fun(x:(List GoForm.Input))=>((∀a∈x,UE a)/\(x).length<=9223372036854775807)):=zj (sz:=49) (E:=yB) Tryz.underlying51 (by kernel_rfl) (by decide) (jhM W) (fun _=>rfl) (fun _=>rfl)
theorem jhX (W:Go.World):qv Tryz.prog W 23 (fun(x:(List (List GoForm.Input)))=>[jw x]) (fun(x:(List (List GoForm.Input)))=>((∀a∈x,((∀b∈a,UE b)/\(a).length<=9223372036854775807))/\(x).length<=9223372036854775807)):=zj (sz:=1) (E:=jE) Tryz.underlying23 (by kernel_rfl) (by decide) (jhV W) (fun _=>rfl) (fun _=>rfl)
theorem op5 (W:Go.World):qv Tryz.prog W 5 (fun(x:UInt8)=>[kH x]) (fun(x:UInt8)=>True):=mP Tryz.underlying5
theorem jhW (W:Go.World):qv Tryz.prog W 24 (fun(x:(List UInt8))=>[jW x]) (fun(x:(List UInt8))=>((∀a∈x,True)/\(x).length<=9223372036854775807)):=zj (sz:=1) (E:=kH) Tryz.underlying24 (by kernel_rfl) (by decide) (op5 W) (fun _=>rfl) (fun _=>rfl)
theorem op9 (W:Go.World):qv Tryz.prog W 9 (fun(x:(List UInt8))=>[qY x]) (fun(x:(List UInt8))=>(x).length<=9223372036854775807):=jaN Tryz.underlying9
theorem zZ {W:World}(h:laidMetH Tryz.prog Rows.recordingRoundTripRow.laid W):W.cell? ⟨0,0,none⟩=some (.iface 190 (.agg #[.pointer (some ⟨4,95,none⟩)])):=by
 have h':laidMet Tryz.prog (Rows.recordingRoundTripRow.laid.filter fun x=>x.2.handleName?.isNone) W/\handlesMet Tryz.prog [("errors.errorType",Rows.laid_errors_errorType)] W:=h
 obtain⟨name,u,ty,e1,e2,e3,e4,e5⟩:=h'.2 _ (List.mem_singleton.2 rfl)
 have en:name=[101,114,114,111,114]:=(Option.some.inj e1).symm
 subst en
 obtain rfl:=Option.some.inj ((show(Tryz.prog.cutTypes.find? (·.1 == "internal/reflectlite.rtype")).map (·.2)=some 190 by kernel_rfl).symm.trans e2)
 have hm:ty∈(List.range 316).filter fun t=>Tryz.prog.rowNamed t [101,114,114,111,114]:=List.mem_filter.2 ⟨List.mem_range.2 (by rw[<-(show Tryz.prog.types.size=316 by kernel_rfl)];exact e3),e4⟩
 rw[show((List.range 316).filter fun t=>Tryz.prog.rowNamed t [101,114,114,111,114])=[95] by kernel_rfl]at hm
 obtain rfl:=List.mem_singleton.1 hm
 have hh:typeHandle Tryz.prog 95=.pointer (some ⟨4,95,none⟩):=by kernel_rfl
 rw[hh]at e5
 simpa using World.var?_cell (show Tryz.prog.globalNamed "errors.errorType" = some 0 by kernel_rfl) e5 0
theorem zh (H:Type)(enc:TypeId × Value->H)(W:World)(base:Nat)(args:Array Value)(ds gs:List (DataW H))(before:List MemPlace)
 (hval:∀(j:Nat) t v,Tryz.f3.params[j]? = some t->args[j]? = some v->Value.okWide Tryz.prog W .any base t v)
 (hW:DataW.Whole enc Tryz.prog Tryz.f3.params.toList Rows.recordingRoundTripSpec.vars false W args.toList ds gs before)
 (hL:laidMetH Tryz.prog Rows.recordingRoundTripRow.laid W):
 Calls Tryz.prog 3 args W fun e W'=>∃v,e=.returned v/\Rows.recordingRoundTripSpec.post enc Tryz.prog Tryz.f3 false true false false W args v W':=by
 have hW':=hW
 obtain⟨p,q,hA0,hV,rfl,hfz,hnd⟩:=hW
 have hA:DataW.TrodAll enc Tryz.prog W 0 (fun _=>true) true Tryz.f3.params.toList args.toList ds p:=hA0
 rw[Tryz.params3]at hA hval
 obtain⟨v0,vs0,d0,ds0,p0,q0,hargs,rfl,rfl,h0,r0⟩:=trodAll_cons hA
 obtain⟨v1,vs1,d1,ds1,p1,q1,rfl,rfl,rfl,h1,r1⟩:=trodAll_cons r0
 obtain⟨v2,vs2,d2,ds2,p2,q2,rfl,rfl,rfl,h2,r2⟩:=trodAll_cons r1
 obtain⟨rfl,rfl,rfl⟩:=trodAll_nil r2
 obtain rfl:args=#[v0,v1,v2]:=by cases args;simp_all
 obtain⟨rfl,rfl⟩:=trodVars_none hV
 have ok0:=hval 0 23 v0 rfl rfl
 obtain⟨a0,e0,w0⟩:=XZ (Xv Tryz.underlying23 rfl ok0) (jhX W) h0 ok0
 have ok1:=hval 1 24 v1 rfl rfl
 obtain⟨a1,e1,w1⟩:=XZ (Xv Tryz.underlying24 rfl ok1) (jhW W) h1 ok1
 have ok2:=hval 2 9 v2 rfl rfl
 obtain⟨a2,e2,w2⟩:=XZ (Xv Tryz.underlying9 rfl ok2) (op9 W) h2 ok2
 have hp:=GoForm.qO a0 a1 a2 w0 w1 w2
 have hc:FnR Tryz.prog 3 [jw a0,jW a1,qY a2] (.v (.bool true)) []:=c_3.ok (a0,a1,a2,()) _ true ⟨rfl,rfl,rfl,trivial⟩ hp
 exact jdd laidOut (by kernel_rfl) rfl Tryz.underlying4 rfl hW' rfl (.cons e0 (.cons e1 (.cons e2 .nil))) hc (zZ hL)
noncomputable def YC (os:Os):World:=
 {World.holding Tryz.prog os ⟨#[],#[],[]⟩with heap:=((((World.holding Tryz.prog os ⟨#[],#[],[]⟩).heap.modify 3 fun| .cells _ t frozen=>.cells #[.int .u8 128,.int .u8 191,.int .u8 160,.int .u8 191,.int .u8 128,.int .u8 159,.int .u8 144,.int .u8 191,.int .u8 128,.int .u8 143,.int .u8 0,.int .u8 0,.int .u8 0,.int .u8 0,.int .u8 0,.int .u8 0,.int .u8 0,.int .u8 0,.int .u8 0,.int .u8 0,.int .u8 0,.int .u8 0,.int .u8 0,.int .u8 0,.int .u8 0,.int .u8 0,.int .u8 0,.int .u8 0,.int .u8 0,.int .u8 0,.int .u8 0,.int .u8 0] t frozen|o=>o).modify 0 fun| .cells _ t frozen=>.cells #[.iface 190 (.agg #[.pointer (some ⟨4,95,none⟩)])] t frozen|o=>o).modify 2 fun| .cells _ t frozen=>.cells (Go.Pinned.utf8FirstZ.map fun(n:Nat)=>Value.int .u8 (n:Int)).toArray t frozen|o=>o)}
theorem zg (os:Os):laidMetH Tryz.prog Rows.recordingRoundTripRow.laid ((YC os).forCall (fun _ _=>0) ⟨#[],#[(.slice none 0 0),(.slice none 0 0),(.string ByteArray.empty)],[]⟩).memory:=
 laidMetH_of_parts (laidMet_of_run' 8 (by kernel_rfl) (by kernel_rfl)) (by kernel_rfl)
theorem Zq (os:Os){H:Type}(enc:TypeId × Value->H):∃places,DataW.whole enc Tryz.prog ((YC os).forCall (fun _ _=>0) ⟨#[],#[(.slice none 0 0),(.slice none 0 0),(.string ByteArray.empty)],[]⟩).memory Tryz.f3.params.toList Rows.recordingRoundTripSpec.vars false (#[(.slice none 0 0),(.slice none 0 0),(.string ByteArray.empty)]:Array Value).toList 8=some ([.nil,.nil,.lit (.string [])],[],places):=
 ⟨[],by kernel_rfl⟩
theorem zY (os:Os)(started:os.Started)(H:Type)(enc:TypeId × Value->H)(F:Stop.Interp):
 ReturnsInHanded {} Tryz.checked os 3 .any ((OpenSpec.ofChange Rows.recordingRoundTripSpec).preRow enc Tryz.prog Tryz.f3 Rows.recordingRoundTripRow.domain false Rows.recordingRoundTripRow.laid) (((OpenSpec.ofChange Rows.recordingRoundTripSpec).at F).post enc Tryz.prog Tryz.f3 false true false false):=by
 obtain⟨places,hx⟩:=Zq os enc
 refine returnsInHanded_of_row (C:=Tryz.checked) (s:=OpenSpec.ofChange Rows.recordingRoundTripSpec) own started (by kernel_rfl) Tryz.func3
  (witness_row_at (enc:=enc) (C:=Tryz.checked) false (YC os) #[(.slice none 0 0),(.slice none 0 0),(.string ByteArray.empty)] rfl (by kernel_rfl) (by kernel_rfl) (by kernel_rfl)
    (OpenSpec.preRow_of_cond 8 hx (by kernel_rfl) (fun k hk=>by cases hk) (by kernel_rfl) (zg os))) ?_
 intro W base args ds gs before hval hW _ _ _ hL _ _
 exact zh H enc W base args ds gs before hval hW hL
theorem ZD:Rows.RecordingRoundTripSaid:=
 OpenClaim.holds_of_cond 3 Tryz.f3 rfl rfl rfl rfl rfl rfl rfl ⟨rfl,rfl,rfl,rfl,rfl⟩ rfl rfl rfl rfl rfl (by kernel_rfl) Tryz.func3 (by kernel_rfl)
  (of_decide_eq_true (by kernel_rfl)) (by unfold Func.isWrapper;first|(rw[if_pos (by decide +kernel)];kernel_rfl)|(rw[if_neg (by decide +kernel)];exact⟨rfl,rfl⟩))
  (fun os started H enc _ F=>by rw[OpenClaim.pre_eq_preRow];exact zY os started H enc F)
theorem Zr (f:FuncId)(fn:Func)(hf:Tryz.pinned.checked.prog.funcNamed Rows.recordingRoundTripRow.func=some f)(hfn:Tryz.pinned.checked.prog.funcs[f]? = some fn):
 true=Tryz.pinned.checked.prog.looks []/\∀(j:Nat) t,fn.params[j]? = some t->Tryz.pinned.checked.prog.wantsStandIn t=false:=by
 obtain rfl:f=3:=Option.some.inj ((show Tryz.prog.funcNamed Rows.recordingRoundTripRow.func=some 3 by kernel_rfl).symm.trans hf)|>.symm
 obtain rfl:fn=Tryz.f3:=(Option.some.inj (Tryz.func3.symm.trans hfn)).symm
 refine⟨by kernel_rfl,fun j t ht=>?_⟩
 rw[Tryz.params3]at ht
 have hm:=Array.mem_of_getElem? ht
 simp only[List.mem_toArray,List.mem_cons,List.not_mem_nil,or_false]at hm
 rcases hm with rfl|rfl|rfl
 ·exact(show Tryz.prog.wantsStandIn 23=false by kernel_rfl)
 ·exact(show Tryz.prog.wantsStandIn 24=false by kernel_rfl)
 ·exact(show Tryz.prog.wantsStandIn 9=false by kernel_rfl)
theorem recordingRoundTrip_holds:Rows.RecordingRoundTripCardSaid:=
 Claim7.holds_tied_plain_at .later [] _ _ _ _ ZD (fun _ h=>by cases h) (by kernel_rfl) (fun _ h=>by cases h) recordingRoundTrip_row_tie rfl ⟨rfl,rfl⟩ (by kernel_rfl) rfl Zr (by kernel_rfl)
end Go.Proofs.YtffgldbihpgjgaaGreatDoor
