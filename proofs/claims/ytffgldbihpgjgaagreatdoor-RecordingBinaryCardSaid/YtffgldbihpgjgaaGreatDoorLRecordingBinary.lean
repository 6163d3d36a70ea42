/- RecordingBinary: for every input the law returns true; each argument reads behind the call as it read before. No conditions. -/
import Derived.Test.YtffgldbihpgjgaaGreatDoorQE
import Derived.Test.YtffgldbihpgjgaaGreatDoorF47C
import Derived.Test.YtffgldbihpgjgaaGreatDoorRY
import Derived.Test.YtffgldbihpgjgaaGreatDoorCards
import Derived.Test.YtffgldbihpgjgaaGreatDoorTie
import Derived.Deep.DeepHandedRow
import Derived.Test.YtffgldbihpgjgaaGreatDoorRows
set_option linter.all false
set_option maxRecDepth 100000
namespace Go.Proofs.YtffgldbihpgjgaaGreatDoor
open Go.Rx GoForm Go.ChangeShapes Go.WideShapes Go.ChangeAt Go.RowKit
theorem own:ownKnob Tryz.prog.godebug=none:=by kernel_rfl
theorem laidOut:laidOutB Tryz.prog=true:=by kernel_rfl
def jfN (x:Vec):Prop:=(IntKind.i64.min≤x.X∧x.X≤IntKind.i64.max)∧(IntKind.i64.min≤x.Y∧x.Y≤IntKind.i64.max)
def jg6 (x:Transform):Prop:=jfN x.Position∧(IntKind.i64.min≤x.Angle∧x.Angle≤IntKind.i64.max)
def jlS (x:Shape):Prop:=(IntKind.i64.min≤x.Kind∧x.Kind≤IntKind.i64.max)∧(IntKind.i64.min≤x.Radius∧x.Radius≤IntKind.i64.max)∧((∀ a∈x.Vertices,jfN a)∧(x.Vertices).length≤9223372036854775807)
def jgS (x:Fixture):Prop:=jlS x.Shape∧(IntKind.i64.min≤x.Density∧x.Density≤IntKind.i64.max)∧(IntKind.i64.min≤x.Friction∧x.Friction≤IntKind.i64.max)∧(IntKind.i64.min≤x.Restitution∧x.Restitution≤IntKind.i64.max)∧True∧(IntKind.i64.min≤x.Category∧x.Category≤IntKind.i64.max)∧(IntKind.i64.min≤x.Mask∧x.Mask≤IntKind.i64.max)∧(IntKind.i64.min≤x.Group∧x.Group≤IntKind.i64.max)
def joC (x:Body):Prop:=(IntKind.i64.min≤x.ID∧x.ID≤IntKind.i64.max)∧(IntKind.i64.min≤x.Kind∧x.Kind≤IntKind.i64.max)∧jg6 x.Transform∧jfN x.Velocity∧(IntKind.i64.min≤x.AngularVelocity∧x.AngularVelocity≤IntKind.i64.max)∧jfN x.Force∧(IntKind.i64.min≤x.Torque∧x.Torque≤IntKind.i64.max)∧(IntKind.i64.min≤x.LinearDamping∧x.LinearDamping≤IntKind.i64.max)∧(IntKind.i64.min≤x.AngularDamping∧x.AngularDamping≤IntKind.i64.max)∧(IntKind.i64.min≤x.GravityScale∧x.GravityScale≤IntKind.i64.max)∧True∧True∧True∧True∧(IntKind.i64.min≤x.IdleSteps∧x.IdleSteps≤IntKind.i64.max)∧((∀ a∈x.Fixtures,jgS a)∧(x.Fixtures).length≤9223372036854775807)
def jlY (x:Joint):Prop:=(IntKind.i64.min≤x.ID∧x.ID≤IntKind.i64.max)∧(IntKind.i64.min≤x.Kind∧x.Kind≤IntKind.i64.max)∧(IntKind.i64.min≤x.BodyA∧x.BodyA≤IntKind.i64.max)∧(IntKind.i64.min≤x.BodyB∧x.BodyB≤IntKind.i64.max)∧jfN x.AnchorA∧jfN x.AnchorB∧jfN x.Axis∧(IntKind.i64.min≤x.ReferenceAngle∧x.ReferenceAngle≤IntKind.i64.max)∧True∧(IntKind.i64.min≤x.Lower∧x.Lower≤IntKind.i64.max)∧(IntKind.i64.min≤x.Upper∧x.Upper≤IntKind.i64.max)∧True∧(IntKind.i64.min≤x.MotorSpeed∧x.MotorSpeed≤IntKind.i64.max)∧(IntKind.i64.min≤x.MaxForce∧x.MaxForce≤IntKind.i64.max)∧(IntKind.i64.min≤x.Softness∧x.Softness≤IntKind.i64.max)∧(IntKind.i64.min≤x.BreakForce∧x.BreakForce≤IntKind.i64.max)∧True∧((IntKind.i64.min≤x.Impulses.1∧x.Impulses.1≤IntKind.i64.max)∧(IntKind.i64.min≤x.Impulses.2.1∧x.Impulses.2.1≤IntKind.i64.max)∧(IntKind.i64.min≤x.Impulses.2.2.1∧x.Impulses.2.2.1≤IntKind.i64.max)∧(IntKind.i64.min≤x.Impulses.2.2.2∧x.Impulses.2.2.2≤IntKind.i64.max))
def jjy (x:GoForm.Input):Prop:=(IntKind.i64.min≤x.Kind∧x.Kind≤IntKind.i64.max)∧(IntKind.i64.min≤x.ID∧x.ID≤IntKind.i64.max)∧jfN x.Vec∧(IntKind.i64.min≤x.Value∧x.Value≤IntKind.i64.max)∧joC x.Body∧jlY x.Joint
theorem op3 (W:Go.World):Opens Tryz.prog W 3 (fun (x:Int)=>[jj7 x]) (fun (x:Int)=>(IntKind.i64.min≤x∧x≤IntKind.i64.max)):=jfg Tryz.underlying3
theorem op73 (W:Go.World):Opens Tryz.prog W 73 (fun (x:(Int × Int × Int × Int))=>(jaX (aInt .i64) (jaX (aInt .i64) (jaX (aInt .i64) (aInt .i64)))).ca x) (fun (x:(Int × Int × Int × Int))=>((IntKind.i64.min≤x.1∧x.1≤IntKind.i64.max)∧(IntKind.i64.min≤x.2.1∧x.2.1≤IntKind.i64.max)∧(IntKind.i64.min≤x.2.2.1∧x.2.2.1≤IntKind.i64.max)∧(IntKind.i64.min≤x.2.2.2∧x.2.2.2≤IntKind.i64.max))):=jmi Tryz.underlying73 (by kernel_rfl) (by kernel_rfl) (op3 W)
theorem op4 (W:Go.World):Opens Tryz.prog W 4 (fun (x:Bool)=>[e_bool x]) (fun (x:Bool)=>True):=jmh Tryz.underlying4
theorem op65 (W:Go.World):Opens Tryz.prog W 65 (fun (x:Vec)=>a_Vec.ca x) (fun (x:Vec)=>jfN x):=jcu (N:=2) (fun b=>⟨b.1,b.2⟩) Tryz.underlying65 (by kernel_rfl) (jak (i:=0) (off:=0) (off':=1) (n:=1) (N:=2) rfl rfl (by kernel_rfl) rfl (op3 W) (jcN (i:=1) (off:=1) (n:=1) rfl rfl (by kernel_rfl) (op3 W))) (fun _=>rfl) (fun _ h=>h)
theorem op72 (W:Go.World):Opens Tryz.prog W 72 (fun (x:Int)=>[jj7 x]) (fun (x:Int)=>(IntKind.i64.min≤x∧x≤IntKind.i64.max)):=jfg Tryz.underlying72
theorem op75 (W:Go.World):Opens Tryz.prog W 75 (fun (x:Joint)=>a_Joint.ca x) (fun (x:Joint)=>jlY x):=jcu (N:=24) (fun b=>⟨b.1,b.2.1,b.2.2.1,b.2.2.2.1,b.2.2.2.2.1,b.2.2.2.2.2.1,b.2.2.2.2.2.2.1,b.2.2.2.2.2.2.2.1,b.2.2.2.2.2.2.2.2.1,b.2.2.2.2.2.2.2.2.2.1,b.2.2.2.2.2.2.2.2.2.2.1,b.2.2.2.2.2.2.2.2.2.2.2.1,b.2.2.2.2.2.2.2.2.2.2.2.2.1,b.2.2.2.2.2.2.2.2.2.2.2.2.2.1,b.2.2.2.2.2.2.2.2.2.2.2.2.2.2.1,b.2.2.2.2.2.2.2.2.2.2.2.2.2.2.2.1,b.2.2.2.2.2.2.2.2.2.2.2.2.2.2.2.2.1,b.2.2.2.2.2.2.2.2.2.2.2.2.2.2.2.2.2⟩) Tryz.underlying75 (by kernel_rfl) (jak (i:=0) (off:=0) (off':=1) (n:=1) (N:=24) rfl rfl (by kernel_rfl) rfl (op3 W) (jak (i:=1) (off:=1) (off':=2) (n:=1) (N:=24) rfl rfl (by kernel_rfl) rfl (op72 W) (jak (i:=2) (off:=2) (off':=3) (n:=1) (N:=24) rfl rfl (by kernel_rfl) rfl (op3 W) (jak (i:=3) (off:=3) (off':=4) (n:=1) (N:=24) rfl rfl (by kernel_rfl) rfl (op3 W) (jak (i:=4) (off:=4) (off':=6) (n:=2) (N:=24) rfl rfl (by kernel_rfl) rfl (op65 W) (jak (i:=5) (off:=6) (off':=8) (n:=2) (N:=24) rfl rfl (by kernel_rfl) rfl (op65 W) (jak (i:=6) (off:=8) (off':=10) (n:=2) (N:=24) rfl rfl (by kernel_rfl) rfl (op65 W) (jak (i:=7) (off:=10) (off':=11) (n:=1) (N:=24) rfl rfl (by kernel_rfl) rfl (op3 W) (jak (i:=8) (off:=11) (off':=12) (n:=1) (N:=24) rfl rfl (by kernel_rfl) rfl (op4 W) (jak (i:=9) (off:=12) (off':=13) (n:=1) (N:=24) rfl rfl (by kernel_rfl) rfl (op3 W) (jak (i:=10) (off:=13) (off':=14) (n:=1) (N:=24) rfl rfl (by kernel_rfl) rfl (op3 W) (jak (i:=11) (off:=14) (off':=15) (n:=1) (N:=24) rfl rfl (by kernel_rfl) rfl (op4 W) (jak (i:=12) (off:=15) (off':=16) (n:=1) (N:=24) rfl rfl (by kernel_rfl) rfl (op3 W) (jak (i:=13) (off:=16) (off':=17) (n:=1) (N:=24) rfl rfl (by kernel_rfl) rfl (op3 W) (jak (i:=14) (off:=17) (off':=18) (n:=1) (N:=24) rfl rfl (by kernel_rfl) rfl (op3 W) (jak (i:=15) (off:=18) (off':=19) (n:=1) (N:=24) rfl rfl (by kernel_rfl) rfl (op3 W) (jak (i:=16) (off:=19) (off':=20) (n:=1) (N:=24) rfl rfl (by kernel_rfl) rfl (op4 W) (jcN (i:=17) (off:=20) (n:=4) rfl rfl (by kernel_rfl) (op73 W))))))))))))))))))) (fun _=>rfl) (fun _ h=>h)
theorem op115 (W:Go.World):Opens Tryz.prog W 115 (fun (x:(List Vec))=>[jhs x]) (fun (x:(List Vec))=>((∀ a∈x,jfN a)∧(x).length≤9223372036854775807)):=jdO (sz:=2) (E:=jds) Tryz.underlying115 (by kernel_rfl) (by decide) (op65 W) (fun _=>rfl) (fun _=>rfl)
theorem op114 (W:Go.World):Opens Tryz.prog W 114 (fun (x:Int)=>[jj7 x]) (fun (x:Int)=>(IntKind.i64.min≤x∧x≤IntKind.i64.max)):=jfg Tryz.underlying114
theorem op117 (W:Go.World):Opens Tryz.prog W 117 (fun (x:Shape)=>a_Shape.ca x) (fun (x:Shape)=>jlS x):=jcu (N:=3) (fun b=>⟨b.1,b.2.1,b.2.2⟩) Tryz.underlying117 (by kernel_rfl) (jak (i:=0) (off:=0) (off':=1) (n:=1) (N:=3) rfl rfl (by kernel_rfl) rfl (op114 W) (jak (i:=1) (off:=1) (off':=2) (n:=1) (N:=3) rfl rfl (by kernel_rfl) rfl (op3 W) (jcN (i:=2) (off:=2) (n:=1) rfl rfl (by kernel_rfl) (op115 W)))) (fun _=>rfl) (fun _ h=>h)
theorem op119 (W:Go.World):Opens Tryz.prog W 119 (fun (x:Fixture)=>a_Fixture.ca x) (fun (x:Fixture)=>jgS x):=jcu (N:=10) (fun b=>⟨b.1,b.2.1,b.2.2.1,b.2.2.2.1,b.2.2.2.2.1,b.2.2.2.2.2.1,b.2.2.2.2.2.2.1,b.2.2.2.2.2.2.2⟩) Tryz.underlying119 (by kernel_rfl) (jak (i:=0) (off:=0) (off':=3) (n:=3) (N:=10) rfl rfl (by kernel_rfl) rfl (op117 W) (jak (i:=1) (off:=3) (off':=4) (n:=1) (N:=10) rfl rfl (by kernel_rfl) rfl (op3 W) (jak (i:=2) (off:=4) (off':=5) (n:=1) (N:=10) rfl rfl (by kernel_rfl) rfl (op3 W) (jak (i:=3) (off:=5) (off':=6) (n:=1) (N:=10) rfl rfl (by kernel_rfl) rfl (op3 W) (jak (i:=4) (off:=6) (off':=7) (n:=1) (N:=10) rfl rfl (by kernel_rfl) rfl (op4 W) (jak (i:=5) (off:=7) (off':=8) (n:=1) (N:=10) rfl rfl (by kernel_rfl) rfl (op3 W) (jak (i:=6) (off:=8) (off':=9) (n:=1) (N:=10) rfl rfl (by kernel_rfl) rfl (op3 W) (jcN (i:=7) (off:=9) (n:=1) rfl rfl (by kernel_rfl) (op3 W))))))))) (fun _=>rfl) (fun _ h=>h)
theorem op69 (W:Go.World):Opens Tryz.prog W 69 (fun (x:(List Fixture))=>[jd8 x]) (fun (x:(List Fixture))=>((∀ a∈x,jgS a)∧(x).length≤9223372036854775807)):=jdO (sz:=10) (E:=jba) Tryz.underlying69 (by kernel_rfl) (by decide) (op119 W) (fun _=>rfl) (fun _=>rfl)
theorem op68 (W:Go.World):Opens Tryz.prog W 68 (fun (x:Transform)=>a_Transform.ca x) (fun (x:Transform)=>jg6 x):=jcu (N:=3) (fun b=>⟨b.1,b.2⟩) Tryz.underlying68 (by kernel_rfl) (jak (i:=0) (off:=0) (off':=2) (n:=2) (N:=3) rfl rfl (by kernel_rfl) rfl (op65 W) (jcN (i:=1) (off:=2) (n:=1) rfl rfl (by kernel_rfl) (op3 W))) (fun _=>rfl) (fun _ h=>h)
theorem op66 (W:Go.World):Opens Tryz.prog W 66 (fun (x:Int)=>[jj7 x]) (fun (x:Int)=>(IntKind.i64.min≤x∧x≤IntKind.i64.max)):=jfg Tryz.underlying66
theorem op71 (W:Go.World):Opens Tryz.prog W 71 (fun (x:Body)=>a_Body.ca x) (fun (x:Body)=>joC x):=jcu (N:=20) (fun b=>⟨b.1,b.2.1,b.2.2.1,b.2.2.2.1,b.2.2.2.2.1,b.2.2.2.2.2.1,b.2.2.2.2.2.2.1,b.2.2.2.2.2.2.2.1,b.2.2.2.2.2.2.2.2.1,b.2.2.2.2.2.2.2.2.2.1,b.2.2.2.2.2.2.2.2.2.2.1,b.2.2.2.2.2.2.2.2.2.2.2.1,b.2.2.2.2.2.2.2.2.2.2.2.2.1,b.2.2.2.2.2.2.2.2.2.2.2.2.2.1,b.2.2.2.2.2.2.2.2.2.2.2.2.2.2.1,b.2.2.2.2.2.2.2.2.2.2.2.2.2.2.2⟩) Tryz.underlying71 (by kernel_rfl) (jak (i:=0) (off:=0) (off':=1) (n:=1) (N:=20) rfl rfl (by kernel_rfl) rfl (op3 W) (jak (i:=1) (off:=1) (off':=2) (n:=1) (N:=20) rfl rfl (by kernel_rfl) rfl (op66 W) (jak (i:=2) (off:=2) (off':=5) (n:=3) (N:=20) rfl rfl (by kernel_rfl) rfl (op68 W) (jak (i:=3) (off:=5) (off':=7) (n:=2) (N:=20) rfl rfl (by kernel_rfl) rfl (op65 W) (jak (i:=4) (off:=7) (off':=8) (n:=1) (N:=20) rfl rfl (by kernel_rfl) rfl (op3 W) (jak (i:=5) (off:=8) (off':=10) (n:=2) (N:=20) rfl rfl (by kernel_rfl) rfl (op65 W) (jak (i:=6) (off:=10) (off':=11) (n:=1) (N:=20) rfl rfl (by kernel_rfl) rfl (op3 W) (jak (i:=7) (off:=11) (off':=12) (n:=1) (N:=20) rfl rfl (by kernel_rfl) rfl (op3 W) (jak (i:=8) (off:=12) (off':=13) (n:=1) (N:=20) rfl rfl (by kernel_rfl) rfl (op3 W) (jak (i:=9) (off:=13) (off':=14) (n:=1) (N:=20) rfl rfl (by kernel_rfl) rfl (op3 W) (jak (i:=10) (off:=14) (off':=15) (n:=1) (N:=20) rfl rfl (by kernel_rfl) rfl (op4 W) (jak (i:=11) (off:=15) (off':=16) (n:=1) (N:=20) rfl rfl (by kernel_rfl) rfl (op4 W) (jak (i:=12) (off:=16) (off':=17) (n:=1) (N:=20) rfl rfl (by kernel_rfl) rfl (op4 W) (jak (i:=13) (off:=17) (off':=18) (n:=1) (N:=20) rfl rfl (by kernel_rfl) rfl (op4 W) (jak (i:=14) (off:=18) (off':=19) (n:=1) (N:=20) rfl rfl (by kernel_rfl) rfl (op3 W) (jcN (i:=15) (off:=19) (n:=1) rfl rfl (by kernel_rfl) (op69 W))))))))))))))))) (fun _=>rfl) (fun _ h=>h)
theorem op63 (W:Go.World):Opens Tryz.prog W 63 (fun (x:Int)=>[jj7 x]) (fun (x:Int)=>(IntKind.i64.min≤x∧x≤IntKind.i64.max)):=jfg Tryz.underlying63
theorem op77 (W:Go.World):Opens Tryz.prog W 77 (fun (x:GoForm.Input)=>a_Input.ca x) (fun (x:GoForm.Input)=>jjy x):=jcu (N:=49) (fun b=>⟨b.1,b.2.1,b.2.2.1,b.2.2.2.1,b.2.2.2.2.1,b.2.2.2.2.2⟩) Tryz.underlying77 (by kernel_rfl) (jak (i:=0) (off:=0) (off':=1) (n:=1) (N:=49) rfl rfl (by kernel_rfl) rfl (op63 W) (jak (i:=1) (off:=1) (off':=2) (n:=1) (N:=49) rfl rfl (by kernel_rfl) rfl (op3 W) (jak (i:=2) (off:=2) (off':=4) (n:=2) (N:=49) rfl rfl (by kernel_rfl) rfl (op65 W) (jak (i:=3) (off:=4) (off':=5) (n:=1) (N:=49) rfl rfl (by kernel_rfl) rfl (op3 W) (jak (i:=4) (off:=5) (off':=25) (n:=20) (N:=49) rfl rfl (by kernel_rfl) rfl (op71 W) (jcN (i:=5) (off:=25) (n:=24) rfl rfl (by kernel_rfl) (op75 W))))))) (fun _=>rfl) (fun _ h=>h)
theorem op51 (W:Go.World):Opens Tryz.prog W 51 (fun (x:(List GoForm.Input))=>[jao x]) (fun (x:(List GoForm.Input))=>((∀ a∈x,jjy a)∧(x).length≤9223372036854775807)):=jdO (sz:=49) (E:=jbo) Tryz.underlying51 (by kernel_rfl) (by decide) (op77 W) (fun _=>rfl) (fun _=>rfl)
theorem op23 (W:Go.World):Opens Tryz.prog W 23 (fun (x:(List (List GoForm.Input)))=>[jam x]) (fun (x:(List (List GoForm.Input)))=>((∀ a∈x,((∀ b∈a,jjy b)∧(a).length≤9223372036854775807))∧(x).length≤9223372036854775807)):=jdO (sz:=1) (E:=jao) Tryz.underlying23 (by kernel_rfl) (by decide) (op51 W) (fun _=>rfl) (fun _=>rfl)
theorem op5 (W:Go.World):Opens Tryz.prog W 5 (fun (x:UInt8)=>[jfm x]) (fun (x:UInt8)=>True):=jmg Tryz.underlying5
theorem op24 (W:Go.World):Opens Tryz.prog W 24 (fun (x:(List UInt8))=>[jaA x]) (fun (x:(List UInt8))=>((∀ a∈x,True)∧(x).length≤9223372036854775807)):=jdO (sz:=1) (E:=jfm) Tryz.underlying24 (by kernel_rfl) (by decide) (op5 W) (fun _=>rfl) (fun _=>rfl)
theorem je0 {W:World} (h:laidMetH Tryz.prog Rows.recordingBinaryRow.laid W):W.cell? ⟨0,0,none⟩=some (.iface 190 (.agg #[.pointer (some ⟨4,95,none⟩)])):=by
 have h':laidMet Tryz.prog (Rows.recordingBinaryRow.laid.filter fun x=>x.2.handleName?.isNone) W∧handlesMet Tryz.prog [("errors.errorType",Rows.laid_errors_errorType)] W:=h
 obtain ⟨name,u,ty,e1,e2,e3,e4,e5⟩:=h'.2 _ (List.mem_singleton.2 rfl)
 have en:name=[101,114,114,111,114]:=(Option.some.inj e1).symm
 subst en
 obtain rfl:=Option.some.inj ((show (Tryz.prog.cutTypes.find? (·.1 == "internal/reflectlite.rtype")).map (·.2)=some 190 by kernel_rfl).symm.trans e2)
 have hm:ty∈(List.range 316).filter fun t=>Tryz.prog.rowNamed t [101,114,114,111,114]:=List.mem_filter.2 ⟨List.mem_range.2 (by rw [← (show Tryz.prog.types.size=316 by kernel_rfl)];exact e3),e4⟩
 rw [show ((List.range 316).filter fun t=>Tryz.prog.rowNamed t [101,114,114,111,114])=[95] by kernel_rfl] at hm
 obtain rfl:=List.mem_singleton.1 hm
 have hh:typeHandle Tryz.prog 95=.pointer (some ⟨4,95,none⟩):=by kernel_rfl
 rw [hh] at e5
 simpa using World.var?_cell (show Tryz.prog.globalNamed "errors.errorType" = some 0 by kernel_rfl) e5 0
theorem jer (H:Type) (enc:TypeId × Value→H) (W:World) (base:Nat) (args:Array Value) (ds gs:List (DataW H)) (before:List MemPlace)
  (hval:∀ (j:Nat) t v,Tryz.f5.params[j]? = some t→args[j]? = some v→Value.okWide Tryz.prog W .any base t v)
  (hW:DataW.Whole enc Tryz.prog Tryz.f5.params.toList Rows.recordingBinarySpec.vars false W args.toList ds gs before)
  (hL:laidMetH Tryz.prog Rows.recordingBinaryRow.laid W):
  Calls Tryz.prog 5 args W fun e W'=>∃ v,e=.returned v∧Rows.recordingBinarySpec.post enc Tryz.prog Tryz.f5 false true false false W args v W':=by
 have hW':=hW
 obtain ⟨p,q,hA0,hV,rfl,hfz,hnd⟩:=hW
 have hA:DataW.TrodAll enc Tryz.prog W 0 (fun _=>true) true Tryz.f5.params.toList args.toList ds p:=hA0
 rw [Tryz.params5] at hA hval
 obtain ⟨v0,vs0,d0,ds0,p0,q0,hargs,rfl,rfl,h0,r0⟩:=trodAll_cons hA
 obtain ⟨v1,vs1,d1,ds1,p1,q1,rfl,rfl,rfl,h1,r1⟩:=trodAll_cons r0
 obtain ⟨rfl,rfl,rfl⟩:=trodAll_nil r1
 obtain rfl:args=#[v0,v1]:=by cases args;simp_all
 obtain ⟨rfl,rfl⟩:=trodVars_none hV
 have ok0:=hval 0 23 v0 rfl rfl
 obtain ⟨a0,e0,w0⟩:=jot (jno Tryz.underlying23 rfl ok0) (op23 W) h0 ok0
 have ok1:=hval 1 24 v1 rfl rfl
 obtain ⟨a1,e1,w1⟩:=jot (jno Tryz.underlying24 rfl ok1) (op24 W) h1 ok1
 have hp:=GoForm.caromlaw47_RecordingBinary_true a0 a1 w0 w1
 have hc:FnR Tryz.prog 5 [jam a0,jaA a1] (.v (.bool true)) []:=c_5.ok (a0,a1,()) _ true ⟨rfl,rfl,trivial⟩ hp
 exact law_post laidOut (by kernel_rfl) rfl Tryz.underlying4 rfl hW' rfl (.cons e0 (.cons e1 .nil)) hc (je0 hL)
noncomputable def jcF (os:Os):World:=
 { World.holding Tryz.prog os ⟨#[],#[],[]⟩ with heap:=((((World.holding Tryz.prog os ⟨#[],#[],[]⟩).heap.modify 3 fun | .cells _ t frozen=>.cells #[.int .u8 128,.int .u8 191,.int .u8 160,.int .u8 191,.int .u8 128,.int .u8 159,.int .u8 144,.int .u8 191,.int .u8 128,.int .u8 143,.int .u8 0,.int .u8 0,.int .u8 0,.int .u8 0,.int .u8 0,.int .u8 0,.int .u8 0,.int .u8 0,.int .u8 0,.int .u8 0,.int .u8 0,.int .u8 0,.int .u8 0,.int .u8 0,.int .u8 0,.int .u8 0,.int .u8 0,.int .u8 0,.int .u8 0,.int .u8 0,.int .u8 0,.int .u8 0] t frozen | o=>o).modify 0 fun | .cells _ t frozen=>.cells #[.iface 190 (.agg #[.pointer (some ⟨4,95,none⟩)])] t frozen | o=>o).modify 2 fun | .cells _ t frozen=>.cells (Go.Pinned.utf8FirstZ.map fun (n:Nat)=>Value.int .u8 (n:Int)).toArray t frozen | o=>o) }
theorem jeq (os:Os):laidMetH Tryz.prog Rows.recordingBinaryRow.laid ((jcF os).forCall (fun _ _=>0) ⟨#[],#[(.slice none 0 0),(.slice none 0 0)],[]⟩).memory:=
 laidMetH_of_parts (laidMet_of_run' 8 (by kernel_rfl) (by kernel_rfl)) (by kernel_rfl)
theorem jfc (os:Os) {H:Type} (enc:TypeId × Value→H):∃ places,DataW.whole enc Tryz.prog ((jcF os).forCall (fun _ _=>0) ⟨#[],#[(.slice none 0 0),(.slice none 0 0)],[]⟩).memory Tryz.f5.params.toList Rows.recordingBinarySpec.vars false (#[(.slice none 0 0),(.slice none 0 0)]:Array Value).toList 8=some ([.nil,.nil],[],places):=
 ⟨[],by kernel_rfl⟩
theorem jeZ (os:Os) (started:os.Started) (H:Type) (enc:TypeId × Value→H) (F:Stop.Interp):
  ReturnsInHanded {} Tryz.checked os 5 .any ((OpenSpec.ofChange Rows.recordingBinarySpec).preRow enc Tryz.prog Tryz.f5 Rows.recordingBinaryRow.domain false Rows.recordingBinaryRow.laid) (((OpenSpec.ofChange Rows.recordingBinarySpec).at F).post enc Tryz.prog Tryz.f5 false true false false):=by
 obtain ⟨places,hx⟩:=jfc os enc
 refine returnsInHanded_of_row (C:=Tryz.checked) (s:=OpenSpec.ofChange Rows.recordingBinarySpec) own started (by kernel_rfl) Tryz.func5
  (witness_row_at (enc:=enc) (C:=Tryz.checked) false (jcF os) #[(.slice none 0 0),(.slice none 0 0)] rfl (by kernel_rfl) (by kernel_rfl) (by kernel_rfl)
   (OpenSpec.preRow_of_cond 8 hx (by kernel_rfl) (fun k hk=>by cases hk) (by kernel_rfl) (jeq os))) ?_
 intro W base args ds gs before hval hW _ _ _ hL _ _
 exact jer H enc W base args ds gs before hval hW hL
theorem jfF:Rows.RecordingBinarySaid:=
 OpenClaim.holds_of_cond 5 Tryz.f5 rfl rfl rfl rfl rfl rfl rfl ⟨rfl,rfl,rfl,rfl,rfl⟩ rfl rfl rfl rfl rfl (by kernel_rfl) Tryz.func5 (by kernel_rfl)
  (of_decide_eq_true (by kernel_rfl)) (by unfold Func.isWrapper;first | (rw [if_pos (by decide +kernel)];kernel_rfl) | (rw [if_neg (by decide +kernel)];exact ⟨rfl,rfl⟩))
  (fun os started H enc _ F=>by rw [OpenClaim.pre_eq_preRow];exact jeZ os started H enc F)
theorem jfd (f:FuncId) (fn:Func) (hf:Tryz.pinned.checked.prog.funcNamed Rows.recordingBinaryRow.func=some f) (hfn:Tryz.pinned.checked.prog.funcs[f]? = some fn):
  true=Tryz.pinned.checked.prog.looks []∧∀ (j:Nat) t,fn.params[j]? = some t→Tryz.pinned.checked.prog.wantsStandIn t=false:=by
 obtain rfl:f=5:=Option.some.inj ((show Tryz.prog.funcNamed Rows.recordingBinaryRow.func=some 5 by kernel_rfl).symm.trans hf) |>.symm
 obtain rfl:fn=Tryz.f5:=(Option.some.inj (Tryz.func5.symm.trans hfn)).symm
 refine ⟨by kernel_rfl,fun j t ht=>?_⟩
 rw [Tryz.params5] at ht
 have hm:=Array.mem_of_getElem? ht
 simp only [List.mem_toArray,List.mem_cons,List.not_mem_nil,or_false] at hm
 rcases hm with rfl | rfl
 ·exact (show Tryz.prog.wantsStandIn 23=false by kernel_rfl)
 ·exact (show Tryz.prog.wantsStandIn 24=false by kernel_rfl)
theorem recordingBinary_holds:Rows.RecordingBinaryCardSaid:=
 Claim7.holds_tied_plain_at .later [] _ _ _ _ jfF (fun _ h=>by cases h) (by kernel_rfl) (fun _ h=>by cases h) recordingBinary_row_tie rfl ⟨rfl,rfl⟩ (by kernel_rfl) rfl jfd (by kernel_rfl)
end Go.Proofs.YtffgldbihpgjgaaGreatDoor
