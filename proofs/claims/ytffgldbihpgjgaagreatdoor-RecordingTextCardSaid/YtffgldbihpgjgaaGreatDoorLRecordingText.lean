/- RecordingText: for every input the law returns true; each argument reads behind the call as it read before. No conditions. -/
import Derived.Test.YtffgldbihpgjgaaGreatDoorQE
import Derived.Test.YtffgldbihpgjgaaGreatDoorF47C
import Derived.Test.YtffgldbihpgjgaaGreatDoorRY
import Derived.Test.YtffgldbihpgjgaaGreatDoorCards
import Derived.Test.YtffgldbihpgjgaaGreatDoorTie
import Derived.Deep.DeepHandedRow
import Derived.Test.YtffgldbihpgjgaaGreatDoorRows
set_option linter.all false
set_option maxRecDepth 100000
namespace Go.Proofs.YtffgldbihpgjgaaGreatDoor
open Go.Rx GoForm Go.ChangeShapes Go.WideShapes Go.ChangeAt Go.RowKit
theorem own:ownKnob Tryz.prog.godebug=none:=by kernel_rfl
theorem laidOut:laidOutB Tryz.prog=true:=by kernel_rfl
def Vec_Wf (x:Vec):Prop:=(IntKind.i64.min≤x.X∧x.X≤IntKind.i64.max)∧(IntKind.i64.min≤x.Y∧x.Y≤IntKind.i64.max)
def Transform_Wf (x:Transform):Prop:=Vec_Wf x.Position∧(IntKind.i64.min≤x.Angle∧x.Angle≤IntKind.i64.max)
def Shape_Wf (x:Shape):Prop:=(IntKind.i64.min≤x.Kind∧x.Kind≤IntKind.i64.max)∧(IntKind.i64.min≤x.Radius∧x.Radius≤IntKind.i64.max)∧((∀ a∈x.Vertices,Vec_Wf a)∧(x.Vertices).length≤9223372036854775807)
def Fixture_Wf (x:Fixture):Prop:=Shape_Wf x.Shape∧(IntKind.i64.min≤x.Density∧x.Density≤IntKind.i64.max)∧(IntKind.i64.min≤x.Friction∧x.Friction≤IntKind.i64.max)∧(IntKind.i64.min≤x.Restitution∧x.Restitution≤IntKind.i64.max)∧True∧(IntKind.i64.min≤x.Category∧x.Category≤IntKind.i64.max)∧(IntKind.i64.min≤x.Mask∧x.Mask≤IntKind.i64.max)∧(IntKind.i64.min≤x.Group∧x.Group≤IntKind.i64.max)
def Body_Wf (x:Body):Prop:=(IntKind.i64.min≤x.ID∧x.ID≤IntKind.i64.max)∧(IntKind.i64.min≤x.Kind∧x.Kind≤IntKind.i64.max)∧Transform_Wf x.Transform∧Vec_Wf x.Velocity∧(IntKind.i64.min≤x.AngularVelocity∧x.AngularVelocity≤IntKind.i64.max)∧Vec_Wf x.Force∧(IntKind.i64.min≤x.Torque∧x.Torque≤IntKind.i64.max)∧(IntKind.i64.min≤x.LinearDamping∧x.LinearDamping≤IntKind.i64.max)∧(IntKind.i64.min≤x.AngularDamping∧x.AngularDamping≤IntKind.i64.max)∧(IntKind.i64.min≤x.GravityScale∧x.GravityScale≤IntKind.i64.max)∧True∧True∧True∧True∧(IntKind.i64.min≤x.IdleSteps∧x.IdleSteps≤IntKind.i64.max)∧((∀ a∈x.Fixtures,Fixture_Wf a)∧(x.Fixtures).length≤9223372036854775807)
def Joint_Wf (x:Joint):Prop:=(IntKind.i64.min≤x.ID∧x.ID≤IntKind.i64.max)∧(IntKind.i64.min≤x.Kind∧x.Kind≤IntKind.i64.max)∧(IntKind.i64.min≤x.BodyA∧x.BodyA≤IntKind.i64.max)∧(IntKind.i64.min≤x.BodyB∧x.BodyB≤IntKind.i64.max)∧Vec_Wf x.AnchorA∧Vec_Wf x.AnchorB∧Vec_Wf x.Axis∧(IntKind.i64.min≤x.ReferenceAngle∧x.ReferenceAngle≤IntKind.i64.max)∧True∧(IntKind.i64.min≤x.Lower∧x.Lower≤IntKind.i64.max)∧(IntKind.i64.min≤x.Upper∧x.Upper≤IntKind.i64.max)∧True∧(IntKind.i64.min≤x.MotorSpeed∧x.MotorSpeed≤IntKind.i64.max)∧(IntKind.i64.min≤x.MaxForce∧x.MaxForce≤IntKind.i64.max)∧(IntKind.i64.min≤x.Softness∧x.Softness≤IntKind.i64.max)∧(IntKind.i64.min≤x.BreakForce∧x.BreakForce≤IntKind.i64.max)∧True∧((IntKind.i64.min≤x.Impulses.1∧x.Impulses.1≤IntKind.i64.max)∧(IntKind.i64.min≤x.Impulses.2.1∧x.Impulses.2.1≤IntKind.i64.max)∧(IntKind.i64.min≤x.Impulses.2.2.1∧x.Impulses.2.2.1≤IntKind.i64.max)∧(IntKind.i64.min≤x.Impulses.2.2.2∧x.Impulses.2.2.2≤IntKind.i64.max))
def Input_Wf (x:GoForm.Input):Prop:=(IntKind.i64.min≤x.Kind∧x.Kind≤IntKind.i64.max)∧(IntKind.i64.min≤x.ID∧x.ID≤IntKind.i64.max)∧Vec_Wf x.Vec∧(IntKind.i64.min≤x.Value∧x.Value≤IntKind.i64.max)∧Body_Wf x.Body∧Joint_Wf x.Joint
theorem op3 (W:Go.World):Opens Tryz.prog W 3 (fun (x:Int)=>[e_int x]) (fun (x:Int)=>(IntKind.i64.min≤x∧x≤IntKind.i64.max)):=opens_int Tryz.underlying3
theorem op73 (W:Go.World):Opens Tryz.prog W 73 (fun (x:(Int × Int × Int × Int))=>(aPair (aInt .i64) (aPair (aInt .i64) (aPair (aInt .i64) (aInt .i64)))).ca x) (fun (x:(Int × Int × Int × Int))=>((IntKind.i64.min≤x.1∧x.1≤IntKind.i64.max)∧(IntKind.i64.min≤x.2.1∧x.2.1≤IntKind.i64.max)∧(IntKind.i64.min≤x.2.2.1∧x.2.2.1≤IntKind.i64.max)∧(IntKind.i64.min≤x.2.2.2∧x.2.2.2≤IntKind.i64.max))):=opens_arr4 Tryz.underlying73 (by kernel_rfl) (by kernel_rfl) (op3 W)
theorem op4 (W:Go.World):Opens Tryz.prog W 4 (fun (x:Bool)=>[e_bool x]) (fun (x:Bool)=>True):=opens_bool Tryz.underlying4
theorem op65 (W:Go.World):Opens Tryz.prog W 65 (fun (x:Vec)=>a_Vec.ca x) (fun (x:Vec)=>Vec_Wf x):=opens_struct (N:=2) (fun b=>⟨b.1,b.2⟩) Tryz.underlying65 (by kernel_rfl) (opensF_cons (i:=0) (off:=0) (off':=1) (n:=1) (N:=2) rfl rfl (by kernel_rfl) rfl (op3 W) (opensF_last (i:=1) (off:=1) (n:=1) rfl rfl (by kernel_rfl) (op3 W))) (fun _=>rfl) (fun _ h=>h)
theorem op72 (W:Go.World):Opens Tryz.prog W 72 (fun (x:Int)=>[e_int x]) (fun (x:Int)=>(IntKind.i64.min≤x∧x≤IntKind.i64.max)):=opens_int Tryz.underlying72
theorem op75 (W:Go.World):Opens Tryz.prog W 75 (fun (x:Joint)=>a_Joint.ca x) (fun (x:Joint)=>Joint_Wf x):=opens_struct (N:=24) (fun b=>⟨b.1,b.2.1,b.2.2.1,b.2.2.2.1,b.2.2.2.2.1,b.2.2.2.2.2.1,b.2.2.2.2.2.2.1,b.2.2.2.2.2.2.2.1,b.2.2.2.2.2.2.2.2.1,b.2.2.2.2.2.2.2.2.2.1,b.2.2.2.2.2.2.2.2.2.2.1,b.2.2.2.2.2.2.2.2.2.2.2.1,b.2.2.2.2.2.2.2.2.2.2.2.2.1,b.2.2.2.2.2.2.2.2.2.2.2.2.2.1,b.2.2.2.2.2.2.2.2.2.2.2.2.2.2.1,b.2.2.2.2.2.2.2.2.2.2.2.2.2.2.2.1,b.2.2.2.2.2.2.2.2.2.2.2.2.2.2.2.2.1,b.2.2.2.2.2.2.2.2.2.2.2.2.2.2.2.2.2⟩) Tryz.underlying75 (by kernel_rfl) (opensF_cons (i:=0) (off:=0) (off':=1) (n:=1) (N:=24) rfl rfl (by kernel_rfl) rfl (op3 W) (opensF_cons (i:=1) (off:=1) (off':=2) (n:=1) (N:=24) rfl rfl (by kernel_rfl) rfl (op72 W) (opensF_cons (i:=2) (off:=2) (off':=3) (n:=1) (N:=24) rfl rfl (by kernel_rfl) rfl (op3 W) (opensF_cons (i:=3) (off:=3) (off':=4) (n:=1) (N:=24) rfl rfl (by kernel_rfl) rfl (op3 W) (opensF_cons (i:=4) (off:=4) (off':=6) (n:=2) (N:=24) rfl rfl (by kernel_rfl) rfl (op65 W) (opensF_cons (i:=5) (off:=6) (off':=8) (n:=2) (N:=24) rfl rfl (by kernel_rfl) rfl (op65 W) (opensF_cons (i:=6) (off:=8) (off':=10) (n:=2) (N:=24) rfl rfl (by kernel_rfl) rfl (op65 W) (opensF_cons (i:=7) (off:=10) (off':=11) (n:=1) (N:=24) rfl rfl (by kernel_rfl) rfl (op3 W) (opensF_cons (i:=8) (off:=11) (off':=12) (n:=1) (N:=24) rfl rfl (by kernel_rfl) rfl (op4 W) (opensF_cons (i:=9) (off:=12) (off':=13) (n:=1) (N:=24) rfl rfl (by kernel_rfl) rfl (op3 W) (opensF_cons (i:=10) (off:=13) (off':=14) (n:=1) (N:=24) rfl rfl (by kernel_rfl) rfl (op3 W) (opensF_cons (i:=11) (off:=14) (off':=15) (n:=1) (N:=24) rfl rfl (by kernel_rfl) rfl (op4 W) (opensF_cons (i:=12) (off:=15) (off':=16) (n:=1) (N:=24) rfl rfl (by kernel_rfl) rfl (op3 W) (opensF_cons (i:=13) (off:=16) (off':=17) (n:=1) (N:=24) rfl rfl (by kernel_rfl) rfl (op3 W) (opensF_cons (i:=14) (off:=17) (off':=18) (n:=1) (N:=24) rfl rfl (by kernel_rfl) rfl (op3 W) (opensF_cons (i:=15) (off:=18) (off':=19) (n:=1) (N:=24) rfl rfl (by kernel_rfl) rfl (op3 W) (opensF_cons (i:=16) (off:=19) (off':=20) (n:=1) (N:=24) rfl rfl (by kernel_rfl) rfl (op4 W) (opensF_last (i:=17) (off:=20) (n:=4) rfl rfl (by kernel_rfl) (op73 W))))))))))))))))))) (fun _=>rfl) (fun _ h=>h)
theorem op115 (W:Go.World):Opens Tryz.prog W 115 (fun (x:(List Vec))=>[e_sl_Vec x]) (fun (x:(List Vec))=>((∀ a∈x,Vec_Wf a)∧(x).length≤9223372036854775807)):=opens_slice (sz:=2) (E:=e_Vec) Tryz.underlying115 (by kernel_rfl) (by decide) (op65 W) (fun _=>rfl) (fun _=>rfl)
theorem op114 (W:Go.World):Opens Tryz.prog W 114 (fun (x:Int)=>[e_int x]) (fun (x:Int)=>(IntKind.i64.min≤x∧x≤IntKind.i64.max)):=opens_int Tryz.underlying114
theorem op117 (W:Go.World):Opens Tryz.prog W 117 (fun (x:Shape)=>a_Shape.ca x) (fun (x:Shape)=>Shape_Wf x):=opens_struct (N:=3) (fun b=>⟨b.1,b.2.1,b.2.2⟩) Tryz.underlying117 (by kernel_rfl) (opensF_cons (i:=0) (off:=0) (off':=1) (n:=1) (N:=3) rfl rfl (by kernel_rfl) rfl (op114 W) (opensF_cons (i:=1) (off:=1) (off':=2) (n:=1) (N:=3) rfl rfl (by kernel_rfl) rfl (op3 W) (opensF_last (i:=2) (off:=2) (n:=1) rfl rfl (by kernel_rfl) (op115 W)))) (fun _=>rfl) (fun _ h=>h)
theorem op119 (W:Go.World):Opens Tryz.prog W 119 (fun (x:Fixture)=>a_Fixture.ca x) (fun (x:Fixture)=>Fixture_Wf x):=opens_struct (N:=10) (fun b=>⟨b.1,b.2.1,b.2.2.1,b.2.2.2.1,b.2.2.2.2.1,b.2.2.2.2.2.1,b.2.2.2.2.2.2.1,b.2.2.2.2.2.2.2⟩) Tryz.underlying119 (by kernel_rfl) (opensF_cons (i:=0) (off:=0) (off':=3) (n:=3) (N:=10) rfl rfl (by kernel_rfl) rfl (op117 W) (opensF_cons (i:=1) (off:=3) (off':=4) (n:=1) (N:=10) rfl rfl (by kernel_rfl) rfl (op3 W) (opensF_cons (i:=2) (off:=4) (off':=5) (n:=1) (N:=10) rfl rfl (by kernel_rfl) rfl (op3 W) (opensF_cons (i:=3) (off:=5) (off':=6) (n:=1) (N:=10) rfl rfl (by kernel_rfl) rfl (op3 W) (opensF_cons (i:=4) (off:=6) (off':=7) (n:=1) (N:=10) rfl rfl (by kernel_rfl) rfl (op4 W) (opensF_cons (i:=5) (off:=7) (off':=8) (n:=1) (N:=10) rfl rfl (by kernel_rfl) rfl (op3 W) (opensF_cons (i:=6) (off:=8) (off':=9) (n:=1) (N:=10) rfl rfl (by kernel_rfl) rfl (op3 W) (opensF_last (i:=7) (off:=9) (n:=1) rfl rfl (by kernel_rfl) (op3 W))))))))) (fun _=>rfl) (fun _ h=>h)
theorem op69 (W:Go.World):Opens Tryz.prog W 69 (fun (x:(List Fixture))=>[e_sl_Fixture x]) (fun (x:(List Fixture))=>((∀ a∈x,Fixture_Wf a)∧(x).length≤9223372036854775807)):=opens_slice (sz:=10) (E:=e_Fixture) Tryz.underlying69 (by kernel_rfl) (by decide) (op119 W) (fun _=>rfl) (fun _=>rfl)
theorem op68 (W:Go.World):Opens Tryz.prog W 68 (fun (x:Transform)=>a_Transform.ca x) (fun (x:Transform)=>Transform_Wf x):=opens_struct (N:=3) (fun b=>⟨b.1,b.2⟩) Tryz.underlying68 (by kernel_rfl) (opensF_cons (i:=0) (off:=0) (off':=2) (n:=2) (N:=3) rfl rfl (by kernel_rfl) rfl (op65 W) (opensF_last (i:=1) (off:=2) (n:=1) rfl rfl (by kernel_rfl) (op3 W))) (fun _=>rfl) (fun _ h=>h)
theorem op66 (W:Go.World):Opens Tryz.prog W 66 (fun (x:Int)=>[e_int x]) (fun (x:Int)=>(IntKind.i64.min≤x∧x≤IntKind.i64.max)):=opens_int Tryz.underlying66
theorem op71 (W:Go.World):Opens Tryz.prog W 71 (fun (x:Body)=>a_Body.ca x) (fun (x:Body)=>Body_Wf x):=opens_struct (N:=20) (fun b=>⟨b.1,b.2.1,b.2.2.1,b.2.2.2.1,b.2.2.2.2.1,b.2.2.2.2.2.1,b.2.2.2.2.2.2.1,b.2.2.2.2.2.2.2.1,b.2.2.2.2.2.2.2.2.1,b.2.2.2.2.2.2.2.2.2.1,b.2.2.2.2.2.2.2.2.2.2.1,b.2.2.2.2.2.2.2.2.2.2.2.1,b.2.2.2.2.2.2.2.2.2.2.2.2.1,b.2.2.2.2.2.2.2.2.2.2.2.2.2.1,b.2.2.2.2.2.2.2.2.2.2.2.2.2.2.1,b.2.2.2.2.2.2.2.2.2.2.2.2.2.2.2⟩) Tryz.underlying71 (by kernel_rfl) (opensF_cons (i:=0) (off:=0) (off':=1) (n:=1) (N:=20) rfl rfl (by kernel_rfl) rfl (op3 W) (opensF_cons (i:=1) (off:=1) (off':=2) (n:=1) (N:=20) rfl rfl (by kernel_rfl) rfl (op66 W) (opensF_cons (i:=2) (off:=2) (off':=5) (n:=3) (N:=20) rfl rfl (by kernel_rfl) rfl (op68 W) (opensF_cons (i:=3) (off:=5) (off':=7) (n:=2) (N:=20) rfl rfl (by kernel_rfl) rfl (op65 W) (opensF_cons (i:=4) (off:=7) (off':=8) (n:=1) (N:=20) rfl rfl (by kernel_rfl) rfl (op3 W) (opensF_cons (i:=5) (off:=8) (off':=10) (n:=2) (N:=20) rfl rfl (by kernel_rfl) rfl (op65 W) (opensF_cons (i:=6) (off:=10) (off':=11) (n:=1) (N:=20) rfl rfl (by kernel_rfl) rfl (op3 W) (opensF_cons (i:=7) (off:=11) (off':=12) (n:=1) (N:=20) rfl rfl (by kernel_rfl) rfl (op3 W) (opensF_cons (i:=8) (off:=12) (off':=13) (n:=1) (N:=20) rfl rfl (by kernel_rfl) rfl (op3 W) (opensF_cons (i:=9) (off:=13) (off':=14) (n:=1) (N:=20) rfl rfl (by kernel_rfl) rfl (op3 W) (opensF_cons (i:=10) (off:=14) (off':=15) (n:=1) (N:=20) rfl rfl (by kernel_rfl) rfl (op4 W) (opensF_cons (i:=11) (off:=15) (off':=16) (n:=1) (N:=20) rfl rfl (by kernel_rfl) rfl (op4 W) (opensF_cons (i:=12) (off:=16) (off':=17) (n:=1) (N:=20) rfl rfl (by kernel_rfl) rfl (op4 W) (opensF_cons (i:=13) (off:=17) (off':=18) (n:=1) (N:=20) rfl rfl (by kernel_rfl) rfl (op4 W) (opensF_cons (i:=14) (off:=18) (off':=19) (n:=1) (N:=20) rfl rfl (by kernel_rfl) rfl (op3 W) (opensF_last (i:=15) (off:=19) (n:=1) rfl rfl (by kernel_rfl) (op69 W))))))))))))))))) (fun _=>rfl) (fun _ h=>h)
theorem op63 (W:Go.World):Opens Tryz.prog W 63 (fun (x:Int)=>[e_int x]) (fun (x:Int)=>(IntKind.i64.min≤x∧x≤IntKind.i64.max)):=opens_int Tryz.underlying63
theorem op77 (W:Go.World):Opens Tryz.prog W 77 (fun (x:GoForm.Input)=>a_Input.ca x) (fun (x:GoForm.Input)=>Input_Wf x):=opens_struct (N:=49) (fun b=>⟨b.1,b.2.1,b.2.2.1,b.2.2.2.1,b.2.2.2.2.1,b.2.2.2.2.2⟩) Tryz.underlying77 (by kernel_rfl) (opensF_cons (i:=0) (off:=0) (off':=1) (n:=1) (N:=49) rfl rfl (by kernel_rfl) rfl (op63 W) (opensF_cons (i:=1) (off:=1) (off':=2) (n:=1) (N:=49) rfl rfl (by kernel_rfl) rfl (op3 W) (opensF_cons (i:=2) (off:=2) (off':=4) (n:=2) (N:=49) rfl rfl (by kernel_rfl) rfl (op65 W) (opensF_cons (i:=3) (off:=4) (off':=5) (n:=1) (N:=49) rfl rfl (by kernel_rfl) rfl (op3 W) (opensF_cons (i:=4) (off:=5) (off':=25) (n:=20) (N:=49) rfl rfl (by kernel_rfl) rfl (op71 W) (opensF_last (i:=5) (off:=25) (n:=24) rfl rfl (by kernel_rfl) (op75 W))))))) (fun _=>rfl) (fun _ h=>h)
theorem op51 (W:Go.World):Opens Tryz.prog W 51 (fun (x:(List GoForm.Input))=>[e_sl_Input x]) (fun (x:(List GoForm.Input))=>((∀ a∈x,Input_Wf a)∧(x).length≤9223372036854775807)):=opens_slice (sz:=49) (E:=e_Input) Tryz.underlying51 (by kernel_rfl) (by decide) (op77 W) (fun _=>rfl) (fun _=>rfl)
theorem op23 (W:Go.World):Opens Tryz.prog W 23 (fun (x:(List (List GoForm.Input)))=>[e_sl_sl_Input x]) (fun (x:(List (List GoForm.Input)))=>((∀ a∈x,((∀ b∈a,Input_Wf b)∧(a).length≤9223372036854775807))∧(x).length≤9223372036854775807)):=opens_slice (sz:=1) (E:=e_sl_Input) Tryz.underlying23 (by kernel_rfl) (by decide) (op51 W) (fun _=>rfl) (fun _=>rfl)
theorem op9 (W:Go.World):Opens Tryz.prog W 9 (fun (x:(List UInt8))=>[e_str x]) (fun (x:(List UInt8))=>(x).length≤9223372036854775807):=opens_str Tryz.underlying9
theorem recordingText_handle {W:World} (h:laidMetH Tryz.prog Rows.recordingTextRow.laid W):W.cell? ⟨0,0,none⟩=some (.iface 190 (.agg #[.pointer (some ⟨4,95,none⟩)])):=by
  have h':laidMet Tryz.prog (Rows.recordingTextRow.laid.filter fun x=>x.2.handleName?.isNone) W∧handlesMet Tryz.prog [("errors.errorType",Rows.laid_errors_errorType)] W:=h
  obtain ⟨name,u,ty,e1,e2,e3,e4,e5⟩:=h'.2 _ (List.mem_singleton.2 rfl)
  have en:name=[101,114,114,111,114]:=(Option.some.inj e1).symm
  subst en
  obtain rfl:=Option.some.inj ((show (Tryz.prog.cutTypes.find? (·.1 == "internal/reflectlite.rtype")).map (·.2)=some 190 by kernel_rfl).symm.trans e2)
  have hm:ty∈(List.range 316).filter fun t=>Tryz.prog.rowNamed t [101,114,114,111,114]:=List.mem_filter.2 ⟨List.mem_range.2 (by rw [← (show Tryz.prog.types.size=316 by kernel_rfl)];exact e3),e4⟩
  rw [show ((List.range 316).filter fun t=>Tryz.prog.rowNamed t [101,114,114,111,114])=[95] by kernel_rfl] at hm
  obtain rfl:=List.mem_singleton.1 hm
  have hh:typeHandle Tryz.prog 95=.pointer (some ⟨4,95,none⟩):=by kernel_rfl
  rw [hh] at e5
  simpa using World.var?_cell (show Tryz.prog.globalNamed "errors.errorType" = some 0 by kernel_rfl) e5 0
theorem recordingText_contract (H:Type) (enc:TypeId × Value→H) (W:World) (base:Nat) (args:Array Value) (ds gs:List (DataW H)) (before:List MemPlace)
    (hval:∀ (j:Nat) t v,Tryz.f6.params[j]? = some t→args[j]? = some v→Value.okWide Tryz.prog W .any base t v)
    (hW:DataW.Whole enc Tryz.prog Tryz.f6.params.toList Rows.recordingTextSpec.vars false W args.toList ds gs before)
    (hL:laidMetH Tryz.prog Rows.recordingTextRow.laid W):
    Calls Tryz.prog 6 args W fun e W'=>∃ v,e=.returned v∧Rows.recordingTextSpec.post enc Tryz.prog Tryz.f6 false true false false W args v W':=by
  have hW':=hW
  obtain ⟨p,q,hA0,hV,rfl,hfz,hnd⟩:=hW
  have hA:DataW.TrodAll enc Tryz.prog W 0 (fun _=>true) true Tryz.f6.params.toList args.toList ds p:=hA0
  rw [Tryz.params6] at hA hval
  obtain ⟨v0,vs0,d0,ds0,p0,q0,hargs,rfl,rfl,h0,r0⟩:=trodAll_cons hA
  obtain ⟨v1,vs1,d1,ds1,p1,q1,rfl,rfl,rfl,h1,r1⟩:=trodAll_cons r0
  obtain ⟨rfl,rfl,rfl⟩:=trodAll_nil r1
  obtain rfl:args=#[v0,v1]:=by cases args;simp_all
  obtain ⟨rfl,rfl⟩:=trodVars_none hV
  have ok0:=hval 0 23 v0 rfl rfl
  obtain ⟨a0,e0,w0⟩:=arg_one (not_agg Tryz.underlying23 rfl ok0) (op23 W) h0 ok0
  have ok1:=hval 1 9 v1 rfl rfl
  obtain ⟨a1,e1,w1⟩:=arg_one (not_agg Tryz.underlying9 rfl ok1) (op9 W) h1 ok1
  have hp:=GoForm.caromlaw47_RecordingText_true a0 a1 w0 w1
  have hc:FnR Tryz.prog 6 [e_sl_sl_Input a0,e_str a1] (.v (.bool true)) []:=c_6.ok (a0,a1,()) _ true ⟨rfl,rfl,trivial⟩ hp
  exact law_post laidOut (by kernel_rfl) rfl Tryz.underlying4 rfl hW' rfl (.cons e0 (.cons e1 .nil)) hc (recordingText_handle hL)
noncomputable def recordingText_laid (os:Os):World:=
  { World.holding Tryz.prog os ⟨#[],#[],[]⟩ with heap:=((((World.holding Tryz.prog os ⟨#[],#[],[]⟩).heap.modify 3 fun | .cells _ t frozen=>.cells #[.int .u8 128,.int .u8 191,.int .u8 160,.int .u8 191,.int .u8 128,.int .u8 159,.int .u8 144,.int .u8 191,.int .u8 128,.int .u8 143,.int .u8 0,.int .u8 0,.int .u8 0,.int .u8 0,.int .u8 0,.int .u8 0,.int .u8 0,.int .u8 0,.int .u8 0,.int .u8 0,.int .u8 0,.int .u8 0,.int .u8 0,.int .u8 0,.int .u8 0,.int .u8 0,.int .u8 0,.int .u8 0,.int .u8 0,.int .u8 0,.int .u8 0,.int .u8 0] t frozen | o=>o).modify 0 fun | .cells _ t frozen=>.cells #[.iface 190 (.agg #[.pointer (some ⟨4,95,none⟩)])] t frozen | o=>o).modify 2 fun | .cells _ t frozen=>.cells (Go.Pinned.utf8FirstZ.map fun (n:Nat)=>Value.int .u8 (n:Int)).toArray t frozen | o=>o) }
theorem recordingText_laid_met (os:Os):laidMetH Tryz.prog Rows.recordingTextRow.laid ((recordingText_laid os).forCall (fun _ _=>0) ⟨#[],#[(.slice none 0 0),(.string ByteArray.empty)],[]⟩).memory:=
  laidMetH_of_parts (laidMet_of_run' 8 (by kernel_rfl) (by kernel_rfl)) (by kernel_rfl)
theorem recordingText_reads (os:Os) {H:Type} (enc:TypeId × Value→H):∃ places,DataW.whole enc Tryz.prog ((recordingText_laid os).forCall (fun _ _=>0) ⟨#[],#[(.slice none 0 0),(.string ByteArray.empty)],[]⟩).memory Tryz.f6.params.toList Rows.recordingTextSpec.vars false (#[(.slice none 0 0),(.string ByteArray.empty)]:Array Value).toList 8=some ([.nil,.lit (.string [])],[],places):=
  ⟨[],by kernel_rfl⟩
theorem recordingText_lifted (os:Os) (started:os.Started) (H:Type) (enc:TypeId × Value→H) (F:Stop.Interp):
    ReturnsInHanded {} Tryz.checked os 6 .any ((OpenSpec.ofChange Rows.recordingTextSpec).preRow enc Tryz.prog Tryz.f6 Rows.recordingTextRow.domain false Rows.recordingTextRow.laid) (((OpenSpec.ofChange Rows.recordingTextSpec).at F).post enc Tryz.prog Tryz.f6 false true false false):=by
  obtain ⟨places,hx⟩:=recordingText_reads os enc
  refine returnsInHanded_of_row (C:=Tryz.checked) (s:=OpenSpec.ofChange Rows.recordingTextSpec) own started (by kernel_rfl) Tryz.func6
    (witness_row_at (enc:=enc) (C:=Tryz.checked) false (recordingText_laid os) #[(.slice none 0 0),(.string ByteArray.empty)] rfl (by kernel_rfl) (by kernel_rfl) (by kernel_rfl)
      (OpenSpec.preRow_of_cond 8 hx (by kernel_rfl) (fun k hk=>by cases hk) (by kernel_rfl) (recordingText_laid_met os))) ?_
  intro W base args ds gs before hval hW _ _ _ hL _ _
  exact recordingText_contract H enc W base args ds gs before hval hW hL
theorem recordingText_said:Rows.RecordingTextSaid:=
  OpenClaim.holds_of_cond 6 Tryz.f6 rfl rfl rfl rfl rfl rfl rfl ⟨rfl,rfl,rfl,rfl,rfl⟩ rfl rfl rfl rfl rfl (by kernel_rfl) Tryz.func6 (by kernel_rfl)
    (of_decide_eq_true (by kernel_rfl)) (by unfold Func.isWrapper;first | (rw [if_pos (by decide +kernel)];kernel_rfl) | (rw [if_neg (by decide +kernel)];exact ⟨rfl,rfl⟩))
    (fun os started H enc _ F=>by rw [OpenClaim.pre_eq_preRow];exact recordingText_lifted os started H enc F)
theorem recordingText_plain (f:FuncId) (fn:Func) (hf:Tryz.pinned.checked.prog.funcNamed Rows.recordingTextRow.func=some f) (hfn:Tryz.pinned.checked.prog.funcs[f]? = some fn):
    true=Tryz.pinned.checked.prog.looks []∧∀ (j:Nat) t,fn.params[j]? = some t→Tryz.pinned.checked.prog.wantsStandIn t=false:=by
  obtain rfl:f=6:=Option.some.inj ((show Tryz.prog.funcNamed Rows.recordingTextRow.func=some 6 by kernel_rfl).symm.trans hf) |>.symm
  obtain rfl:fn=Tryz.f6:=(Option.some.inj (Tryz.func6.symm.trans hfn)).symm
  refine ⟨by kernel_rfl,fun j t ht=>?_⟩
  rw [Tryz.params6] at ht
  have hm:=Array.mem_of_getElem? ht
  simp only [List.mem_toArray,List.mem_cons,List.not_mem_nil,or_false] at hm
  rcases hm with rfl | rfl
  · exact (show Tryz.prog.wantsStandIn 23=false by kernel_rfl)
  · exact (show Tryz.prog.wantsStandIn 9=false by kernel_rfl)
theorem recordingText_holds:Rows.RecordingTextCardSaid:=
  Claim7.holds_tied_plain_at .later [] _ _ _ _ recordingText_said (fun _ h=>by cases h) (by kernel_rfl) (fun _ h=>by cases h) recordingText_row_tie rfl ⟨rfl,rfl⟩ (by kernel_rfl) rfl recordingText_plain (by kernel_rfl)
end Go.Proofs.YtffgldbihpgjgaaGreatDoor
