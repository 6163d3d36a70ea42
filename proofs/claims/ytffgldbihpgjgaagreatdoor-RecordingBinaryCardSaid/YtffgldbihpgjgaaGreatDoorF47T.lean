/- The types that occur, as plain data. Printed by gen3.py. No conditions. -/
import Derived.Test.YtffgldbihpgjgaaGreatDoorQE
import Derived.Test.YtffgldbihpgjgaaGreatDoorQE
import Derived.Test.YtffgldbihpgjgaaGreatDoorProg
set_option linter.all false
set_option maxRecDepth 100000
open Go Go.Rx Go.Proofs Go.RowKit
namespace GoForm
structure Vec where
 X:Int
 Y:Int
 deriving DecidableEq,Inhabited
structure Transform where
 Position:Vec
 Angle:Int
 deriving DecidableEq,Inhabited
structure Shape where
 Kind:Int
 Radius:Int
 Vertices:(List Vec)
 deriving DecidableEq,Inhabited
structure Fixture where
 Shape:Shape
 Density:Int
 Friction:Int
 Restitution:Int
 Sensor:Bool
 Category:Int
 Mask:Int
 Group:Int
 deriving DecidableEq,Inhabited
structure Body where
 ID:Int
 Kind:Int
 Transform:Transform
 Velocity:Vec
 AngularVelocity:Int
 Force:Vec
 Torque:Int
 LinearDamping:Int
 AngularDamping:Int
 GravityScale:Int
 Bullet:Bool
 FixedRotation:Bool
 NoSleep:Bool
 Asleep:Bool
 IdleSteps:Int
 Fixtures:(List Fixture)
 deriving DecidableEq,Inhabited
structure Joint where
 ID:Int
 Kind:Int
 BodyA:Int
 BodyB:Int
 AnchorA:Vec
 AnchorB:Vec
 Axis:Vec
 ReferenceAngle:Int
 EnableLimit:Bool
 Lower:Int
 Upper:Int
 EnableMotor:Bool
 MotorSpeed:Int
 MaxForce:Int
 Softness:Int
 BreakForce:Int
 CollideConnected:Bool
 Impulses:(Int × Int × Int × Int)
 deriving DecidableEq,Inhabited
structure Input where
 Kind:Int
 ID:Int
 Vec:Vec
 Value:Int
 Body:Body
 Joint:Joint
 deriving DecidableEq,Inhabited
structure format_decimal where
 negative:Bool
 magnitude:Int
 unit:Int
 deriving DecidableEq,Inhabited
structure caromref45_Reader where
 B:(List UInt8)
 Offset:Int
 Err:Int
 deriving DecidableEq,Inhabited
structure snapshot_encoder where
 buf:(List UInt8)
 deriving DecidableEq,Inhabited
inductive Ix | tint | tVec | tTransform | tbool | tsl_Vec | tShape | tFixture | tsl_Fixture | tBody | tar4_int | tJoint | tInput | tsl_Input | tsl_sl_Input | tstr | tu64 | tbyte | tsl_str | tformat_decimal | tsl_byte | tu32 | tsl_int | tcaromref45_Reader | tsnapshot_encoder
 deriving DecidableEq
def jj7:Int→AV:=((aInt .i64)).el1
def a_Vec:Ac Vec:=aIso (fun x=>(x.X,x.Y)) (jaX (aInt .i64) (aInt .i64))
def jds:Vec→AV:=(a_Vec).elA
def a_Transform:Ac Transform:=aIso (fun x=>(x.Position,x.Angle)) (jaX a_Vec (aInt .i64))
def jh1:Transform→AV:=(a_Transform).elA
def e_bool:Bool→AV:=(jgo).el1
def jhs:(List Vec)→AV:=((aSl 2 jds)).el1
def a_Shape:Ac Shape:=aIso (fun x=>(x.Kind,x.Radius,x.Vertices)) (jaX (aInt .i64) (jaX (aInt .i64) (aSl 2 jds)))
def e_Shape:Shape→AV:=(a_Shape).elA
def a_Fixture:Ac Fixture:=aIso (fun x=>(x.Shape,x.Density,x.Friction,x.Restitution,x.Sensor,x.Category,x.Mask,x.Group)) (jaX a_Shape (jaX (aInt .i64) (jaX (aInt .i64) (jaX (aInt .i64) (jaX jgo (jaX (aInt .i64) (jaX (aInt .i64) (aInt .i64))))))))
def jba:Fixture→AV:=(a_Fixture).elA
def jd8:(List Fixture)→AV:=((aSl 10 jba)).el1
def a_Body:Ac Body:=aIso (fun x=>(x.ID,x.Kind,x.Transform,x.Velocity,x.AngularVelocity,x.Force,x.Torque,x.LinearDamping,x.AngularDamping,x.GravityScale,x.Bullet,x.FixedRotation,x.NoSleep,x.Asleep,x.IdleSteps,x.Fixtures)) (jaX (aInt .i64) (jaX (aInt .i64) (jaX a_Transform (jaX a_Vec (jaX (aInt .i64) (jaX a_Vec (jaX (aInt .i64) (jaX (aInt .i64) (jaX (aInt .i64) (jaX (aInt .i64) (jaX jgo (jaX jgo (jaX jgo (jaX jgo (jaX (aInt .i64) (aSl 10 jba))))))))))))))))
def jc6:Body→AV:=(a_Body).elA
def jn6:(Int × Int × Int × Int)→AV:=((jaX (aInt .i64) (jaX (aInt .i64) (jaX (aInt .i64) (aInt .i64))))).elA
def a_Joint:Ac Joint:=aIso (fun x=>(x.ID,x.Kind,x.BodyA,x.BodyB,x.AnchorA,x.AnchorB,x.Axis,x.ReferenceAngle,x.EnableLimit,x.Lower,x.Upper,x.EnableMotor,x.MotorSpeed,x.MaxForce,x.Softness,x.BreakForce,x.CollideConnected,x.Impulses)) (jaX (aInt .i64) (jaX (aInt .i64) (jaX (aInt .i64) (jaX (aInt .i64) (jaX a_Vec (jaX a_Vec (jaX a_Vec (jaX (aInt .i64) (jaX jgo (jaX (aInt .i64) (jaX (aInt .i64) (jaX jgo (jaX (aInt .i64) (jaX (aInt .i64) (jaX (aInt .i64) (jaX (aInt .i64) (jaX jgo (jaX (aInt .i64) (jaX (aInt .i64) (jaX (aInt .i64) (aInt .i64)))))))))))))))))))))
def jb8:Joint→AV:=(a_Joint).elA
def a_Input:Ac Input:=aIso (fun x=>(x.Kind,x.ID,x.Vec,x.Value,x.Body,x.Joint)) (jaX (aInt .i64) (jaX (aInt .i64) (jaX a_Vec (jaX (aInt .i64) (jaX a_Body a_Joint)))))
def jbo:Input→AV:=(a_Input).elA
def jao:(List Input)→AV:=((aSl 49 jbo)).el1
def jam:(List (List Input))→AV:=((aSl 1 jao)).el1
def jh0:(List UInt8)→AV:=(aStr).el1
def e_u64:Int→AV:=((aInt .u64)).el1
def jfm:UInt8→AV:=(jox).el1
def jdD:(List (List UInt8))→AV:=((aSl 1 jh0)).el1
def jdx:Ac format_decimal:=aIso (fun x=>(x.negative,x.magnitude,x.unit)) (jaX jgo (jaX (aInt .u64) (aInt .u64)))
def jhe:format_decimal→AV:=(jdx).elA
def jaA:(List UInt8)→AV:=((aSl 1 jfm)).el1
def e_u32:Int→AV:=((aInt .u32)).el1
def e_sl_int:(List Int)→AV:=((aSl 1 jj7)).el1
def jcQ:Ac caromref45_Reader:=aIso (fun x=>(x.B,x.Offset,x.Err)) (jaX (aSl 1 jfm) (jaX (aInt .i64) (aInt .i64)))
def jfX:caromref45_Reader→AV:=(jcQ).elA
def jc2:Ac snapshot_encoder:=aIso (fun x=>x.buf) (aSl 1 jfm)
def jgl:snapshot_encoder→AV:=(jc2).elA
noncomputable def tb:Tb where
 P:=Tryz.prog
 Ix:=Ix
 dec:=inferInstance
 T:=fun | .tint=>Int | .tVec=>Vec | .tTransform=>Transform | .tbool=>Bool | .tsl_Vec=>(List Vec) | .tShape=>Shape | .tFixture=>Fixture | .tsl_Fixture=>(List Fixture) | .tBody=>Body | .tar4_int=>(Int × Int × Int × Int) | .tJoint=>Joint | .tInput=>Input | .tsl_Input=>(List Input) | .tsl_sl_Input=>(List (List Input)) | .tstr=>(List UInt8) | .tu64=>Int | .tbyte=>UInt8 | .tsl_str=>(List (List UInt8)) | .tformat_decimal=>format_decimal | .tsl_byte=>(List UInt8) | .tu32=>Int | .tsl_int=>(List Int) | .tcaromref45_Reader=>caromref45_Reader | .tsnapshot_encoder=>snapshot_encoder
 sz:=fun | .tint=>1 | .tVec=>2 | .tTransform=>3 | .tbool=>1 | .tsl_Vec=>1 | .tShape=>3 | .tFixture=>10 | .tsl_Fixture=>1 | .tBody=>20 | .tar4_int=>4 | .tJoint=>24 | .tInput=>49 | .tsl_Input=>1 | .tsl_sl_Input=>1 | .tstr=>1 | .tu64=>1 | .tbyte=>1 | .tsl_str=>1 | .tformat_decimal=>3 | .tsl_byte=>1 | .tu32=>1 | .tsl_int=>1 | .tcaromref45_Reader=>3 | .tsnapshot_encoder=>1
 el:=fun | .tint=>jj7 | .tVec=>jds | .tTransform=>jh1 | .tbool=>e_bool | .tsl_Vec=>jhs | .tShape=>e_Shape | .tFixture=>jba | .tsl_Fixture=>jd8 | .tBody=>jc6 | .tar4_int=>jn6 | .tJoint=>jb8 | .tInput=>jbo | .tsl_Input=>jao | .tsl_sl_Input=>jam | .tstr=>jh0 | .tu64=>e_u64 | .tbyte=>jfm | .tsl_str=>jdD | .tformat_decimal=>jhe | .tsl_byte=>jaA | .tu32=>e_u32 | .tsl_int=>e_sl_int | .tcaromref45_Reader=>jfX | .tsnapshot_encoder=>jgl
 look n:=find n [(3,Ix.tint),(27,Ix.tint),(63,Ix.tint),(66,Ix.tint),(72,Ix.tint),(114,Ix.tint),(65,Ix.tVec),(68,Ix.tTransform),(4,Ix.tbool),(115,Ix.tsl_Vec),(117,Ix.tShape),(119,Ix.tFixture),(69,Ix.tsl_Fixture),(71,Ix.tBody),(73,Ix.tar4_int),(75,Ix.tJoint),(77,Ix.tInput),(51,Ix.tsl_Input),(23,Ix.tsl_sl_Input),(9,Ix.tstr),(122,Ix.tu64),(5,Ix.tbyte),(91,Ix.tsl_str),(243,Ix.tformat_decimal),(24,Ix.tsl_byte),(132,Ix.tu32),(167,Ix.tsl_int),(209,Ix.tcaromref45_Reader),(130,Ix.tsnapshot_encoder)]
 byte:=some ⟨.tbyte,rfl,rfl,fun _=>rfl⟩
variable [GlC]
noncomputable def jjj:Fc tb Vec:=fIso (fun p=>⟨p.1,p.2⟩) (fun x=>(x.X,x.Y)) (ja7 (fInt .i64) (fInt .i64))
theorem jjP:FcOk (tb:=tb) a_Vec jjj:=jik (fun _=>rfl) (jaM (jbA .i64) (jbA .i64))
noncomputable def jfW:Fc tb Transform:=fIso (fun p=>⟨p.1,p.2⟩) (fun x=>(x.Position,x.Angle)) (ja7 jjj (fInt .i64))
theorem jhK:FcOk (tb:=tb) a_Transform jfW:=jik (fun _=>rfl) (jaM jjP (jbA .i64))
noncomputable def jkN:Fc tb Shape:=fIso (fun p=>⟨p.1,p.2.1,p.2.2⟩) (fun x=>(x.Kind,x.Radius,x.Vertices)) (ja7 (fInt .i64) (ja7 (fInt .i64) (fSl (tb:=tb) .tVec)))
theorem jnl:FcOk (tb:=tb) a_Shape jkN:=jik (fun _=>rfl) (jaM (jbA .i64) (jaM (jbA .i64) (okSl (tb:=tb) .tVec)))
noncomputable def jj4:Fc tb Fixture:=fIso (fun p=>⟨p.1,p.2.1,p.2.2.1,p.2.2.2.1,p.2.2.2.2.1,p.2.2.2.2.2.1,p.2.2.2.2.2.2.1,p.2.2.2.2.2.2.2⟩) (fun x=>(x.Shape,x.Density,x.Friction,x.Restitution,x.Sensor,x.Category,x.Mask,x.Group)) (ja7 jkN (ja7 (fInt .i64) (ja7 (fInt .i64) (ja7 (fInt .i64) (ja7 jgJ (ja7 (fInt .i64) (ja7 (fInt .i64) (fInt .i64))))))))
theorem jnn:FcOk (tb:=tb) a_Fixture jj4:=jik (fun _=>rfl) (jaM jnl (jaM (jbA .i64) (jaM (jbA .i64) (jaM (jbA .i64) (jaM jfH (jaM (jbA .i64) (jaM (jbA .i64) (jbA .i64))))))))
noncomputable def jn2:Fc tb Body:=fIso (fun p=>⟨p.1,p.2.1,p.2.2.1,p.2.2.2.1,p.2.2.2.2.1,p.2.2.2.2.2.1,p.2.2.2.2.2.2.1,p.2.2.2.2.2.2.2.1,p.2.2.2.2.2.2.2.2.1,p.2.2.2.2.2.2.2.2.2.1,p.2.2.2.2.2.2.2.2.2.2.1,p.2.2.2.2.2.2.2.2.2.2.2.1,p.2.2.2.2.2.2.2.2.2.2.2.2.1,p.2.2.2.2.2.2.2.2.2.2.2.2.2.1,p.2.2.2.2.2.2.2.2.2.2.2.2.2.2.1,p.2.2.2.2.2.2.2.2.2.2.2.2.2.2.2⟩) (fun x=>(x.ID,x.Kind,x.Transform,x.Velocity,x.AngularVelocity,x.Force,x.Torque,x.LinearDamping,x.AngularDamping,x.GravityScale,x.Bullet,x.FixedRotation,x.NoSleep,x.Asleep,x.IdleSteps,x.Fixtures)) (ja7 (fInt .i64) (ja7 (fInt .i64) (ja7 jfW (ja7 jjj (ja7 (fInt .i64) (ja7 jjj (ja7 (fInt .i64) (ja7 (fInt .i64) (ja7 (fInt .i64) (ja7 (fInt .i64) (ja7 jgJ (ja7 jgJ (ja7 jgJ (ja7 jgJ (ja7 (fInt .i64) (fSl (tb:=tb) .tFixture))))))))))))))))
theorem o_Body:FcOk (tb:=tb) a_Body jn2:=jik (fun _=>rfl) (jaM (jbA .i64) (jaM (jbA .i64) (jaM jhK (jaM jjP (jaM (jbA .i64) (jaM jjP (jaM (jbA .i64) (jaM (jbA .i64) (jaM (jbA .i64) (jaM (jbA .i64) (jaM jfH (jaM jfH (jaM jfH (jaM jfH (jaM (jbA .i64) (okSl (tb:=tb) .tFixture))))))))))))))))
noncomputable def jkO:Fc tb Joint:=fIso (fun p=>⟨p.1,p.2.1,p.2.2.1,p.2.2.2.1,p.2.2.2.2.1,p.2.2.2.2.2.1,p.2.2.2.2.2.2.1,p.2.2.2.2.2.2.2.1,p.2.2.2.2.2.2.2.2.1,p.2.2.2.2.2.2.2.2.2.1,p.2.2.2.2.2.2.2.2.2.2.1,p.2.2.2.2.2.2.2.2.2.2.2.1,p.2.2.2.2.2.2.2.2.2.2.2.2.1,p.2.2.2.2.2.2.2.2.2.2.2.2.2.1,p.2.2.2.2.2.2.2.2.2.2.2.2.2.2.1,p.2.2.2.2.2.2.2.2.2.2.2.2.2.2.2.1,p.2.2.2.2.2.2.2.2.2.2.2.2.2.2.2.2.1,p.2.2.2.2.2.2.2.2.2.2.2.2.2.2.2.2.2⟩) (fun x=>(x.ID,x.Kind,x.BodyA,x.BodyB,x.AnchorA,x.AnchorB,x.Axis,x.ReferenceAngle,x.EnableLimit,x.Lower,x.Upper,x.EnableMotor,x.MotorSpeed,x.MaxForce,x.Softness,x.BreakForce,x.CollideConnected,x.Impulses)) (ja7 (fInt .i64) (ja7 (fInt .i64) (ja7 (fInt .i64) (ja7 (fInt .i64) (ja7 jjj (ja7 jjj (ja7 jjj (ja7 (fInt .i64) (ja7 jgJ (ja7 (fInt .i64) (ja7 (fInt .i64) (ja7 jgJ (ja7 (fInt .i64) (ja7 (fInt .i64) (ja7 (fInt .i64) (ja7 (fInt .i64) (ja7 jgJ (ja7 (fInt .i64) (ja7 (fInt .i64) (ja7 (fInt .i64) (fInt .i64)))))))))))))))))))))
theorem jnm:FcOk (tb:=tb) a_Joint jkO:=jik (fun _=>rfl) (jaM (jbA .i64) (jaM (jbA .i64) (jaM (jbA .i64) (jaM (jbA .i64) (jaM jjP (jaM jjP (jaM jjP (jaM (jbA .i64) (jaM jfH (jaM (jbA .i64) (jaM (jbA .i64) (jaM jfH (jaM (jbA .i64) (jaM (jbA .i64) (jaM (jbA .i64) (jaM (jbA .i64) (jaM jfH (jaM (jbA .i64) (jaM (jbA .i64) (jaM (jbA .i64) (jbA .i64)))))))))))))))))))))
noncomputable def jn1:Fc tb Input:=fIso (fun p=>⟨p.1,p.2.1,p.2.2.1,p.2.2.2.1,p.2.2.2.2.1,p.2.2.2.2.2⟩) (fun x=>(x.Kind,x.ID,x.Vec,x.Value,x.Body,x.Joint)) (ja7 (fInt .i64) (ja7 (fInt .i64) (ja7 jjj (ja7 (fInt .i64) (ja7 jn2 jkO)))))
theorem o_Input:FcOk (tb:=tb) a_Input jn1:=jik (fun _=>rfl) (jaM (jbA .i64) (jaM (jbA .i64) (jaM jjP (jaM (jbA .i64) (jaM o_Body jnm)))))
noncomputable def jeW:Fc tb format_decimal:=fIso (fun p=>⟨p.1,p.2.1,p.2.2⟩) (fun x=>(x.negative,x.magnitude,x.unit)) (ja7 jgJ (ja7 (fInt .u64) (fInt .u64)))
theorem jhc:FcOk (tb:=tb) jdx jeW:=jik (fun _=>rfl) (jaM jfH (jaM (jbA .u64) (jbA .u64)))
noncomputable def jdW:Fc tb caromref45_Reader:=fIso (fun p=>⟨p.1,p.2.1,p.2.2⟩) (fun x=>(x.B,x.Offset,x.Err)) (ja7 (fSl (tb:=tb) .tbyte) (ja7 (fInt .i64) (fInt .i64)))
theorem jfR:FcOk (tb:=tb) jcQ jdW:=jik (fun _=>rfl) (jaM (okSl (tb:=tb) .tbyte) (jaM (jbA .i64) (jbA .i64)))
noncomputable def jd6:Fc tb snapshot_encoder:=fIso (fun p=>⟨p⟩) (fun x=>x.buf) (fSl (tb:=tb) .tbyte)
theorem jgb:FcOk (tb:=tb) jc2 jd6:=jik (fun _=>rfl) (okSl (tb:=tb) .tbyte)
noncomputable def cd:(i:Ix)→Cd tb i
 | .tint=>cd1 (tb:=tb) (i:=Ix.tint) (fInt .i64) (default:Int) true
 | .tVec=>cdA (tb:=tb) (i:=Ix.tVec) jjj (default:Vec) true
 | .tTransform=>cdA (tb:=tb) (i:=Ix.tTransform) jfW (default:Transform) true
 | .tbool=>cd1 (tb:=tb) (i:=Ix.tbool) jgJ (default:Bool) true
 | .tsl_Vec=>cd1 (tb:=tb) (i:=Ix.tsl_Vec) (fSl (tb:=tb) .tVec) (default:(List Vec)) false
 | .tShape=>cdA (tb:=tb) (i:=Ix.tShape) jkN (default:Shape) false
 | .tFixture=>cdA (tb:=tb) (i:=Ix.tFixture) jj4 (default:Fixture) false
 | .tsl_Fixture=>cd1 (tb:=tb) (i:=Ix.tsl_Fixture) (fSl (tb:=tb) .tFixture) (default:(List Fixture)) false
 | .tBody=>cdA (tb:=tb) (i:=Ix.tBody) jn2 (default:Body) false
 | .tar4_int=>cdA (tb:=tb) (i:=Ix.tar4_int) (ja7 (fInt .i64) (ja7 (fInt .i64) (ja7 (fInt .i64) (fInt .i64)))) (default:(Int × Int × Int × Int)) true
 | .tJoint=>cdA (tb:=tb) (i:=Ix.tJoint) jkO (default:Joint) true
 | .tInput=>cdA (tb:=tb) (i:=Ix.tInput) jn1 (default:Input) false
 | .tsl_Input=>cd1 (tb:=tb) (i:=Ix.tsl_Input) (fSl (tb:=tb) .tInput) (default:(List Input)) false
 | .tsl_sl_Input=>cd1 (tb:=tb) (i:=Ix.tsl_sl_Input) (fSl (tb:=tb) .tsl_Input) (default:(List (List Input))) false
 | .tstr=>cd1 (tb:=tb) (i:=Ix.tstr) fStr (default:(List UInt8)) true
 | .tu64=>cd1 (tb:=tb) (i:=Ix.tu64) (fInt .u64) (default:Int) true
 | .tbyte=>cd1 (tb:=tb) (i:=Ix.tbyte) fByte (default:UInt8) true
 | .tsl_str=>cd1 (tb:=tb) (i:=Ix.tsl_str) (fSl (tb:=tb) .tstr) (default:(List (List UInt8))) false
 | .tformat_decimal=>cdA (tb:=tb) (i:=Ix.tformat_decimal) jeW (default:format_decimal) true
 | .tsl_byte=>cd1 (tb:=tb) (i:=Ix.tsl_byte) (fSl (tb:=tb) .tbyte) (default:(List UInt8)) false
 | .tu32=>cd1 (tb:=tb) (i:=Ix.tu32) (fInt .u32) (default:Int) true
 | .tsl_int=>cd1 (tb:=tb) (i:=Ix.tsl_int) (fSl (tb:=tb) .tint) (default:(List Int)) false
 | .tcaromref45_Reader=>cdA (tb:=tb) (i:=Ix.tcaromref45_Reader) jdW (default:caromref45_Reader) false
 | .tsnapshot_encoder=>cdA (tb:=tb) (i:=Ix.tsnapshot_encoder) jd6 (default:snapshot_encoder) false
theorem cd_ok:∀ i:Ix,CdOk (cd i)
 | .tint=>ok1 (tb:=tb) (i:=Ix.tint) (a:=(aInt .i64)) (jbA .i64) (fun _=>rfl) rfl rfl (fun _ _=>rfl)
 | .tVec=>okA (tb:=tb) (i:=Ix.tVec) (a:=a_Vec) jjP (fun _=>rfl) rfl rfl (fun _ _=>rfl)
 | .tTransform=>okA (tb:=tb) (i:=Ix.tTransform) (a:=a_Transform) jhK (fun _=>rfl) rfl rfl (fun _ _=>rfl)
 | .tbool=>ok1 (tb:=tb) (i:=Ix.tbool) (a:=jgo) jfH (fun _=>rfl) rfl rfl (fun _ _=>rfl)
 | .tsl_Vec=>ok1 (tb:=tb) (i:=Ix.tsl_Vec) (a:=(aSl 2 jds)) (okSl (tb:=tb) .tVec) (fun _=>rfl) rfl rfl (fun h=>by cases h)
 | .tShape=>okA (tb:=tb) (i:=Ix.tShape) (a:=a_Shape) jnl (fun _=>rfl) rfl rfl (fun h=>by cases h)
 | .tFixture=>okA (tb:=tb) (i:=Ix.tFixture) (a:=a_Fixture) jnn (fun _=>rfl) rfl rfl (fun h=>by cases h)
 | .tsl_Fixture=>ok1 (tb:=tb) (i:=Ix.tsl_Fixture) (a:=(aSl 10 jba)) (okSl (tb:=tb) .tFixture) (fun _=>rfl) rfl rfl (fun h=>by cases h)
 | .tBody=>okA (tb:=tb) (i:=Ix.tBody) (a:=a_Body) o_Body (fun _=>rfl) rfl rfl (fun h=>by cases h)
 | .tar4_int=>okA (tb:=tb) (i:=Ix.tar4_int) (a:=(jaX (aInt .i64) (jaX (aInt .i64) (jaX (aInt .i64) (aInt .i64))))) (jaM (jbA .i64) (jaM (jbA .i64) (jaM (jbA .i64) (jbA .i64)))) (fun _=>rfl) rfl rfl (fun _ _=>rfl)
 | .tJoint=>okA (tb:=tb) (i:=Ix.tJoint) (a:=a_Joint) jnm (fun _=>rfl) rfl rfl (fun _ _=>rfl)
 | .tInput=>okA (tb:=tb) (i:=Ix.tInput) (a:=a_Input) o_Input (fun _=>rfl) rfl rfl (fun h=>by cases h)
 | .tsl_Input=>ok1 (tb:=tb) (i:=Ix.tsl_Input) (a:=(aSl 49 jbo)) (okSl (tb:=tb) .tInput) (fun _=>rfl) rfl rfl (fun h=>by cases h)
 | .tsl_sl_Input=>ok1 (tb:=tb) (i:=Ix.tsl_sl_Input) (a:=(aSl 1 jao)) (okSl (tb:=tb) .tsl_Input) (fun _=>rfl) rfl rfl (fun h=>by cases h)
 | .tstr=>ok1 (tb:=tb) (i:=Ix.tstr) (a:=aStr) okStr (fun _=>rfl) rfl rfl (fun _ _=>rfl)
 | .tu64=>ok1 (tb:=tb) (i:=Ix.tu64) (a:=(aInt .u64)) (jbA .u64) (fun _=>rfl) rfl rfl (fun _ _=>rfl)
 | .tbyte=>ok1 (tb:=tb) (i:=Ix.tbyte) (a:=jox) okByte (fun _=>rfl) rfl rfl (fun _ _=>rfl)
 | .tsl_str=>ok1 (tb:=tb) (i:=Ix.tsl_str) (a:=(aSl 1 jh0)) (okSl (tb:=tb) .tstr) (fun _=>rfl) rfl rfl (fun h=>by cases h)
 | .tformat_decimal=>okA (tb:=tb) (i:=Ix.tformat_decimal) (a:=jdx) jhc (fun _=>rfl) rfl rfl (fun _ _=>rfl)
 | .tsl_byte=>ok1 (tb:=tb) (i:=Ix.tsl_byte) (a:=(aSl 1 jfm)) (okSl (tb:=tb) .tbyte) (fun _=>rfl) rfl rfl (fun h=>by cases h)
 | .tu32=>ok1 (tb:=tb) (i:=Ix.tu32) (a:=(aInt .u32)) (jbA .u32) (fun _=>rfl) rfl rfl (fun _ _=>rfl)
 | .tsl_int=>ok1 (tb:=tb) (i:=Ix.tsl_int) (a:=(aSl 1 jj7)) (okSl (tb:=tb) .tint) (fun _=>rfl) rfl rfl (fun h=>by cases h)
 | .tcaromref45_Reader=>okA (tb:=tb) (i:=Ix.tcaromref45_Reader) (a:=jcQ) jfR (fun _=>rfl) rfl rfl (fun h=>by cases h)
 | .tsnapshot_encoder=>okA (tb:=tb) (i:=Ix.tsnapshot_encoder) (a:=jc2) jgb (fun _=>rfl) rfl rfl (fun h=>by cases h)
theorem mixed:Tryz.prog.follows .mixedOrders=true:=by kernel_rfl
def jeR (x y:Vec):Bool:=(decide (x.X=y.X)&&decide (x.Y=y.Y))
def jeS (x y:Transform):Bool:=(jeR x.Position y.Position&&decide (x.Angle=y.Angle))
def jh9 (x y:(Int × Int × Int × Int)):Bool:=(decide (x.1=y.1)&&(decide (x.2.1=y.2.1)&&(decide (x.2.2.1=y.2.2.1)&&decide (x.2.2.2=y.2.2.2))))
def jie (x y:Joint):Bool:=(decide (x.ID=y.ID)&&(decide (x.Kind=y.Kind)&&(decide (x.BodyA=y.BodyA)&&(decide (x.BodyB=y.BodyB)&&(jeR x.AnchorA y.AnchorA&&(jeR x.AnchorB y.AnchorB&&(jeR x.Axis y.Axis&&(decide (x.ReferenceAngle=y.ReferenceAngle)&&(decide (x.EnableLimit=y.EnableLimit)&&(decide (x.Lower=y.Lower)&&(decide (x.Upper=y.Upper)&&(decide (x.EnableMotor=y.EnableMotor)&&(decide (x.MotorSpeed=y.MotorSpeed)&&(decide (x.MaxForce=y.MaxForce)&&(decide (x.Softness=y.Softness)&&(decide (x.BreakForce=y.BreakForce)&&(decide (x.CollideConnected=y.CollideConnected)&&jh9 x.Impulses y.Impulses)))))))))))))))))
theorem eqt_65:EqT Tryz.prog 65 jds jeR:=by
 refine ⟨by kernel_rfl,fun x=>[.int .i64 x.X,.int .i64 x.Y],fun x=>rfl,fun w x y=>?_⟩
 rw [run_equalIn_struct w 9999 65 _ _ (by kernel_rfl) (by kernel_rfl)]
 simp [Program.fieldsOf,Op.eqFields,go_sem,if_ok,jeR,Tryz.underlying3,Tryz.underlying65] <;> grind
theorem eqt_68:EqT Tryz.prog 68 jh1 jeS:=by
 refine ⟨by kernel_rfl,fun x=>[.int .i64 x.Position.X,.int .i64 x.Position.Y,.int .i64 x.Angle],fun x=>rfl,fun w x y=>?_⟩
 rw [run_equalIn_struct w 9999 68 _ _ (by kernel_rfl) (by kernel_rfl)]
 have q0:=fun (d:Nat) (w:Go.World) (xs ys:Array Value)=>run_equalIn_struct (P:=Tryz.prog) w d 65 xs ys (by kernel_rfl) (by kernel_rfl)
 simp [Program.fieldsOf,Op.eqFields,go_sem,if_ok,jeS,jeR,Tryz.underlying3,Tryz.underlying64,Tryz.underlying65,Tryz.underlying68,q0] <;> grind
theorem eqt_75:EqT Tryz.prog 75 jb8 jie:=by
 refine ⟨by kernel_rfl,fun x=>[.int .i64 x.ID,.int .i64 x.Kind,.int .i64 x.BodyA,.int .i64 x.BodyB,.int .i64 x.AnchorA.X,.int .i64 x.AnchorA.Y,.int .i64 x.AnchorB.X,.int .i64 x.AnchorB.Y,.int .i64 x.Axis.X,.int .i64 x.Axis.Y,.int .i64 x.ReferenceAngle,.bool x.EnableLimit,.int .i64 x.Lower,.int .i64 x.Upper,.bool x.EnableMotor,.int .i64 x.MotorSpeed,.int .i64 x.MaxForce,.int .i64 x.Softness,.int .i64 x.BreakForce,.bool x.CollideConnected,.int .i64 x.Impulses.1,.int .i64 x.Impulses.2.1,.int .i64 x.Impulses.2.2.1,.int .i64 x.Impulses.2.2.2],fun x=>rfl,fun w x y=>?_⟩
 rw [run_equalIn_struct w 9999 75 _ _ (by kernel_rfl) (by kernel_rfl)]
 have qa0:=jg8 (P:=Tryz.prog) (t:=73) (E:=3) (k:=.i64) (by kernel_rfl) (by kernel_rfl) (by kernel_rfl) (by kernel_rfl)
 have q0:=fun (d:Nat) (w:Go.World) (xs ys:Array Value)=>run_equalIn_struct (P:=Tryz.prog) w d 65 xs ys (by kernel_rfl) (by kernel_rfl)
 simp [Program.fieldsOf,Op.eqFields,go_sem,if_ok,jie,jeR,jh9,Tryz.underlying3,Tryz.underlying4,Tryz.underlying64,Tryz.underlying65,Tryz.underlying72,Tryz.underlying73,Tryz.underlying75,qa0,q0] <;> grind
noncomputable def eqs:List (EqE Tryz.prog tb):=[⟨65,Ix.tVec,jeR,eqt_65⟩,⟨68,Ix.tTransform,jeS,eqt_68⟩,⟨75,Ix.tJoint,jie,eqt_75⟩]
noncomputable def hnds:List (Hnd Tryz.prog tb):=[]
noncomputable def cx (Γ:List (Con Tryz.prog tb cd)) (J:List (Inl Tryz.prog tb)):Ctx Tryz.prog tb:=⟨cd,cd_ok,Γ,J,eqs,mixed,rfl,hnds⟩
end GoForm
