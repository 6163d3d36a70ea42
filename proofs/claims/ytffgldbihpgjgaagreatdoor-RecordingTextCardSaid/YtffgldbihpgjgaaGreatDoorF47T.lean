/- The types that occur, as plain data. Printed by gen3.py. No conditions. -/
import Derived.Test.YtffgldbihpgjgaaGreatDoorQE
import Derived.Test.YtffgldbihpgjgaaGreatDoorQE
import Derived.Test.YtffgldbihpgjgaaGreatDoorProg
set_option linter.all false
set_option maxRecDepth 100000
open Go Go.Rx Go.Proofs Go.RowKit
namespace GoForm
structure Vec where
  X:Int
  Y:Int
  deriving DecidableEq,Inhabited
structure Transform where
  Position:Vec
  Angle:Int
  deriving DecidableEq,Inhabited
structure Shape where
  Kind:Int
  Radius:Int
  Vertices:(List Vec)
  deriving DecidableEq,Inhabited
structure Fixture where
  Shape:Shape
  Density:Int
  Friction:Int
  Restitution:Int
  Sensor:Bool
  Category:Int
  Mask:Int
  Group:Int
  deriving DecidableEq,Inhabited
structure Body where
  ID:Int
  Kind:Int
  Transform:Transform
  Velocity:Vec
  AngularVelocity:Int
  Force:Vec
  Torque:Int
  LinearDamping:Int
  AngularDamping:Int
  GravityScale:Int
  Bullet:Bool
  FixedRotation:Bool
  NoSleep:Bool
  Asleep:Bool
  IdleSteps:Int
  Fixtures:(List Fixture)
  deriving DecidableEq,Inhabited
structure Joint where
  ID:Int
  Kind:Int
  BodyA:Int
  BodyB:Int
  AnchorA:Vec
  AnchorB:Vec
  Axis:Vec
  ReferenceAngle:Int
  EnableLimit:Bool
  Lower:Int
  Upper:Int
  EnableMotor:Bool
  MotorSpeed:Int
  MaxForce:Int
  Softness:Int
  BreakForce:Int
  CollideConnected:Bool
  Impulses:(Int × Int × Int × Int)
  deriving DecidableEq,Inhabited
structure Input where
  Kind:Int
  ID:Int
  Vec:Vec
  Value:Int
  Body:Body
  Joint:Joint
  deriving DecidableEq,Inhabited
structure format_decimal where
  negative:Bool
  magnitude:Int
  unit:Int
  deriving DecidableEq,Inhabited
structure caromref45_Reader where
  B:(List UInt8)
  Offset:Int
  Err:Int
  deriving DecidableEq,Inhabited
structure snapshot_encoder where
  buf:(List UInt8)
  deriving DecidableEq,Inhabited
inductive Ix | tint | tVec | tTransform | tbool | tsl_Vec | tShape | tFixture | tsl_Fixture | tBody | tar4_int | tJoint | tInput | tsl_Input | tsl_sl_Input | tstr | tu64 | tbyte | tsl_str | tformat_decimal | tsl_byte | tu32 | tsl_int | tcaromref45_Reader | tsnapshot_encoder
  deriving DecidableEq
def e_int:Int→AV:=((aInt .i64)).el1
def a_Vec:Ac Vec:=aIso (fun x=>(x.X,x.Y)) (aPair (aInt .i64) (aInt .i64))
def e_Vec:Vec→AV:=(a_Vec).elA
def a_Transform:Ac Transform:=aIso (fun x=>(x.Position,x.Angle)) (aPair a_Vec (aInt .i64))
def e_Transform:Transform→AV:=(a_Transform).elA
def e_bool:Bool→AV:=(aBool).el1
def e_sl_Vec:(List Vec)→AV:=((aSl 2 e_Vec)).el1
def a_Shape:Ac Shape:=aIso (fun x=>(x.Kind,x.Radius,x.Vertices)) (aPair (aInt .i64) (aPair (aInt .i64) (aSl 2 e_Vec)))
def e_Shape:Shape→AV:=(a_Shape).elA
def a_Fixture:Ac Fixture:=aIso (fun x=>(x.Shape,x.Density,x.Friction,x.Restitution,x.Sensor,x.Category,x.Mask,x.Group)) (aPair a_Shape (aPair (aInt .i64) (aPair (aInt .i64) (aPair (aInt .i64) (aPair aBool (aPair (aInt .i64) (aPair (aInt .i64) (aInt .i64))))))))
def e_Fixture:Fixture→AV:=(a_Fixture).elA
def e_sl_Fixture:(List Fixture)→AV:=((aSl 10 e_Fixture)).el1
def a_Body:Ac Body:=aIso (fun x=>(x.ID,x.Kind,x.Transform,x.Velocity,x.AngularVelocity,x.Force,x.Torque,x.LinearDamping,x.AngularDamping,x.GravityScale,x.Bullet,x.FixedRotation,x.NoSleep,x.Asleep,x.IdleSteps,x.Fixtures)) (aPair (aInt .i64) (aPair (aInt .i64) (aPair a_Transform (aPair a_Vec (aPair (aInt .i64) (aPair a_Vec (aPair (aInt .i64) (aPair (aInt .i64) (aPair (aInt .i64) (aPair (aInt .i64) (aPair aBool (aPair aBool (aPair aBool (aPair aBool (aPair (aInt .i64) (aSl 10 e_Fixture))))))))))))))))
def e_Body:Body→AV:=(a_Body).elA
def e_ar4_int:(Int × Int × Int × Int)→AV:=((aPair (aInt .i64) (aPair (aInt .i64) (aPair (aInt .i64) (aInt .i64))))).elA
def a_Joint:Ac Joint:=aIso (fun x=>(x.ID,x.Kind,x.BodyA,x.BodyB,x.AnchorA,x.AnchorB,x.Axis,x.ReferenceAngle,x.EnableLimit,x.Lower,x.Upper,x.EnableMotor,x.MotorSpeed,x.MaxForce,x.Softness,x.BreakForce,x.CollideConnected,x.Impulses)) (aPair (aInt .i64) (aPair (aInt .i64) (aPair (aInt .i64) (aPair (aInt .i64) (aPair a_Vec (aPair a_Vec (aPair a_Vec (aPair (aInt .i64) (aPair aBool (aPair (aInt .i64) (aPair (aInt .i64) (aPair aBool (aPair (aInt .i64) (aPair (aInt .i64) (aPair (aInt .i64) (aPair (aInt .i64) (aPair aBool (aPair (aInt .i64) (aPair (aInt .i64) (aPair (aInt .i64) (aInt .i64)))))))))))))))))))))
def e_Joint:Joint→AV:=(a_Joint).elA
def a_Input:Ac Input:=aIso (fun x=>(x.Kind,x.ID,x.Vec,x.Value,x.Body,x.Joint)) (aPair (aInt .i64) (aPair (aInt .i64) (aPair a_Vec (aPair (aInt .i64) (aPair a_Body a_Joint)))))
def e_Input:Input→AV:=(a_Input).elA
def e_sl_Input:(List Input)→AV:=((aSl 49 e_Input)).el1
def e_sl_sl_Input:(List (List Input))→AV:=((aSl 1 e_sl_Input)).el1
def e_str:(List UInt8)→AV:=(aStr).el1
def e_u64:Int→AV:=((aInt .u64)).el1
def e_byte:UInt8→AV:=(aByte).el1
def e_sl_str:(List (List UInt8))→AV:=((aSl 1 e_str)).el1
def a_format_decimal:Ac format_decimal:=aIso (fun x=>(x.negative,x.magnitude,x.unit)) (aPair aBool (aPair (aInt .u64) (aInt .u64)))
def e_format_decimal:format_decimal→AV:=(a_format_decimal).elA
def e_sl_byte:(List UInt8)→AV:=((aSl 1 e_byte)).el1
def e_u32:Int→AV:=((aInt .u32)).el1
def e_sl_int:(List Int)→AV:=((aSl 1 e_int)).el1
def a_caromref45_Reader:Ac caromref45_Reader:=aIso (fun x=>(x.B,x.Offset,x.Err)) (aPair (aSl 1 e_byte) (aPair (aInt .i64) (aInt .i64)))
def e_caromref45_Reader:caromref45_Reader→AV:=(a_caromref45_Reader).elA
def a_snapshot_encoder:Ac snapshot_encoder:=aIso (fun x=>x.buf) (aSl 1 e_byte)
def e_snapshot_encoder:snapshot_encoder→AV:=(a_snapshot_encoder).elA
noncomputable def tb:Tb where
  P:=Tryz.prog
  Ix:=Ix
  dec:=inferInstance
  T:=fun | .tint=>Int | .tVec=>Vec | .tTransform=>Transform | .tbool=>Bool | .tsl_Vec=>(List Vec) | .tShape=>Shape | .tFixture=>Fixture | .tsl_Fixture=>(List Fixture) | .tBody=>Body | .tar4_int=>(Int × Int × Int × Int) | .tJoint=>Joint | .tInput=>Input | .tsl_Input=>(List Input) | .tsl_sl_Input=>(List (List Input)) | .tstr=>(List UInt8) | .tu64=>Int | .tbyte=>UInt8 | .tsl_str=>(List (List UInt8)) | .tformat_decimal=>format_decimal | .tsl_byte=>(List UInt8) | .tu32=>Int | .tsl_int=>(List Int) | .tcaromref45_Reader=>caromref45_Reader | .tsnapshot_encoder=>snapshot_encoder
  sz:=fun | .tint=>1 | .tVec=>2 | .tTransform=>3 | .tbool=>1 | .tsl_Vec=>1 | .tShape=>3 | .tFixture=>10 | .tsl_Fixture=>1 | .tBody=>20 | .tar4_int=>4 | .tJoint=>24 | .tInput=>49 | .tsl_Input=>1 | .tsl_sl_Input=>1 | .tstr=>1 | .tu64=>1 | .tbyte=>1 | .tsl_str=>1 | .tformat_decimal=>3 | .tsl_byte=>1 | .tu32=>1 | .tsl_int=>1 | .tcaromref45_Reader=>3 | .tsnapshot_encoder=>1
  el:=fun | .tint=>e_int | .tVec=>e_Vec | .tTransform=>e_Transform | .tbool=>e_bool | .tsl_Vec=>e_sl_Vec | .tShape=>e_Shape | .tFixture=>e_Fixture | .tsl_Fixture=>e_sl_Fixture | .tBody=>e_Body | .tar4_int=>e_ar4_int | .tJoint=>e_Joint | .tInput=>e_Input | .tsl_Input=>e_sl_Input | .tsl_sl_Input=>e_sl_sl_Input | .tstr=>e_str | .tu64=>e_u64 | .tbyte=>e_byte | .tsl_str=>e_sl_str | .tformat_decimal=>e_format_decimal | .tsl_byte=>e_sl_byte | .tu32=>e_u32 | .tsl_int=>e_sl_int | .tcaromref45_Reader=>e_caromref45_Reader | .tsnapshot_encoder=>e_snapshot_encoder
  look n:=find n [(3,Ix.tint),(27,Ix.tint),(63,Ix.tint),(66,Ix.tint),(72,Ix.tint),(114,Ix.tint),(65,Ix.tVec),(68,Ix.tTransform),(4,Ix.tbool),(115,Ix.tsl_Vec),(117,Ix.tShape),(119,Ix.tFixture),(69,Ix.tsl_Fixture),(71,Ix.tBody),(73,Ix.tar4_int),(75,Ix.tJoint),(77,Ix.tInput),(51,Ix.tsl_Input),(23,Ix.tsl_sl_Input),(9,Ix.tstr),(122,Ix.tu64),(5,Ix.tbyte),(91,Ix.tsl_str),(243,Ix.tformat_decimal),(24,Ix.tsl_byte),(132,Ix.tu32),(167,Ix.tsl_int),(209,Ix.tcaromref45_Reader),(130,Ix.tsnapshot_encoder)]
  byte:=some ⟨.tbyte,rfl,rfl,fun _=>rfl⟩
variable [GlC]
noncomputable def f_Vec:Fc tb Vec:=fIso (fun p=>⟨p.1,p.2⟩) (fun x=>(x.X,x.Y)) (fPair (fInt .i64) (fInt .i64))
theorem o_Vec:FcOk (tb:=tb) a_Vec f_Vec:=okIso (fun _=>rfl) (okPair (okInt .i64) (okInt .i64))
noncomputable def f_Transform:Fc tb Transform:=fIso (fun p=>⟨p.1,p.2⟩) (fun x=>(x.Position,x.Angle)) (fPair f_Vec (fInt .i64))
theorem o_Transform:FcOk (tb:=tb) a_Transform f_Transform:=okIso (fun _=>rfl) (okPair o_Vec (okInt .i64))
noncomputable def f_Shape:Fc tb Shape:=fIso (fun p=>⟨p.1,p.2.1,p.2.2⟩) (fun x=>(x.Kind,x.Radius,x.Vertices)) (fPair (fInt .i64) (fPair (fInt .i64) (fSl (tb:=tb) .tVec)))
theorem o_Shape:FcOk (tb:=tb) a_Shape f_Shape:=okIso (fun _=>rfl) (okPair (okInt .i64) (okPair (okInt .i64) (okSl (tb:=tb) .tVec)))
noncomputable def f_Fixture:Fc tb Fixture:=fIso (fun p=>⟨p.1,p.2.1,p.2.2.1,p.2.2.2.1,p.2.2.2.2.1,p.2.2.2.2.2.1,p.2.2.2.2.2.2.1,p.2.2.2.2.2.2.2⟩) (fun x=>(x.Shape,x.Density,x.Friction,x.Restitution,x.Sensor,x.Category,x.Mask,x.Group)) (fPair f_Shape (fPair (fInt .i64) (fPair (fInt .i64) (fPair (fInt .i64) (fPair fBool (fPair (fInt .i64) (fPair (fInt .i64) (fInt .i64))))))))
theorem o_Fixture:FcOk (tb:=tb) a_Fixture f_Fixture:=okIso (fun _=>rfl) (okPair o_Shape (okPair (okInt .i64) (okPair (okInt .i64) (okPair (okInt .i64) (okPair okBool (okPair (okInt .i64) (okPair (okInt .i64) (okInt .i64))))))))
noncomputable def f_Body:Fc tb Body:=fIso (fun p=>⟨p.1,p.2.1,p.2.2.1,p.2.2.2.1,p.2.2.2.2.1,p.2.2.2.2.2.1,p.2.2.2.2.2.2.1,p.2.2.2.2.2.2.2.1,p.2.2.2.2.2.2.2.2.1,p.2.2.2.2.2.2.2.2.2.1,p.2.2.2.2.2.2.2.2.2.2.1,p.2.2.2.2.2.2.2.2.2.2.2.1,p.2.2.2.2.2.2.2.2.2.2.2.2.1,p.2.2.2.2.2.2.2.2.2.2.2.2.2.1,p.2.2.2.2.2.2.2.2.2.2.2.2.2.2.1,p.2.2.2.2.2.2.2.2.2.2.2.2.2.2.2⟩) (fun x=>(x.ID,x.Kind,x.Transform,x.Velocity,x.AngularVelocity,x.Force,x.Torque,x.LinearDamping,x.AngularDamping,x.GravityScale,x.Bullet,x.FixedRotation,x.NoSleep,x.Asleep,x.IdleSteps,x.Fixtures)) (fPair (fInt .i64) (fPair (fInt .i64) (fPair f_Transform (fPair f_Vec (fPair (fInt .i64) (fPair f_Vec (fPair (fInt .i64) (fPair (fInt .i64) (fPair (fInt .i64) (fPair (fInt .i64) (fPair fBool (fPair fBool (fPair fBool (fPair fBool (fPair (fInt .i64) (fSl (tb:=tb) .tFixture))))))))))))))))
theorem o_Body:FcOk (tb:=tb) a_Body f_Body:=okIso (fun _=>rfl) (okPair (okInt .i64) (okPair (okInt .i64) (okPair o_Transform (okPair o_Vec (okPair (okInt .i64) (okPair o_Vec (okPair (okInt .i64) (okPair (okInt .i64) (okPair (okInt .i64) (okPair (okInt .i64) (okPair okBool (okPair okBool (okPair okBool (okPair okBool (okPair (okInt .i64) (okSl (tb:=tb) .tFixture))))))))))))))))
noncomputable def f_Joint:Fc tb Joint:=fIso (fun p=>⟨p.1,p.2.1,p.2.2.1,p.2.2.2.1,p.2.2.2.2.1,p.2.2.2.2.2.1,p.2.2.2.2.2.2.1,p.2.2.2.2.2.2.2.1,p.2.2.2.2.2.2.2.2.1,p.2.2.2.2.2.2.2.2.2.1,p.2.2.2.2.2.2.2.2.2.2.1,p.2.2.2.2.2.2.2.2.2.2.2.1,p.2.2.2.2.2.2.2.2.2.2.2.2.1,p.2.2.2.2.2.2.2.2.2.2.2.2.2.1,p.2.2.2.2.2.2.2.2.2.2.2.2.2.2.1,p.2.2.2.2.2.2.2.2.2.2.2.2.2.2.2.1,p.2.2.2.2.2.2.2.2.2.2.2.2.2.2.2.2.1,p.2.2.2.2.2.2.2.2.2.2.2.2.2.2.2.2.2⟩) (fun x=>(x.ID,x.Kind,x.BodyA,x.BodyB,x.AnchorA,x.AnchorB,x.Axis,x.ReferenceAngle,x.EnableLimit,x.Lower,x.Upper,x.EnableMotor,x.MotorSpeed,x.MaxForce,x.Softness,x.BreakForce,x.CollideConnected,x.Impulses)) (fPair (fInt .i64) (fPair (fInt .i64) (fPair (fInt .i64) (fPair (fInt .i64) (fPair f_Vec (fPair f_Vec (fPair f_Vec (fPair (fInt .i64) (fPair fBool (fPair (fInt .i64) (fPair (fInt .i64) (fPair fBool (fPair (fInt .i64) (fPair (fInt .i64) (fPair (fInt .i64) (fPair (fInt .i64) (fPair fBool (fPair (fInt .i64) (fPair (fInt .i64) (fPair (fInt .i64) (fInt .i64)))))))))))))))))))))
theorem o_Joint:FcOk (tb:=tb) a_Joint f_Joint:=okIso (fun _=>rfl) (okPair (okInt .i64) (okPair (okInt .i64) (okPair (okInt .i64) (okPair (okInt .i64) (okPair o_Vec (okPair o_Vec (okPair o_Vec (okPair (okInt .i64) (okPair okBool (okPair (okInt .i64) (okPair (okInt .i64) (okPair okBool (okPair (okInt .i64) (okPair (okInt .i64) (okPair (okInt .i64) (okPair (okInt .i64) (okPair okBool (okPair (okInt .i64) (okPair (okInt .i64) (okPair (okInt .i64) (okInt .i64)))))))))))))))))))))
noncomputable def f_Input:Fc tb Input:=fIso (fun p=>⟨p.1,p.2.1,p.2.2.1,p.2.2.2.1,p.2.2.2.2.1,p.2.2.2.2.2⟩) (fun x=>(x.Kind,x.ID,x.Vec,x.Value,x.Body,x.Joint)) (fPair (fInt .i64) (fPair (fInt .i64) (fPair f_Vec (fPair (fInt .i64) (fPair f_Body f_Joint)))))
theorem o_Input:FcOk (tb:=tb) a_Input f_Input:=okIso (fun _=>rfl) (okPair (okInt .i64) (okPair (okInt .i64) (okPair o_Vec (okPair (okInt .i64) (okPair o_Body o_Joint)))))
noncomputable def f_format_decimal:Fc tb format_decimal:=fIso (fun p=>⟨p.1,p.2.1,p.2.2⟩) (fun x=>(x.negative,x.magnitude,x.unit)) (fPair fBool (fPair (fInt .u64) (fInt .u64)))
theorem o_format_decimal:FcOk (tb:=tb) a_format_decimal f_format_decimal:=okIso (fun _=>rfl) (okPair okBool (okPair (okInt .u64) (okInt .u64)))
noncomputable def f_caromref45_Reader:Fc tb caromref45_Reader:=fIso (fun p=>⟨p.1,p.2.1,p.2.2⟩) (fun x=>(x.B,x.Offset,x.Err)) (fPair (fSl (tb:=tb) .tbyte) (fPair (fInt .i64) (fInt .i64)))
theorem o_caromref45_Reader:FcOk (tb:=tb) a_caromref45_Reader f_caromref45_Reader:=okIso (fun _=>rfl) (okPair (okSl (tb:=tb) .tbyte) (okPair (okInt .i64) (okInt .i64)))
noncomputable def f_snapshot_encoder:Fc tb snapshot_encoder:=fIso (fun p=>⟨p⟩) (fun x=>x.buf) (fSl (tb:=tb) .tbyte)
theorem o_snapshot_encoder:FcOk (tb:=tb) a_snapshot_encoder f_snapshot_encoder:=okIso (fun _=>rfl) (okSl (tb:=tb) .tbyte)
noncomputable def cd:(i:Ix)→Cd tb i
  | .tint=>cd1 (tb:=tb) (i:=Ix.tint) (fInt .i64) (default:Int) true
  | .tVec=>cdA (tb:=tb) (i:=Ix.tVec) f_Vec (default:Vec) true
  | .tTransform=>cdA (tb:=tb) (i:=Ix.tTransform) f_Transform (default:Transform) true
  | .tbool=>cd1 (tb:=tb) (i:=Ix.tbool) fBool (default:Bool) true
  | .tsl_Vec=>cd1 (tb:=tb) (i:=Ix.tsl_Vec) (fSl (tb:=tb) .tVec) (default:(List Vec)) false
  | .tShape=>cdA (tb:=tb) (i:=Ix.tShape) f_Shape (default:Shape) false
  | .tFixture=>cdA (tb:=tb) (i:=Ix.tFixture) f_Fixture (default:Fixture) false
  | .tsl_Fixture=>cd1 (tb:=tb) (i:=Ix.tsl_Fixture) (fSl (tb:=tb) .tFixture) (default:(List Fixture)) false
  | .tBody=>cdA (tb:=tb) (i:=Ix.tBody) f_Body (default:Body) false
  | .tar4_int=>cdA (tb:=tb) (i:=Ix.tar4_int) (fPair (fInt .i64) (fPair (fInt .i64) (fPair (fInt .i64) (fInt .i64)))) (default:(Int × Int × Int × Int)) true
  | .tJoint=>cdA (tb:=tb) (i:=Ix.tJoint) f_Joint (default:Joint) true
  | .tInput=>cdA (tb:=tb) (i:=Ix.tInput) f_Input (default:Input) false
  | .tsl_Input=>cd1 (tb:=tb) (i:=Ix.tsl_Input) (fSl (tb:=tb) .tInput) (default:(List Input)) false
  | .tsl_sl_Input=>cd1 (tb:=tb) (i:=Ix.tsl_sl_Input) (fSl (tb:=tb) .tsl_Input) (default:(List (List Input))) false
  | .tstr=>cd1 (tb:=tb) (i:=Ix.tstr) fStr (default:(List UInt8)) true
  | .tu64=>cd1 (tb:=tb) (i:=Ix.tu64) (fInt .u64) (default:Int) true
  | .tbyte=>cd1 (tb:=tb) (i:=Ix.tbyte) fByte (default:UInt8) true
  | .tsl_str=>cd1 (tb:=tb) (i:=Ix.tsl_str) (fSl (tb:=tb) .tstr) (default:(List (List UInt8))) false
  | .tformat_decimal=>cdA (tb:=tb) (i:=Ix.tformat_decimal) f_format_decimal (default:format_decimal) true
  | .tsl_byte=>cd1 (tb:=tb) (i:=Ix.tsl_byte) (fSl (tb:=tb) .tbyte) (default:(List UInt8)) false
  | .tu32=>cd1 (tb:=tb) (i:=Ix.tu32) (fInt .u32) (default:Int) true
  | .tsl_int=>cd1 (tb:=tb) (i:=Ix.tsl_int) (fSl (tb:=tb) .tint) (default:(List Int)) false
  | .tcaromref45_Reader=>cdA (tb:=tb) (i:=Ix.tcaromref45_Reader) f_caromref45_Reader (default:caromref45_Reader) false
  | .tsnapshot_encoder=>cdA (tb:=tb) (i:=Ix.tsnapshot_encoder) f_snapshot_encoder (default:snapshot_encoder) false
theorem cd_ok:∀ i:Ix,CdOk (cd i)
  | .tint=>ok1 (tb:=tb) (i:=Ix.tint) (a:=(aInt .i64)) (okInt .i64) (fun _=>rfl) rfl rfl (fun _ _=>rfl)
  | .tVec=>okA (tb:=tb) (i:=Ix.tVec) (a:=a_Vec) o_Vec (fun _=>rfl) rfl rfl (fun _ _=>rfl)
  | .tTransform=>okA (tb:=tb) (i:=Ix.tTransform) (a:=a_Transform) o_Transform (fun _=>rfl) rfl rfl (fun _ _=>rfl)
  | .tbool=>ok1 (tb:=tb) (i:=Ix.tbool) (a:=aBool) okBool (fun _=>rfl) rfl rfl (fun _ _=>rfl)
  | .tsl_Vec=>ok1 (tb:=tb) (i:=Ix.tsl_Vec) (a:=(aSl 2 e_Vec)) (okSl (tb:=tb) .tVec) (fun _=>rfl) rfl rfl (fun h=>by cases h)
  | .tShape=>okA (tb:=tb) (i:=Ix.tShape) (a:=a_Shape) o_Shape (fun _=>rfl) rfl rfl (fun h=>by cases h)
  | .tFixture=>okA (tb:=tb) (i:=Ix.tFixture) (a:=a_Fixture) o_Fixture (fun _=>rfl) rfl rfl (fun h=>by cases h)
  | .tsl_Fixture=>ok1 (tb:=tb) (i:=Ix.tsl_Fixture) (a:=(aSl 10 e_Fixture)) (okSl (tb:=tb) .tFixture) (fun _=>rfl) rfl rfl (fun h=>by cases h)
  | .tBody=>okA (tb:=tb) (i:=Ix.tBody) (a:=a_Body) o_Body (fun _=>rfl) rfl rfl (fun h=>by cases h)
  | .tar4_int=>okA (tb:=tb) (i:=Ix.tar4_int) (a:=(aPair (aInt .i64) (aPair (aInt .i64) (aPair (aInt .i64) (aInt .i64))))) (okPair (okInt .i64) (okPair (okInt .i64) (okPair (okInt .i64) (okInt .i64)))) (fun _=>rfl) rfl rfl (fun _ _=>rfl)
  | .tJoint=>okA (tb:=tb) (i:=Ix.tJoint) (a:=a_Joint) o_Joint (fun _=>rfl) rfl rfl (fun _ _=>rfl)
  | .tInput=>okA (tb:=tb) (i:=Ix.tInput) (a:=a_Input) o_Input (fun _=>rfl) rfl rfl (fun h=>by cases h)
  | .tsl_Input=>ok1 (tb:=tb) (i:=Ix.tsl_Input) (a:=(aSl 49 e_Input)) (okSl (tb:=tb) .tInput) (fun _=>rfl) rfl rfl (fun h=>by cases h)
  | .tsl_sl_Input=>ok1 (tb:=tb) (i:=Ix.tsl_sl_Input) (a:=(aSl 1 e_sl_Input)) (okSl (tb:=tb) .tsl_Input) (fun _=>rfl) rfl rfl (fun h=>by cases h)
  | .tstr=>ok1 (tb:=tb) (i:=Ix.tstr) (a:=aStr) okStr (fun _=>rfl) rfl rfl (fun _ _=>rfl)
  | .tu64=>ok1 (tb:=tb) (i:=Ix.tu64) (a:=(aInt .u64)) (okInt .u64) (fun _=>rfl) rfl rfl (fun _ _=>rfl)
  | .tbyte=>ok1 (tb:=tb) (i:=Ix.tbyte) (a:=aByte) okByte (fun _=>rfl) rfl rfl (fun _ _=>rfl)
  | .tsl_str=>ok1 (tb:=tb) (i:=Ix.tsl_str) (a:=(aSl 1 e_str)) (okSl (tb:=tb) .tstr) (fun _=>rfl) rfl rfl (fun h=>by cases h)
  | .tformat_decimal=>okA (tb:=tb) (i:=Ix.tformat_decimal) (a:=a_format_decimal) o_format_decimal (fun _=>rfl) rfl rfl (fun _ _=>rfl)
  | .tsl_byte=>ok1 (tb:=tb) (i:=Ix.tsl_byte) (a:=(aSl 1 e_byte)) (okSl (tb:=tb) .tbyte) (fun _=>rfl) rfl rfl (fun h=>by cases h)
  | .tu32=>ok1 (tb:=tb) (i:=Ix.tu32) (a:=(aInt .u32)) (okInt .u32) (fun _=>rfl) rfl rfl (fun _ _=>rfl)
  | .tsl_int=>ok1 (tb:=tb) (i:=Ix.tsl_int) (a:=(aSl 1 e_int)) (okSl (tb:=tb) .tint) (fun _=>rfl) rfl rfl (fun h=>by cases h)
  | .tcaromref45_Reader=>okA (tb:=tb) (i:=Ix.tcaromref45_Reader) (a:=a_caromref45_Reader) o_caromref45_Reader (fun _=>rfl) rfl rfl (fun h=>by cases h)
  | .tsnapshot_encoder=>okA (tb:=tb) (i:=Ix.tsnapshot_encoder) (a:=a_snapshot_encoder) o_snapshot_encoder (fun _=>rfl) rfl rfl (fun h=>by cases h)
theorem mixed:Tryz.prog.follows .mixedOrders=true:=by kernel_rfl
def Vec_beq (x y:Vec):Bool:=(decide (x.X=y.X)&&decide (x.Y=y.Y))
def Transform_beq (x y:Transform):Bool:=(Vec_beq x.Position y.Position&&decide (x.Angle=y.Angle))
def ar4_int_beq (x y:(Int × Int × Int × Int)):Bool:=(decide (x.1=y.1)&&(decide (x.2.1=y.2.1)&&(decide (x.2.2.1=y.2.2.1)&&decide (x.2.2.2=y.2.2.2))))
def Joint_beq (x y:Joint):Bool:=(decide (x.ID=y.ID)&&(decide (x.Kind=y.Kind)&&(decide (x.BodyA=y.BodyA)&&(decide (x.BodyB=y.BodyB)&&(Vec_beq x.AnchorA y.AnchorA&&(Vec_beq x.AnchorB y.AnchorB&&(Vec_beq x.Axis y.Axis&&(decide (x.ReferenceAngle=y.ReferenceAngle)&&(decide (x.EnableLimit=y.EnableLimit)&&(decide (x.Lower=y.Lower)&&(decide (x.Upper=y.Upper)&&(decide (x.EnableMotor=y.EnableMotor)&&(decide (x.MotorSpeed=y.MotorSpeed)&&(decide (x.MaxForce=y.MaxForce)&&(decide (x.Softness=y.Softness)&&(decide (x.BreakForce=y.BreakForce)&&(decide (x.CollideConnected=y.CollideConnected)&&ar4_int_beq x.Impulses y.Impulses)))))))))))))))))
theorem eqt_65:EqT Tryz.prog 65 e_Vec Vec_beq:=by
  refine ⟨by kernel_rfl,fun x=>[.int .i64 x.X,.int .i64 x.Y],fun x=>rfl,fun w x y=>?_⟩
  rw [run_equalIn_struct w 9999 65 _ _ (by kernel_rfl) (by kernel_rfl)]
  simp [Program.fieldsOf,Op.eqFields,go_sem,if_ok,Vec_beq,Tryz.underlying3,Tryz.underlying65] <;> grind
theorem eqt_68:EqT Tryz.prog 68 e_Transform Transform_beq:=by
  refine ⟨by kernel_rfl,fun x=>[.int .i64 x.Position.X,.int .i64 x.Position.Y,.int .i64 x.Angle],fun x=>rfl,fun w x y=>?_⟩
  rw [run_equalIn_struct w 9999 68 _ _ (by kernel_rfl) (by kernel_rfl)]
  have q0:=fun (d:Nat) (w:Go.World) (xs ys:Array Value)=>run_equalIn_struct (P:=Tryz.prog) w d 65 xs ys (by kernel_rfl) (by kernel_rfl)
  simp [Program.fieldsOf,Op.eqFields,go_sem,if_ok,Transform_beq,Vec_beq,Tryz.underlying3,Tryz.underlying64,Tryz.underlying65,Tryz.underlying68,q0] <;> grind
theorem eqt_75:EqT Tryz.prog 75 e_Joint Joint_beq:=by
  refine ⟨by kernel_rfl,fun x=>[.int .i64 x.ID,.int .i64 x.Kind,.int .i64 x.BodyA,.int .i64 x.BodyB,.int .i64 x.AnchorA.X,.int .i64 x.AnchorA.Y,.int .i64 x.AnchorB.X,.int .i64 x.AnchorB.Y,.int .i64 x.Axis.X,.int .i64 x.Axis.Y,.int .i64 x.ReferenceAngle,.bool x.EnableLimit,.int .i64 x.Lower,.int .i64 x.Upper,.bool x.EnableMotor,.int .i64 x.MotorSpeed,.int .i64 x.MaxForce,.int .i64 x.Softness,.int .i64 x.BreakForce,.bool x.CollideConnected,.int .i64 x.Impulses.1,.int .i64 x.Impulses.2.1,.int .i64 x.Impulses.2.2.1,.int .i64 x.Impulses.2.2.2],fun x=>rfl,fun w x y=>?_⟩
  rw [run_equalIn_struct w 9999 75 _ _ (by kernel_rfl) (by kernel_rfl)]
  have qa0:=run_equalIn_arr4 (P:=Tryz.prog) (t:=73) (E:=3) (k:=.i64) (by kernel_rfl) (by kernel_rfl) (by kernel_rfl) (by kernel_rfl)
  have q0:=fun (d:Nat) (w:Go.World) (xs ys:Array Value)=>run_equalIn_struct (P:=Tryz.prog) w d 65 xs ys (by kernel_rfl) (by kernel_rfl)
  simp [Program.fieldsOf,Op.eqFields,go_sem,if_ok,Joint_beq,Vec_beq,ar4_int_beq,Tryz.underlying3,Tryz.underlying4,Tryz.underlying64,Tryz.underlying65,Tryz.underlying72,Tryz.underlying73,Tryz.underlying75,qa0,q0] <;> grind
noncomputable def eqs:List (EqE Tryz.prog tb):=[⟨65,Ix.tVec,Vec_beq,eqt_65⟩,⟨68,Ix.tTransform,Transform_beq,eqt_68⟩,⟨75,Ix.tJoint,Joint_beq,eqt_75⟩]
noncomputable def hnds:List (Hnd Tryz.prog tb):=[]
noncomputable def cx (Γ:List (Con Tryz.prog tb cd)) (J:List (Inl Tryz.prog tb)):Ctx Tryz.prog tb:=⟨cd,cd_ok,Γ,J,eqs,mixed,rfl,hnds⟩
end GoForm
