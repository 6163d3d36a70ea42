/- The types that occur, as plain data. Printed by gen3.py. No conditions. -/
import Derived.Test.YtelkhkmeoahhlaaGreatDoorQE
import Derived.Test.YtelkhkmeoahhlaaGreatDoorQE
import Derived.Test.YtelkhkmeoahhlaaGreatDoorF52N
import Derived.Test.YtelkhkmeoahhlaaGreatDoorProg
set_option linter.all false
set_option maxRecDepth 100000
open Go Go.Rx Go.Proofs Go.RowKit
namespace GoForm
structure Vec where
 X:Int
 Y:Int
 deriving DecidableEq,Inhabited
structure Transform where
 Position:Vec
 Angle:Int
 deriving DecidableEq,Inhabited
structure Shape where
 Kind:Int
 Radius:Int
 Vertices:(List Vec)
 deriving DecidableEq,Inhabited
structure Fixture where
 Shape:Shape
 Density:Int
 Friction:Int
 Restitution:Int
 Sensor:Bool
 Category:Int
 Mask:Int
 Group:Int
 deriving DecidableEq,Inhabited
structure Body where
 ID:Int
 Kind:Int
 Transform:Transform
 Velocity:Vec
 AngularVelocity:Int
 Force:Vec
 Torque:Int
 LinearDamping:Int
 AngularDamping:Int
 GravityScale:Int
 Bullet:Bool
 FixedRotation:Bool
 NoSleep:Bool
 Asleep:Bool
 IdleSteps:Int
 Fixtures:(List Fixture)
 deriving DecidableEq,Inhabited
structure Settings where
 TimeStep:Int
 Gravity:Vec
 Iterations:Int
 SleepSteps:Int
 deriving DecidableEq,Inhabited
structure Joint where
 ID:Int
 Kind:Int
 BodyA:Int
 BodyB:Int
 AnchorA:Vec
 AnchorB:Vec
 Axis:Vec
 ReferenceAngle:Int
 EnableLimit:Bool
 Lower:Int
 Upper:Int
 EnableMotor:Bool
 MotorSpeed:Int
 MaxForce:Int
 Softness:Int
 BreakForce:Int
 CollideConnected:Bool
 Impulses:(Int × Int × Int × Int)
 deriving DecidableEq,Inhabited
structure PairKey where
 BodyA:Int
 FixtureA:Int
 BodyB:Int
 FixtureB:Int
 deriving DecidableEq,Inhabited
structure ContactPoint where
 Point:Vec
 Separation:Int
 ID:Int
 NormalImpulse:Int
 TangentImpulse:Int
 deriving DecidableEq,Inhabited
structure Manifold where
 Normal:Vec
 Points:(List ContactPoint)
 deriving DecidableEq,Inhabited
structure Contact where
 Key:PairKey
 Manifold:Manifold
 deriving DecidableEq,Inhabited
structure World_ where
 Settings:Settings
 Bodies:(List Body)
 Joints:(List Joint)
 Contacts:(List Contact)
 Overlaps:(List PairKey)
 NextID:Int
 Frame:Int
 deriving DecidableEq,Inhabited
structure polygon_triangle where
 e:Vec
 f:Vec
 cross:Int
 deriving DecidableEq,Inhabited
structure format_decimal where
 negative:Bool
 magnitude:Int
 unit:Int
 deriving DecidableEq,Inhabited
structure scene_parser where
 w:World_
 section_:Int
 deriving DecidableEq,Inhabited
inductive Ix | tint | tVec | tTransform | tbool | tsl_Vec | tShape | tFixture | tsl_Fixture | tBody | tsl_Body | tSettings | tar4_int | tJoint | tsl_Joint | tPairKey | tContactPoint | tsl_ContactPoint | tManifold | tContact | tsl_Contact | tsl_PairKey | tWorld_ | tpolygon_triangle | tsl_polygon_triangle | tsl_int | tsl_sl_PairKey | tstr | tu64 | tbyte | tsl_str | tformat_decimal | tscene_parser
 deriving DecidableEq
def e_int:Int->AV:=((aInt .i64)).el1
def a_Vec:Ac Vec:=aIso (fun x=>(x.X,x.Y)) (aPair (aInt .i64) (aInt .i64))
def e_Vec:Vec->AV:=(a_Vec).elA
def a_Transform:Ac Transform:=aIso (fun x=>(x.Position,x.Angle)) (aPair a_Vec (aInt .i64))
def e_Transform:Transform->AV:=(a_Transform).elA
def e_bool:Bool->AV:=(aBool).el1
def e_sl_Vec:(List Vec)->AV:=((aSl 2 e_Vec)).el1
def a_Shape:Ac Shape:=aIso (fun x=>(x.Kind,x.Radius,x.Vertices)) (aPair (aInt .i64) (aPair (aInt .i64) (aSl 2 e_Vec)))
def e_Shape:Shape->AV:=(a_Shape).elA
def a_Fixture:Ac Fixture:=aIso (fun x=>(x.Shape,x.Density,x.Friction,x.Restitution,x.Sensor,x.Category,x.Mask,x.Group)) (aPair a_Shape (aPair (aInt .i64) (aPair (aInt .i64) (aPair (aInt .i64) (aPair aBool (aPair (aInt .i64) (aPair (aInt .i64) (aInt .i64))))))))
def e_Fixture:Fixture->AV:=(a_Fixture).elA
def e_sl_Fixture:(List Fixture)->AV:=((aSl 10 e_Fixture)).el1
def a_Body:Ac Body:=aIso (fun x=>(x.ID,x.Kind,x.Transform,x.Velocity,x.AngularVelocity,x.Force,x.Torque,x.LinearDamping,x.AngularDamping,x.GravityScale,x.Bullet,x.FixedRotation,x.NoSleep,x.Asleep,x.IdleSteps,x.Fixtures)) (aPair (aInt .i64) (aPair (aInt .i64) (aPair a_Transform (aPair a_Vec (aPair (aInt .i64) (aPair a_Vec (aPair (aInt .i64) (aPair (aInt .i64) (aPair (aInt .i64) (aPair (aInt .i64) (aPair aBool (aPair aBool (aPair aBool (aPair aBool (aPair (aInt .i64) (aSl 10 e_Fixture))))))))))))))))
def e_Body:Body->AV:=(a_Body).elA
def e_sl_Body:(List Body)->AV:=((aSl 20 e_Body)).el1
def a_Settings:Ac Settings:=aIso (fun x=>(x.TimeStep,x.Gravity,x.Iterations,x.SleepSteps)) (aPair (aInt .i64) (aPair a_Vec (aPair (aInt .i64) (aInt .i64))))
def e_Settings:Settings->AV:=(a_Settings).elA
def e_ar4_int:(Int × Int × Int × Int)->AV:=((aPair (aInt .i64) (aPair (aInt .i64) (aPair (aInt .i64) (aInt .i64))))).elA
def a_Joint:Ac Joint:=aIso (fun x=>(x.ID,x.Kind,x.BodyA,x.BodyB,x.AnchorA,x.AnchorB,x.Axis,x.ReferenceAngle,x.EnableLimit,x.Lower,x.Upper,x.EnableMotor,x.MotorSpeed,x.MaxForce,x.Softness,x.BreakForce,x.CollideConnected,x.Impulses)) (aPair (aInt .i64) (aPair (aInt .i64) (aPair (aInt .i64) (aPair (aInt .i64) (aPair a_Vec (aPair a_Vec (aPair a_Vec (aPair (aInt .i64) (aPair aBool (aPair (aInt .i64) (aPair (aInt .i64) (aPair aBool (aPair (aInt .i64) (aPair (aInt .i64) (aPair (aInt .i64) (aPair (aInt .i64) (aPair aBool (aPair (aInt .i64) (aPair (aInt .i64) (aPair (aInt .i64) (aInt .i64)))))))))))))))))))))
def e_Joint:Joint->AV:=(a_Joint).elA
def e_sl_Joint:(List Joint)->AV:=((aSl 24 e_Joint)).el1
def a_PairKey:Ac PairKey:=aIso (fun x=>(x.BodyA,x.FixtureA,x.BodyB,x.FixtureB)) (aPair (aInt .i64) (aPair (aInt .i64) (aPair (aInt .i64) (aInt .i64))))
def e_PairKey:PairKey->AV:=(a_PairKey).elA
def a_ContactPoint:Ac ContactPoint:=aIso (fun x=>(x.Point,x.Separation,x.ID,x.NormalImpulse,x.TangentImpulse)) (aPair a_Vec (aPair (aInt .i64) (aPair (aInt .i64) (aPair (aInt .i64) (aInt .i64)))))
def e_ContactPoint:ContactPoint->AV:=(a_ContactPoint).elA
def e_sl_ContactPoint:(List ContactPoint)->AV:=((aSl 6 e_ContactPoint)).el1
def a_Manifold:Ac Manifold:=aIso (fun x=>(x.Normal,x.Points)) (aPair a_Vec (aSl 6 e_ContactPoint))
def e_Manifold:Manifold->AV:=(a_Manifold).elA
def a_Contact:Ac Contact:=aIso (fun x=>(x.Key,x.Manifold)) (aPair a_PairKey a_Manifold)
def e_Contact:Contact->AV:=(a_Contact).elA
def e_sl_Contact:(List Contact)->AV:=((aSl 7 e_Contact)).el1
def e_sl_PairKey:(List PairKey)->AV:=((aSl 4 e_PairKey)).el1
def a_World_:Ac World_:=aIso (fun x=>(x.Settings,x.Bodies,x.Joints,x.Contacts,x.Overlaps,x.NextID,x.Frame)) (aPair a_Settings (aPair (aSl 20 e_Body) (aPair (aSl 24 e_Joint) (aPair (aSl 7 e_Contact) (aPair (aSl 4 e_PairKey) (aPair (aInt .i64) (aInt .i64)))))))
def e_World_:World_->AV:=(a_World_).elA
def a_polygon_triangle:Ac polygon_triangle:=aIso (fun x=>(x.e,x.f,x.cross)) (aPair a_Vec (aPair a_Vec (aInt .i64)))
def e_polygon_triangle:polygon_triangle->AV:=(a_polygon_triangle).elA
def e_sl_polygon_triangle:(List polygon_triangle)->AV:=((aSl 5 e_polygon_triangle)).el1
def e_sl_int:(List Int)->AV:=((aSl 1 e_int)).el1
def e_sl_sl_PairKey:(List (List PairKey))->AV:=((aSl 1 e_sl_PairKey)).el1
def e_str:(List UInt8)->AV:=(aStr).el1
def e_u64:Int->AV:=((aInt .u64)).el1
def e_byte:UInt8->AV:=(aByte).el1
def e_sl_str:(List (List UInt8))->AV:=((aSl 1 e_str)).el1
def a_format_decimal:Ac format_decimal:=aIso (fun x=>(x.negative,x.magnitude,x.unit)) (aPair aBool (aPair (aInt .u64) (aInt .u64)))
def e_format_decimal:format_decimal->AV:=(a_format_decimal).elA
def a_scene_parser:Ac scene_parser:=aIso (fun x=>(x.w,x.section_)) (aPair a_World_ (aInt .i64))
def e_scene_parser:scene_parser->AV:=(a_scene_parser).elA
noncomputable def tb:Tb where
 P:=Tryz.prog
 Ix:=Ix
 dec:=inferInstance
 T:=fun | .tint=>Int | .tVec=>Vec | .tTransform=>Transform | .tbool=>Bool | .tsl_Vec=>(List Vec) | .tShape=>Shape | .tFixture=>Fixture | .tsl_Fixture=>(List Fixture) | .tBody=>Body | .tsl_Body=>(List Body) | .tSettings=>Settings | .tar4_int=>(Int × Int × Int × Int) | .tJoint=>Joint | .tsl_Joint=>(List Joint) | .tPairKey=>PairKey | .tContactPoint=>ContactPoint | .tsl_ContactPoint=>(List ContactPoint) | .tManifold=>Manifold | .tContact=>Contact | .tsl_Contact=>(List Contact) | .tsl_PairKey=>(List PairKey) | .tWorld_=>World_ | .tpolygon_triangle=>polygon_triangle | .tsl_polygon_triangle=>(List polygon_triangle) | .tsl_int=>(List Int) | .tsl_sl_PairKey=>(List (List PairKey)) | .tstr=>(List UInt8) | .tu64=>Int | .tbyte=>UInt8 | .tsl_str=>(List (List UInt8)) | .tformat_decimal=>format_decimal | .tscene_parser=>scene_parser
 sz:=fun | .tint=>1 | .tVec=>2 | .tTransform=>3 | .tbool=>1 | .tsl_Vec=>1 | .tShape=>3 | .tFixture=>10 | .tsl_Fixture=>1 | .tBody=>20 | .tsl_Body=>1 | .tSettings=>5 | .tar4_int=>4 | .tJoint=>24 | .tsl_Joint=>1 | .tPairKey=>4 | .tContactPoint=>6 | .tsl_ContactPoint=>1 | .tManifold=>3 | .tContact=>7 | .tsl_Contact=>1 | .tsl_PairKey=>1 | .tWorld_=>11 | .tpolygon_triangle=>5 | .tsl_polygon_triangle=>1 | .tsl_int=>1 | .tsl_sl_PairKey=>1 | .tstr=>1 | .tu64=>1 | .tbyte=>1 | .tsl_str=>1 | .tformat_decimal=>3 | .tscene_parser=>12
 el:=fun | .tint=>e_int | .tVec=>e_Vec | .tTransform=>e_Transform | .tbool=>e_bool | .tsl_Vec=>e_sl_Vec | .tShape=>e_Shape | .tFixture=>e_Fixture | .tsl_Fixture=>e_sl_Fixture | .tBody=>e_Body | .tsl_Body=>e_sl_Body | .tSettings=>e_Settings | .tar4_int=>e_ar4_int | .tJoint=>e_Joint | .tsl_Joint=>e_sl_Joint | .tPairKey=>e_PairKey | .tContactPoint=>e_ContactPoint | .tsl_ContactPoint=>e_sl_ContactPoint | .tManifold=>e_Manifold | .tContact=>e_Contact | .tsl_Contact=>e_sl_Contact | .tsl_PairKey=>e_sl_PairKey | .tWorld_=>e_World_ | .tpolygon_triangle=>e_polygon_triangle | .tsl_polygon_triangle=>e_sl_polygon_triangle | .tsl_int=>e_sl_int | .tsl_sl_PairKey=>e_sl_sl_PairKey | .tstr=>e_str | .tu64=>e_u64 | .tbyte=>e_byte | .tsl_str=>e_sl_str | .tformat_decimal=>e_format_decimal | .tscene_parser=>e_scene_parser
 look n:=find n [(3,Ix.tint),(34,Ix.tint),(51,Ix.tint),(62,Ix.tint),(72,Ix.tint),(23,Ix.tVec),(53,Ix.tTransform),(4,Ix.tbool),(63,Ix.tsl_Vec),(65,Ix.tShape),(67,Ix.tFixture),(54,Ix.tsl_Fixture),(56,Ix.tBody),(26,Ix.tsl_Body),(25,Ix.tSettings),(73,Ix.tar4_int),(75,Ix.tJoint),(27,Ix.tsl_Joint),(86,Ix.tPairKey),(131,Ix.tContactPoint),(82,Ix.tsl_ContactPoint),(84,Ix.tManifold),(88,Ix.tContact),(28,Ix.tsl_Contact),(29,Ix.tsl_PairKey),(31,Ix.tWorld_),(258,Ix.tpolygon_triangle),(252,Ix.tsl_polygon_triangle),(41,Ix.tsl_int),(181,Ix.tsl_sl_PairKey),(9,Ix.tstr),(161,Ix.tu64),(5,Ix.tbyte),(50,Ix.tsl_str),(207,Ix.tformat_decimal),(147,Ix.tscene_parser)]
 byte:=some ⟨.tbyte,rfl,rfl,fun _=>rfl⟩
noncomputable def f_Vec:Fc tb Vec:=fIso (fun p=>⟨p.1,p.2⟩) (fun x=>(x.X,x.Y)) (fPair (fInt .i64) (fInt .i64))
theorem o_Vec:FcOk (tb:=tb) a_Vec f_Vec:=okIso (fun _=>rfl) (okPair (okInt .i64) (okInt .i64))
noncomputable def f_Transform:Fc tb Transform:=fIso (fun p=>⟨p.1,p.2⟩) (fun x=>(x.Position,x.Angle)) (fPair f_Vec (fInt .i64))
theorem o_Transform:FcOk (tb:=tb) a_Transform f_Transform:=okIso (fun _=>rfl) (okPair o_Vec (okInt .i64))
noncomputable def f_Shape:Fc tb Shape:=fIso (fun p=>⟨p.1,p.2.1,p.2.2⟩) (fun x=>(x.Kind,x.Radius,x.Vertices)) (fPair (fInt .i64) (fPair (fInt .i64) (fSl (tb:=tb) .tVec)))
theorem o_Shape:FcOk (tb:=tb) a_Shape f_Shape:=okIso (fun _=>rfl) (okPair (okInt .i64) (okPair (okInt .i64) (okSl (tb:=tb) .tVec)))
noncomputable def f_Fixture:Fc tb Fixture:=fIso (fun p=>⟨p.1,p.2.1,p.2.2.1,p.2.2.2.1,p.2.2.2.2.1,p.2.2.2.2.2.1,p.2.2.2.2.2.2.1,p.2.2.2.2.2.2.2⟩) (fun x=>(x.Shape,x.Density,x.Friction,x.Restitution,x.Sensor,x.Category,x.Mask,x.Group)) (fPair f_Shape (fPair (fInt .i64) (fPair (fInt .i64) (fPair (fInt .i64) (fPair fBool (fPair (fInt .i64) (fPair (fInt .i64) (fInt .i64))))))))
theorem o_Fixture:FcOk (tb:=tb) a_Fixture f_Fixture:=okIso (fun _=>rfl) (okPair o_Shape (okPair (okInt .i64) (okPair (okInt .i64) (okPair (okInt .i64) (okPair okBool (okPair (okInt .i64) (okPair (okInt .i64) (okInt .i64))))))))
noncomputable def f_Body:Fc tb Body:=fIso (fun p=>⟨p.1,p.2.1,p.2.2.1,p.2.2.2.1,p.2.2.2.2.1,p.2.2.2.2.2.1,p.2.2.2.2.2.2.1,p.2.2.2.2.2.2.2.1,p.2.2.2.2.2.2.2.2.1,p.2.2.2.2.2.2.2.2.2.1,p.2.2.2.2.2.2.2.2.2.2.1,p.2.2.2.2.2.2.2.2.2.2.2.1,p.2.2.2.2.2.2.2.2.2.2.2.2.1,p.2.2.2.2.2.2.2.2.2.2.2.2.2.1,p.2.2.2.2.2.2.2.2.2.2.2.2.2.2.1,p.2.2.2.2.2.2.2.2.2.2.2.2.2.2.2⟩) (fun x=>(x.ID,x.Kind,x.Transform,x.Velocity,x.AngularVelocity,x.Force,x.Torque,x.LinearDamping,x.AngularDamping,x.GravityScale,x.Bullet,x.FixedRotation,x.NoSleep,x.Asleep,x.IdleSteps,x.Fixtures)) (fPair (fInt .i64) (fPair (fInt .i64) (fPair f_Transform (fPair f_Vec (fPair (fInt .i64) (fPair f_Vec (fPair (fInt .i64) (fPair (fInt .i64) (fPair (fInt .i64) (fPair (fInt .i64) (fPair fBool (fPair fBool (fPair fBool (fPair fBool (fPair (fInt .i64) (fSl (tb:=tb) .tFixture))))))))))))))))
theorem o_Body:FcOk (tb:=tb) a_Body f_Body:=okIso (fun _=>rfl) (okPair (okInt .i64) (okPair (okInt .i64) (okPair o_Transform (okPair o_Vec (okPair (okInt .i64) (okPair o_Vec (okPair (okInt .i64) (okPair (okInt .i64) (okPair (okInt .i64) (okPair (okInt .i64) (okPair okBool (okPair okBool (okPair okBool (okPair okBool (okPair (okInt .i64) (okSl (tb:=tb) .tFixture))))))))))))))))
noncomputable def f_Settings:Fc tb Settings:=fIso (fun p=>⟨p.1,p.2.1,p.2.2.1,p.2.2.2⟩) (fun x=>(x.TimeStep,x.Gravity,x.Iterations,x.SleepSteps)) (fPair (fInt .i64) (fPair f_Vec (fPair (fInt .i64) (fInt .i64))))
theorem o_Settings:FcOk (tb:=tb) a_Settings f_Settings:=okIso (fun _=>rfl) (okPair (okInt .i64) (okPair o_Vec (okPair (okInt .i64) (okInt .i64))))
noncomputable def f_Joint:Fc tb Joint:=fIso (fun p=>⟨p.1,p.2.1,p.2.2.1,p.2.2.2.1,p.2.2.2.2.1,p.2.2.2.2.2.1,p.2.2.2.2.2.2.1,p.2.2.2.2.2.2.2.1,p.2.2.2.2.2.2.2.2.1,p.2.2.2.2.2.2.2.2.2.1,p.2.2.2.2.2.2.2.2.2.2.1,p.2.2.2.2.2.2.2.2.2.2.2.1,p.2.2.2.2.2.2.2.2.2.2.2.2.1,p.2.2.2.2.2.2.2.2.2.2.2.2.2.1,p.2.2.2.2.2.2.2.2.2.2.2.2.2.2.1,p.2.2.2.2.2.2.2.2.2.2.2.2.2.2.2.1,p.2.2.2.2.2.2.2.2.2.2.2.2.2.2.2.2.1,p.2.2.2.2.2.2.2.2.2.2.2.2.2.2.2.2.2⟩) (fun x=>(x.ID,x.Kind,x.BodyA,x.BodyB,x.AnchorA,x.AnchorB,x.Axis,x.ReferenceAngle,x.EnableLimit,x.Lower,x.Upper,x.EnableMotor,x.MotorSpeed,x.MaxForce,x.Softness,x.BreakForce,x.CollideConnected,x.Impulses)) (fPair (fInt .i64) (fPair (fInt .i64) (fPair (fInt .i64) (fPair (fInt .i64) (fPair f_Vec (fPair f_Vec (fPair f_Vec (fPair (fInt .i64) (fPair fBool (fPair (fInt .i64) (fPair (fInt .i64) (fPair fBool (fPair (fInt .i64) (fPair (fInt .i64) (fPair (fInt .i64) (fPair (fInt .i64) (fPair fBool (fPair (fInt .i64) (fPair (fInt .i64) (fPair (fInt .i64) (fInt .i64)))))))))))))))))))))
theorem o_Joint:FcOk (tb:=tb) a_Joint f_Joint:=okIso (fun _=>rfl) (okPair (okInt .i64) (okPair (okInt .i64) (okPair (okInt .i64) (okPair (okInt .i64) (okPair o_Vec (okPair o_Vec (okPair o_Vec (okPair (okInt .i64) (okPair okBool (okPair (okInt .i64) (okPair (okInt .i64) (okPair okBool (okPair (okInt .i64) (okPair (okInt .i64) (okPair (okInt .i64) (okPair (okInt .i64) (okPair okBool (okPair (okInt .i64) (okPair (okInt .i64) (okPair (okInt .i64) (okInt .i64)))))))))))))))))))))
noncomputable def f_PairKey:Fc tb PairKey:=fIso (fun p=>⟨p.1,p.2.1,p.2.2.1,p.2.2.2⟩) (fun x=>(x.BodyA,x.FixtureA,x.BodyB,x.FixtureB)) (fPair (fInt .i64) (fPair (fInt .i64) (fPair (fInt .i64) (fInt .i64))))
theorem o_PairKey:FcOk (tb:=tb) a_PairKey f_PairKey:=okIso (fun _=>rfl) (okPair (okInt .i64) (okPair (okInt .i64) (okPair (okInt .i64) (okInt .i64))))
noncomputable def f_ContactPoint:Fc tb ContactPoint:=fIso (fun p=>⟨p.1,p.2.1,p.2.2.1,p.2.2.2.1,p.2.2.2.2⟩) (fun x=>(x.Point,x.Separation,x.ID,x.NormalImpulse,x.TangentImpulse)) (fPair f_Vec (fPair (fInt .i64) (fPair (fInt .i64) (fPair (fInt .i64) (fInt .i64)))))
theorem o_ContactPoint:FcOk (tb:=tb) a_ContactPoint f_ContactPoint:=okIso (fun _=>rfl) (okPair o_Vec (okPair (okInt .i64) (okPair (okInt .i64) (okPair (okInt .i64) (okInt .i64)))))
noncomputable def f_Manifold:Fc tb Manifold:=fIso (fun p=>⟨p.1,p.2⟩) (fun x=>(x.Normal,x.Points)) (fPair f_Vec (fSl (tb:=tb) .tContactPoint))
theorem o_Manifold:FcOk (tb:=tb) a_Manifold f_Manifold:=okIso (fun _=>rfl) (okPair o_Vec (okSl (tb:=tb) .tContactPoint))
noncomputable def f_Contact:Fc tb Contact:=fIso (fun p=>⟨p.1,p.2⟩) (fun x=>(x.Key,x.Manifold)) (fPair f_PairKey f_Manifold)
theorem o_Contact:FcOk (tb:=tb) a_Contact f_Contact:=okIso (fun _=>rfl) (okPair o_PairKey o_Manifold)
noncomputable def f_World_:Fc tb World_:=fIso (fun p=>⟨p.1,p.2.1,p.2.2.1,p.2.2.2.1,p.2.2.2.2.1,p.2.2.2.2.2.1,p.2.2.2.2.2.2⟩) (fun x=>(x.Settings,x.Bodies,x.Joints,x.Contacts,x.Overlaps,x.NextID,x.Frame)) (fPair f_Settings (fPair (fSl (tb:=tb) .tBody) (fPair (fSl (tb:=tb) .tJoint) (fPair (fSl (tb:=tb) .tContact) (fPair (fSl (tb:=tb) .tPairKey) (fPair (fInt .i64) (fInt .i64)))))))
theorem o_World_:FcOk (tb:=tb) a_World_ f_World_:=okIso (fun _=>rfl) (okPair o_Settings (okPair (okSl (tb:=tb) .tBody) (okPair (okSl (tb:=tb) .tJoint) (okPair (okSl (tb:=tb) .tContact) (okPair (okSl (tb:=tb) .tPairKey) (okPair (okInt .i64) (okInt .i64)))))))
noncomputable def f_polygon_triangle:Fc tb polygon_triangle:=fIso (fun p=>⟨p.1,p.2.1,p.2.2⟩) (fun x=>(x.e,x.f,x.cross)) (fPair f_Vec (fPair f_Vec (fInt .i64)))
theorem o_polygon_triangle:FcOk (tb:=tb) a_polygon_triangle f_polygon_triangle:=okIso (fun _=>rfl) (okPair o_Vec (okPair o_Vec (okInt .i64)))
noncomputable def f_format_decimal:Fc tb format_decimal:=fIso (fun p=>⟨p.1,p.2.1,p.2.2⟩) (fun x=>(x.negative,x.magnitude,x.unit)) (fPair fBool (fPair (fInt .u64) (fInt .u64)))
theorem o_format_decimal:FcOk (tb:=tb) a_format_decimal f_format_decimal:=okIso (fun _=>rfl) (okPair okBool (okPair (okInt .u64) (okInt .u64)))
noncomputable def f_scene_parser:Fc tb scene_parser:=fIso (fun p=>⟨p.1,p.2⟩) (fun x=>(x.w,x.section_)) (fPair f_World_ (fInt .i64))
theorem o_scene_parser:FcOk (tb:=tb) a_scene_parser f_scene_parser:=okIso (fun _=>rfl) (okPair o_World_ (okInt .i64))
noncomputable def cd:(i:Ix)->Cd tb i
 | .tint=>cd1 (tb:=tb) (i:=Ix.tint) (fInt .i64) (default:Int) true
 | .tVec=>cdA (tb:=tb) (i:=Ix.tVec) f_Vec (default:Vec) true
 | .tTransform=>cdA (tb:=tb) (i:=Ix.tTransform) f_Transform (default:Transform) true
 | .tbool=>cd1 (tb:=tb) (i:=Ix.tbool) fBool (default:Bool) true
 | .tsl_Vec=>cd1 (tb:=tb) (i:=Ix.tsl_Vec) (fSl (tb:=tb) .tVec) (default:(List Vec)) false
 | .tShape=>cdA (tb:=tb) (i:=Ix.tShape) f_Shape (default:Shape) false
 | .tFixture=>cdA (tb:=tb) (i:=Ix.tFixture) f_Fixture (default:Fixture) false
 | .tsl_Fixture=>cd1 (tb:=tb) (i:=Ix.tsl_Fixture) (fSl (tb:=tb) .tFixture) (default:(List Fixture)) false
 | .tBody=>cdA (tb:=tb) (i:=Ix.tBody) f_Body (default:Body) false
 | .tsl_Body=>cd1 (tb:=tb) (i:=Ix.tsl_Body) (fSl (tb:=tb) .tBody) (default:(List Body)) false
 | .tSettings=>cdA (tb:=tb) (i:=Ix.tSettings) f_Settings (default:Settings) true
 | .tar4_int=>cdA (tb:=tb) (i:=Ix.tar4_int) (fPair (fInt .i64) (fPair (fInt .i64) (fPair (fInt .i64) (fInt .i64)))) (default:(Int × Int × Int × Int)) true
 | .tJoint=>cdA (tb:=tb) (i:=Ix.tJoint) f_Joint (default:Joint) true
 | .tsl_Joint=>cd1 (tb:=tb) (i:=Ix.tsl_Joint) (fSl (tb:=tb) .tJoint) (default:(List Joint)) false
 | .tPairKey=>cdA (tb:=tb) (i:=Ix.tPairKey) f_PairKey (default:PairKey) true
 | .tContactPoint=>cdA (tb:=tb) (i:=Ix.tContactPoint) f_ContactPoint (default:ContactPoint) true
 | .tsl_ContactPoint=>cd1 (tb:=tb) (i:=Ix.tsl_ContactPoint) (fSl (tb:=tb) .tContactPoint) (default:(List ContactPoint)) false
 | .tManifold=>cdA (tb:=tb) (i:=Ix.tManifold) f_Manifold (default:Manifold) false
 | .tContact=>cdA (tb:=tb) (i:=Ix.tContact) f_Contact (default:Contact) false
 | .tsl_Contact=>cd1 (tb:=tb) (i:=Ix.tsl_Contact) (fSl (tb:=tb) .tContact) (default:(List Contact)) false
 | .tsl_PairKey=>cd1 (tb:=tb) (i:=Ix.tsl_PairKey) (fSl (tb:=tb) .tPairKey) (default:(List PairKey)) false
 | .tWorld_=>cdA (tb:=tb) (i:=Ix.tWorld_) f_World_ (default:World_) false
 | .tpolygon_triangle=>cdA (tb:=tb) (i:=Ix.tpolygon_triangle) f_polygon_triangle (default:polygon_triangle) true
 | .tsl_polygon_triangle=>cd1 (tb:=tb) (i:=Ix.tsl_polygon_triangle) (fSl (tb:=tb) .tpolygon_triangle) (default:(List polygon_triangle)) false
 | .tsl_int=>cd1 (tb:=tb) (i:=Ix.tsl_int) (fSl (tb:=tb) .tint) (default:(List Int)) false
 | .tsl_sl_PairKey=>cd1 (tb:=tb) (i:=Ix.tsl_sl_PairKey) (fSl (tb:=tb) .tsl_PairKey) (default:(List (List PairKey))) false
 | .tstr=>cd1 (tb:=tb) (i:=Ix.tstr) fStr (default:(List UInt8)) true
 | .tu64=>cd1 (tb:=tb) (i:=Ix.tu64) (fInt .u64) (default:Int) true
 | .tbyte=>cd1 (tb:=tb) (i:=Ix.tbyte) fByte (default:UInt8) true
 | .tsl_str=>cd1 (tb:=tb) (i:=Ix.tsl_str) (fSl (tb:=tb) .tstr) (default:(List (List UInt8))) false
 | .tformat_decimal=>cdA (tb:=tb) (i:=Ix.tformat_decimal) f_format_decimal (default:format_decimal) true
 | .tscene_parser=>cdA (tb:=tb) (i:=Ix.tscene_parser) f_scene_parser (default:scene_parser) false
theorem cd_ok:∀ i:Ix,CdOk (cd i)
 | .tint=>ok1 (tb:=tb) (i:=Ix.tint) (a:=(aInt .i64)) (okInt .i64) (fun _=>rfl) rfl rfl (fun _ _=>rfl)
 | .tVec=>okA (tb:=tb) (i:=Ix.tVec) (a:=a_Vec) o_Vec (fun _=>rfl) rfl rfl (fun _ _=>rfl)
 | .tTransform=>okA (tb:=tb) (i:=Ix.tTransform) (a:=a_Transform) o_Transform (fun _=>rfl) rfl rfl (fun _ _=>rfl)
 | .tbool=>ok1 (tb:=tb) (i:=Ix.tbool) (a:=aBool) okBool (fun _=>rfl) rfl rfl (fun _ _=>rfl)
 | .tsl_Vec=>ok1 (tb:=tb) (i:=Ix.tsl_Vec) (a:=(aSl 2 e_Vec)) (okSl (tb:=tb) .tVec) (fun _=>rfl) rfl rfl (fun h=>by cases h)
 | .tShape=>okA (tb:=tb) (i:=Ix.tShape) (a:=a_Shape) o_Shape (fun _=>rfl) rfl rfl (fun h=>by cases h)
 | .tFixture=>okA (tb:=tb) (i:=Ix.tFixture) (a:=a_Fixture) o_Fixture (fun _=>rfl) rfl rfl (fun h=>by cases h)
 | .tsl_Fixture=>ok1 (tb:=tb) (i:=Ix.tsl_Fixture) (a:=(aSl 10 e_Fixture)) (okSl (tb:=tb) .tFixture) (fun _=>rfl) rfl rfl (fun h=>by cases h)
 | .tBody=>okA (tb:=tb) (i:=Ix.tBody) (a:=a_Body) o_Body (fun _=>rfl) rfl rfl (fun h=>by cases h)
 | .tsl_Body=>ok1 (tb:=tb) (i:=Ix.tsl_Body) (a:=(aSl 20 e_Body)) (okSl (tb:=tb) .tBody) (fun _=>rfl) rfl rfl (fun h=>by cases h)
 | .tSettings=>okA (tb:=tb) (i:=Ix.tSettings) (a:=a_Settings) o_Settings (fun _=>rfl) rfl rfl (fun _ _=>rfl)
 | .tar4_int=>okA (tb:=tb) (i:=Ix.tar4_int) (a:=(aPair (aInt .i64) (aPair (aInt .i64) (aPair (aInt .i64) (aInt .i64))))) (okPair (okInt .i64) (okPair (okInt .i64) (okPair (okInt .i64) (okInt .i64)))) (fun _=>rfl) rfl rfl (fun _ _=>rfl)
 | .tJoint=>okA (tb:=tb) (i:=Ix.tJoint) (a:=a_Joint) o_Joint (fun _=>rfl) rfl rfl (fun _ _=>rfl)
 | .tsl_Joint=>ok1 (tb:=tb) (i:=Ix.tsl_Joint) (a:=(aSl 24 e_Joint)) (okSl (tb:=tb) .tJoint) (fun _=>rfl) rfl rfl (fun h=>by cases h)
 | .tPairKey=>okA (tb:=tb) (i:=Ix.tPairKey) (a:=a_PairKey) o_PairKey (fun _=>rfl) rfl rfl (fun _ _=>rfl)
 | .tContactPoint=>okA (tb:=tb) (i:=Ix.tContactPoint) (a:=a_ContactPoint) o_ContactPoint (fun _=>rfl) rfl rfl (fun _ _=>rfl)
 | .tsl_ContactPoint=>ok1 (tb:=tb) (i:=Ix.tsl_ContactPoint) (a:=(aSl 6 e_ContactPoint)) (okSl (tb:=tb) .tContactPoint) (fun _=>rfl) rfl rfl (fun h=>by cases h)
 | .tManifold=>okA (tb:=tb) (i:=Ix.tManifold) (a:=a_Manifold) o_Manifold (fun _=>rfl) rfl rfl (fun h=>by cases h)
 | .tContact=>okA (tb:=tb) (i:=Ix.tContact) (a:=a_Contact) o_Contact (fun _=>rfl) rfl rfl (fun h=>by cases h)
 | .tsl_Contact=>ok1 (tb:=tb) (i:=Ix.tsl_Contact) (a:=(aSl 7 e_Contact)) (okSl (tb:=tb) .tContact) (fun _=>rfl) rfl rfl (fun h=>by cases h)
 | .tsl_PairKey=>ok1 (tb:=tb) (i:=Ix.tsl_PairKey) (a:=(aSl 4 e_PairKey)) (okSl (tb:=tb) .tPairKey) (fun _=>rfl) rfl rfl (fun h=>by cases h)
 | .tWorld_=>okA (tb:=tb) (i:=Ix.tWorld_) (a:=a_World_) o_World_ (fun _=>rfl) rfl rfl (fun h=>by cases h)
 | .tpolygon_triangle=>okA (tb:=tb) (i:=Ix.tpolygon_triangle) (a:=a_polygon_triangle) o_polygon_triangle (fun _=>rfl) rfl rfl (fun _ _=>rfl)
 | .tsl_polygon_triangle=>ok1 (tb:=tb) (i:=Ix.tsl_polygon_triangle) (a:=(aSl 5 e_polygon_triangle)) (okSl (tb:=tb) .tpolygon_triangle) (fun _=>rfl) rfl rfl (fun h=>by cases h)
 | .tsl_int=>ok1 (tb:=tb) (i:=Ix.tsl_int) (a:=(aSl 1 e_int)) (okSl (tb:=tb) .tint) (fun _=>rfl) rfl rfl (fun h=>by cases h)
 | .tsl_sl_PairKey=>ok1 (tb:=tb) (i:=Ix.tsl_sl_PairKey) (a:=(aSl 1 e_sl_PairKey)) (okSl (tb:=tb) .tsl_PairKey) (fun _=>rfl) rfl rfl (fun h=>by cases h)
 | .tstr=>ok1 (tb:=tb) (i:=Ix.tstr) (a:=aStr) okStr (fun _=>rfl) rfl rfl (fun _ _=>rfl)
 | .tu64=>ok1 (tb:=tb) (i:=Ix.tu64) (a:=(aInt .u64)) (okInt .u64) (fun _=>rfl) rfl rfl (fun _ _=>rfl)
 | .tbyte=>ok1 (tb:=tb) (i:=Ix.tbyte) (a:=aByte) okByte (fun _=>rfl) rfl rfl (fun _ _=>rfl)
 | .tsl_str=>ok1 (tb:=tb) (i:=Ix.tsl_str) (a:=(aSl 1 e_str)) (okSl (tb:=tb) .tstr) (fun _=>rfl) rfl rfl (fun h=>by cases h)
 | .tformat_decimal=>okA (tb:=tb) (i:=Ix.tformat_decimal) (a:=a_format_decimal) o_format_decimal (fun _=>rfl) rfl rfl (fun _ _=>rfl)
 | .tscene_parser=>okA (tb:=tb) (i:=Ix.tscene_parser) (a:=a_scene_parser) o_scene_parser (fun _=>rfl) rfl rfl (fun h=>by cases h)
theorem mixed:Tryz.prog.follows .mixedOrders=true:=by kernel_rfl
def Vec_beq (x y:Vec):Bool:=(decide (x.X=y.X)&&decide (x.Y=y.Y))
def PairKey_beq (x y:PairKey):Bool:=(decide (x.BodyA=y.BodyA)&&(decide (x.FixtureA=y.FixtureA)&&(decide (x.BodyB=y.BodyB)&&decide (x.FixtureB=y.FixtureB))))
def Transform_beq (x y:Transform):Bool:=(Vec_beq x.Position y.Position&&decide (x.Angle=y.Angle))
def ContactPoint_beq (x y:ContactPoint):Bool:=(Vec_beq x.Point y.Point&&(decide (x.Separation=y.Separation)&&(decide (x.ID=y.ID)&&(decide (x.NormalImpulse=y.NormalImpulse)&&decide (x.TangentImpulse=y.TangentImpulse)))))
def Settings_beq (x y:Settings):Bool:=(decide (x.TimeStep=y.TimeStep)&&(Vec_beq x.Gravity y.Gravity&&(decide (x.Iterations=y.Iterations)&&decide (x.SleepSteps=y.SleepSteps))))
def ar4_int_beq (x y:(Int × Int × Int × Int)):Bool:=(decide (x.1=y.1)&&(decide (x.2.1=y.2.1)&&(decide (x.2.2.1=y.2.2.1)&&decide (x.2.2.2=y.2.2.2))))
def Joint_beq (x y:Joint):Bool:=(decide (x.ID=y.ID)&&(decide (x.Kind=y.Kind)&&(decide (x.BodyA=y.BodyA)&&(decide (x.BodyB=y.BodyB)&&(Vec_beq x.AnchorA y.AnchorA&&(Vec_beq x.AnchorB y.AnchorB&&(Vec_beq x.Axis y.Axis&&(decide (x.ReferenceAngle=y.ReferenceAngle)&&(decide (x.EnableLimit=y.EnableLimit)&&(decide (x.Lower=y.Lower)&&(decide (x.Upper=y.Upper)&&(decide (x.EnableMotor=y.EnableMotor)&&(decide (x.MotorSpeed=y.MotorSpeed)&&(decide (x.MaxForce=y.MaxForce)&&(decide (x.Softness=y.Softness)&&(decide (x.BreakForce=y.BreakForce)&&(decide (x.CollideConnected=y.CollideConnected)&&ar4_int_beq x.Impulses y.Impulses)))))))))))))))))
theorem eqt_23:EqT Tryz.prog 23 e_Vec Vec_beq:=by
 refine ⟨by kernel_rfl,fun x=>[.int .i64 x.X,.int .i64 x.Y],fun x=>rfl,fun w x y=>?_⟩
 rw [run_equalIn_struct w 9999 23 _ _ (by kernel_rfl) (by kernel_rfl)]
 simp [Program.fieldsOf,Op.eqFields,go_sem,if_ok,Vec_beq,Tryz.underlying3,Tryz.underlying23] <;> grind
theorem eqt_86:EqT Tryz.prog 86 e_PairKey PairKey_beq:=by
 refine ⟨by kernel_rfl,fun x=>[.int .i64 x.BodyA,.int .i64 x.FixtureA,.int .i64 x.BodyB,.int .i64 x.FixtureB],fun x=>rfl,fun w x y=>?_⟩
 rw [run_equalIn_struct w 9999 86 _ _ (by kernel_rfl) (by kernel_rfl)]
 simp [Program.fieldsOf,Op.eqFields,go_sem,if_ok,PairKey_beq,Tryz.underlying3,Tryz.underlying86] <;> grind
theorem eqt_53:EqT Tryz.prog 53 e_Transform Transform_beq:=by
 refine ⟨by kernel_rfl,fun x=>[.int .i64 x.Position.X,.int .i64 x.Position.Y,.int .i64 x.Angle],fun x=>rfl,fun w x y=>?_⟩
 rw [run_equalIn_struct w 9999 53 _ _ (by kernel_rfl) (by kernel_rfl)]
 have q0:=fun (d:Nat) (w:Go.World) (xs ys:Array Value)=>run_equalIn_struct (P:=Tryz.prog) w d 23 xs ys (by kernel_rfl) (by kernel_rfl)
 simp [Program.fieldsOf,Op.eqFields,go_sem,if_ok,Transform_beq,Vec_beq,Tryz.underlying3,Tryz.underlying22,Tryz.underlying23,Tryz.underlying53,q0] <;> grind
theorem eqt_131:EqT Tryz.prog 131 e_ContactPoint ContactPoint_beq:=by
 refine ⟨by kernel_rfl,fun x=>[.int .i64 x.Point.X,.int .i64 x.Point.Y,.int .i64 x.Separation,.int .i64 x.ID,.int .i64 x.NormalImpulse,.int .i64 x.TangentImpulse],fun x=>rfl,fun w x y=>?_⟩
 rw [run_equalIn_struct w 9999 131 _ _ (by kernel_rfl) (by kernel_rfl)]
 have q0:=fun (d:Nat) (w:Go.World) (xs ys:Array Value)=>run_equalIn_struct (P:=Tryz.prog) w d 23 xs ys (by kernel_rfl) (by kernel_rfl)
 simp [Program.fieldsOf,Op.eqFields,go_sem,if_ok,ContactPoint_beq,Vec_beq,Tryz.underlying3,Tryz.underlying22,Tryz.underlying23,Tryz.underlying131,q0] <;> grind
theorem eqt_25:EqT Tryz.prog 25 e_Settings Settings_beq:=by
 refine ⟨by kernel_rfl,fun x=>[.int .i64 x.TimeStep,.int .i64 x.Gravity.X,.int .i64 x.Gravity.Y,.int .i64 x.Iterations,.int .i64 x.SleepSteps],fun x=>rfl,fun w x y=>?_⟩
 rw [run_equalIn_struct w 9999 25 _ _ (by kernel_rfl) (by kernel_rfl)]
 have q0:=fun (d:Nat) (w:Go.World) (xs ys:Array Value)=>run_equalIn_struct (P:=Tryz.prog) w d 23 xs ys (by kernel_rfl) (by kernel_rfl)
 simp [Program.fieldsOf,Op.eqFields,go_sem,if_ok,Settings_beq,Vec_beq,Tryz.underlying3,Tryz.underlying22,Tryz.underlying23,Tryz.underlying25,q0] <;> grind
theorem eqt_75:EqT Tryz.prog 75 e_Joint Joint_beq:=by
 refine ⟨by kernel_rfl,fun x=>[.int .i64 x.ID,.int .i64 x.Kind,.int .i64 x.BodyA,.int .i64 x.BodyB,.int .i64 x.AnchorA.X,.int .i64 x.AnchorA.Y,.int .i64 x.AnchorB.X,.int .i64 x.AnchorB.Y,.int .i64 x.Axis.X,.int .i64 x.Axis.Y,.int .i64 x.ReferenceAngle,.bool x.EnableLimit,.int .i64 x.Lower,.int .i64 x.Upper,.bool x.EnableMotor,.int .i64 x.MotorSpeed,.int .i64 x.MaxForce,.int .i64 x.Softness,.int .i64 x.BreakForce,.bool x.CollideConnected,.int .i64 x.Impulses.1,.int .i64 x.Impulses.2.1,.int .i64 x.Impulses.2.2.1,.int .i64 x.Impulses.2.2.2],fun x=>rfl,fun w x y=>?_⟩
 rw [run_equalIn_struct w 9999 75 _ _ (by kernel_rfl) (by kernel_rfl)]
 have qa0:=run_equalIn_arr4 (P:=Tryz.prog) (t:=73) (E:=3) (k:=.i64) (by kernel_rfl) (by kernel_rfl) (by kernel_rfl) (by kernel_rfl)
 have q0:=fun (d:Nat) (w:Go.World) (xs ys:Array Value)=>run_equalIn_struct (P:=Tryz.prog) w d 23 xs ys (by kernel_rfl) (by kernel_rfl)
 simp [Program.fieldsOf,Op.eqFields,go_sem,if_ok,Joint_beq,Vec_beq,ar4_int_beq,Tryz.underlying3,Tryz.underlying4,Tryz.underlying22,Tryz.underlying23,Tryz.underlying72,Tryz.underlying73,Tryz.underlying75,qa0,q0] <;> grind
noncomputable def eqs:List (EqE Tryz.prog tb):=[⟨23,Ix.tVec,Vec_beq,eqt_23⟩,⟨86,Ix.tPairKey,PairKey_beq,eqt_86⟩,⟨53,Ix.tTransform,Transform_beq,eqt_53⟩,⟨131,Ix.tContactPoint,ContactPoint_beq,eqt_131⟩,⟨25,Ix.tSettings,Settings_beq,eqt_25⟩,⟨75,Ix.tJoint,Joint_beq,eqt_75⟩]
noncomputable def cx0:Ctx Tryz.prog tb:=⟨cd,cd_ok,[],[],eqs,mixed,rfl,[]⟩
noncomputable def isF:List (SV tb)->Option (SV tb)
 | [a,.ifc t (.agg [])]=>tst (Nat.beq t 102) (match a with
   | .con .nilIface=>some (.con (.bool false))
   | .ifc t1 (.agg [n,.ifc t2 (.agg [])])=>tst (Nat.beq t1 104) <| tst (Nat.beq t2 102) <| got (asI n) fun p=>tst (decide (p.1=.i64)) (some (.con (.bool true)))
   | _=>none)
 | _=>none
theorem repsV2 {m:Mem} {a b:AV} {x y:Value} {vs:List Value} (h:Reps m noNames [a,b] vs) (ha:∀ v,Rep m noNames a v->v=x) (hb:∀ v,Rep m noNames b v->v=y):vs=[x,y]:=by
 obtain ⟨p,q,rfl,h1,h2⟩:=reps2 h
 rw [ha _ h1,hb _ h2]
theorem rep_err {m:Mem} {bl:Names} {v} (h:Rep m bl (.ifc 102 (.agg [])) v):v=.iface 102 (.agg #[]):=by
 cases h with
 | ifc h=>cases h with
   | agg h _=>cases h;rfl
theorem rep_line {m:Mem} {bl:Names} {n v} (h:Rep m bl (.ifc 104 (.agg [.v (.int .i64 n),.ifc 102 (.agg [])])) v):v=.iface 104 (.agg #[.int .i64 n,.iface 102 (.agg #[])]):=by
 cases h with
 | ifc h => cases h with
   | agg h _=>cases h with
     | cons h1 t=>cases t with
       | cons h2 t=>cases t with
         | nil=>rw [h1.eq_v,rep_err h2]
noncomputable def hIs:Hnd Tryz.prog tb where
 fid:=39
 f:=isF
 call:=Tryz.call39
 ok xs y h:=by
  unfold isF at h
  split at h
  ·rename_i a t
   obtain ⟨h1,h⟩:=tst_e h
   have h1:=Nat.eq_of_beq_eq_true h1
   subst h1
   split at h
   ·cases h
    refine ⟨FnR.ofCalls fun w m vs hi hr=>?_,rfl,rfl⟩
    rw [repsV2 hr (fun v h=>h.eq_v) (fun v h=>rep_err h)]
    refine (is_nil _ w).mono ?_
    rintro e w' ⟨rfl,rfl⟩
    exact ⟨_,rfl,Below.refl _ _,.v⟩
   ·rename_i t1 n t2 _
    have g2:=tst_e h
    have g3:=tst_e g2.2
    have g6:=tst_e g3.2
    rw [Nat.eq_of_beq_eq_true g3.1,Nat.eq_of_beq_eq_true g6.1]
    obtain ⟨p,hp,g4⟩:=got_e g6.2
    have g5:=tst_e g4
    have h4:=of_decide_eq_true g5.1
    cases g5.2
    have hav:=asI_e hp
    obtain ⟨k,z⟩:=p
    simp only at h4 hav;subst h4
    have e1:avL ([.ifc 104 (.agg [n,.ifc 102 (.agg [])]),.ifc 102 (.agg [])]:List (SV tb))=[.ifc 104 (.agg [.v (.int .i64 z),.ifc 102 (.agg [])]),.ifc 102 (.agg [])]:=by
     simp only [avL,SV.av,hav]
    rw [e1]
    refine ⟨FnR.ofCalls fun w m vs hi hr=>?_,rfl,rfl⟩
    rw [repsV2 hr (fun v h=>rep_line h) (fun v h=>rep_err h)]
    refine (is_same _ w).mono ?_
    rintro e w' ⟨rfl,hb⟩
    exact ⟨_,rfl,hb,.v⟩
   ·cases h
  ·cases h
noncomputable def hMk:Hnd Tryz.prog tb where
 fid:=52
 f xs:=match xs with
   | [x]=>got (asI x) fun p=>tst (decide (p.1=.i64)) (some (.fn 99 [.cp [.i .i64 p.2]]))
   | _=>none
 call:=Tryz.call52
 ok xs y h:=by
  split at h
  ·rename_i x
   obtain ⟨p,hp,h⟩:=got_e h
   obtain ⟨h4,h⟩:=tst_e h
   have h4:=of_decide_eq_true h4
   cases h
   have hav:=asI_e hp
   obtain ⟨k,z⟩:=p
   simp only at h4 hav;subst h4
   have e1:avL [x]=avL [(.i .i64 z:SV tb)]:=by simp only [avL,SV.av,hav]
   rw [e1]
   exact hnd_ok (cx:=cx0) (im:=fun d=>memN d [1]) (bar:=barF []) (N:=4) (an:=.n) Tryz.func52 rfl rfl rfl rfl rfl rfl (by kernel_rfl)
  ·cases h
noncomputable def hnds:List (Hnd Tryz.prog tb):=[hIs,hMk]
noncomputable def cx (Γ:List (Con Tryz.prog tb cd)) (J:List (Inl Tryz.prog tb)):Ctx Tryz.prog tb:=⟨cd,cd_ok,Γ,J,eqs,mixed,rfl,hnds⟩
end GoForm
