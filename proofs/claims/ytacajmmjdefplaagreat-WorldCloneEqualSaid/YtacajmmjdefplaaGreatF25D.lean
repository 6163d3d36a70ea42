/- The functions' plain forms. Printed by go3.py. No conditions. -/
import Derived.Test.YtacajmmjdefplaaGreatF25T
set_option linter.all false
set_option maxRecDepth 100000
open Go Go.Rx Go.Proofs Go.RowKit
namespace GoForm
noncomputable def caromref22_Few (bodies0:(List Body)) (limit1:Int):Option Bool:=
  Let (↑bodies0.length:Int) fun (x1:Int)=>
  Let (decide (x1>limit1)) fun (x2:Bool)=>
  if x2=true then some false
  else
  LOOP
  (fun (rec3:Int→Option Bool) (s4:Int)=>
  Let (↑bodies0.length:Int) fun (x5:Int)=>
  Let (decide (s4<x5)) fun (x6:Bool)=>
  if x6=true then
  Chk ((0:Int)≤s4∧s4<(↑bodies0.length:Int))
  (Let (ix bodies0 s4) fun (x7:Body)=>
  Let (↑x7.Fixtures.length:Int) fun (x8:Int)=>
  Let (decide (x8>(8:Int))) fun (x9:Bool)=>
  if x9=true then some false
  else
  LOOP
  (fun (rec10:Int→Option Bool) (s11:Int)=>
  Chk ((0:Int)≤s4∧s4<(↑bodies0.length:Int))
  (Let (ix bodies0 s4) fun (x12:Body)=>
  Let (↑x12.Fixtures.length:Int) fun (x13:Int)=>
  Let (decide (s11<x13)) fun (x14:Bool)=>
  if x14=true then
  Chk ((0:Int)≤s4∧s4<(↑bodies0.length:Int))
  (Let (ix bodies0 s4) fun (x15:Body)=>
  Chk ((0:Int)≤s11∧s11<(↑x15.Fixtures.length:Int))
  (Let (ix x15.Fixtures s11) fun (x16:Fixture)=>
  Let (↑x16.Shape.Vertices.length:Int) fun (x17:Int)=>
  Let (decide (x17>(20:Int))) fun (x18:Bool)=>
  if x18=true then some false else Let (IntKind.i64.wrap (s11+(1:Int))) fun (x19:Int)=>rec10 x19))
  else Let (IntKind.i64.wrap (s4+(1:Int))) fun (x20:Int)=>rec3 x20))
  fuel (0:Int))
  else some true)
  fuel (0:Int)
noncomputable def caromref25_Few (w0:World_):Option Bool:=
  Let (↑w0.Joints.length:Int) fun (x21:Int)=>
  Let (decide (x21>(40:Int))) fun (x22:Bool)=>
  Let (↑w0.Contacts.length:Int) fun (x23:Int)=>
  Let (decide (x23>(80:Int))) fun (x24:Bool)=>
  Let (bif x22 then true else x24) fun (x25:Bool)=>
  Let (↑w0.Overlaps.length:Int) fun (x26:Int)=>
  Let (decide (x26>(80:Int))) fun (x27:Bool)=>
  Let (bif x25 then true else x27) fun (x28:Bool)=>
  Rx.Bind (if (x28==false)=true then caromref22_Few w0.Bodies (40:Int) else some default) fun (r29:Bool)=>
  Let (!r29) fun (x30:Bool)=>
  Let (bif x28 then true else x30) fun (x31:Bool)=>
  if x31=true then some false
  else
  LOOP
  (fun (rec32:Int→Option Bool) (s33:Int)=>
  Let (↑w0.Contacts.length:Int) fun (x34:Int)=>
  Let (decide (s33<x34)) fun (x35:Bool)=>
  if x35=true then
  Chk ((0:Int)≤s33∧s33<(↑w0.Contacts.length:Int))
  (Let (ix w0.Contacts s33) fun (x36:Contact)=>
  Let (↑x36.Manifold.Points.length:Int) fun (x37:Int)=>
  Let (decide (x37>(8:Int))) fun (x38:Bool)=>
  if x38=true then some false else Let (IntKind.i64.wrap (s33+(1:Int))) fun (x39:Int)=>rec32 x39)
  else some true)
  fuel (0:Int)
noncomputable def caromlaw25_settings  : Option Settings:=
  some
  { TimeStep:=(1024:Int),Gravity:={ X:=(0:Int),Y:=(0:Int):Vec },Iterations:=(4:Int),SleepSteps:=(60:Int):Settings }
noncomputable def world_in (x0:Int) (low1:Int) (high2:Int):Option Bool:=
  Let (decide (x0≥low1)) fun (x40:Bool)=>
  Let (decide (x0≤high2)) fun (x41:Bool)=>Let (bif x40 then x41 else false) fun (x42:Bool)=>some x42
noncomputable def world_ValidateSettings (s0:Settings):Option Int:=
  Rx.Bind (world_in s0.Gravity.X (-16777216:Int) (16777216:Int)) fun (r43:Bool)=>
  Rx.Bind (if (r43==true)=true then world_in s0.Gravity.Y (-16777216:Int) (16777216:Int) else some default)
  fun (r44:Bool)=>
  Let (bif r43 then r44 else false) fun (x45:Bool)=>
  Rx.Bind (world_in s0.TimeStep (64:Int) (8192:Int)) fun (r46:Bool)=>
  Let (!r46) fun (x47:Bool)=>
  Let (!x45) fun (x48:Bool)=>
  Let (bif x47 then true else x48) fun (x49:Bool)=>
  Rx.Bind (if (x49==false)=true then world_in s0.Iterations (1:Int) (32:Int) else some default)
  fun (r50:Bool)=>
  Let (!r50) fun (x51:Bool)=>
  Let (bif x49 then true else x51) fun (x52:Bool)=>
  Rx.Bind (if (x52==false)=true then world_in s0.SleepSteps (0:Int) (1048576:Int) else some default)
  fun (r53:Bool)=>
  Let (!r53) fun (x54:Bool)=>
  Let (bif x52 then true else x54) fun (x55:Bool)=>if x55=true then some (6:Int) else some (0:Int)
noncomputable def world_New (s0:Settings):Option (World_ × Int):=
  Rx.Bind (world_ValidateSettings s0) fun (r56:Int)=>
  Let (r56 != (0:Int)) fun (x57:Bool)=>
  if x57=true then
  some
  ({ Settings:={ TimeStep:=(0:Int),Gravity:={ X:=(0:Int),Y:=(0:Int):Vec },Iterations:=(0:Int),SleepSteps:=(0:Int):Settings },Bodies:=[],Joints:=[],Contacts:=[],Overlaps:=[],NextID:=(0:Int),Frame:=(0:Int):World_ },
  r56)
  else
  some
  ({ Settings:=s0,Bodies:=[],Joints:=[],Contacts:=[],Overlaps:=[],NextID:=(1:Int),Frame:=(0:Int):World_ },
  (0:Int))
noncomputable def slices_Clone_128 (s0:(List Vec)):Option (List Vec):=
  Rx.Alike (s0=[]) (some []) (Chk (s0.length*(16:Nat)≤(140737488355328:Nat)) (some s0))
noncomputable def shape_Clone (s0:Shape):Option Shape:=
  Rx.Bind (slices_Clone_128 s0.Vertices) fun (r58:List Vec)=>
  some { Kind:=s0.Kind,Radius:=s0.Radius,Vertices:=r58:Shape }
noncomputable def body_Clone (b0:Body):Option Body:=
  Let (↑b0.Fixtures.length:Int) fun (x59:Int)=>
  LOOP
  (fun (rec60:List Fixture × Int→Option Body) (s61:List Fixture × Int)=>
  Let (decide (s61.snd<x59)) fun (x62:Bool)=>
  if x62=true then
  Chk ((0:Int)≤s61.snd∧s61.snd<(↑b0.Fixtures.length:Int))
  (Let (ix b0.Fixtures s61.snd) fun (x63:Fixture)=>
  Rx.Bind (shape_Clone x63.Shape) fun (r64:Shape)=>
  Chk
  ((List.length s61.fst+
  [{ Shape:=r64,Density:=x63.Density,Friction:=x63.Friction,Restitution:=x63.Restitution,Sensor:=x63.Sensor,Category:=x63.Category,Mask:=x63.Mask,Group:=x63.Group:Fixture }].length)*
  (96:Nat)≤
  (140737488355328:Nat))
  (Let
  (s61.fst++
  [{ Shape:=r64,Density:=x63.Density,Friction:=x63.Friction,Restitution:=x63.Restitution,Sensor:=x63.Sensor,Category:=x63.Category,Mask:=x63.Mask,Group:=x63.Group:Fixture }])
  fun (x65:List Fixture)=>Let (IntKind.i64.wrap (s61.snd+(1:Int))) fun (x66:Int)=>rec60 (x65,x66)))
  else
  some
  { ID:=b0.ID,Kind:=b0.Kind,Transform:=b0.Transform,Velocity:=b0.Velocity,AngularVelocity:=b0.AngularVelocity,Force:=b0.Force,Torque:=b0.Torque,LinearDamping:=b0.LinearDamping,AngularDamping:=b0.AngularDamping,GravityScale:=b0.GravityScale,Bullet:=b0.Bullet,FixedRotation:=b0.FixedRotation,NoSleep:=b0.NoSleep,Asleep:=b0.Asleep,IdleSteps:=b0.IdleSteps,Fixtures:=s61.fst:Body })
  fuel ([],(0:Int))
noncomputable def body_within (x0:Int) (low1:Int) (high2:Int):Option Bool:=
  Let (decide (low1≤x0)) fun (x67:Bool)=>
  Let (decide (x0≤high2)) fun (x68:Bool)=>Let (bif x67 then x68 else false) fun (x69:Bool)=>some x69
noncomputable def body_bounded (v0:Vec) (limit1:Int):Option Bool:=
  Let (IntKind.i64.wrap ((0:Int) - limit1)) fun (x70:Int)=>
  Rx.Bind (body_within v0.X x70 limit1) fun (r71:Bool)=>
  Let (IntKind.i64.wrap ((0:Int) - limit1)) fun (x72:Int)=>
  Rx.Bind (if (r71==true)=true then body_within v0.Y x72 limit1 else some default) fun (r73:Bool)=>
  Let (bif r71 then r73 else false) fun (x74:Bool)=>some x74
noncomputable def transform_inWorld (x0:Int):Option Bool:=
  Let (decide (x0≥(-268435456:Int))) fun (x75:Bool)=>
  Let (decide (x0≤(268435456:Int))) fun (x76:Bool)=>Let (bif x75 then x76 else false) fun (x77:Bool)=>some x77
noncomputable def transform_Valid (t0:Transform):Option Bool:=
  Rx.Bind (transform_inWorld t0.Position.X) fun (r78:Bool)=>
  Rx.Bind (if (r78==true)=true then transform_inWorld t0.Position.Y else some default) fun (r79:Bool)=>
  Let (bif r78 then r79 else false) fun (x80:Bool)=>
  Let (decide (t0.Angle≥(-205888:Int))) fun (x81:Bool)=>
  Let (bif x80 then x81 else false) fun (x82:Bool)=>
  Let (decide (t0.Angle<(205888:Int))) fun (x83:Bool)=>
  Let (bif x82 then x83 else false) fun (x84:Bool)=>some x84
noncomputable def body_inRange (b0:Body):Option Bool:=
  Rx.Bind (body_bounded b0.Velocity (16777216:Int)) fun (r85:Bool)=>
  Rx.Bind (if (r85==true)=true then body_within b0.AngularVelocity (-4194304:Int) (4194304:Int) else some default)
  fun (r86:Bool)=>
  Let (bif r85 then r86 else false) fun (x87:Bool)=>
  Rx.Bind (body_bounded b0.Force (536870911:Int)) fun (r88:Bool)=>
  Rx.Bind (if (r88==true)=true then body_within b0.Torque (-536870911:Int) (536870911:Int) else some default)
  fun (r89:Bool)=>
  Let (bif r88 then r89 else false) fun (x90:Bool)=>
  Rx.Bind (body_within b0.LinearDamping (0:Int) (65536:Int)) fun (r91:Bool)=>
  Rx.Bind (if (r91==true)=true then body_within b0.AngularDamping (0:Int) (65536:Int) else some default)
  fun (r92:Bool)=>
  Let (bif r91 then r92 else false) fun (x93:Bool)=>
  Rx.Bind (body_within b0.GravityScale (-262144:Int) (262144:Int)) fun (r94:Bool)=>
  Rx.Bind (body_within b0.ID (1:Int) (1099511627776:Int)) fun (r95:Bool)=>
  Rx.Bind (if (r95==true)=true then transform_Valid b0.Transform else some default) fun (r96:Bool)=>
  Let (bif r95 then r96 else false) fun (x97:Bool)=>
  Let (bif x97 then x87 else false) fun (x98:Bool)=>
  Let (bif x98 then x90 else false) fun (x99:Bool)=>
  Let (bif x99 then x93 else false) fun (x100:Bool)=>
  Let (bif x100 then r94 else false) fun (x101:Bool)=>
  Rx.Bind (if (x101==true)=true then body_within b0.IdleSteps (0:Int) (1048576:Int) else some default)
  fun (r102:Bool)=>Let (bif x101 then r102 else false) fun (x103:Bool)=>some x103
noncomputable def shape_validCount (s0:Shape):Option Bool:=
  Let (↑s0.Vertices.length:Int) fun (x104:Int)=>
  Let (s0.Kind==(1:Int)) fun (x105:Bool)=>
  if x105=true then Let (x104==(1:Int)) fun (x106:Bool)=>some x106
  else
  Let (s0.Kind==(2:Int)) fun (x107:Bool)=>
  if x107=true then Let (x104==(2:Int)) fun (x108:Bool)=>some x108
  else
  Let (decide (x104≥(3:Int))) fun (x109:Bool)=>
  Let (decide (x104≤(8:Int))) fun (x110:Bool)=>Let (bif x109 then x110 else false) fun (x111:Bool)=>some x111
noncomputable def slices_IndexFunc_175 (s0:(List Vec)) (f1:(Vec→Option Bool)):Option Int:=
  Let (↑s0.length:Int) fun (x112:Int)=>
  LOOP
  (fun (rec113:Int→Option Int) (s114:Int)=>
  Let (decide (s114<x112)) fun (x115:Bool)=>
  if x115=true then
  Chk ((0:Int)≤s114∧s114<(↑s0.length:Int))
  (Let (ix s0 s114) fun (x116:Vec)=>
  Rx.Bind (f1 x116) fun (r117:Bool)=>
  if r117=true then some s114 else Let (IntKind.i64.wrap (s114+(1:Int))) fun (x118:Int)=>rec113 x118)
  else some (-1:Int))
  fuel (0:Int)
noncomputable def slices_ContainsFunc_153 (s0:(List Vec)) (f1:(Vec→Option Bool)):Option Bool:=
  Rx.Bind (slices_IndexFunc_175 s0 f1) fun (r119:Int)=>Let (decide (r119≥(0:Int))) fun (x120:Bool)=>some x120
noncomputable def shape_outOfRange (n0:Int):Option Bool:=
  Let (decide (n0<(-1048576:Int))) fun (x121:Bool)=>
  Let (decide (n0>(1048576:Int))) fun (x122:Bool)=>
  Let (bif x121 then true else x122) fun (x123:Bool)=>some x123
noncomputable def shape_Validate_1 (v0:Vec):Option Bool:=
  Rx.Bind (shape_outOfRange v0.X) fun (r124:Bool)=>
  Rx.Bind (if (r124==false)=true then shape_outOfRange v0.Y else some default) fun (r125:Bool)=>
  Let (bif r124 then true else r125) fun (x126:Bool)=>some x126
noncomputable def fixed_Saturate (x0:Int):Option Int:=
  Let (max x0 (-536870911:Int)) fun (x127:Int)=>Let (min x127 (536870911:Int)) fun (x128:Int)=>some x128
noncomputable def fixed_Sub (a0:Int) (b1:Int):Option Int:=
  Rx.Bind (fixed_Saturate a0) fun (r129:Int)=>
  Rx.Bind (fixed_Saturate b1) fun (r130:Int)=>
  Let (IntKind.i64.wrap (r129 - r130)) fun (x131:Int)=>Rx.Bind (fixed_Saturate x131) fun (r132:Int)=>some r132
noncomputable def vec2_Sub (a0:Vec) (b1:Vec):Option Vec:=
  Rx.Bind (fixed_Sub a0.X b1.X) fun (r133:Int)=>
  Rx.Bind (fixed_Sub a0.Y b1.Y) fun (r134:Int)=>some { X:=r133,Y:=r134:Vec }
noncomputable def vec2_saturate (v0:Vec):Option Vec:=
  Rx.Bind (fixed_Saturate v0.X) fun (r135:Int)=>
  Rx.Bind (fixed_Saturate v0.Y) fun (r136:Int)=>some { X:=r135,Y:=r136:Vec }
noncomputable def vec2_DistanceSquared (a0:Vec) (b1:Vec):Option Int:=
  Rx.Bind (vec2_saturate a0) fun (r137:Vec)=>
  Rx.Bind (vec2_saturate b1) fun (r138:Vec)=>
  Let (IntKind.i64.wrap (r138.X - r137.X)) fun (x139:Int)=>
  Let (IntKind.i64.wrap (r138.Y - r137.Y)) fun (x140:Int)=>
  Let (IntKind.i64.wrap (x139*x139)) fun (x141:Int)=>
  Let (IntKind.i64.wrap (x140*x140)) fun (x142:Int)=>
  Let (IntKind.i64.wrap (x141+x142)) fun (x143:Int)=>some x143
noncomputable def fixed_Isqrt (n0:Int):Option Int:=
  Let (decide (n0<(0:Int))) fun (x144:Bool)=>
  Let (decide (n0>(4611686018427387904:Int))) fun (x145:Bool)=>
  Let (bif x144 then true else x145) fun (x146:Bool)=>
  if x146=true then some (0:Int)
  else
  LOOP
  (fun (rec147:Int × Int→Option Int) (s148:Int × Int)=>
  Let (decide (s148.snd>(0:Int))) fun (x149:Bool)=>
  if x149=true then
  Join (fun (v150:Int)=>Let (bShr IntKind.i64 s148.snd (1:Int)) fun (x151:Int)=>rec147 (v150,x151))
  fun (j152:Int→Option Int)=>
  Let (bOr IntKind.i64 s148.fst s148.snd) fun (x153:Int)=>
  Let (IntKind.u64.wrap x153) fun (x154:Int)=>
  Let (IntKind.u64.wrap x153) fun (x155:Int)=>
  Let (IntKind.u64.wrap (x154*x155)) fun (x156:Int)=>
  Let (IntKind.u64.wrap n0) fun (x157:Int)=>
  Let (decide (x156≤x157)) fun (x158:Bool)=>if x158=true then j152 x153 else j152 s148.fst
  else some s148.fst)
  fuel ((0:Int),(2147483648:Int))
noncomputable def vec2_Length (v0:Vec):Option Int:=
  Rx.Bind (vec2_DistanceSquared { X:=(0:Int),Y:=(0:Int):Vec } v0) fun (r159:Int)=>
  Rx.Bind (fixed_Isqrt r159) fun (r160:Int)=>some r160
noncomputable def polygon_inReach (v0:Vec):Option Bool:=
  Let (decide (v0.X≥(-1048576:Int))) fun (x161:Bool)=>
  Let (decide (v0.X≤(1048576:Int))) fun (x162:Bool)=>
  Let (bif x161 then x162 else false) fun (x163:Bool)=>
  Let (decide (v0.Y≥(-1048576:Int))) fun (x164:Bool)=>
  Let (bif x163 then x164 else false) fun (x165:Bool)=>
  Let (decide (v0.Y≤(1048576:Int))) fun (x166:Bool)=>
  Let (bif x165 then x166 else false) fun (x167:Bool)=>some x167
noncomputable def polygon_allInReach (points0:(List Vec)):Option Bool:=
  Let (↑points0.length:Int) fun (x168:Int)=>
  LOOP
  (fun (rec169:Int→Option Bool) (s170:Int)=>
  Let (decide (s170<x168)) fun (x171:Bool)=>
  if x171=true then
  Chk ((0:Int)≤s170∧s170<(↑points0.length:Int))
  (Let (ix points0 s170) fun (x172:Vec)=>
  Rx.Bind (polygon_inReach x172) fun (r173:Bool)=>
  Let (!r173) fun (x174:Bool)=>
  if x174=true then some false else Let (IntKind.i64.wrap (s170+(1:Int))) fun (x175:Int)=>rec169 x175)
  else some true)
  fuel (0:Int)
noncomputable def vec2_Orientation (a0:Vec) (b1:Vec) (c2:Vec):Option Int:=
  Rx.Bind (vec2_saturate a0) fun (r176:Vec)=>
  Rx.Bind (vec2_saturate b1) fun (r177:Vec)=>
  Rx.Bind (vec2_saturate c2) fun (r178:Vec)=>
  Let (IntKind.i64.wrap (r177.X - r176.X)) fun (x179:Int)=>
  Let (IntKind.i64.wrap (r178.Y - r176.Y)) fun (x180:Int)=>
  Let (IntKind.i64.wrap (x179*x180)) fun (x181:Int)=>
  Let (IntKind.i64.wrap (r177.Y - r176.Y)) fun (x182:Int)=>
  Let (IntKind.i64.wrap (r178.X - r176.X)) fun (x183:Int)=>
  Let (IntKind.i64.wrap (x182*x183)) fun (x184:Int)=>
  Let (IntKind.i64.wrap (x181 - x184)) fun (x185:Int)=>
  Let (max (-1:Int) x185) fun (x186:Int)=>Let (min (1:Int) x186) fun (x187:Int)=>some x187
noncomputable def polygon_IsConvex (vertices0:(List Vec)):Option Bool:=
  Let (↑vertices0.length:Int) fun (x188:Int)=>
  Let (decide (x188<(3:Int))) fun (x189:Bool)=>
  Let (decide (x188>(8:Int))) fun (x190:Bool)=>
  Let (bif x189 then true else x190) fun (x191:Bool)=>
  Rx.Bind (if (x191==false)=true then polygon_allInReach vertices0 else some default) fun (r192:Bool)=>
  Let (!r192) fun (x193:Bool)=>
  Let (bif x191 then true else x193) fun (x194:Bool)=>
  if x194=true then some false
  else
  Let (↑vertices0.length:Int) fun (x195:Int)=>
  LOOP
  (fun (rec196:Int→Option Bool) (s197:Int)=>
  Let (decide (s197<x195)) fun (x198:Bool)=>
  if x198=true then
  Chk ((0:Int)≤s197∧s197<(↑vertices0.length:Int))
  (Let (ix vertices0 s197) fun (x199:Vec)=>
  Let (IntKind.i64.wrap (s197+(1:Int))) fun (x200:Int)=>
  Chk (x188≠(0:Int))
  (Let (x200.tmod x188) fun (x201:Int)=>
  Let (↑vertices0.length:Int) fun (x202:Int)=>
  LOOP
  (fun (rec203:Int→Option Bool) (s204:Int)=>
  Let (decide (s204<x202)) fun (x205:Bool)=>
  if x205=true then
  Chk ((0:Int)≤s204∧s204<(↑vertices0.length:Int))
  (Let (ix vertices0 s204) fun (x206:Vec)=>
  Let (s204 != s197) fun (x207:Bool)=>
  Let (s204 != x201) fun (x208:Bool)=>
  Let (bif x207 then x208 else false) fun (x209:Bool)=>
  Chk ((x209==true)=true→(0:Int)≤x201∧x201<(↑vertices0.length:Int))
  (Let (ix vertices0 x201) fun (x210:Vec)=>
  Rx.Bind (if (x209==true)=true then vec2_Orientation x199 x210 x206 else some default) fun (r211:Int)=>
  Let (r211 != (1:Int)) fun (x212:Bool)=>
  Let (bif x209 then x212 else false) fun (x213:Bool)=>
  if x213=true then some false else Let (IntKind.i64.wrap (s204+(1:Int))) fun (x214:Int)=>rec203 x214))
  else Let (IntKind.i64.wrap (s197+(1:Int))) fun (x215:Int)=>rec196 x215)
  fuel (0:Int)))
  else some true)
  fuel (0:Int)
noncomputable def polygon_ShortestEdge (vertices0:(List Vec)):Option Int:=
  Rx.Bind (polygon_IsConvex vertices0) fun (r216:Bool)=>
  Let (!r216) fun (x217:Bool)=>
  if x217=true then some (0:Int)
  else
  Let (↑vertices0.length:Int) fun (x218:Int)=>
  LOOP
  (fun (rec219:Int × Int→Option Int) (s220:Int × Int)=>
  Let (decide (s220.snd<x218)) fun (x221:Bool)=>
  if x221=true then
  Chk ((0:Int)≤s220.snd∧s220.snd<(↑vertices0.length:Int))
  (Let (ix vertices0 s220.snd) fun (x222:Vec)=>
  Let (IntKind.i64.wrap (s220.snd+(1:Int))) fun (x223:Int)=>
  Let (↑vertices0.length:Int) fun (x224:Int)=>
  Chk (x224≠(0:Int))
  (Let (x223.tmod x224) fun (x225:Int)=>
  Chk ((0:Int)≤x225∧x225<(↑vertices0.length:Int))
  (Let (ix vertices0 x225) fun (x226:Vec)=>
  Rx.Bind (vec2_Sub x226 x222) fun (r227:Vec)=>
  Rx.Bind (vec2_Length r227) fun (r228:Int)=>
  Let (min s220.fst r228) fun (x229:Int)=>
  Let (IntKind.i64.wrap (s220.snd+(1:Int))) fun (x230:Int)=>rec219 (x229,x230))))
  else some s220.fst)
  fuel ((536870911:Int),(0:Int))
noncomputable def fixed_RoundDiv (n0:Int) (d1:Int):Option Int:=
  Let (decide (d1<(1:Int))) fun (x231:Bool)=>
  Let (decide (d1>(4611686018427387904:Int))) fun (x232:Bool)=>
  Let (bif x231 then true else x232) fun (x233:Bool)=>
  Let (decide (n0<(-4611686018427387904:Int))) fun (x234:Bool)=>
  Let (bif x233 then true else x234) fun (x235:Bool)=>
  Let (decide (n0>(4611686018427387904:Int))) fun (x236:Bool)=>
  Let (bif x235 then true else x236) fun (x237:Bool)=>
  if x237=true then some (0:Int)
  else
  Chk (d1≠(0:Int))
  (Let (IntKind.i64.wrap (n0.tdiv d1)) fun (x238:Int)=>
  Chk (d1≠(0:Int))
  (Let (n0.tmod d1) fun (x239:Int)=>
  Join (fun (v240:Int)=>some v240) fun (j241:Int→Option Int)=>
  Let (IntKind.i64.wrap (d1 - x239)) fun (x242:Int)=>
  Let (decide (x239≥x242)) fun (x243:Bool)=>
  if x243=true then Let (IntKind.i64.wrap (x238+(1:Int))) fun (x244:Int)=>j241 x244
  else
  Let (IntKind.i64.wrap ((0:Int) - x239)) fun (x245:Int)=>
  Let (IntKind.i64.wrap (d1+x239)) fun (x246:Int)=>
  Let (decide (x245≥x246)) fun (x247:Bool)=>
  if x247=true then Let (IntKind.i64.wrap (x238 - (1:Int))) fun (x248:Int)=>j241 x248 else j241 x238))
noncomputable def polygon_fan (vertices0:(List Vec)):Option ((List polygon_triangle) × Int):=
  Chk ((0:Int)≤(0:Int)∧(0:Int)<(↑vertices0.length:Int))
  (Let (ix vertices0 (0:Int)) fun (x249:Vec)=>
  LOOP
  (fun (rec250:List polygon_triangle × Int × Int→Option (List polygon_triangle × Int))
  (s251:List polygon_triangle × Int × Int)=>
  Let (IntKind.i64.wrap (s251.snd.snd+(1:Int))) fun (x252:Int)=>
  Let (↑vertices0.length:Int) fun (x253:Int)=>
  Let (decide (x252<x253)) fun (x254:Bool)=>
  if x254=true then
  Chk ((0:Int)≤s251.snd.snd∧s251.snd.snd<(↑vertices0.length:Int))
  (Let (ix vertices0 s251.snd.snd) fun (x255:Vec)=>
  Let (IntKind.i64.wrap (x255.X - x249.X)) fun (x256:Int)=>
  Chk ((0:Int)≤s251.snd.snd∧s251.snd.snd<(↑vertices0.length:Int))
  (Let (ix vertices0 s251.snd.snd) fun (x257:Vec)=>
  Let (IntKind.i64.wrap (x257.Y - x249.Y)) fun (x258:Int)=>
  Let (IntKind.i64.wrap (s251.snd.snd+(1:Int))) fun (x259:Int)=>
  Chk ((0:Int)≤x259∧x259<(↑vertices0.length:Int))
  (Let (ix vertices0 x259) fun (x260:Vec)=>
  Let (IntKind.i64.wrap (x260.X - x249.X)) fun (x261:Int)=>
  Let (IntKind.i64.wrap (s251.snd.snd+(1:Int))) fun (x262:Int)=>
  Chk ((0:Int)≤x262∧x262<(↑vertices0.length:Int))
  (Let (ix vertices0 x262) fun (x263:Vec)=>
  Let (IntKind.i64.wrap (x263.Y - x249.Y)) fun (x264:Int)=>
  Let (IntKind.i64.wrap (x256*x264)) fun (x265:Int)=>
  Let (IntKind.i64.wrap (x258*x261)) fun (x266:Int)=>
  Let (IntKind.i64.wrap (x265 - x266)) fun (x267:Int)=>
  Rx.Bind (fixed_RoundDiv x267 (65536:Int)) fun (r268:Int)=>
  Chk
  ((List.length s251.fst+
  [{ e:={ X:=x256,Y:=x258:Vec },f:={ X:=x261,Y:=x264:Vec },cross:=r268:polygon_triangle }].length)*
  (40:Nat)≤
  (140737488355328:Nat))
  (Let
  (s251.fst++
  [{ e:={ X:=x256,Y:=x258:Vec },f:={ X:=x261,Y:=x264:Vec },cross:=r268:polygon_triangle }])
  fun (x269:List polygon_triangle)=>
  Let (IntKind.i64.wrap (s251.snd.fst+r268)) fun (x270:Int)=>
  Let (IntKind.i64.wrap (s251.snd.snd+(1:Int))) fun (x271:Int)=>rec250 (x269,x270,x271))))))
  else some (s251.fst,s251.snd.fst))
  fuel ([],(0:Int),(1:Int)))
noncomputable def polygon_Area (vertices0:(List Vec)):Option Int:=
  Rx.Bind (polygon_IsConvex vertices0) fun (r272:Bool)=>
  Let (!r272) fun (x273:Bool)=>
  if x273=true then some (0:Int)
  else
  Rx.Bind (polygon_fan vertices0) fun (r274:List polygon_triangle × Int)=>
  Rx.Bind (fixed_RoundDiv r274.snd (2:Int)) fun (r275:Int)=>some r275
noncomputable def shape_Validate (s0:Shape):Option Int:=
  Let (decide (s0.Kind<(1:Int))) fun (x276:Bool)=>
  Let (decide (s0.Kind>(3:Int))) fun (x277:Bool)=>
  Let (bif x276 then true else x277) fun (x278:Bool)=>
  if x278=true then some (10:Int)
  else
  Rx.Bind (shape_validCount s0) fun (r279:Bool)=>
  Let (!r279) fun (x280:Bool)=>
  if x280=true then some (11:Int)
  else
  Rx.Bind (slices_ContainsFunc_153 s0.Vertices fun (a:Tup tb [Ix.tVec])=>shape_Validate_1 a) fun (r281:Bool)=>
  if r281=true then some (6:Int)
  else
  Join
  (fun (v282:Bool)=>
  if v282=true then some (6:Int)
  else
  Let (s0.Kind==(2:Int)) fun (x283:Bool)=>
  Chk ((x283==true)=true→(0:Int)≤(1:Int)∧(1:Int)<(↑s0.Vertices.length:Int))
  (Let (ix s0.Vertices (1:Int)) fun (x284:Vec)=>
  Chk ((x283==true)=true→(0:Int)≤(0:Int)∧(0:Int)<(↑s0.Vertices.length:Int))
  (Let (ix s0.Vertices (0:Int)) fun (x285:Vec)=>
  Rx.Bind (if (x283==true)=true then vec2_Sub x284 x285 else some { X:=default,Y:=default:Vec })
  fun (r286:Vec)=>
  Rx.Bind (if (x283==true)=true then vec2_Length r286 else some default) fun (r287:Int)=>
  Let (decide (r287<(4096:Int))) fun (x288:Bool)=>
  Let (bif x283 then x288 else false) fun (x289:Bool)=>
  if x289=true then some (12:Int)
  else
  Let (s0.Kind==(3:Int)) fun (x290:Bool)=>
  Rx.Bind (if (x290==true)=true then polygon_IsConvex s0.Vertices else some default) fun (r291:Bool)=>
  Let (!r291) fun (x292:Bool)=>
  Rx.Bind (if (x290==true&&x292==false)=true then polygon_ShortestEdge s0.Vertices else some default)
  fun (r293:Int)=>
  Let (decide (r293<(4096:Int))) fun (x294:Bool)=>
  Let (bif x292 then true else x294) fun (x295:Bool)=>
  Rx.Bind (if (x290==true&&x295==false)=true then polygon_Area s0.Vertices else some default) fun (r296:Int)=>
  Let (decide (r296<(256:Int))) fun (x297:Bool)=>
  Let (bif x295 then true else x297) fun (x298:Bool)=>
  Let (bif x290 then x298 else false) fun (x299:Bool)=>if x299=true then some (12:Int) else some (0:Int))))
  fun (j300:Bool→Option Int)=>
  Let (s0.Kind==(3:Int)) fun (x301:Bool)=>
  Let (s0.Radius != (0:Int)) fun (x302:Bool)=>
  Let (bif x301 then x302 else false) fun (x303:Bool)=>
  if x303=true then j300 x303
  else
  Let (s0.Kind != (3:Int)) fun (x304:Bool)=>
  Let (decide (s0.Radius<(2048:Int))) fun (x305:Bool)=>
  Let (decide (s0.Radius>(524288:Int))) fun (x306:Bool)=>
  Let (bif x305 then true else x306) fun (x307:Bool)=>
  Let (bif x304 then x307 else false) fun (x308:Bool)=>j300 x308
noncomputable def body_ValidateFixture (f0:Fixture):Option Int:=
  Rx.Bind (shape_Validate f0.Shape) fun (r309:Int)=>
  Let (r309 != (0:Int)) fun (x310:Bool)=>
  if x310=true then some r309
  else
  Rx.Bind (body_within f0.Density (0:Int) (262144:Int)) fun (r311:Bool)=>
  Rx.Bind (if (r311==true)=true then body_within f0.Friction (0:Int) (131072:Int) else some default)
  fun (r312:Bool)=>
  Let (bif r311 then r312 else false) fun (x313:Bool)=>
  Rx.Bind (if (x313==true)=true then body_within f0.Restitution (0:Int) (65536:Int) else some default)
  fun (r314:Bool)=>
  Let (bif x313 then r314 else false) fun (x315:Bool)=>
  Rx.Bind (body_within f0.Category (0:Int) (65535:Int)) fun (r316:Bool)=>
  Rx.Bind (if (r316==true)=true then body_within f0.Mask (0:Int) (65535:Int) else some default)
  fun (r317:Bool)=>
  Let (bif r316 then r317 else false) fun (x318:Bool)=>
  Rx.Bind (if (x318==true)=true then body_within f0.Group (-32:Int) (32:Int) else some default)
  fun (r319:Bool)=>
  Let (bif x318 then r319 else false) fun (x320:Bool)=>
  Let (!x315) fun (x321:Bool)=>
  Let (!x320) fun (x322:Bool)=>
  Let (bif x321 then true else x322) fun (x323:Bool)=>if x323=true then some (6:Int) else some (0:Int)
noncomputable def body_moving (b0:Body):Option Bool:=
  Let (!(decide (b0.Velocity.X=(0:Int))&&decide (b0.Velocity.Y=(0:Int)))) fun (x324:Bool)=>
  Let (b0.AngularVelocity != (0:Int)) fun (x325:Bool)=>
  Let (bif x324 then true else x325) fun (x326:Bool)=>some x326
noncomputable def body_consistent (b0:Body):Option Bool:=
  Let (!(decide (b0.Force.X=(0:Int))&&decide (b0.Force.Y=(0:Int)))) fun (x327:Bool)=>
  Let (b0.Torque != (0:Int)) fun (x328:Bool)=>
  Let (bif x327 then true else x328) fun (x329:Bool)=>
  Let (b0.Kind==(1:Int)) fun (x330:Bool)=>
  Rx.Bind (if (x330==true)=true then body_moving b0 else some default) fun (r331:Bool)=>
  Let (bif r331 then true else x329) fun (x332:Bool)=>
  Let (bif x330 then x332 else false) fun (x333:Bool)=>
  if x333=true then some false
  else
  Let (b0.Kind != (3:Int)) fun (x334:Bool)=>
  Let (bif b0.Asleep then true else b0.Bullet) fun (x335:Bool)=>
  Let (bif x334 then x335 else false) fun (x336:Bool)=>
  if x336=true then some false
  else
  Let (!b0.Asleep) fun (x337:Bool)=>
  Rx.Bind (if (x337==false)=true then body_moving b0 else some default) fun (r338:Bool)=>
  Let (!r338) fun (x339:Bool)=>Let (bif x337 then true else x339) fun (x340:Bool)=>some x340
noncomputable def body_Validate (b0:Body):Option Int:=
  Let (b0.Kind != (1:Int)) fun (x341:Bool)=>
  Let (b0.Kind != (2:Int)) fun (x342:Bool)=>
  Let (bif x341 then x342 else false) fun (x343:Bool)=>
  Let (b0.Kind != (3:Int)) fun (x344:Bool)=>
  Let (bif x343 then x344 else false) fun (x345:Bool)=>
  if x345=true then some (10:Int)
  else
  Rx.Bind (body_inRange b0) fun (r346:Bool)=>
  Let (!r346) fun (x347:Bool)=>
  if x347=true then some (6:Int)
  else
  Let (↑b0.Fixtures.length:Int) fun (x348:Int)=>
  Let (decide (x348>(4:Int))) fun (x349:Bool)=>
  if x349=true then some (11:Int)
  else
  Let (↑b0.Fixtures.length:Int) fun (x350:Int)=>
  LOOP
  (fun (rec351:Int→Option Int) (s352:Int)=>
  Let (decide (s352<x350)) fun (x353:Bool)=>
  if x353=true then
  Chk ((0:Int)≤s352∧s352<(↑b0.Fixtures.length:Int))
  (Let (ix b0.Fixtures s352) fun (x354:Fixture)=>
  Rx.Bind (body_ValidateFixture x354) fun (r355:Int)=>
  Let (r355 != (0:Int)) fun (x356:Bool)=>
  if x356=true then some (13:Int) else Let (IntKind.i64.wrap (s352+(1:Int))) fun (x357:Int)=>rec351 x357)
  else
  Rx.Bind (body_consistent b0) fun (r358:Bool)=>
  Let (!r358) fun (x359:Bool)=>if x359=true then some (14:Int) else some (0:Int))
  fuel (0:Int)
noncomputable def slices_Clone (s0:(List Body)):Option (List Body):=
  Rx.Alike (s0=[]) (some []) (Chk (s0.length*(152:Nat)≤(140737488355328:Nat)) (some s0))
noncomputable def slices_Clone_78 (s0:(List Joint)):Option (List Joint):=
  Rx.Alike (s0=[]) (some []) (Chk (s0.length*(192:Nat)≤(140737488355328:Nat)) (some s0))
noncomputable def slices_Clone_79 (s0:(List Contact)):Option (List Contact):=
  Rx.Alike (s0=[]) (some []) (Chk (s0.length*(72:Nat)≤(140737488355328:Nat)) (some s0))
noncomputable def slices_Clone_80 (s0:(List PairKey)):Option (List PairKey):=
  Rx.Alike (s0=[]) (some []) (Chk (s0.length*(32:Nat)≤(140737488355328:Nat)) (some s0))
noncomputable def slices_Clone_115 (s0:(List ContactPoint)):Option (List ContactPoint):=
  Rx.Alike (s0=[]) (some []) (Chk (s0.length*(48:Nat)≤(140737488355328:Nat)) (some s0))
noncomputable def manifold_Clone (m0:Manifold):Option Manifold:=
  Rx.Bind (slices_Clone_115 m0.Points) fun (r360:List ContactPoint)=>
  some { Normal:=m0.Normal,Points:=r360:Manifold }
noncomputable def world_Clone (w0:World_):Option World_:=
  Rx.Bind (slices_Clone w0.Bodies) fun (r361:List Body)=>
  Rx.Bind (slices_Clone_78 w0.Joints) fun (r362:List Joint)=>
  Rx.Bind (slices_Clone_79 w0.Contacts) fun (r363:List Contact)=>
  Rx.Bind (slices_Clone_80 w0.Overlaps) fun (r364:List PairKey)=>
  Let (↑r361.length:Int) fun (x365:Int)=>
  LOOP
  (fun (rec366:Int × List Body→Option World_) (s367:Int × List Body)=>
  Let (decide (s367.fst<x365)) fun (x368:Bool)=>
  if x368=true then
  Chk ((0:Int)≤s367.fst∧s367.fst<(↑(List.length s367.snd):Int))
  (Chk ((0:Int)≤s367.fst∧s367.fst<(↑(List.length s367.snd):Int))
  (Let (ix s367.snd s367.fst) fun (x369:Body)=>
  Rx.Bind (body_Clone x369) fun (r370:Body)=>
  Chk ((0:Int)≤s367.fst∧s367.fst<(↑(List.length s367.snd):Int))
  (Chk ((0:Int)≤s367.fst∧s367.fst<(↑(List.length s367.snd):Int))
  (Let (List.set s367.snd (Int.toNat s367.fst) r370) fun (x371:List Body)=>
  Let (IntKind.i64.wrap (s367.fst+(1:Int))) fun (x372:Int)=>rec366 (x372,x371)))))
  else
  Let (↑r363.length:Int) fun (x373:Int)=>
  LOOP
  (fun (rec374:Int × List Contact→Option World_) (s375:Int × List Contact)=>
  Let (decide (s375.fst<x373)) fun (x376:Bool)=>
  if x376=true then
  Chk ((0:Int)≤s375.fst∧s375.fst<(↑(List.length s375.snd):Int))
  (Chk ((0:Int)≤s375.fst∧s375.fst<(↑(List.length s375.snd):Int))
  (Let (ix s375.snd s375.fst) fun (x377:Contact)=>
  Rx.Bind (manifold_Clone x377.Manifold) fun (r378:Manifold)=>
  Chk ((0:Int)≤s375.fst∧s375.fst<(↑(List.length s375.snd):Int))
  (Chk ((0:Int)≤s375.fst∧s375.fst<(↑(List.length s375.snd):Int))
  (Let (List.set s375.snd (Int.toNat s375.fst) { Key:=(ix s375.snd s375.fst).Key,Manifold:=r378:Contact })
  fun (x379:List Contact)=>Let (IntKind.i64.wrap (s375.fst+(1:Int))) fun (x380:Int)=>rec374 (x380,x379)))))
  else
  some
  { Settings:=w0.Settings,Bodies:=s367.snd,Joints:=r362,Contacts:=s375.snd,Overlaps:=r364,NextID:=w0.NextID,Frame:=w0.Frame:World_ })
  fuel ((0:Int),r363))
  fuel ((0:Int),r361)
noncomputable def world_AddBody (w0:World_) (b1:Body):Option (World_ × Int × Int):=
  Let (↑w0.Bodies.length:Int) fun (x381:Int)=>
  Let (decide (x381≥(32:Int))) fun (x382:Bool)=>
  Let (decide (w0.NextID≥(1099511627776:Int))) fun (x383:Bool)=>
  Let (bif x382 then true else x383) fun (x384:Bool)=>
  if x384=true then
  some
  ({ Settings:={ TimeStep:=(0:Int),Gravity:={ X:=(0:Int),Y:=(0:Int):Vec },Iterations:=(0:Int),SleepSteps:=(0:Int):Settings },Bodies:=[],Joints:=[],Contacts:=[],Overlaps:=[],NextID:=(0:Int),Frame:=(0:Int):World_ },
  (0:Int),(9:Int))
  else
  Rx.Bind (body_Clone b1) fun (r385:Body)=>
  Rx.Bind
  (body_Validate
  { ID:=w0.NextID,Kind:=r385.Kind,Transform:=r385.Transform,Velocity:=r385.Velocity,AngularVelocity:=r385.AngularVelocity,Force:=r385.Force,Torque:=r385.Torque,LinearDamping:=r385.LinearDamping,AngularDamping:=r385.AngularDamping,GravityScale:=r385.GravityScale,Bullet:=r385.Bullet,FixedRotation:=r385.FixedRotation,NoSleep:=r385.NoSleep,Asleep:=r385.Asleep,IdleSteps:=r385.IdleSteps,Fixtures:=r385.Fixtures:Body })
  fun (r386:Int)=>
  Let (r386 != (0:Int)) fun (x387:Bool)=>
  if x387=true then
  some
  ({ Settings:={ TimeStep:=(0:Int),Gravity:={ X:=(0:Int),Y:=(0:Int):Vec },Iterations:=(0:Int),SleepSteps:=(0:Int):Settings },Bodies:=[],Joints:=[],Contacts:=[],Overlaps:=[],NextID:=(0:Int),Frame:=(0:Int):World_ },
  (0:Int),(14:Int))
  else
  Rx.Bind (world_Clone w0) fun (r388:World_)=>
  Chk
  ((r388.Bodies.length+
  [{ ID:=w0.NextID,Kind:=r385.Kind,Transform:=r385.Transform,Velocity:=r385.Velocity,AngularVelocity:=r385.AngularVelocity,Force:=r385.Force,Torque:=r385.Torque,LinearDamping:=r385.LinearDamping,AngularDamping:=r385.AngularDamping,GravityScale:=r385.GravityScale,Bullet:=r385.Bullet,FixedRotation:=r385.FixedRotation,NoSleep:=r385.NoSleep,Asleep:=r385.Asleep,IdleSteps:=r385.IdleSteps,Fixtures:=r385.Fixtures:Body }].length)*
  (152:Nat)≤
  (140737488355328:Nat))
  (Let
  (r388.Bodies++
  [{ ID:=w0.NextID,Kind:=r385.Kind,Transform:=r385.Transform,Velocity:=r385.Velocity,AngularVelocity:=r385.AngularVelocity,Force:=r385.Force,Torque:=r385.Torque,LinearDamping:=r385.LinearDamping,AngularDamping:=r385.AngularDamping,GravityScale:=r385.GravityScale,Bullet:=r385.Bullet,FixedRotation:=r385.FixedRotation,NoSleep:=r385.NoSleep,Asleep:=r385.Asleep,IdleSteps:=r385.IdleSteps,Fixtures:=r385.Fixtures:Body }])
  fun (x389:List Body)=>
  Let (IntKind.i64.wrap (r388.NextID+(1:Int))) fun (x390:Int)=>
  some
  ({ Settings:=r388.Settings,Bodies:=x389,Joints:=r388.Joints,Contacts:=r388.Contacts,Overlaps:=r388.Overlaps,NextID:=x390,Frame:=r388.Frame:World_ },
  w0.NextID,(0:Int)))
noncomputable def world_FindBody_1 (b0:Body) (p1:Int):Option Bool:=
  Let (b0.ID==p1) fun (x391:Bool)=>some x391
noncomputable def slices_IndexFunc (s0:(List Body)) (f1:(Body→Option Bool)):Option Int:=
  Let (↑s0.length:Int) fun (x392:Int)=>
  LOOP
  (fun (rec393:Int→Option Int) (s394:Int)=>
  Let (decide (s394<x392)) fun (x395:Bool)=>
  if x395=true then
  Chk ((0:Int)≤s394∧s394<(↑s0.length:Int))
  (Let (ix s0 s394) fun (x396:Body)=>
  Rx.Bind (f1 x396) fun (r397:Bool)=>
  if r397=true then some s394 else Let (IntKind.i64.wrap (s394+(1:Int))) fun (x398:Int)=>rec393 x398)
  else some (-1:Int))
  fuel (0:Int)
noncomputable def world_FindBody (w0:World_) (id1:Int):Option Int:=
  Rx.Bind (slices_IndexFunc w0.Bodies fun (a:Tup tb [Ix.tBody])=>world_FindBody_1 a id1) fun (r399:Int)=>some r399
noncomputable def world_RemoveBody_1 (k0:PairKey) (p1:Int):Option Bool:=
  Let (k0.BodyA==p1) fun (x400:Bool)=>
  Let (k0.BodyB==p1) fun (x401:Bool)=>Let (bif x400 then true else x401) fun (x402:Bool)=>some x402
noncomputable def joint_Attached (j0:Joint) (id1:Int):Option Bool:=
  Let (id1 != (0:Int)) fun (x403:Bool)=>
  Let (j0.BodyA==id1) fun (x404:Bool)=>
  Let (j0.BodyB==id1) fun (x405:Bool)=>
  Let (bif x404 then true else x405) fun (x406:Bool)=>
  Let (bif x403 then x406 else false) fun (x407:Bool)=>some x407
noncomputable def world_other (a0:Int) (b1:Int) (id2:Int):Option Int:=
  Let (a0==id2) fun (x408:Bool)=>if x408=true then some b1 else some a0
noncomputable def world_RemoveBody_2 (j0:Joint) (p1:Int):Option Bool:=
  Rx.Bind (joint_Attached j0 p1) fun (r409:Bool)=>some r409
noncomputable def slices_IndexFunc_69 (s0:(List Joint)) (f1:(Joint→Option Bool)):Option Int:=
  Let (↑s0.length:Int) fun (x410:Int)=>
  LOOP
  (fun (rec411:Int→Option Int) (s412:Int)=>
  Let (decide (s412<x410)) fun (x413:Bool)=>
  if x413=true then
  Chk ((0:Int)≤s412∧s412<(↑s0.length:Int))
  (Let (ix s0 s412) fun (x414:Joint)=>
  Rx.Bind (f1 x414) fun (r415:Bool)=>
  if r415=true then some s412 else Let (IntKind.i64.wrap (s412+(1:Int))) fun (x416:Int)=>rec411 x416)
  else some (-1:Int))
  fuel (0:Int)
noncomputable def slices_IndexFunc_101 (s0:(List PairKey)) (f1:(PairKey→Option Bool)):Option Int:=
  Let (↑s0.length:Int) fun (x417:Int)=>
  LOOP
  (fun (rec418:Int→Option Int) (s419:Int)=>
  Let (decide (s419<x417)) fun (x420:Bool)=>
  if x420=true then
  Chk ((0:Int)≤s419∧s419<(↑s0.length:Int))
  (Let (ix s0 s419) fun (x421:PairKey)=>
  Rx.Bind (f1 x421) fun (r422:Bool)=>
  if r422=true then some s419 else Let (IntKind.i64.wrap (s419+(1:Int))) fun (x423:Int)=>rec418 x423)
  else some (-1:Int))
  fuel (0:Int)
noncomputable def world_WakeBody (w0:World_) (id1:Int):Option World_:=
  Rx.Bind (world_Clone w0) fun (r424:World_)=>
  Join
  (fun (v425:List Body)=>
  some
  { Settings:=r424.Settings,Bodies:=v425,Joints:=r424.Joints,Contacts:=r424.Contacts,Overlaps:=r424.Overlaps,NextID:=r424.NextID,Frame:=r424.Frame:World_ })
  fun (j426:List Body→Option World_)=>
  Rx.Bind (world_FindBody r424 id1) fun (r427:Int)=>
  Let (decide (r427≥(0:Int))) fun (x428:Bool)=>
  Chk ((x428==true)=true→(0:Int)≤r427∧r427<(↑r424.Bodies.length:Int))
  (Chk ((x428==true)=true→(0:Int)≤r427∧r427<(↑r424.Bodies.length:Int))
  (Let (ix r424.Bodies r427) fun (x429:Body)=>
  Let (x429.Kind==(3:Int)) fun (x430:Bool)=>
  Let (bif x428 then x430 else false) fun (x431:Bool)=>
  if x431=true then
  Chk ((0:Int)≤r427∧r427<(↑r424.Bodies.length:Int))
  (Chk ((0:Int)≤r427∧r427<(↑r424.Bodies.length:Int))
  (Let
  (r424.Bodies.set r427.toNat
  { ID:=(ix r424.Bodies r427).ID,Kind:=(ix r424.Bodies r427).Kind,Transform:=(ix r424.Bodies r427).Transform,Velocity:=(ix r424.Bodies r427).Velocity,AngularVelocity:=(ix r424.Bodies r427).AngularVelocity,Force:=(ix r424.Bodies r427).Force,Torque:=(ix r424.Bodies r427).Torque,LinearDamping:=(ix r424.Bodies r427).LinearDamping,AngularDamping:=(ix r424.Bodies r427).AngularDamping,GravityScale:=(ix r424.Bodies r427).GravityScale,Bullet:=(ix r424.Bodies r427).Bullet,FixedRotation:=(ix r424.Bodies r427).FixedRotation,NoSleep:=(ix r424.Bodies r427).NoSleep,Asleep:=false,IdleSteps:=(ix r424.Bodies r427).IdleSteps,Fixtures:=(ix r424.Bodies r427).Fixtures:Body })
  fun (x432:List Body)=>
  Chk ((0:Int)≤r427∧r427<(↑x432.length:Int))
  (Chk ((0:Int)≤r427∧r427<(↑x432.length:Int))
  (Let
  (x432.set r427.toNat
  { ID:=(ix x432 r427).ID,Kind:=(ix x432 r427).Kind,Transform:=(ix x432 r427).Transform,Velocity:=(ix x432 r427).Velocity,AngularVelocity:=(ix x432 r427).AngularVelocity,Force:=(ix x432 r427).Force,Torque:=(ix x432 r427).Torque,LinearDamping:=(ix x432 r427).LinearDamping,AngularDamping:=(ix x432 r427).AngularDamping,GravityScale:=(ix x432 r427).GravityScale,Bullet:=(ix x432 r427).Bullet,FixedRotation:=(ix x432 r427).FixedRotation,NoSleep:=(ix x432 r427).NoSleep,Asleep:=(ix x432 r427).Asleep,IdleSteps:=(0:Int),Fixtures:=(ix x432 r427).Fixtures:Body })
  fun (x433:List Body)=>j426 x433))))
  else j426 r424.Bodies))
noncomputable def world_wakeAll (w0:World_) (ids1:(List Int)):Option World_:=
  Let (↑ids1.length:Int) fun (x434:Int)=>
  LOOP
  (fun (rec435:Int × World_→Option World_) (s436:Int × World_)=>
  Let (decide (s436.fst<x434)) fun (x437:Bool)=>
  if x437=true then
  Join (fun (v438:World_)=>Let (IntKind.i64.wrap (s436.fst+(1:Int))) fun (x439:Int)=>rec435 (x439,v438))
  fun (j440:World_→Option World_)=>
  Chk ((0:Int)≤s436.fst∧s436.fst<(↑ids1.length:Int))
  (Let (ix ids1 s436.fst) fun (x441:Int)=>
  Let (x441 != (0:Int)) fun (x442:Bool)=>
  if x442=true then Rx.Bind (world_WakeBody s436.snd x441) fun (r443:World_)=>j440 r443 else j440 s436.snd)
  else some s436.snd)
  fuel ((0:Int),w0)
noncomputable def world_RemoveBody (w0:World_) (id1:Int):Option (World_ × Int):=
  Rx.Bind (world_FindBody w0 id1) fun (r444:Int)=>
  Let (decide (r444<(0:Int))) fun (x445:Bool)=>
  if x445=true then
  some
  ({ Settings:={ TimeStep:=(0:Int),Gravity:={ X:=(0:Int),Y:=(0:Int):Vec },Iterations:=(0:Int),SleepSteps:=(0:Int):Settings },Bodies:=[],Joints:=[],Contacts:=[],Overlaps:=[],NextID:=(0:Int),Frame:=(0:Int):World_ },
  (8:Int))
  else
  Rx.Bind (world_Clone w0) fun (r446:World_)=>
  Let (↑r446.Joints.length:Int) fun (x447:Int)=>
  LOOP
  (fun (rec448:List Int × Int→Option (World_ × Int)) (s449:List Int × Int)=>
  Let (decide (s449.snd<x447)) fun (x450:Bool)=>
  if x450=true then
  Join (fun (v451:List Int)=>Let (IntKind.i64.wrap (s449.snd+(1:Int))) fun (x452:Int)=>rec448 (v451,x452))
  fun (j453:List Int→Option (World_ × Int))=>
  Chk ((0:Int)≤s449.snd∧s449.snd<(↑r446.Joints.length:Int))
  (Chk ((0:Int)≤s449.snd∧s449.snd<(↑r446.Joints.length:Int))
  (Let (ix r446.Joints s449.snd) fun (x454:Joint)=>
  Rx.Bind (joint_Attached x454 id1) fun (r455:Bool)=>
  if r455=true then
  Rx.Bind (world_other x454.BodyA x454.BodyB id1) fun (r456:Int)=>
  Chk ((List.length s449.fst+[r456].length)*(8:Nat)≤(140737488355328:Nat))
  (Let (s449.fst++[r456]) fun (x457:List Int)=>j453 x457)
  else j453 s449.fst))
  else
  Let (↑r446.Contacts.length:Int) fun (x458:Int)=>
  LOOP
  (fun (rec459:List Int × Int→Option (World_ × Int)) (s460:List Int × Int)=>
  Let (decide (s460.snd<x458)) fun (x461:Bool)=>
  if x461=true then
  Join (fun (v462:List Int)=>Let (IntKind.i64.wrap (s460.snd+(1:Int))) fun (x463:Int)=>rec459 (v462,x463))
  fun (j464:List Int→Option (World_ × Int))=>
  Chk ((0:Int)≤s460.snd∧s460.snd<(↑r446.Contacts.length:Int))
  (Chk ((0:Int)≤s460.snd∧s460.snd<(↑r446.Contacts.length:Int))
  (Let (ix r446.Contacts s460.snd) fun (x465:Contact)=>
  Rx.Bind (world_RemoveBody_1 x465.Key id1) fun (r466:Bool)=>
  if r466=true then
  Rx.Bind (world_other x465.Key.BodyA x465.Key.BodyB id1) fun (r467:Int)=>
  Chk ((List.length s460.fst+[r467].length)*(8:Nat)≤(140737488355328:Nat))
  (Let (s460.fst++[r467]) fun (x468:List Int)=>j464 x468)
  else j464 s460.fst))
  else
  Let (IntKind.i64.wrap (r444+(1:Int))) fun (x469:Int)=>
  Let (↑r446.Bodies.length:Int) fun (x470:Int)=>
  Chk ((0:Int)≤r444∧r444≤x469∧x469≤x470∧x470≤(↑r446.Bodies.length:Int))
  (Let (r444==x469) fun (x471:Bool)=>
  if x471=true then
  Rx.Bind (slices_IndexFunc_69 r446.Joints fun (a:Tup tb [Ix.tJoint])=>world_RemoveBody_2 a id1) fun (r472:Int)=>
  Let (r472==(-1:Int)) fun (x473:Bool)=>
  if x473=true then
  Let (↑r446.Contacts.length:Int) fun (x474:Int)=>
  LOOP
  (fun (rec475:Int→Option (World_ × Int)) (s476:Int)=>
  Let (decide (s476<x474)) fun (x477:Bool)=>
  if x477=true then
  Chk ((0:Int)≤s476∧s476<(↑r446.Contacts.length:Int))
  (Chk ((0:Int)≤s476∧s476<(↑r446.Contacts.length:Int))
  (Let (ix r446.Contacts s476) fun (x478:Contact)=>
  Rx.Bind (world_RemoveBody_1 x478.Key id1) fun (r479:Bool)=>
  if r479=true then
  Let (s476==(-1:Int)) fun (x480:Bool)=>
  if x480=true then
  Rx.Bind (slices_IndexFunc_101 r446.Overlaps fun (a:Tup tb [Ix.tPairKey])=>world_RemoveBody_1 a id1)
  fun (r481:Int)=>
  Let (r481==(-1:Int)) fun (x482:Bool)=>
  if x482=true then Rx.Bind (world_wakeAll r446 s460.fst) fun (r483:World_)=>some (r483,(0:Int))
  else
  Let (IntKind.i64.wrap (r481+(1:Int))) fun (x484:Int)=>
  LOOP
  (fun (rec485:Int × Int × List PairKey→Option (World_ × Int)) (s486:Int × Int × List PairKey)=>
  Let (↑(List.length s486.snd.snd):Int) fun (x487:Int)=>
  Let (decide (s486.snd.fst<x487)) fun (x488:Bool)=>
  if x488=true then
  Join
  (fun (v489:Int × List PairKey)=>
  Let (IntKind.i64.wrap (s486.snd.fst+(1:Int))) fun (x490:Int)=>rec485 (v489.fst,x490,v489.snd))
  fun (j491:Int × List PairKey→Option (World_ × Int))=>
  Chk ((0:Int)≤s486.snd.fst∧s486.snd.fst<(↑(List.length s486.snd.snd):Int))
  (Chk ((0:Int)≤s486.snd.fst∧s486.snd.fst<(↑(List.length s486.snd.snd):Int))
  (Let (ix s486.snd.snd s486.snd.fst) fun (x492:PairKey)=>
  Rx.Bind (world_RemoveBody_1 x492 id1) fun (r493:Bool)=>
  Let (!r493) fun (x494:Bool)=>
  if x494=true then
  Chk ((0:Int)≤s486.fst∧s486.fst<(↑(List.length s486.snd.snd):Int))
  (Chk ((0:Int)≤s486.fst∧s486.fst<(↑(List.length s486.snd.snd):Int))
  (Let (List.set s486.snd.snd (Int.toNat s486.fst) x492) fun (x495:List PairKey)=>
  Let (IntKind.i64.wrap (s486.fst+(1:Int))) fun (x496:Int)=>j491 (x496,x495)))
  else j491 (s486.fst,s486.snd.snd)))
  else
  Chk
  ((0:Int)≤(some s486.fst).getD (0:Int)∧
  (0:Int)≤none.getD (0:Int)∧
  Int.toNat s486.fst≤List.length s486.snd.snd∧List.length s486.snd.snd≤List.length s486.snd.snd)
  (Chk
  (Int.toNat s486.fst+(List.length s486.snd.snd - Int.toNat s486.fst)≤List.length s486.snd.snd∧
  (0:Nat)<List.length s486.snd.snd - Int.toNat s486.fst)
  (Let
  (List.take (Int.toNat s486.fst) s486.snd.snd++
  List.replicate (List.length s486.snd.snd - Int.toNat s486.fst)
  { BodyA:=(0:Int),FixtureA:=(0:Int),BodyB:=(0:Int),FixtureB:=(0:Int):PairKey }++
  List.drop (Int.toNat s486.fst+(List.length s486.snd.snd - Int.toNat s486.fst)) s486.snd.snd)
  fun (x497:List PairKey)=>
  Chk
  ((0:Int)≤none.getD (0:Int)∧
  (0:Int)≤(some s486.fst).getD (0:Int)∧(0:Nat)≤Int.toNat s486.fst∧Int.toNat s486.fst≤x497.length)
  (Chk (Int.toNat s486.fst - (0:Nat)≤x497.length)
  (Let (List.take (Int.toNat s486.fst - (0:Nat)) x497) fun (x498:List PairKey)=>
  Rx.Bind
  (world_wakeAll
  { Settings:=r446.Settings,Bodies:=r446.Bodies,Joints:=r446.Joints,Contacts:=r446.Contacts,Overlaps:=x498,NextID:=r446.NextID,Frame:=r446.Frame:World_ }
  s460.fst)
  fun (r499:World_)=>some (r499,(0:Int)))))))
  fuel (r481,x484,r446.Overlaps)
  else
  Let (IntKind.i64.wrap (s476+(1:Int))) fun (x500:Int)=>
  LOOP
  (fun (rec501:Int × Int × List Contact→Option (World_ × Int)) (s502:Int × Int × List Contact)=>
  Let (↑(List.length s502.snd.snd):Int) fun (x503:Int)=>
  Let (decide (s502.snd.fst<x503)) fun (x504:Bool)=>
  if x504=true then
  Join
  (fun (v505:Int × List Contact)=>
  Let (IntKind.i64.wrap (s502.snd.fst+(1:Int))) fun (x506:Int)=>rec501 (v505.fst,x506,v505.snd))
  fun (j507:Int × List Contact→Option (World_ × Int))=>
  Chk ((0:Int)≤s502.snd.fst∧s502.snd.fst<(↑(List.length s502.snd.snd):Int))
  (Chk ((0:Int)≤s502.snd.fst∧s502.snd.fst<(↑(List.length s502.snd.snd):Int))
  (Let (ix s502.snd.snd s502.snd.fst) fun (x508:Contact)=>
  Rx.Bind (world_RemoveBody_1 x508.Key id1) fun (r509:Bool)=>
  Let (!r509) fun (x510:Bool)=>
  if x510=true then
  Chk ((0:Int)≤s502.fst∧s502.fst<(↑(List.length s502.snd.snd):Int))
  (Chk ((0:Int)≤s502.fst∧s502.fst<(↑(List.length s502.snd.snd):Int))
  (Let (List.set s502.snd.snd (Int.toNat s502.fst) x508) fun (x511:List Contact)=>
  Let (IntKind.i64.wrap (s502.fst+(1:Int))) fun (x512:Int)=>j507 (x512,x511)))
  else j507 (s502.fst,s502.snd.snd)))
  else
  Chk
  ((0:Int)≤(some s502.fst).getD (0:Int)∧
  (0:Int)≤none.getD (0:Int)∧
  Int.toNat s502.fst≤List.length s502.snd.snd∧List.length s502.snd.snd≤List.length s502.snd.snd)
  (Chk
  (Int.toNat s502.fst+(List.length s502.snd.snd - Int.toNat s502.fst)≤List.length s502.snd.snd∧
  (0:Nat)<List.length s502.snd.snd - Int.toNat s502.fst)
  (Let
  (List.take (Int.toNat s502.fst) s502.snd.snd++
  List.replicate (List.length s502.snd.snd - Int.toNat s502.fst)
  { Key:={ BodyA:=(0:Int),FixtureA:=(0:Int),BodyB:=(0:Int),FixtureB:=(0:Int):PairKey },Manifold:={ Normal:={ X:=(0:Int),Y:=(0:Int):Vec },Points:=[]:Manifold }:Contact }++
  List.drop (Int.toNat s502.fst+(List.length s502.snd.snd - Int.toNat s502.fst)) s502.snd.snd)
  fun (x513:List Contact)=>
  Chk
  ((0:Int)≤none.getD (0:Int)∧
  (0:Int)≤(some s502.fst).getD (0:Int)∧(0:Nat)≤Int.toNat s502.fst∧Int.toNat s502.fst≤x513.length)
  (Chk (Int.toNat s502.fst - (0:Nat)≤x513.length)
  (Let (List.take (Int.toNat s502.fst - (0:Nat)) x513) fun (x514:List Contact)=>
  Rx.Bind (slices_IndexFunc_101 r446.Overlaps fun (a:Tup tb [Ix.tPairKey])=>world_RemoveBody_1 a id1)
  fun (r515:Int)=>
  Let (r515==(-1:Int)) fun (x516:Bool)=>
  if x516=true then
  Rx.Bind
  (world_wakeAll
  { Settings:=r446.Settings,Bodies:=r446.Bodies,Joints:=r446.Joints,Contacts:=x514,Overlaps:=r446.Overlaps,NextID:=r446.NextID,Frame:=r446.Frame:World_ }
  s460.fst)
  fun (r517:World_)=>some (r517,(0:Int))
  else
  Let (IntKind.i64.wrap (r515+(1:Int))) fun (x518:Int)=>
  LOOP
  (fun (rec519:Int × Int × List PairKey→Option (World_ × Int)) (s520:Int × Int × List PairKey)=>
  Let (↑(List.length s520.snd.snd):Int) fun (x521:Int)=>
  Let (decide (s520.snd.fst<x521)) fun (x522:Bool)=>
  if x522=true then
  Join
  (fun (v523:Int × List PairKey)=>
  Let (IntKind.i64.wrap (s520.snd.fst+(1:Int))) fun (x524:Int)=>rec519 (v523.fst,x524,v523.snd))
  fun (j525:Int × List PairKey→Option (World_ × Int))=>
  Chk ((0:Int)≤s520.snd.fst∧s520.snd.fst<(↑(List.length s520.snd.snd):Int))
  (Chk ((0:Int)≤s520.snd.fst∧s520.snd.fst<(↑(List.length s520.snd.snd):Int))
  (Let (ix s520.snd.snd s520.snd.fst) fun (x526:PairKey)=>
  Rx.Bind (world_RemoveBody_1 x526 id1) fun (r527:Bool)=>
  Let (!r527) fun (x528:Bool)=>
  if x528=true then
  Chk ((0:Int)≤s520.fst∧s520.fst<(↑(List.length s520.snd.snd):Int))
  (Chk ((0:Int)≤s520.fst∧s520.fst<(↑(List.length s520.snd.snd):Int))
  (Let (List.set s520.snd.snd (Int.toNat s520.fst) x526) fun (x529:List PairKey)=>
  Let (IntKind.i64.wrap (s520.fst+(1:Int))) fun (x530:Int)=>j525 (x530,x529)))
  else j525 (s520.fst,s520.snd.snd)))
  else
  Chk
  ((0:Int)≤(some s520.fst).getD (0:Int)∧
  (0:Int)≤none.getD (0:Int)∧
  Int.toNat s520.fst≤List.length s520.snd.snd∧List.length s520.snd.snd≤List.length s520.snd.snd)
  (Chk
  (Int.toNat s520.fst+(List.length s520.snd.snd - Int.toNat s520.fst)≤List.length s520.snd.snd∧
  (0:Nat)<List.length s520.snd.snd - Int.toNat s520.fst)
  (Let
  (List.take (Int.toNat s520.fst) s520.snd.snd++
  List.replicate (List.length s520.snd.snd - Int.toNat s520.fst)
  { BodyA:=(0:Int),FixtureA:=(0:Int),BodyB:=(0:Int),FixtureB:=(0:Int):PairKey }++
  List.drop (Int.toNat s520.fst+(List.length s520.snd.snd - Int.toNat s520.fst)) s520.snd.snd)
  fun (x531:List PairKey)=>
  Chk
  ((0:Int)≤none.getD (0:Int)∧
  (0:Int)≤(some s520.fst).getD (0:Int)∧(0:Nat)≤Int.toNat s520.fst∧Int.toNat s520.fst≤x531.length)
  (Chk (Int.toNat s520.fst - (0:Nat)≤x531.length)
  (Let (List.take (Int.toNat s520.fst - (0:Nat)) x531) fun (x532:List PairKey)=>
  Rx.Bind
  (world_wakeAll
  { Settings:=r446.Settings,Bodies:=r446.Bodies,Joints:=r446.Joints,Contacts:=x514,Overlaps:=x532,NextID:=r446.NextID,Frame:=r446.Frame:World_ }
  s460.fst)
  fun (r533:World_)=>some (r533,(0:Int)))))))
  fuel (r515,x518,r446.Overlaps))))))
  fuel (s476,x500,r446.Contacts)
  else Let (IntKind.i64.wrap (s476+(1:Int))) fun (x534:Int)=>rec475 x534))
  else
  Rx.Bind (slices_IndexFunc_101 r446.Overlaps fun (a:Tup tb [Ix.tPairKey])=>world_RemoveBody_1 a id1)
  fun (r535:Int)=>
  Let (r535==(-1:Int)) fun (x536:Bool)=>
  if x536=true then Rx.Bind (world_wakeAll r446 s460.fst) fun (r537:World_)=>some (r537,(0:Int))
  else
  Let (IntKind.i64.wrap (r535+(1:Int))) fun (x538:Int)=>
  LOOP
  (fun (rec539:Int × Int × List PairKey→Option (World_ × Int)) (s540:Int × Int × List PairKey)=>
  Let (↑(List.length s540.snd.snd):Int) fun (x541:Int)=>
  Let (decide (s540.snd.fst<x541)) fun (x542:Bool)=>
  if x542=true then
  Join
  (fun (v543:Int × List PairKey)=>
  Let (IntKind.i64.wrap (s540.snd.fst+(1:Int))) fun (x544:Int)=>rec539 (v543.fst,x544,v543.snd))
  fun (j545:Int × List PairKey→Option (World_ × Int))=>
  Chk ((0:Int)≤s540.snd.fst∧s540.snd.fst<(↑(List.length s540.snd.snd):Int))
  (Chk ((0:Int)≤s540.snd.fst∧s540.snd.fst<(↑(List.length s540.snd.snd):Int))
  (Let (ix s540.snd.snd s540.snd.fst) fun (x546:PairKey)=>
  Rx.Bind (world_RemoveBody_1 x546 id1) fun (r547:Bool)=>
  Let (!r547) fun (x548:Bool)=>
  if x548=true then
  Chk ((0:Int)≤s540.fst∧s540.fst<(↑(List.length s540.snd.snd):Int))
  (Chk ((0:Int)≤s540.fst∧s540.fst<(↑(List.length s540.snd.snd):Int))
  (Let (List.set s540.snd.snd (Int.toNat s540.fst) x546) fun (x549:List PairKey)=>
  Let (IntKind.i64.wrap (s540.fst+(1:Int))) fun (x550:Int)=>j545 (x550,x549)))
  else j545 (s540.fst,s540.snd.snd)))
  else
  Chk
  ((0:Int)≤(some s540.fst).getD (0:Int)∧
  (0:Int)≤none.getD (0:Int)∧
  Int.toNat s540.fst≤List.length s540.snd.snd∧List.length s540.snd.snd≤List.length s540.snd.snd)
  (Chk
  (Int.toNat s540.fst+(List.length s540.snd.snd - Int.toNat s540.fst)≤List.length s540.snd.snd∧
  (0:Nat)<List.length s540.snd.snd - Int.toNat s540.fst)
  (Let
  (List.take (Int.toNat s540.fst) s540.snd.snd++
  List.replicate (List.length s540.snd.snd - Int.toNat s540.fst)
  { BodyA:=(0:Int),FixtureA:=(0:Int),BodyB:=(0:Int),FixtureB:=(0:Int):PairKey }++
  List.drop (Int.toNat s540.fst+(List.length s540.snd.snd - Int.toNat s540.fst)) s540.snd.snd)
  fun (x551:List PairKey)=>
  Chk
  ((0:Int)≤none.getD (0:Int)∧
  (0:Int)≤(some s540.fst).getD (0:Int)∧(0:Nat)≤Int.toNat s540.fst∧Int.toNat s540.fst≤x551.length)
  (Chk (Int.toNat s540.fst - (0:Nat)≤x551.length)
  (Let (List.take (Int.toNat s540.fst - (0:Nat)) x551) fun (x552:List PairKey)=>
  Rx.Bind
  (world_wakeAll
  { Settings:=r446.Settings,Bodies:=r446.Bodies,Joints:=r446.Joints,Contacts:=r446.Contacts,Overlaps:=x552,NextID:=r446.NextID,Frame:=r446.Frame:World_ }
  s460.fst)
  fun (r553:World_)=>some (r553,(0:Int)))))))
  fuel (r535,x538,r446.Overlaps))
  fuel (0:Int)
  else
  Let (IntKind.i64.wrap (r472+(1:Int))) fun (x554:Int)=>
  LOOP
  (fun (rec555:Int × Int × List Joint→Option (World_ × Int)) (s556:Int × Int × List Joint)=>
  Let (↑(List.length s556.snd.snd):Int) fun (x557:Int)=>
  Let (decide (s556.snd.fst<x557)) fun (x558:Bool)=>
  if x558=true then
  Join
  (fun (v559:Int × List Joint)=>
  Let (IntKind.i64.wrap (s556.snd.fst+(1:Int))) fun (x560:Int)=>rec555 (v559.fst,x560,v559.snd))
  fun (j561:Int × List Joint→Option (World_ × Int))=>
  Chk ((0:Int)≤s556.snd.fst∧s556.snd.fst<(↑(List.length s556.snd.snd):Int))
  (Chk ((0:Int)≤s556.snd.fst∧s556.snd.fst<(↑(List.length s556.snd.snd):Int))
  (Let (ix s556.snd.snd s556.snd.fst) fun (x562:Joint)=>
  Rx.Bind (world_RemoveBody_2 x562 id1) fun (r563:Bool)=>
  Let (!r563) fun (x564:Bool)=>
  if x564=true then
  Chk ((0:Int)≤s556.fst∧s556.fst<(↑(List.length s556.snd.snd):Int))
  (Chk ((0:Int)≤s556.fst∧s556.fst<(↑(List.length s556.snd.snd):Int))
  (Let (List.set s556.snd.snd (Int.toNat s556.fst) x562) fun (x565:List Joint)=>
  Let (IntKind.i64.wrap (s556.fst+(1:Int))) fun (x566:Int)=>j561 (x566,x565)))
  else j561 (s556.fst,s556.snd.snd)))
  else
  Chk
  ((0:Int)≤(some s556.fst).getD (0:Int)∧
  (0:Int)≤none.getD (0:Int)∧
  Int.toNat s556.fst≤List.length s556.snd.snd∧List.length s556.snd.snd≤List.length s556.snd.snd)
  (Chk
  (Int.toNat s556.fst+(List.length s556.snd.snd - Int.toNat s556.fst)≤List.length s556.snd.snd∧
  (0:Nat)<List.length s556.snd.snd - Int.toNat s556.fst)
  (Let
  (List.take (Int.toNat s556.fst) s556.snd.snd++
  List.replicate (List.length s556.snd.snd - Int.toNat s556.fst)
  { ID:=(0:Int),Kind:=(0:Int),BodyA:=(0:Int),BodyB:=(0:Int),AnchorA:={ X:=(0:Int),Y:=(0:Int):Vec },AnchorB:={ X:=(0:Int),Y:=(0:Int):Vec },Axis:={ X:=(0:Int),Y:=(0:Int):Vec },ReferenceAngle:=(0:Int),EnableLimit:=false,Lower:=(0:Int),Upper:=(0:Int),EnableMotor:=false,MotorSpeed:=(0:Int),MaxForce:=(0:Int),Softness:=(0:Int),BreakForce:=(0:Int),CollideConnected:=false,Impulses:=((0:Int),(0:Int),(0:Int),(0:Int)):Joint }++
  List.drop (Int.toNat s556.fst+(List.length s556.snd.snd - Int.toNat s556.fst)) s556.snd.snd)
  fun (x567:List Joint)=>
  Chk
  ((0:Int)≤none.getD (0:Int)∧
  (0:Int)≤(some s556.fst).getD (0:Int)∧(0:Nat)≤Int.toNat s556.fst∧Int.toNat s556.fst≤x567.length)
  (Chk (Int.toNat s556.fst - (0:Nat)≤x567.length)
  (Let (List.take (Int.toNat s556.fst - (0:Nat)) x567) fun (x568:List Joint)=>
  Let (↑r446.Contacts.length:Int) fun (x569:Int)=>
  LOOP
  (fun (rec570:Int→Option (World_ × Int)) (s571:Int)=>
  Let (decide (s571<x569)) fun (x572:Bool)=>
  if x572=true then
  Chk ((0:Int)≤s571∧s571<(↑r446.Contacts.length:Int))
  (Chk ((0:Int)≤s571∧s571<(↑r446.Contacts.length:Int))
  (Let (ix r446.Contacts s571) fun (x573:Contact)=>
  Rx.Bind (world_RemoveBody_1 x573.Key id1) fun (r574:Bool)=>
  if r574=true then
  Let (s571==(-1:Int)) fun (x575:Bool)=>
  if x575=true then
  Rx.Bind (slices_IndexFunc_101 r446.Overlaps fun (a:Tup tb [Ix.tPairKey])=>world_RemoveBody_1 a id1)
  fun (r576:Int)=>
  Let (r576==(-1:Int)) fun (x577:Bool)=>
  if x577=true then
  Rx.Bind
  (world_wakeAll
  { Settings:=r446.Settings,Bodies:=r446.Bodies,Joints:=x568,Contacts:=r446.Contacts,Overlaps:=r446.Overlaps,NextID:=r446.NextID,Frame:=r446.Frame:World_ }
  s460.fst)
  fun (r578:World_)=>some (r578,(0:Int))
  else
  Let (IntKind.i64.wrap (r576+(1:Int))) fun (x579:Int)=>
  LOOP
  (fun (rec580:Int × Int × List PairKey→Option (World_ × Int)) (s581:Int × Int × List PairKey)=>
  Let (↑(List.length s581.snd.snd):Int) fun (x582:Int)=>
  Let (decide (s581.snd.fst<x582)) fun (x583:Bool)=>
  if x583=true then
  Join
  (fun (v584:Int × List PairKey)=>
  Let (IntKind.i64.wrap (s581.snd.fst+(1:Int))) fun (x585:Int)=>rec580 (v584.fst,x585,v584.snd))
  fun (j586:Int × List PairKey→Option (World_ × Int))=>
  Chk ((0:Int)≤s581.snd.fst∧s581.snd.fst<(↑(List.length s581.snd.snd):Int))
  (Chk ((0:Int)≤s581.snd.fst∧s581.snd.fst<(↑(List.length s581.snd.snd):Int))
  (Let (ix s581.snd.snd s581.snd.fst) fun (x587:PairKey)=>
  Rx.Bind (world_RemoveBody_1 x587 id1) fun (r588:Bool)=>
  Let (!r588) fun (x589:Bool)=>
  if x589=true then
  Chk ((0:Int)≤s581.fst∧s581.fst<(↑(List.length s581.snd.snd):Int))
  (Chk ((0:Int)≤s581.fst∧s581.fst<(↑(List.length s581.snd.snd):Int))
  (Let (List.set s581.snd.snd (Int.toNat s581.fst) x587) fun (x590:List PairKey)=>
  Let (IntKind.i64.wrap (s581.fst+(1:Int))) fun (x591:Int)=>j586 (x591,x590)))
  else j586 (s581.fst,s581.snd.snd)))
  else
  Chk
  ((0:Int)≤(some s581.fst).getD (0:Int)∧
  (0:Int)≤none.getD (0:Int)∧
  Int.toNat s581.fst≤List.length s581.snd.snd∧List.length s581.snd.snd≤List.length s581.snd.snd)
  (Chk
  (Int.toNat s581.fst+(List.length s581.snd.snd - Int.toNat s581.fst)≤List.length s581.snd.snd∧
  (0:Nat)<List.length s581.snd.snd - Int.toNat s581.fst)
  (Let
  (List.take (Int.toNat s581.fst) s581.snd.snd++
  List.replicate (List.length s581.snd.snd - Int.toNat s581.fst)
  { BodyA:=(0:Int),FixtureA:=(0:Int),BodyB:=(0:Int),FixtureB:=(0:Int):PairKey }++
  List.drop (Int.toNat s581.fst+(List.length s581.snd.snd - Int.toNat s581.fst)) s581.snd.snd)
  fun (x592:List PairKey)=>
  Chk
  ((0:Int)≤none.getD (0:Int)∧
  (0:Int)≤(some s581.fst).getD (0:Int)∧(0:Nat)≤Int.toNat s581.fst∧Int.toNat s581.fst≤x592.length)
  (Chk (Int.toNat s581.fst - (0:Nat)≤x592.length)
  (Let (List.take (Int.toNat s581.fst - (0:Nat)) x592) fun (x593:List PairKey)=>
  Rx.Bind
  (world_wakeAll
  { Settings:=r446.Settings,Bodies:=r446.Bodies,Joints:=x568,Contacts:=r446.Contacts,Overlaps:=x593,NextID:=r446.NextID,Frame:=r446.Frame:World_ }
  s460.fst)
  fun (r594:World_)=>some (r594,(0:Int)))))))
  fuel (r576,x579,r446.Overlaps)
  else
  Let (IntKind.i64.wrap (s571+(1:Int))) fun (x595:Int)=>
  LOOP
  (fun (rec596:Int × Int × List Contact→Option (World_ × Int)) (s597:Int × Int × List Contact)=>
  Let (↑(List.length s597.snd.snd):Int) fun (x598:Int)=>
  Let (decide (s597.snd.fst<x598)) fun (x599:Bool)=>
  if x599=true then
  Join
  (fun (v600:Int × List Contact)=>
  Let (IntKind.i64.wrap (s597.snd.fst+(1:Int))) fun (x601:Int)=>rec596 (v600.fst,x601,v600.snd))
  fun (j602:Int × List Contact→Option (World_ × Int))=>
  Chk ((0:Int)≤s597.snd.fst∧s597.snd.fst<(↑(List.length s597.snd.snd):Int))
  (Chk ((0:Int)≤s597.snd.fst∧s597.snd.fst<(↑(List.length s597.snd.snd):Int))
  (Let (ix s597.snd.snd s597.snd.fst) fun (x603:Contact)=>
  Rx.Bind (world_RemoveBody_1 x603.Key id1) fun (r604:Bool)=>
  Let (!r604) fun (x605:Bool)=>
  if x605=true then
  Chk ((0:Int)≤s597.fst∧s597.fst<(↑(List.length s597.snd.snd):Int))
  (Chk ((0:Int)≤s597.fst∧s597.fst<(↑(List.length s597.snd.snd):Int))
  (Let (List.set s597.snd.snd (Int.toNat s597.fst) x603) fun (x606:List Contact)=>
  Let (IntKind.i64.wrap (s597.fst+(1:Int))) fun (x607:Int)=>j602 (x607,x606)))
  else j602 (s597.fst,s597.snd.snd)))
  else
  Chk
  ((0:Int)≤(some s597.fst).getD (0:Int)∧
  (0:Int)≤none.getD (0:Int)∧
  Int.toNat s597.fst≤List.length s597.snd.snd∧List.length s597.snd.snd≤List.length s597.snd.snd)
  (Chk
  (Int.toNat s597.fst+(List.length s597.snd.snd - Int.toNat s597.fst)≤List.length s597.snd.snd∧
  (0:Nat)<List.length s597.snd.snd - Int.toNat s597.fst)
  (Let
  (List.take (Int.toNat s597.fst) s597.snd.snd++
  List.replicate (List.length s597.snd.snd - Int.toNat s597.fst)
  { Key:={ BodyA:=(0:Int),FixtureA:=(0:Int),BodyB:=(0:Int),FixtureB:=(0:Int):PairKey },Manifold:={ Normal:={ X:=(0:Int),Y:=(0:Int):Vec },Points:=[]:Manifold }:Contact }++
  List.drop (Int.toNat s597.fst+(List.length s597.snd.snd - Int.toNat s597.fst)) s597.snd.snd)
  fun (x608:List Contact)=>
  Chk
  ((0:Int)≤none.getD (0:Int)∧
  (0:Int)≤(some s597.fst).getD (0:Int)∧(0:Nat)≤Int.toNat s597.fst∧Int.toNat s597.fst≤x608.length)
  (Chk (Int.toNat s597.fst - (0:Nat)≤x608.length)
  (Let (List.take (Int.toNat s597.fst - (0:Nat)) x608) fun (x609:List Contact)=>
  Rx.Bind (slices_IndexFunc_101 r446.Overlaps fun (a:Tup tb [Ix.tPairKey])=>world_RemoveBody_1 a id1)
  fun (r610:Int)=>
  Let (r610==(-1:Int)) fun (x611:Bool)=>
  if x611=true then
  Rx.Bind
  (world_wakeAll
  { Settings:=r446.Settings,Bodies:=r446.Bodies,Joints:=x568,Contacts:=x609,Overlaps:=r446.Overlaps,NextID:=r446.NextID,Frame:=r446.Frame:World_ }
  s460.fst)
  fun (r612:World_)=>some (r612,(0:Int))
  else
  Let (IntKind.i64.wrap (r610+(1:Int))) fun (x613:Int)=>
  LOOP
  (fun (rec614:Int × Int × List PairKey→Option (World_ × Int)) (s615:Int × Int × List PairKey)=>
  Let (↑(List.length s615.snd.snd):Int) fun (x616:Int)=>
  Let (decide (s615.snd.fst<x616)) fun (x617:Bool)=>
  if x617=true then
  Join
  (fun (v618:Int × List PairKey)=>
  Let (IntKind.i64.wrap (s615.snd.fst+(1:Int))) fun (x619:Int)=>rec614 (v618.fst,x619,v618.snd))
  fun (j620:Int × List PairKey→Option (World_ × Int))=>
  Chk ((0:Int)≤s615.snd.fst∧s615.snd.fst<(↑(List.length s615.snd.snd):Int))
  (Chk ((0:Int)≤s615.snd.fst∧s615.snd.fst<(↑(List.length s615.snd.snd):Int))
  (Let (ix s615.snd.snd s615.snd.fst) fun (x621:PairKey)=>
  Rx.Bind (world_RemoveBody_1 x621 id1) fun (r622:Bool)=>
  Let (!r622) fun (x623:Bool)=>
  if x623=true then
  Chk ((0:Int)≤s615.fst∧s615.fst<(↑(List.length s615.snd.snd):Int))
  (Chk ((0:Int)≤s615.fst∧s615.fst<(↑(List.length s615.snd.snd):Int))
  (Let (List.set s615.snd.snd (Int.toNat s615.fst) x621) fun (x624:List PairKey)=>
  Let (IntKind.i64.wrap (s615.fst+(1:Int))) fun (x625:Int)=>j620 (x625,x624)))
  else j620 (s615.fst,s615.snd.snd)))
  else
  Chk
  ((0:Int)≤(some s615.fst).getD (0:Int)∧
  (0:Int)≤none.getD (0:Int)∧
  Int.toNat s615.fst≤List.length s615.snd.snd∧List.length s615.snd.snd≤List.length s615.snd.snd)
  (Chk
  (Int.toNat s615.fst+(List.length s615.snd.snd - Int.toNat s615.fst)≤List.length s615.snd.snd∧
  (0:Nat)<List.length s615.snd.snd - Int.toNat s615.fst)
  (Let
  (List.take (Int.toNat s615.fst) s615.snd.snd++
  List.replicate (List.length s615.snd.snd - Int.toNat s615.fst)
  { BodyA:=(0:Int),FixtureA:=(0:Int),BodyB:=(0:Int),FixtureB:=(0:Int):PairKey }++
  List.drop (Int.toNat s615.fst+(List.length s615.snd.snd - Int.toNat s615.fst)) s615.snd.snd)
  fun (x626:List PairKey)=>
  Chk
  ((0:Int)≤none.getD (0:Int)∧
  (0:Int)≤(some s615.fst).getD (0:Int)∧(0:Nat)≤Int.toNat s615.fst∧Int.toNat s615.fst≤x626.length)
  (Chk (Int.toNat s615.fst - (0:Nat)≤x626.length)
  (Let (List.take (Int.toNat s615.fst - (0:Nat)) x626) fun (x627:List PairKey)=>
  Rx.Bind
  (world_wakeAll
  { Settings:=r446.Settings,Bodies:=r446.Bodies,Joints:=x568,Contacts:=x609,Overlaps:=x627,NextID:=r446.NextID,Frame:=r446.Frame:World_ }
  s460.fst)
  fun (r628:World_)=>some (r628,(0:Int)))))))
  fuel (r610,x613,r446.Overlaps))))))
  fuel (s571,x595,r446.Contacts)
  else Let (IntKind.i64.wrap (s571+(1:Int))) fun (x629:Int)=>rec570 x629))
  else
  Rx.Bind (slices_IndexFunc_101 r446.Overlaps fun (a:Tup tb [Ix.tPairKey])=>world_RemoveBody_1 a id1)
  fun (r630:Int)=>
  Let (r630==(-1:Int)) fun (x631:Bool)=>
  if x631=true then
  Rx.Bind
  (world_wakeAll
  { Settings:=r446.Settings,Bodies:=r446.Bodies,Joints:=x568,Contacts:=r446.Contacts,Overlaps:=r446.Overlaps,NextID:=r446.NextID,Frame:=r446.Frame:World_ }
  s460.fst)
  fun (r632:World_)=>some (r632,(0:Int))
  else
  Let (IntKind.i64.wrap (r630+(1:Int))) fun (x633:Int)=>
  LOOP
  (fun (rec634:Int × Int × List PairKey→Option (World_ × Int)) (s635:Int × Int × List PairKey)=>
  Let (↑(List.length s635.snd.snd):Int) fun (x636:Int)=>
  Let (decide (s635.snd.fst<x636)) fun (x637:Bool)=>
  if x637=true then
  Join
  (fun (v638:Int × List PairKey)=>
  Let (IntKind.i64.wrap (s635.snd.fst+(1:Int))) fun (x639:Int)=>rec634 (v638.fst,x639,v638.snd))
  fun (j640:Int × List PairKey→Option (World_ × Int))=>
  Chk ((0:Int)≤s635.snd.fst∧s635.snd.fst<(↑(List.length s635.snd.snd):Int))
  (Chk ((0:Int)≤s635.snd.fst∧s635.snd.fst<(↑(List.length s635.snd.snd):Int))
  (Let (ix s635.snd.snd s635.snd.fst) fun (x641:PairKey)=>
  Rx.Bind (world_RemoveBody_1 x641 id1) fun (r642:Bool)=>
  Let (!r642) fun (x643:Bool)=>
  if x643=true then
  Chk ((0:Int)≤s635.fst∧s635.fst<(↑(List.length s635.snd.snd):Int))
  (Chk ((0:Int)≤s635.fst∧s635.fst<(↑(List.length s635.snd.snd):Int))
  (Let (List.set s635.snd.snd (Int.toNat s635.fst) x641) fun (x644:List PairKey)=>
  Let (IntKind.i64.wrap (s635.fst+(1:Int))) fun (x645:Int)=>j640 (x645,x644)))
  else j640 (s635.fst,s635.snd.snd)))
  else
  Chk
  ((0:Int)≤(some s635.fst).getD (0:Int)∧
  (0:Int)≤none.getD (0:Int)∧
  Int.toNat s635.fst≤List.length s635.snd.snd∧List.length s635.snd.snd≤List.length s635.snd.snd)
  (Chk
  (Int.toNat s635.fst+(List.length s635.snd.snd - Int.toNat s635.fst)≤List.length s635.snd.snd∧
  (0:Nat)<List.length s635.snd.snd - Int.toNat s635.fst)
  (Let
  (List.take (Int.toNat s635.fst) s635.snd.snd++
  List.replicate (List.length s635.snd.snd - Int.toNat s635.fst)
  { BodyA:=(0:Int),FixtureA:=(0:Int),BodyB:=(0:Int),FixtureB:=(0:Int):PairKey }++
  List.drop (Int.toNat s635.fst+(List.length s635.snd.snd - Int.toNat s635.fst)) s635.snd.snd)
  fun (x646:List PairKey)=>
  Chk
  ((0:Int)≤none.getD (0:Int)∧
  (0:Int)≤(some s635.fst).getD (0:Int)∧(0:Nat)≤Int.toNat s635.fst∧Int.toNat s635.fst≤x646.length)
  (Chk (Int.toNat s635.fst - (0:Nat)≤x646.length)
  (Let (List.take (Int.toNat s635.fst - (0:Nat)) x646) fun (x647:List PairKey)=>
  Rx.Bind
  (world_wakeAll
  { Settings:=r446.Settings,Bodies:=r446.Bodies,Joints:=x568,Contacts:=r446.Contacts,Overlaps:=x647,NextID:=r446.NextID,Frame:=r446.Frame:World_ }
  s460.fst)
  fun (r648:World_)=>some (r648,(0:Int)))))))
  fuel (r630,x633,r446.Overlaps))
  fuel (0:Int))))))
  fuel (r472,x554,r446.Joints)
  else
  Let (↑r446.Bodies.length:Int) fun (x649:Int)=>
  Chk
  ((0:Int)≤none.getD (0:Int)∧
  (0:Int)≤(some r444).getD (0:Int)∧(0:Nat)≤r444.toNat∧r444.toNat≤r446.Bodies.length)
  (Chk
  ((0:Int)≤(some x469).getD (0:Int)∧
  (0:Int)≤none.getD (0:Int)∧x469.toNat≤r446.Bodies.length∧r446.Bodies.length≤r446.Bodies.length)
  (Chk (x469.toNat+(r446.Bodies.length - x469.toNat)≤r446.Bodies.length)
  (Let (List.take (r446.Bodies.length - x469.toNat) (List.drop x469.toNat r446.Bodies)) fun (x650:List Body)=>
  Chk
  ((0:Nat)+(r444.toNat - (0:Nat)+x650.length)≤r446.Bodies.length∧
  r444.toNat - (0:Nat)+x650.length≤r446.Bodies.length - (0:Nat)∧(0:Nat)<r446.Bodies.length - (0:Nat))
  (Let
  (List.take ((0:Nat)+(r444.toNat - (0:Nat))) r446.Bodies++x650++
  List.drop ((0:Nat)+(r444.toNat - (0:Nat))+x650.length) r446.Bodies)
  fun (x651:List Body)=>
  Chk
  ((0:Int)≤(some (↑(r444.toNat - (0:Nat)+x650.length):Int)).getD (0:Int)∧
  (0:Int)≤(some x649).getD (0:Int)∧
  (↑(r444.toNat - (0:Nat)+x650.length):Int).toNat≤x649.toNat∧
  x649.toNat≤r446.Bodies.length - (0:Nat)∧r444.toNat - (0:Nat)+x650.length≤r446.Bodies.length - (0:Nat))
  (Chk
  ((0:Nat)+(↑(r444.toNat - (0:Nat)+x650.length):Int).toNat+
  (x649.toNat - (↑(r444.toNat - (0:Nat)+x650.length):Int).toNat)≤
  x651.length∧
  (0:Nat)<r446.Bodies.length - (0:Nat) - (↑(r444.toNat - (0:Nat)+x650.length):Int).toNat)
  (Let
  (List.take ((0:Nat)+(↑(r444.toNat - (0:Nat)+x650.length):Int).toNat) x651++
  List.replicate (x649.toNat - (↑(r444.toNat - (0:Nat)+x650.length):Int).toNat)
  { ID:=(0:Int),Kind:=(0:Int),Transform:={ Position:={ X:=(0:Int),Y:=(0:Int):Vec },Angle:=(0:Int):Transform },Velocity:={ X:=(0:Int),Y:=(0:Int):Vec },AngularVelocity:=(0:Int),Force:={ X:=(0:Int),Y:=(0:Int):Vec },Torque:=(0:Int),LinearDamping:=(0:Int),AngularDamping:=(0:Int),GravityScale:=(0:Int),Bullet:=false,FixedRotation:=false,NoSleep:=false,Asleep:=false,IdleSteps:=(0:Int),Fixtures:=[]:Body }++
  List.drop
  ((0:Nat)+(↑(r444.toNat - (0:Nat)+x650.length):Int).toNat+
  (x649.toNat - (↑(r444.toNat - (0:Nat)+x650.length):Int).toNat))
  x651)
  fun (x652:List Body)=>
  Chk (r444.toNat - (0:Nat)+x650.length≤x652.length)
  (Let (List.take (r444.toNat - (0:Nat)+x650.length) x652) fun (x653:List Body)=>
  Rx.Bind (slices_IndexFunc_69 r446.Joints fun (a:Tup tb [Ix.tJoint])=>world_RemoveBody_2 a id1) fun (r654:Int)=>
  Let (r654==(-1:Int)) fun (x655:Bool)=>
  if x655=true then
  Let (↑r446.Contacts.length:Int) fun (x656:Int)=>
  LOOP
  (fun (rec657:Int→Option (World_ × Int)) (s658:Int)=>
  Let (decide (s658<x656)) fun (x659:Bool)=>
  if x659=true then
  Chk ((0:Int)≤s658∧s658<(↑r446.Contacts.length:Int))
  (Chk ((0:Int)≤s658∧s658<(↑r446.Contacts.length:Int))
  (Let (ix r446.Contacts s658) fun (x660:Contact)=>
  Rx.Bind (world_RemoveBody_1 x660.Key id1) fun (r661:Bool)=>
  if r661=true then
  Let (s658==(-1:Int)) fun (x662:Bool)=>
  if x662=true then
  Rx.Bind (slices_IndexFunc_101 r446.Overlaps fun (a:Tup tb [Ix.tPairKey])=>world_RemoveBody_1 a id1)
  fun (r663:Int)=>
  Let (r663==(-1:Int)) fun (x664:Bool)=>
  if x664=true then
  Rx.Bind
  (world_wakeAll
  { Settings:=r446.Settings,Bodies:=x653,Joints:=r446.Joints,Contacts:=r446.Contacts,Overlaps:=r446.Overlaps,NextID:=r446.NextID,Frame:=r446.Frame:World_ }
  s460.fst)
  fun (r665:World_)=>some (r665,(0:Int))
  else
  Let (IntKind.i64.wrap (r663+(1:Int))) fun (x666:Int)=>
  LOOP
  (fun (rec667:Int × Int × List PairKey→Option (World_ × Int)) (s668:Int × Int × List PairKey)=>
  Let (↑(List.length s668.snd.snd):Int) fun (x669:Int)=>
  Let (decide (s668.snd.fst<x669)) fun (x670:Bool)=>
  if x670=true then
  Join
  (fun (v671:Int × List PairKey)=>
  Let (IntKind.i64.wrap (s668.snd.fst+(1:Int))) fun (x672:Int)=>rec667 (v671.fst,x672,v671.snd))
  fun (j673:Int × List PairKey→Option (World_ × Int))=>
  Chk ((0:Int)≤s668.snd.fst∧s668.snd.fst<(↑(List.length s668.snd.snd):Int))
  (Chk ((0:Int)≤s668.snd.fst∧s668.snd.fst<(↑(List.length s668.snd.snd):Int))
  (Let (ix s668.snd.snd s668.snd.fst) fun (x674:PairKey)=>
  Rx.Bind (world_RemoveBody_1 x674 id1) fun (r675:Bool)=>
  Let (!r675) fun (x676:Bool)=>
  if x676=true then
  Chk ((0:Int)≤s668.fst∧s668.fst<(↑(List.length s668.snd.snd):Int))
  (Chk ((0:Int)≤s668.fst∧s668.fst<(↑(List.length s668.snd.snd):Int))
  (Let (List.set s668.snd.snd (Int.toNat s668.fst) x674) fun (x677:List PairKey)=>
  Let (IntKind.i64.wrap (s668.fst+(1:Int))) fun (x678:Int)=>j673 (x678,x677)))
  else j673 (s668.fst,s668.snd.snd)))
  else
  Chk
  ((0:Int)≤(some s668.fst).getD (0:Int)∧
  (0:Int)≤none.getD (0:Int)∧
  Int.toNat s668.fst≤List.length s668.snd.snd∧List.length s668.snd.snd≤List.length s668.snd.snd)
  (Chk
  (Int.toNat s668.fst+(List.length s668.snd.snd - Int.toNat s668.fst)≤List.length s668.snd.snd∧
  (0:Nat)<List.length s668.snd.snd - Int.toNat s668.fst)
  (Let
  (List.take (Int.toNat s668.fst) s668.snd.snd++
  List.replicate (List.length s668.snd.snd - Int.toNat s668.fst)
  { BodyA:=(0:Int),FixtureA:=(0:Int),BodyB:=(0:Int),FixtureB:=(0:Int):PairKey }++
  List.drop (Int.toNat s668.fst+(List.length s668.snd.snd - Int.toNat s668.fst)) s668.snd.snd)
  fun (x679:List PairKey)=>
  Chk
  ((0:Int)≤none.getD (0:Int)∧
  (0:Int)≤(some s668.fst).getD (0:Int)∧(0:Nat)≤Int.toNat s668.fst∧Int.toNat s668.fst≤x679.length)
  (Chk (Int.toNat s668.fst - (0:Nat)≤x679.length)
  (Let (List.take (Int.toNat s668.fst - (0:Nat)) x679) fun (x680:List PairKey)=>
  Rx.Bind
  (world_wakeAll
  { Settings:=r446.Settings,Bodies:=x653,Joints:=r446.Joints,Contacts:=r446.Contacts,Overlaps:=x680,NextID:=r446.NextID,Frame:=r446.Frame:World_ }
  s460.fst)
  fun (r681:World_)=>some (r681,(0:Int)))))))
  fuel (r663,x666,r446.Overlaps)
  else
  Let (IntKind.i64.wrap (s658+(1:Int))) fun (x682:Int)=>
  LOOP
  (fun (rec683:Int × Int × List Contact→Option (World_ × Int)) (s684:Int × Int × List Contact)=>
  Let (↑(List.length s684.snd.snd):Int) fun (x685:Int)=>
  Let (decide (s684.snd.fst<x685)) fun (x686:Bool)=>
  if x686=true then
  Join
  (fun (v687:Int × List Contact)=>
  Let (IntKind.i64.wrap (s684.snd.fst+(1:Int))) fun (x688:Int)=>rec683 (v687.fst,x688,v687.snd))
  fun (j689:Int × List Contact→Option (World_ × Int))=>
  Chk ((0:Int)≤s684.snd.fst∧s684.snd.fst<(↑(List.length s684.snd.snd):Int))
  (Chk ((0:Int)≤s684.snd.fst∧s684.snd.fst<(↑(List.length s684.snd.snd):Int))
  (Let (ix s684.snd.snd s684.snd.fst) fun (x690:Contact)=>
  Rx.Bind (world_RemoveBody_1 x690.Key id1) fun (r691:Bool)=>
  Let (!r691) fun (x692:Bool)=>
  if x692=true then
  Chk ((0:Int)≤s684.fst∧s684.fst<(↑(List.length s684.snd.snd):Int))
  (Chk ((0:Int)≤s684.fst∧s684.fst<(↑(List.length s684.snd.snd):Int))
  (Let (List.set s684.snd.snd (Int.toNat s684.fst) x690) fun (x693:List Contact)=>
  Let (IntKind.i64.wrap (s684.fst+(1:Int))) fun (x694:Int)=>j689 (x694,x693)))
  else j689 (s684.fst,s684.snd.snd)))
  else
  Chk
  ((0:Int)≤(some s684.fst).getD (0:Int)∧
  (0:Int)≤none.getD (0:Int)∧
  Int.toNat s684.fst≤List.length s684.snd.snd∧List.length s684.snd.snd≤List.length s684.snd.snd)
  (Chk
  (Int.toNat s684.fst+(List.length s684.snd.snd - Int.toNat s684.fst)≤List.length s684.snd.snd∧
  (0:Nat)<List.length s684.snd.snd - Int.toNat s684.fst)
  (Let
  (List.take (Int.toNat s684.fst) s684.snd.snd++
  List.replicate (List.length s684.snd.snd - Int.toNat s684.fst)
  { Key:={ BodyA:=(0:Int),FixtureA:=(0:Int),BodyB:=(0:Int),FixtureB:=(0:Int):PairKey },Manifold:={ Normal:={ X:=(0:Int),Y:=(0:Int):Vec },Points:=[]:Manifold }:Contact }++
  List.drop (Int.toNat s684.fst+(List.length s684.snd.snd - Int.toNat s684.fst)) s684.snd.snd)
  fun (x695:List Contact)=>
  Chk
  ((0:Int)≤none.getD (0:Int)∧
  (0:Int)≤(some s684.fst).getD (0:Int)∧(0:Nat)≤Int.toNat s684.fst∧Int.toNat s684.fst≤x695.length)
  (Chk (Int.toNat s684.fst - (0:Nat)≤x695.length)
  (Let (List.take (Int.toNat s684.fst - (0:Nat)) x695) fun (x696:List Contact)=>
  Rx.Bind (slices_IndexFunc_101 r446.Overlaps fun (a:Tup tb [Ix.tPairKey])=>world_RemoveBody_1 a id1)
  fun (r697:Int)=>
  Let (r697==(-1:Int)) fun (x698:Bool)=>
  if x698=true then
  Rx.Bind
  (world_wakeAll
  { Settings:=r446.Settings,Bodies:=x653,Joints:=r446.Joints,Contacts:=x696,Overlaps:=r446.Overlaps,NextID:=r446.NextID,Frame:=r446.Frame:World_ }
  s460.fst)
  fun (r699:World_)=>some (r699,(0:Int))
  else
  Let (IntKind.i64.wrap (r697+(1:Int))) fun (x700:Int)=>
  LOOP
  (fun (rec701:Int × Int × List PairKey→Option (World_ × Int)) (s702:Int × Int × List PairKey)=>
  Let (↑(List.length s702.snd.snd):Int) fun (x703:Int)=>
  Let (decide (s702.snd.fst<x703)) fun (x704:Bool)=>
  if x704=true then
  Join
  (fun (v705:Int × List PairKey)=>
  Let (IntKind.i64.wrap (s702.snd.fst+(1:Int))) fun (x706:Int)=>rec701 (v705.fst,x706,v705.snd))
  fun (j707:Int × List PairKey→Option (World_ × Int))=>
  Chk ((0:Int)≤s702.snd.fst∧s702.snd.fst<(↑(List.length s702.snd.snd):Int))
  (Chk ((0:Int)≤s702.snd.fst∧s702.snd.fst<(↑(List.length s702.snd.snd):Int))
  (Let (ix s702.snd.snd s702.snd.fst) fun (x708:PairKey)=>
  Rx.Bind (world_RemoveBody_1 x708 id1) fun (r709:Bool)=>
  Let (!r709) fun (x710:Bool)=>
  if x710=true then
  Chk ((0:Int)≤s702.fst∧s702.fst<(↑(List.length s702.snd.snd):Int))
  (Chk ((0:Int)≤s702.fst∧s702.fst<(↑(List.length s702.snd.snd):Int))
  (Let (List.set s702.snd.snd (Int.toNat s702.fst) x708) fun (x711:List PairKey)=>
  Let (IntKind.i64.wrap (s702.fst+(1:Int))) fun (x712:Int)=>j707 (x712,x711)))
  else j707 (s702.fst,s702.snd.snd)))
  else
  Chk
  ((0:Int)≤(some s702.fst).getD (0:Int)∧
  (0:Int)≤none.getD (0:Int)∧
  Int.toNat s702.fst≤List.length s702.snd.snd∧List.length s702.snd.snd≤List.length s702.snd.snd)
  (Chk
  (Int.toNat s702.fst+(List.length s702.snd.snd - Int.toNat s702.fst)≤List.length s702.snd.snd∧
  (0:Nat)<List.length s702.snd.snd - Int.toNat s702.fst)
  (Let
  (List.take (Int.toNat s702.fst) s702.snd.snd++
  List.replicate (List.length s702.snd.snd - Int.toNat s702.fst)
  { BodyA:=(0:Int),FixtureA:=(0:Int),BodyB:=(0:Int),FixtureB:=(0:Int):PairKey }++
  List.drop (Int.toNat s702.fst+(List.length s702.snd.snd - Int.toNat s702.fst)) s702.snd.snd)
  fun (x713:List PairKey)=>
  Chk
  ((0:Int)≤none.getD (0:Int)∧
  (0:Int)≤(some s702.fst).getD (0:Int)∧(0:Nat)≤Int.toNat s702.fst∧Int.toNat s702.fst≤x713.length)
  (Chk (Int.toNat s702.fst - (0:Nat)≤x713.length)
  (Let (List.take (Int.toNat s702.fst - (0:Nat)) x713) fun (x714:List PairKey)=>
  Rx.Bind
  (world_wakeAll
  { Settings:=r446.Settings,Bodies:=x653,Joints:=r446.Joints,Contacts:=x696,Overlaps:=x714,NextID:=r446.NextID,Frame:=r446.Frame:World_ }
  s460.fst)
  fun (r715:World_)=>some (r715,(0:Int)))))))
  fuel (r697,x700,r446.Overlaps))))))
  fuel (s658,x682,r446.Contacts)
  else Let (IntKind.i64.wrap (s658+(1:Int))) fun (x716:Int)=>rec657 x716))
  else
  Rx.Bind (slices_IndexFunc_101 r446.Overlaps fun (a:Tup tb [Ix.tPairKey])=>world_RemoveBody_1 a id1)
  fun (r717:Int)=>
  Let (r717==(-1:Int)) fun (x718:Bool)=>
  if x718=true then
  Rx.Bind
  (world_wakeAll
  { Settings:=r446.Settings,Bodies:=x653,Joints:=r446.Joints,Contacts:=r446.Contacts,Overlaps:=r446.Overlaps,NextID:=r446.NextID,Frame:=r446.Frame:World_ }
  s460.fst)
  fun (r719:World_)=>some (r719,(0:Int))
  else
  Let (IntKind.i64.wrap (r717+(1:Int))) fun (x720:Int)=>
  LOOP
  (fun (rec721:Int × Int × List PairKey→Option (World_ × Int)) (s722:Int × Int × List PairKey)=>
  Let (↑(List.length s722.snd.snd):Int) fun (x723:Int)=>
  Let (decide (s722.snd.fst<x723)) fun (x724:Bool)=>
  if x724=true then
  Join
  (fun (v725:Int × List PairKey)=>
  Let (IntKind.i64.wrap (s722.snd.fst+(1:Int))) fun (x726:Int)=>rec721 (v725.fst,x726,v725.snd))
  fun (j727:Int × List PairKey→Option (World_ × Int))=>
  Chk ((0:Int)≤s722.snd.fst∧s722.snd.fst<(↑(List.length s722.snd.snd):Int))
  (Chk ((0:Int)≤s722.snd.fst∧s722.snd.fst<(↑(List.length s722.snd.snd):Int))
  (Let (ix s722.snd.snd s722.snd.fst) fun (x728:PairKey)=>
  Rx.Bind (world_RemoveBody_1 x728 id1) fun (r729:Bool)=>
  Let (!r729) fun (x730:Bool)=>
  if x730=true then
  Chk ((0:Int)≤s722.fst∧s722.fst<(↑(List.length s722.snd.snd):Int))
  (Chk ((0:Int)≤s722.fst∧s722.fst<(↑(List.length s722.snd.snd):Int))
  (Let (List.set s722.snd.snd (Int.toNat s722.fst) x728) fun (x731:List PairKey)=>
  Let (IntKind.i64.wrap (s722.fst+(1:Int))) fun (x732:Int)=>j727 (x732,x731)))
  else j727 (s722.fst,s722.snd.snd)))
  else
  Chk
  ((0:Int)≤(some s722.fst).getD (0:Int)∧
  (0:Int)≤none.getD (0:Int)∧
  Int.toNat s722.fst≤List.length s722.snd.snd∧List.length s722.snd.snd≤List.length s722.snd.snd)
  (Chk
  (Int.toNat s722.fst+(List.length s722.snd.snd - Int.toNat s722.fst)≤List.length s722.snd.snd∧
  (0:Nat)<List.length s722.snd.snd - Int.toNat s722.fst)
  (Let
  (List.take (Int.toNat s722.fst) s722.snd.snd++
  List.replicate (List.length s722.snd.snd - Int.toNat s722.fst)
  { BodyA:=(0:Int),FixtureA:=(0:Int),BodyB:=(0:Int),FixtureB:=(0:Int):PairKey }++
  List.drop (Int.toNat s722.fst+(List.length s722.snd.snd - Int.toNat s722.fst)) s722.snd.snd)
  fun (x733:List PairKey)=>
  Chk
  ((0:Int)≤none.getD (0:Int)∧
  (0:Int)≤(some s722.fst).getD (0:Int)∧(0:Nat)≤Int.toNat s722.fst∧Int.toNat s722.fst≤x733.length)
  (Chk (Int.toNat s722.fst - (0:Nat)≤x733.length)
  (Let (List.take (Int.toNat s722.fst - (0:Nat)) x733) fun (x734:List PairKey)=>
  Rx.Bind
  (world_wakeAll
  { Settings:=r446.Settings,Bodies:=x653,Joints:=r446.Joints,Contacts:=r446.Contacts,Overlaps:=x734,NextID:=r446.NextID,Frame:=r446.Frame:World_ }
  s460.fst)
  fun (r735:World_)=>some (r735,(0:Int)))))))
  fuel (r717,x720,r446.Overlaps))
  fuel (0:Int)
  else
  Let (IntKind.i64.wrap (r654+(1:Int))) fun (x736:Int)=>
  LOOP
  (fun (rec737:Int × Int × List Joint→Option (World_ × Int)) (s738:Int × Int × List Joint)=>
  Let (↑(List.length s738.snd.snd):Int) fun (x739:Int)=>
  Let (decide (s738.snd.fst<x739)) fun (x740:Bool)=>
  if x740=true then
  Join
  (fun (v741:Int × List Joint)=>
  Let (IntKind.i64.wrap (s738.snd.fst+(1:Int))) fun (x742:Int)=>rec737 (v741.fst,x742,v741.snd))
  fun (j743:Int × List Joint→Option (World_ × Int))=>
  Chk ((0:Int)≤s738.snd.fst∧s738.snd.fst<(↑(List.length s738.snd.snd):Int))
  (Chk ((0:Int)≤s738.snd.fst∧s738.snd.fst<(↑(List.length s738.snd.snd):Int))
  (Let (ix s738.snd.snd s738.snd.fst) fun (x744:Joint)=>
  Rx.Bind (world_RemoveBody_2 x744 id1) fun (r745:Bool)=>
  Let (!r745) fun (x746:Bool)=>
  if x746=true then
  Chk ((0:Int)≤s738.fst∧s738.fst<(↑(List.length s738.snd.snd):Int))
  (Chk ((0:Int)≤s738.fst∧s738.fst<(↑(List.length s738.snd.snd):Int))
  (Let (List.set s738.snd.snd (Int.toNat s738.fst) x744) fun (x747:List Joint)=>
  Let (IntKind.i64.wrap (s738.fst+(1:Int))) fun (x748:Int)=>j743 (x748,x747)))
  else j743 (s738.fst,s738.snd.snd)))
  else
  Chk
  ((0:Int)≤(some s738.fst).getD (0:Int)∧
  (0:Int)≤none.getD (0:Int)∧
  Int.toNat s738.fst≤List.length s738.snd.snd∧List.length s738.snd.snd≤List.length s738.snd.snd)
  (Chk
  (Int.toNat s738.fst+(List.length s738.snd.snd - Int.toNat s738.fst)≤List.length s738.snd.snd∧
  (0:Nat)<List.length s738.snd.snd - Int.toNat s738.fst)
  (Let
  (List.take (Int.toNat s738.fst) s738.snd.snd++
  List.replicate (List.length s738.snd.snd - Int.toNat s738.fst)
  { ID:=(0:Int),Kind:=(0:Int),BodyA:=(0:Int),BodyB:=(0:Int),AnchorA:={ X:=(0:Int),Y:=(0:Int):Vec },AnchorB:={ X:=(0:Int),Y:=(0:Int):Vec },Axis:={ X:=(0:Int),Y:=(0:Int):Vec },ReferenceAngle:=(0:Int),EnableLimit:=false,Lower:=(0:Int),Upper:=(0:Int),EnableMotor:=false,MotorSpeed:=(0:Int),MaxForce:=(0:Int),Softness:=(0:Int),BreakForce:=(0:Int),CollideConnected:=false,Impulses:=((0:Int),(0:Int),(0:Int),(0:Int)):Joint }++
  List.drop (Int.toNat s738.fst+(List.length s738.snd.snd - Int.toNat s738.fst)) s738.snd.snd)
  fun (x749:List Joint)=>
  Chk
  ((0:Int)≤none.getD (0:Int)∧
  (0:Int)≤(some s738.fst).getD (0:Int)∧(0:Nat)≤Int.toNat s738.fst∧Int.toNat s738.fst≤x749.length)
  (Chk (Int.toNat s738.fst - (0:Nat)≤x749.length)
  (Let (List.take (Int.toNat s738.fst - (0:Nat)) x749) fun (x750:List Joint)=>
  Let (↑r446.Contacts.length:Int) fun (x751:Int)=>
  LOOP
  (fun (rec752:Int→Option (World_ × Int)) (s753:Int)=>
  Let (decide (s753<x751)) fun (x754:Bool)=>
  if x754=true then
  Chk ((0:Int)≤s753∧s753<(↑r446.Contacts.length:Int))
  (Chk ((0:Int)≤s753∧s753<(↑r446.Contacts.length:Int))
  (Let (ix r446.Contacts s753) fun (x755:Contact)=>
  Rx.Bind (world_RemoveBody_1 x755.Key id1) fun (r756:Bool)=>
  if r756=true then
  Let (s753==(-1:Int)) fun (x757:Bool)=>
  if x757=true then
  Rx.Bind (slices_IndexFunc_101 r446.Overlaps fun (a:Tup tb [Ix.tPairKey])=>world_RemoveBody_1 a id1)
  fun (r758:Int)=>
  Let (r758==(-1:Int)) fun (x759:Bool)=>
  if x759=true then
  Rx.Bind
  (world_wakeAll
  { Settings:=r446.Settings,Bodies:=x653,Joints:=x750,Contacts:=r446.Contacts,Overlaps:=r446.Overlaps,NextID:=r446.NextID,Frame:=r446.Frame:World_ }
  s460.fst)
  fun (r760:World_)=>some (r760,(0:Int))
  else
  Let (IntKind.i64.wrap (r758+(1:Int))) fun (x761:Int)=>
  LOOP
  (fun (rec762:Int × Int × List PairKey→Option (World_ × Int)) (s763:Int × Int × List PairKey)=>
  Let (↑(List.length s763.snd.snd):Int) fun (x764:Int)=>
  Let (decide (s763.snd.fst<x764)) fun (x765:Bool)=>
  if x765=true then
  Join
  (fun (v766:Int × List PairKey)=>
  Let (IntKind.i64.wrap (s763.snd.fst+(1:Int))) fun (x767:Int)=>rec762 (v766.fst,x767,v766.snd))
  fun (j768:Int × List PairKey→Option (World_ × Int))=>
  Chk ((0:Int)≤s763.snd.fst∧s763.snd.fst<(↑(List.length s763.snd.snd):Int))
  (Chk ((0:Int)≤s763.snd.fst∧s763.snd.fst<(↑(List.length s763.snd.snd):Int))
  (Let (ix s763.snd.snd s763.snd.fst) fun (x769:PairKey)=>
  Rx.Bind (world_RemoveBody_1 x769 id1) fun (r770:Bool)=>
  Let (!r770) fun (x771:Bool)=>
  if x771=true then
  Chk ((0:Int)≤s763.fst∧s763.fst<(↑(List.length s763.snd.snd):Int))
  (Chk ((0:Int)≤s763.fst∧s763.fst<(↑(List.length s763.snd.snd):Int))
  (Let (List.set s763.snd.snd (Int.toNat s763.fst) x769) fun (x772:List PairKey)=>
  Let (IntKind.i64.wrap (s763.fst+(1:Int))) fun (x773:Int)=>j768 (x773,x772)))
  else j768 (s763.fst,s763.snd.snd)))
  else
  Chk
  ((0:Int)≤(some s763.fst).getD (0:Int)∧
  (0:Int)≤none.getD (0:Int)∧
  Int.toNat s763.fst≤List.length s763.snd.snd∧List.length s763.snd.snd≤List.length s763.snd.snd)
  (Chk
  (Int.toNat s763.fst+(List.length s763.snd.snd - Int.toNat s763.fst)≤List.length s763.snd.snd∧
  (0:Nat)<List.length s763.snd.snd - Int.toNat s763.fst)
  (Let
  (List.take (Int.toNat s763.fst) s763.snd.snd++
  List.replicate (List.length s763.snd.snd - Int.toNat s763.fst)
  { BodyA:=(0:Int),FixtureA:=(0:Int),BodyB:=(0:Int),FixtureB:=(0:Int):PairKey }++
  List.drop (Int.toNat s763.fst+(List.length s763.snd.snd - Int.toNat s763.fst)) s763.snd.snd)
  fun (x774:List PairKey)=>
  Chk
  ((0:Int)≤none.getD (0:Int)∧
  (0:Int)≤(some s763.fst).getD (0:Int)∧(0:Nat)≤Int.toNat s763.fst∧Int.toNat s763.fst≤x774.length)
  (Chk (Int.toNat s763.fst - (0:Nat)≤x774.length)
  (Let (List.take (Int.toNat s763.fst - (0:Nat)) x774) fun (x775:List PairKey)=>
  Rx.Bind
  (world_wakeAll
  { Settings:=r446.Settings,Bodies:=x653,Joints:=x750,Contacts:=r446.Contacts,Overlaps:=x775,NextID:=r446.NextID,Frame:=r446.Frame:World_ }
  s460.fst)
  fun (r776:World_)=>some (r776,(0:Int)))))))
  fuel (r758,x761,r446.Overlaps)
  else
  Let (IntKind.i64.wrap (s753+(1:Int))) fun (x777:Int)=>
  LOOP
  (fun (rec778:Int × Int × List Contact→Option (World_ × Int)) (s779:Int × Int × List Contact)=>
  Let (↑(List.length s779.snd.snd):Int) fun (x780:Int)=>
  Let (decide (s779.snd.fst<x780)) fun (x781:Bool)=>
  if x781=true then
  Join
  (fun (v782:Int × List Contact)=>
  Let (IntKind.i64.wrap (s779.snd.fst+(1:Int))) fun (x783:Int)=>rec778 (v782.fst,x783,v782.snd))
  fun (j784:Int × List Contact→Option (World_ × Int))=>
  Chk ((0:Int)≤s779.snd.fst∧s779.snd.fst<(↑(List.length s779.snd.snd):Int))
  (Chk ((0:Int)≤s779.snd.fst∧s779.snd.fst<(↑(List.length s779.snd.snd):Int))
  (Let (ix s779.snd.snd s779.snd.fst) fun (x785:Contact)=>
  Rx.Bind (world_RemoveBody_1 x785.Key id1) fun (r786:Bool)=>
  Let (!r786) fun (x787:Bool)=>
  if x787=true then
  Chk ((0:Int)≤s779.fst∧s779.fst<(↑(List.length s779.snd.snd):Int))
  (Chk ((0:Int)≤s779.fst∧s779.fst<(↑(List.length s779.snd.snd):Int))
  (Let (List.set s779.snd.snd (Int.toNat s779.fst) x785) fun (x788:List Contact)=>
  Let (IntKind.i64.wrap (s779.fst+(1:Int))) fun (x789:Int)=>j784 (x789,x788)))
  else j784 (s779.fst,s779.snd.snd)))
  else
  Chk
  ((0:Int)≤(some s779.fst).getD (0:Int)∧
  (0:Int)≤none.getD (0:Int)∧
  Int.toNat s779.fst≤List.length s779.snd.snd∧List.length s779.snd.snd≤List.length s779.snd.snd)
  (Chk
  (Int.toNat s779.fst+(List.length s779.snd.snd - Int.toNat s779.fst)≤List.length s779.snd.snd∧
  (0:Nat)<List.length s779.snd.snd - Int.toNat s779.fst)
  (Let
  (List.take (Int.toNat s779.fst) s779.snd.snd++
  List.replicate (List.length s779.snd.snd - Int.toNat s779.fst)
  { Key:={ BodyA:=(0:Int),FixtureA:=(0:Int),BodyB:=(0:Int),FixtureB:=(0:Int):PairKey },Manifold:={ Normal:={ X:=(0:Int),Y:=(0:Int):Vec },Points:=[]:Manifold }:Contact }++
  List.drop (Int.toNat s779.fst+(List.length s779.snd.snd - Int.toNat s779.fst)) s779.snd.snd)
  fun (x790:List Contact)=>
  Chk
  ((0:Int)≤none.getD (0:Int)∧
  (0:Int)≤(some s779.fst).getD (0:Int)∧(0:Nat)≤Int.toNat s779.fst∧Int.toNat s779.fst≤x790.length)
  (Chk (Int.toNat s779.fst - (0:Nat)≤x790.length)
  (Let (List.take (Int.toNat s779.fst - (0:Nat)) x790) fun (x791:List Contact)=>
  Rx.Bind (slices_IndexFunc_101 r446.Overlaps fun (a:Tup tb [Ix.tPairKey])=>world_RemoveBody_1 a id1)
  fun (r792:Int)=>
  Let (r792==(-1:Int)) fun (x793:Bool)=>
  if x793=true then
  Rx.Bind
  (world_wakeAll
  { Settings:=r446.Settings,Bodies:=x653,Joints:=x750,Contacts:=x791,Overlaps:=r446.Overlaps,NextID:=r446.NextID,Frame:=r446.Frame:World_ }
  s460.fst)
  fun (r794:World_)=>some (r794,(0:Int))
  else
  Let (IntKind.i64.wrap (r792+(1:Int))) fun (x795:Int)=>
  LOOP
  (fun (rec796:Int × Int × List PairKey→Option (World_ × Int)) (s797:Int × Int × List PairKey)=>
  Let (↑(List.length s797.snd.snd):Int) fun (x798:Int)=>
  Let (decide (s797.snd.fst<x798)) fun (x799:Bool)=>
  if x799=true then
  Join
  (fun (v800:Int × List PairKey)=>
  Let (IntKind.i64.wrap (s797.snd.fst+(1:Int))) fun (x801:Int)=>rec796 (v800.fst,x801,v800.snd))
  fun (j802:Int × List PairKey→Option (World_ × Int))=>
  Chk ((0:Int)≤s797.snd.fst∧s797.snd.fst<(↑(List.length s797.snd.snd):Int))
  (Chk ((0:Int)≤s797.snd.fst∧s797.snd.fst<(↑(List.length s797.snd.snd):Int))
  (Let (ix s797.snd.snd s797.snd.fst) fun (x803:PairKey)=>
  Rx.Bind (world_RemoveBody_1 x803 id1) fun (r804:Bool)=>
  Let (!r804) fun (x805:Bool)=>
  if x805=true then
  Chk ((0:Int)≤s797.fst∧s797.fst<(↑(List.length s797.snd.snd):Int))
  (Chk ((0:Int)≤s797.fst∧s797.fst<(↑(List.length s797.snd.snd):Int))
  (Let (List.set s797.snd.snd (Int.toNat s797.fst) x803) fun (x806:List PairKey)=>
  Let (IntKind.i64.wrap (s797.fst+(1:Int))) fun (x807:Int)=>j802 (x807,x806)))
  else j802 (s797.fst,s797.snd.snd)))
  else
  Chk
  ((0:Int)≤(some s797.fst).getD (0:Int)∧
  (0:Int)≤none.getD (0:Int)∧
  Int.toNat s797.fst≤List.length s797.snd.snd∧List.length s797.snd.snd≤List.length s797.snd.snd)
  (Chk
  (Int.toNat s797.fst+(List.length s797.snd.snd - Int.toNat s797.fst)≤List.length s797.snd.snd∧
  (0:Nat)<List.length s797.snd.snd - Int.toNat s797.fst)
  (Let
  (List.take (Int.toNat s797.fst) s797.snd.snd++
  List.replicate (List.length s797.snd.snd - Int.toNat s797.fst)
  { BodyA:=(0:Int),FixtureA:=(0:Int),BodyB:=(0:Int),FixtureB:=(0:Int):PairKey }++
  List.drop (Int.toNat s797.fst+(List.length s797.snd.snd - Int.toNat s797.fst)) s797.snd.snd)
  fun (x808:List PairKey)=>
  Chk
  ((0:Int)≤none.getD (0:Int)∧
  (0:Int)≤(some s797.fst).getD (0:Int)∧(0:Nat)≤Int.toNat s797.fst∧Int.toNat s797.fst≤x808.length)
  (Chk (Int.toNat s797.fst - (0:Nat)≤x808.length)
  (Let (List.take (Int.toNat s797.fst - (0:Nat)) x808) fun (x809:List PairKey)=>
  Rx.Bind
  (world_wakeAll
  { Settings:=r446.Settings,Bodies:=x653,Joints:=x750,Contacts:=x791,Overlaps:=x809,NextID:=r446.NextID,Frame:=r446.Frame:World_ }
  s460.fst)
  fun (r810:World_)=>some (r810,(0:Int)))))))
  fuel (r792,x795,r446.Overlaps))))))
  fuel (s753,x777,r446.Contacts)
  else Let (IntKind.i64.wrap (s753+(1:Int))) fun (x811:Int)=>rec752 x811))
  else
  Rx.Bind (slices_IndexFunc_101 r446.Overlaps fun (a:Tup tb [Ix.tPairKey])=>world_RemoveBody_1 a id1)
  fun (r812:Int)=>
  Let (r812==(-1:Int)) fun (x813:Bool)=>
  if x813=true then
  Rx.Bind
  (world_wakeAll
  { Settings:=r446.Settings,Bodies:=x653,Joints:=x750,Contacts:=r446.Contacts,Overlaps:=r446.Overlaps,NextID:=r446.NextID,Frame:=r446.Frame:World_ }
  s460.fst)
  fun (r814:World_)=>some (r814,(0:Int))
  else
  Let (IntKind.i64.wrap (r812+(1:Int))) fun (x815:Int)=>
  LOOP
  (fun (rec816:Int × Int × List PairKey→Option (World_ × Int)) (s817:Int × Int × List PairKey)=>
  Let (↑(List.length s817.snd.snd):Int) fun (x818:Int)=>
  Let (decide (s817.snd.fst<x818)) fun (x819:Bool)=>
  if x819=true then
  Join
  (fun (v820:Int × List PairKey)=>
  Let (IntKind.i64.wrap (s817.snd.fst+(1:Int))) fun (x821:Int)=>rec816 (v820.fst,x821,v820.snd))
  fun (j822:Int × List PairKey→Option (World_ × Int))=>
  Chk ((0:Int)≤s817.snd.fst∧s817.snd.fst<(↑(List.length s817.snd.snd):Int))
  (Chk ((0:Int)≤s817.snd.fst∧s817.snd.fst<(↑(List.length s817.snd.snd):Int))
  (Let (ix s817.snd.snd s817.snd.fst) fun (x823:PairKey)=>
  Rx.Bind (world_RemoveBody_1 x823 id1) fun (r824:Bool)=>
  Let (!r824) fun (x825:Bool)=>
  if x825=true then
  Chk ((0:Int)≤s817.fst∧s817.fst<(↑(List.length s817.snd.snd):Int))
  (Chk ((0:Int)≤s817.fst∧s817.fst<(↑(List.length s817.snd.snd):Int))
  (Let (List.set s817.snd.snd (Int.toNat s817.fst) x823) fun (x826:List PairKey)=>
  Let (IntKind.i64.wrap (s817.fst+(1:Int))) fun (x827:Int)=>j822 (x827,x826)))
  else j822 (s817.fst,s817.snd.snd)))
  else
  Chk
  ((0:Int)≤(some s817.fst).getD (0:Int)∧
  (0:Int)≤none.getD (0:Int)∧
  Int.toNat s817.fst≤List.length s817.snd.snd∧List.length s817.snd.snd≤List.length s817.snd.snd)
  (Chk
  (Int.toNat s817.fst+(List.length s817.snd.snd - Int.toNat s817.fst)≤List.length s817.snd.snd∧
  (0:Nat)<List.length s817.snd.snd - Int.toNat s817.fst)
  (Let
  (List.take (Int.toNat s817.fst) s817.snd.snd++
  List.replicate (List.length s817.snd.snd - Int.toNat s817.fst)
  { BodyA:=(0:Int),FixtureA:=(0:Int),BodyB:=(0:Int),FixtureB:=(0:Int):PairKey }++
  List.drop (Int.toNat s817.fst+(List.length s817.snd.snd - Int.toNat s817.fst)) s817.snd.snd)
  fun (x828:List PairKey)=>
  Chk
  ((0:Int)≤none.getD (0:Int)∧
  (0:Int)≤(some s817.fst).getD (0:Int)∧(0:Nat)≤Int.toNat s817.fst∧Int.toNat s817.fst≤x828.length)
  (Chk (Int.toNat s817.fst - (0:Nat)≤x828.length)
  (Let (List.take (Int.toNat s817.fst - (0:Nat)) x828) fun (x829:List PairKey)=>
  Rx.Bind
  (world_wakeAll
  { Settings:=r446.Settings,Bodies:=x653,Joints:=x750,Contacts:=r446.Contacts,Overlaps:=x829,NextID:=r446.NextID,Frame:=r446.Frame:World_ }
  s460.fst)
  fun (r830:World_)=>some (r830,(0:Int)))))))
  fuel (r812,x815,r446.Overlaps))
  fuel (0:Int))))))
  fuel (r654,x736,r446.Joints))))))))))
  fuel (s449.fst,(0:Int)))
  fuel ([],(0:Int))
noncomputable def world_validBodies (w0:World_):Option Bool:=
  Let (↑w0.Bodies.length:Int) fun (x831:Int)=>
  LOOP
  (fun (rec832:Int × Int→Option Bool) (s833:Int × Int)=>
  Let (decide (s833.snd<x831)) fun (x834:Bool)=>
  if x834=true then
  Chk ((0:Int)≤s833.snd∧s833.snd<(↑w0.Bodies.length:Int))
  (Let (ix w0.Bodies s833.snd) fun (x835:Body)=>
  Rx.Bind (body_Validate x835) fun (r836:Int)=>
  Let (r836 != (0:Int)) fun (x837:Bool)=>
  Let (decide (x835.ID≥w0.NextID)) fun (x838:Bool)=>
  Let (bif x837 then true else x838) fun (x839:Bool)=>
  Let (decide (x835.ID≤s833.fst)) fun (x840:Bool)=>
  Let (bif x839 then true else x840) fun (x841:Bool)=>
  if x841=true then some false
  else Let (IntKind.i64.wrap (s833.snd+(1:Int))) fun (x842:Int)=>rec832 (x835.ID,x842))
  else some true)
  fuel ((0:Int),(0:Int))
noncomputable def joint_limitRange (k0:Int):Option (Int × Int):=
  Let (k0==(1:Int)) fun (x843:Bool)=>
  if x843=true then some ((0:Int),(268435456:Int))
  else
  Let (k0==(2:Int)) fun (x844:Bool)=>
  if x844=true then some ((-205888:Int),(205888:Int)) else some ((-268435456:Int),(268435456:Int))
noncomputable def joint_inRange (n0:Int) (low1:Int) (high2:Int):Option Bool:=
  Let (decide (n0≥low1)) fun (x845:Bool)=>
  Let (decide (n0≤high2)) fun (x846:Bool)=>Let (bif x845 then x846 else false) fun (x847:Bool)=>some x847
noncomputable def joint_pointInRange (v0:Vec) (limit1:Int):Option Bool:=
  Let (IntKind.i64.wrap ((0:Int) - limit1)) fun (x848:Int)=>
  Rx.Bind (joint_inRange v0.X x848 limit1) fun (r849:Bool)=>
  Let (IntKind.i64.wrap ((0:Int) - limit1)) fun (x850:Int)=>
  Rx.Bind (if (r849==true)=true then joint_inRange v0.Y x850 limit1 else some default) fun (r851:Bool)=>
  Let (bif r849 then r851 else false) fun (x852:Bool)=>some x852
noncomputable def joint_numbersInRange (j0:Joint):Option Bool:=
  Join
  (fun (v853:Int)=>
  Rx.Bind (joint_limitRange j0.Kind) fun (r854:Int × Int)=>
  LOOP
  (fun (rec855:Int→Option Bool) (s856:Int)=>
  Let (decide (s856<(4:Int))) fun (x857:Bool)=>
  if x857=true then
  Chk ((0:Int)≤s856∧s856<(↑(4:Nat):Int))
  (Let (ix [j0.Impulses.fst,j0.Impulses.snd.fst,j0.Impulses.snd.snd.fst,j0.Impulses.snd.snd.snd] s856)
  fun (x858:Int)=>
  Rx.Bind (joint_inRange x858 (-536870911:Int) (536870911:Int)) fun (r859:Bool)=>
  Let (!r859) fun (x860:Bool)=>
  if x860=true then some false else Let (IntKind.i64.wrap (s856+(1:Int))) fun (x861:Int)=>rec855 x861)
  else
  Rx.Bind (joint_inRange j0.ID (1:Int) (1099511627776:Int)) fun (r862:Bool)=>
  Rx.Bind (if (r862==true)=true then joint_pointInRange j0.AnchorA v853 else some default) fun (r863:Bool)=>
  Let (bif r862 then r863 else false) fun (x864:Bool)=>
  Rx.Bind (if (x864==true)=true then joint_pointInRange j0.AnchorB (1048576:Int) else some default)
  fun (r865:Bool)=>
  Let (bif x864 then r865 else false) fun (x866:Bool)=>
  Rx.Bind (if (x866==true)=true then joint_inRange j0.ReferenceAngle (-205888:Int) (205887:Int) else some default)
  fun (r867:Bool)=>
  Let (bif x866 then r867 else false) fun (x868:Bool)=>
  Rx.Bind (if (x868==true)=true then joint_inRange j0.Lower r854.fst r854.snd else some default) fun (r869:Bool)=>
  Let (bif x868 then r869 else false) fun (x870:Bool)=>
  Rx.Bind (if (x870==true)=true then joint_inRange j0.Upper r854.fst r854.snd else some default) fun (r871:Bool)=>
  Let (bif x870 then r871 else false) fun (x872:Bool)=>
  Let (decide (j0.Lower≤j0.Upper)) fun (x873:Bool)=>
  Let (bif x872 then x873 else false) fun (x874:Bool)=>
  Rx.Bind (if (x874==true)=true then joint_inRange j0.MotorSpeed (-16777216:Int) (16777216:Int) else some default)
  fun (r875:Bool)=>
  Let (bif x874 then r875 else false) fun (x876:Bool)=>
  Rx.Bind (if (x876==true)=true then joint_inRange j0.MaxForce (0:Int) (536870911:Int) else some default)
  fun (r877:Bool)=>
  Let (bif x876 then r877 else false) fun (x878:Bool)=>
  Rx.Bind (if (x878==true)=true then joint_inRange j0.Softness (0:Int) (536870911:Int) else some default)
  fun (r879:Bool)=>
  Let (bif x878 then r879 else false) fun (x880:Bool)=>
  Rx.Bind (if (x880==true)=true then joint_inRange j0.BreakForce (0:Int) (536870911:Int) else some default)
  fun (r881:Bool)=>Let (bif x880 then r881 else false) fun (x882:Bool)=>some x882)
  fuel (0:Int))
  fun (j883:Int→Option Bool)=>
  Let (j0.Kind==(5:Int)) fun (x884:Bool)=>if x884=true then j883 (268435456:Int) else j883 (1048576:Int)
noncomputable def joint_validBodies (j0:Joint):Option Bool:=
  Let (j0.Kind==(5:Int)) fun (x885:Bool)=>
  if x885=true then
  Let (j0.BodyA==(0:Int)) fun (x886:Bool)=>
  Rx.Bind (if (x886==true)=true then joint_inRange j0.BodyB (1:Int) (1099511627776:Int) else some default)
  fun (r887:Bool)=>Let (bif x886 then r887 else false) fun (x888:Bool)=>some x888
  else
  Rx.Bind (joint_inRange j0.BodyA (1:Int) (1099511627776:Int)) fun (r889:Bool)=>
  Rx.Bind (if (r889==true)=true then joint_inRange j0.BodyB (1:Int) (1099511627776:Int) else some default)
  fun (r890:Bool)=>
  Let (bif r889 then r890 else false) fun (x891:Bool)=>
  Let (j0.BodyA != j0.BodyB) fun (x892:Bool)=>Let (bif x891 then x892 else false) fun (x893:Bool)=>some x893
noncomputable def joint_inconsistent (j0:Joint):Option Bool:=
  Let (decide (j0.Axis.X=(0:Int))&&decide (j0.Axis.Y=(0:Int))) fun (x894:Bool)=>
  Join
  (fun (v895:PUnit)=>
  Let (!x894) fun (x896:Bool)=>
  Let (bif x896 then true else j0.EnableMotor) fun (x897:Bool)=>
  Let (bif x897 then true else j0.EnableLimit) fun (x898:Bool)=>some x898)
  fun (j899:PUnit→Option Bool)=>
  Let (j0.Kind==(3:Int)) fun (x900:Bool)=>
  if x900=true then
  Rx.Bind (vec2_Length j0.Axis) fun (r901:Int)=>
  Rx.Bind (joint_inRange r901 (65520:Int) (65552:Int)) fun (r902:Bool)=>Let (!r902) fun (x903:Bool)=>some x903
  else
  Let (j0.Kind==(1:Int)) fun (x904:Bool)=>
  if x904=true then
  Let (!x894) fun (x905:Bool)=>
  Let (bif x905 then true else j0.EnableMotor) fun (x906:Bool)=>
  Let (!j0.EnableLimit) fun (x907:Bool)=>Let (bif x906 then true else x907) fun (x908:Bool)=>some x908
  else
  Let (j0.Kind==(4:Int)) fun (x909:Bool)=>
  if x909=true then j899 ()
  else
  Let (j0.Kind==(5:Int)) fun (x910:Bool)=>
  if x910=true then j899 () else Let (!x894) fun (x911:Bool)=>some x911
noncomputable def joint_Validate (j0:Joint):Option Int:=
  Let (decide (j0.Kind<(1:Int))) fun (x912:Bool)=>
  Let (decide (j0.Kind>(5:Int))) fun (x913:Bool)=>
  Let (bif x912 then true else x913) fun (x914:Bool)=>
  if x914=true then some (10:Int)
  else
  Rx.Bind (joint_numbersInRange j0) fun (r915:Bool)=>
  Let (!r915) fun (x916:Bool)=>
  if x916=true then some (6:Int)
  else
  Rx.Bind (joint_validBodies j0) fun (r917:Bool)=>
  Let (!r917) fun (x918:Bool)=>
  if x918=true then some (14:Int)
  else Rx.Bind (joint_inconsistent j0) fun (r919:Bool)=>if r919=true then some (15:Int) else some (0:Int)
noncomputable def world_bodiesExist (w0:World_) (j1:Joint):Option Bool:=
  Rx.Bind (world_FindBody w0 j1.BodyB) fun (r920:Int)=>
  Let (decide (r920≥(0:Int))) fun (x921:Bool)=>
  Let (j1.Kind==(5:Int)) fun (x922:Bool)=>
  Rx.Bind (if (x921==true&&x922==false)=true then world_FindBody w0 j1.BodyA else some default)
  fun (r923:Int)=>
  Let (decide (r923≥(0:Int))) fun (x924:Bool)=>
  Let (bif x922 then true else x924) fun (x925:Bool)=>
  Let (bif x921 then x925 else false) fun (x926:Bool)=>some x926
noncomputable def world_validJoints (w0:World_):Option Bool:=
  Let (↑w0.Joints.length:Int) fun (x927:Int)=>
  LOOP
  (fun (rec928:Int × Int→Option Bool) (s929:Int × Int)=>
  Let (decide (s929.snd<x927)) fun (x930:Bool)=>
  if x930=true then
  Chk ((0:Int)≤s929.snd∧s929.snd<(↑w0.Joints.length:Int))
  (Let (ix w0.Joints s929.snd) fun (x931:Joint)=>
  Rx.Bind (joint_Validate x931) fun (r932:Int)=>
  Let (r932 != (0:Int)) fun (x933:Bool)=>
  Let (decide (x931.ID≥w0.NextID)) fun (x934:Bool)=>
  Let (bif x933 then true else x934) fun (x935:Bool)=>
  Let (decide (x931.ID≤s929.fst)) fun (x936:Bool)=>
  Let (bif x935 then true else x936) fun (x937:Bool)=>
  Rx.Bind (if (x937==false)=true then world_bodiesExist w0 x931 else some default) fun (r938:Bool)=>
  Let (!r938) fun (x939:Bool)=>
  Let (bif x937 then true else x939) fun (x940:Bool)=>
  Rx.Bind (if (x940==false)=true then world_FindBody w0 x931.ID else some default) fun (r941:Int)=>
  Let (decide (r941≥(0:Int))) fun (x942:Bool)=>
  Let (bif x940 then true else x942) fun (x943:Bool)=>
  if x943=true then some false
  else Let (IntKind.i64.wrap (s929.snd+(1:Int))) fun (x944:Int)=>rec928 (x931.ID,x944))
  else some true)
  fuel ((0:Int),(0:Int))
noncomputable def slices_IndexFunc_172 (s0:(List Int)) (f1:(Int→Option Bool)):Option Int:=
  Let (↑s0.length:Int) fun (x945:Int)=>
  LOOP
  (fun (rec946:Int→Option Int) (s947:Int)=>
  Let (decide (s947<x945)) fun (x948:Bool)=>
  if x948=true then
  Chk ((0:Int)≤s947∧s947<(↑s0.length:Int))
  (Let (ix s0 s947) fun (x949:Int)=>
  Rx.Bind (f1 x949) fun (r950:Bool)=>
  if r950=true then some s947 else Let (IntKind.i64.wrap (s947+(1:Int))) fun (x951:Int)=>rec946 x951)
  else some (-1:Int))
  fuel (0:Int)
noncomputable def slices_ContainsFunc_146 (s0:(List Int)) (f1:(Int→Option Bool)):Option Bool:=
  Rx.Bind (slices_IndexFunc_172 s0 f1) fun (r952:Int)=>Let (decide (r952≥(0:Int))) fun (x953:Bool)=>some x953
noncomputable def world_saturated_1 (n0:Int):Option Bool:=
  Rx.Bind (world_in n0 (-536870911:Int) (536870911:Int)) fun (r954:Bool)=>
  Let (!r954) fun (x955:Bool)=>some x955
noncomputable def world_saturated (values0:(List Int)):Option Bool:=
  Rx.Bind (slices_ContainsFunc_146 values0 fun (a:Tup tb [Ix.tint])=>world_saturated_1 a) fun (r956:Bool)=>
  Let (!r956) fun (x957:Bool)=>some x957
noncomputable def slices_IndexFunc_148 (s0:(List ContactPoint)) (f1:(ContactPoint→Option Bool)):Option Int:=
  Let (↑s0.length:Int) fun (x958:Int)=>
  LOOP
  (fun (rec959:Int→Option Int) (s960:Int)=>
  Let (decide (s960<x958)) fun (x961:Bool)=>
  if x961=true then
  Chk ((0:Int)≤s960∧s960<(↑s0.length:Int))
  (Let (ix s0 s960) fun (x962:ContactPoint)=>
  Rx.Bind (f1 x962) fun (r963:Bool)=>
  if r963=true then some s960 else Let (IntKind.i64.wrap (s960+(1:Int))) fun (x964:Int)=>rec959 x964)
  else some (-1:Int))
  fuel (0:Int)
noncomputable def slices_ContainsFunc_119 (s0:(List ContactPoint)) (f1:(ContactPoint→Option Bool)):Option Bool:=
  Rx.Bind (slices_IndexFunc_148 s0 f1) fun (r965:Int)=>Let (decide (r965≥(0:Int))) fun (x966:Bool)=>some x966
noncomputable def world_validManifold_1 (p0:ContactPoint):Option Bool:=
  Let (decide (p0.NormalImpulse<(0:Int))) fun (x967:Bool)=>
  Rx.Bind
  (if (x967==false)=true then
  world_saturated [p0.Point.X,p0.Point.Y,p0.Separation,p0.ID,p0.NormalImpulse,p0.TangentImpulse]
  else some default)
  fun (r968:Bool)=>Let (!r968) fun (x969:Bool)=>Let (bif x967 then true else x969) fun (x970:Bool)=>some x970
noncomputable def world_validManifold (m0:Manifold):Option Bool:=
  Let (↑m0.Points.length:Int) fun (x971:Int)=>
  Let (decide (x971<(1:Int))) fun (x972:Bool)=>
  Let (decide (x971>(2:Int))) fun (x973:Bool)=>
  Let (bif x972 then true else x973) fun (x974:Bool)=>
  Let (x971==(2:Int)) fun (x975:Bool)=>
  Chk ((x974==false&&x975==true)=true→(0:Int)≤(0:Int)∧(0:Int)<(↑m0.Points.length:Int))
  (Let (ix m0.Points (0:Int)) fun (x976:ContactPoint)=>
  Chk ((x974==false&&x975==true)=true→(0:Int)≤(1:Int)∧(1:Int)<(↑m0.Points.length:Int))
  (Let (ix m0.Points (1:Int)) fun (x977:ContactPoint)=>
  Let (x976.ID==x977.ID) fun (x978:Bool)=>
  Let (bif x975 then x978 else false) fun (x979:Bool)=>
  Let (bif x974 then true else x979) fun (x980:Bool)=>
  Rx.Bind (if (x980==false)=true then world_saturated [m0.Normal.X,m0.Normal.Y] else some default)
  fun (r981:Bool)=>
  Let (!r981) fun (x982:Bool)=>
  Let (bif x980 then true else x982) fun (x983:Bool)=>
  if x983=true then some false
  else
  Rx.Bind (slices_ContainsFunc_119 m0.Points fun (a:Tup tb [Ix.tContactPoint])=>world_validManifold_1 a)
  fun (r984:Bool)=>Let (!r984) fun (x985:Bool)=>some x985))
noncomputable def broadphase_valid (k0:PairKey):Option Bool:=
  Let (decide (k0.BodyA<k0.BodyB)) fun (x986:Bool)=>
  Let (decide (k0.FixtureA≥(0:Int))) fun (x987:Bool)=>
  Let (bif x986 then x987 else false) fun (x988:Bool)=>
  Let (decide (k0.FixtureA<(4:Int))) fun (x989:Bool)=>
  Let (bif x988 then x989 else false) fun (x990:Bool)=>
  Let (decide (k0.FixtureB≥(0:Int))) fun (x991:Bool)=>
  Let (bif x990 then x991 else false) fun (x992:Bool)=>
  Let (decide (k0.FixtureB<(4:Int))) fun (x993:Bool)=>
  Let (bif x992 then x993 else false) fun (x994:Bool)=>some x994
noncomputable def cmp_isNaN (x0:Int):Option Bool:=
  Let (x0 != x0) fun (x995:Bool)=>some x995
noncomputable def cmp_Compare (x0:Int) (y1:Int):Option Int:=
  Rx.Bind (cmp_isNaN x0) fun (r996:Bool)=>
  Rx.Bind (cmp_isNaN y1) fun (r997:Bool)=>
  if r996=true then if r997=true then some (0:Int) else some (-1:Int)
  else
  if r997=true then some (1:Int)
  else
  Let (decide (x0<y1)) fun (x998:Bool)=>
  if x998=true then some (-1:Int)
  else Let (decide (x0>y1)) fun (x999:Bool)=>if x999=true then some (1:Int) else some (0:Int)
noncomputable def cmp_Or (vals0:(List Int)):Option Int:=
  Let (↑vals0.length:Int) fun (x1000:Int)=>
  LOOP
  (fun (rec1001:Int→Option Int) (s1002:Int)=>
  Let (decide (s1002<x1000)) fun (x1003:Bool)=>
  if x1003=true then
  Chk ((0:Int)≤s1002∧s1002<(↑vals0.length:Int))
  (Let (ix vals0 s1002) fun (x1004:Int)=>
  Let (x1004 != (0:Int)) fun (x1005:Bool)=>
  if x1005=true then some x1004 else Let (IntKind.i64.wrap (s1002+(1:Int))) fun (x1006:Int)=>rec1001 x1006)
  else some (0:Int))
  fuel (0:Int)
noncomputable def broadphase_compare (a0:PairKey) (b1:PairKey):Option Int:=
  Rx.Bind (cmp_Compare a0.BodyA b1.BodyA) fun (r1007:Int)=>
  Rx.Bind (cmp_Compare a0.FixtureA b1.FixtureA) fun (r1008:Int)=>
  Rx.Bind (cmp_Compare a0.BodyB b1.BodyB) fun (r1009:Int)=>
  Rx.Bind (cmp_Compare a0.FixtureB b1.FixtureB) fun (r1010:Int)=>
  Rx.Bind (cmp_Or [r1007,r1008,r1009,r1010]) fun (r1011:Int)=>some r1011
noncomputable def broadphase_Less (a0:PairKey) (b1:PairKey):Option Bool:=
  Rx.Bind (broadphase_compare a0 b1) fun (r1012:Int)=>
  Let (decide (r1012<(0:Int))) fun (x1013:Bool)=>some x1013
noncomputable def broadphase_ValidKeys (keys0:(List PairKey)):Option Bool:=
  Let (↑keys0.length:Int) fun (x1014:Int)=>
  LOOP
  (fun (rec1015:Int × PairKey→Option Bool) (s1016:Int × PairKey)=>
  Let (decide (s1016.fst<x1014)) fun (x1017:Bool)=>
  if x1017=true then
  Chk ((0:Int)≤s1016.fst∧s1016.fst<(↑keys0.length:Int))
  (Let (ix keys0 s1016.fst) fun (x1018:PairKey)=>
  Rx.Bind (broadphase_valid x1018) fun (r1019:Bool)=>
  Let (!r1019) fun (x1020:Bool)=>
  Let (decide (s1016.fst>(0:Int))) fun (x1021:Bool)=>
  Let
  (decide (x1018.BodyA=s1016.snd.BodyA)&&
  (decide (x1018.FixtureA=s1016.snd.FixtureA)&&
  (decide (x1018.BodyB=s1016.snd.BodyB)&&decide (x1018.FixtureB=s1016.snd.FixtureB))))
  fun (x1022:Bool)=>
  Rx.Bind
  (if (x1020==false&&x1021==true&&x1022==false)=true then broadphase_Less s1016.snd x1018 else some default)
  fun (r1023:Bool)=>
  Let (!r1023) fun (x1024:Bool)=>
  Let (bif x1022 then true else x1024) fun (x1025:Bool)=>
  Let (bif x1021 then x1025 else false) fun (x1026:Bool)=>
  Let (bif x1020 then true else x1026) fun (x1027:Bool)=>
  if x1027=true then some false
  else Let (IntKind.i64.wrap (s1016.fst+(1:Int))) fun (x1028:Int)=>rec1015 (x1028,x1018))
  else some true)
  fuel ((0:Int),{ BodyA:=(0:Int),FixtureA:=(0:Int),BodyB:=(0:Int),FixtureB:=(0:Int):PairKey })
noncomputable def slices_Concat (slices0:(List (List PairKey))):Option (List PairKey):=
  Let (↑slices0.length:Int) fun (x1029:Int)=>
  LOOP
  (fun (rec1030:Int × Int→Option (List PairKey)) (s1031:Int × Int)=>
  Let (decide (s1031.snd<x1029)) fun (x1032:Bool)=>
  if x1032=true then
  Chk ((0:Int)≤s1031.snd∧s1031.snd<(↑slices0.length:Int))
  (Let (ix slices0 s1031.snd) fun (x1033:List PairKey)=>
  Let (↑x1033.length:Int) fun (x1034:Int)=>
  Let (IntKind.i64.wrap (s1031.fst+x1034)) fun (x1035:Int)=>
  Let (decide (x1035<(0:Int))) fun (x1036:Bool)=>
  if x1036=true then none
  else Let (IntKind.i64.wrap (s1031.snd+(1:Int))) fun (x1037:Int)=>rec1030 (x1035,x1037))
  else
  Let (decide (s1031.fst<(0:Int))) fun (x1038:Bool)=>
  if x1038=true then none
  else
  Join
  (fun (v1039:List PairKey)=>
  Let (↑slices0.length:Int) fun (x1040:Int)=>
  LOOP
  (fun (rec1041:List PairKey × Int→Option (List PairKey)) (s1042:List PairKey × Int)=>
  Let (decide (s1042.snd<x1040)) fun (x1043:Bool)=>
  if x1043=true then
  Chk ((0:Int)≤s1042.snd∧s1042.snd<(↑slices0.length:Int))
  (Let (ix slices0 s1042.snd) fun (x1044:List PairKey)=>
  Chk ((List.length s1042.fst+x1044.length)*(32:Nat)≤(140737488355328:Nat))
  (Let (s1042.fst++x1044) fun (x1045:List PairKey)=>
  Let (IntKind.i64.wrap (s1042.snd+(1:Int))) fun (x1046:Int)=>rec1041 (x1045,x1046)))
  else some s1042.fst)
  fuel (v1039,(0:Int)))
  fun (j1047:List PairKey→Option (List PairKey))=>
  Let (IntKind.i64.wrap ((0:Int) - (0:Int))) fun (x1048:Int)=>
  Let (IntKind.i64.wrap (s1031.fst - x1048)) fun (x1049:Int)=>
  Let (decide (x1049>(0:Int))) fun (x1050:Bool)=>
  if x1050=true then
  Chk ((0:Int)=(0:Int))
  (Chk ((0:Int)<x1049∧x1049.toNat*(32:Nat)≤(140737488355328:Nat)∧x1049≤(9223372036854775807:Int))
  (Let
  (List.replicate x1049.toNat
  { BodyA:=(0:Int),FixtureA:=(0:Int),BodyB:=(0:Int),FixtureB:=(0:Int):PairKey })
  fun (x1051:List PairKey)=>
  Chk
  ((0:Int)≤none.getD (0:Int)∧
  (0:Int)≤(some (0:Int)).getD (0:Int)∧(0:Nat)≤Int.toNat (0:Int)∧Int.toNat (0:Int)≤x1051.length)
  (Chk (Int.toNat (0:Int) - (0:Nat)≤x1051.length)
  (Let (List.take (Int.toNat (0:Int) - (0:Nat)) x1051) fun (x1052:List PairKey)=>j1047 x1052))))
  else j1047 [])
  fuel ((0:Int),(0:Int))
noncomputable def world_fixturesExist (w0:World_) (k1:PairKey):Option Bool:=
  Rx.Bind (world_FindBody w0 k1.BodyA) fun (r1053:Int)=>
  Rx.Bind (world_FindBody w0 k1.BodyB) fun (r1054:Int)=>
  Let (decide (r1053≥(0:Int))) fun (x1055:Bool)=>
  Let (decide (r1054≥(0:Int))) fun (x1056:Bool)=>
  Let (bif x1055 then x1056 else false) fun (x1057:Bool)=>
  Chk ((x1057==true)=true→(0:Int)≤r1053∧r1053<(↑w0.Bodies.length:Int))
  (Let (ix w0.Bodies r1053) fun (x1058:Body)=>
  Let (↑x1058.Fixtures.length:Int) fun (x1059:Int)=>
  Let (decide (k1.FixtureA<x1059)) fun (x1060:Bool)=>
  Let (bif x1057 then x1060 else false) fun (x1061:Bool)=>
  Chk ((x1061==true)=true→(0:Int)≤r1054∧r1054<(↑w0.Bodies.length:Int))
  (Let (ix w0.Bodies r1054) fun (x1062:Body)=>
  Let (↑x1062.Fixtures.length:Int) fun (x1063:Int)=>
  Let (decide (k1.FixtureB<x1063)) fun (x1064:Bool)=>
  Let (bif x1061 then x1064 else false) fun (x1065:Bool)=>some x1065))
noncomputable def world_validContacts_1 (k0:PairKey) (p1:World_):Option Bool:=
  Rx.Bind (world_fixturesExist p1 k0) fun (r1066:Bool)=>Let (!r1066) fun (x1067:Bool)=>some x1067
noncomputable def slices_ContainsFunc (s0:(List PairKey)) (f1:(PairKey→Option Bool)):Option Bool:=
  Rx.Bind (slices_IndexFunc_101 s0 f1) fun (r1068:Int)=>
  Let (decide (r1068≥(0:Int))) fun (x1069:Bool)=>some x1069
noncomputable def world_validContacts (w0:World_):Option Bool:=
  Let (↑w0.Contacts.length:Int) fun (x1070:Int)=>
  LOOP
  (fun (rec1071:List PairKey × Int→Option Bool) (s1072:List PairKey × Int)=>
  Let (decide (s1072.snd<x1070)) fun (x1073:Bool)=>
  if x1073=true then
  Chk ((0:Int)≤s1072.snd∧s1072.snd<(↑w0.Contacts.length:Int))
  (Let (ix w0.Contacts s1072.snd) fun (x1074:Contact)=>
  Rx.Bind (world_validManifold x1074.Manifold) fun (r1075:Bool)=>
  Let (!r1075) fun (x1076:Bool)=>
  if x1076=true then some false
  else
  Chk ((List.length s1072.fst+[x1074.Key].length)*(32:Nat)≤(140737488355328:Nat))
  (Let (s1072.fst++[x1074.Key]) fun (x1077:List PairKey)=>
  Let (IntKind.i64.wrap (s1072.snd+(1:Int))) fun (x1078:Int)=>rec1071 (x1077,x1078)))
  else
  Rx.Bind (broadphase_ValidKeys s1072.fst) fun (r1079:Bool)=>
  Let (!r1079) fun (x1080:Bool)=>
  Rx.Bind (if (x1080==false)=true then broadphase_ValidKeys w0.Overlaps else some default) fun (r1081:Bool)=>
  Let (!r1081) fun (x1082:Bool)=>
  Let (bif x1080 then true else x1082) fun (x1083:Bool)=>
  if x1083=true then some false
  else
  Rx.Bind (slices_Concat [s1072.fst,w0.Overlaps]) fun (r1084:List PairKey)=>
  Rx.Bind (slices_ContainsFunc r1084 fun (a:Tup tb [Ix.tPairKey])=>world_validContacts_1 a w0) fun (r1085:Bool)=>
  Let (!r1085) fun (x1086:Bool)=>some x1086)
  fuel ([],(0:Int))
noncomputable def world_Validate (w0:World_):Option Int:=
  Rx.Bind (world_ValidateSettings w0.Settings) fun (r1087:Int)=>
  Let (r1087 != (0:Int)) fun (x1088:Bool)=>
  if x1088=true then some (17:Int)
  else
  Let (↑w0.Bodies.length:Int) fun (x1089:Int)=>
  Let (decide (x1089>(32:Int))) fun (x1090:Bool)=>
  Let (↑w0.Joints.length:Int) fun (x1091:Int)=>
  Let (decide (x1091>(32:Int))) fun (x1092:Bool)=>
  Let (bif x1090 then true else x1092) fun (x1093:Bool)=>
  Let (↑w0.Contacts.length:Int) fun (x1094:Int)=>
  Let (decide (x1094>(8192:Int))) fun (x1095:Bool)=>
  Let (bif x1093 then true else x1095) fun (x1096:Bool)=>
  Let (↑w0.Overlaps.length:Int) fun (x1097:Int)=>
  Let (decide (x1097>(8192:Int))) fun (x1098:Bool)=>
  Let (bif x1096 then true else x1098) fun (x1099:Bool)=>
  if x1099=true then some (11:Int)
  else
  Rx.Bind (world_in w0.NextID (1:Int) (1099511627776:Int)) fun (r1100:Bool)=>
  Let (!r1100) fun (x1101:Bool)=>
  Rx.Bind (if (x1101==false)=true then world_in w0.Frame (0:Int) (1099511627776:Int) else some default)
  fun (r1102:Bool)=>
  Let (!r1102) fun (x1103:Bool)=>
  Let (bif x1101 then true else x1103) fun (x1104:Bool)=>
  if x1104=true then some (6:Int)
  else
  Rx.Bind (world_validBodies w0) fun (r1105:Bool)=>
  Let (!r1105) fun (x1106:Bool)=>
  if x1106=true then some (14:Int)
  else
  Rx.Bind (world_validJoints w0) fun (r1107:Bool)=>
  Let (!r1107) fun (x1108:Bool)=>
  if x1108=true then some (15:Int)
  else
  Rx.Bind (world_validContacts w0) fun (r1109:Bool)=>
  Let (!r1109) fun (x1110:Bool)=>if x1110=true then some (16:Int) else some (0:Int)
noncomputable def caromlaw25_example  : Option Bool:=
  Rx.Bind caromlaw25_settings fun (r1111:Settings)=>
  Rx.Bind (world_New r1111) fun (r1112:World_ × Int)=>
  Rx.Bind
  (world_AddBody r1112.fst
  { ID:=(9:Int),Kind:=(1:Int),Transform:={ Position:={ X:=(0:Int),Y:=(0:Int):Vec },Angle:=(0:Int):Transform },Velocity:={ X:=(0:Int),Y:=(0:Int):Vec },AngularVelocity:=(0:Int),Force:={ X:=(0:Int),Y:=(0:Int):Vec },Torque:=(0:Int),LinearDamping:=(0:Int),AngularDamping:=(0:Int),GravityScale:=(0:Int),Bullet:=false,FixedRotation:=false,NoSleep:=false,Asleep:=false,IdleSteps:=(0:Int),Fixtures:=[]:Body })
  fun (r1113:World_ × Int × Int)=>
  Rx.Bind (world_RemoveBody r1113.fst (9:Int)) fun (r1114:World_ × Int)=>
  Let (r1112.snd==(0:Int)) fun (x1115:Bool)=>
  Let (r1113.snd.snd==(0:Int)) fun (x1116:Bool)=>
  Let (bif x1115 then x1116 else false) fun (x1117:Bool)=>
  Let (r1113.snd.fst==(1:Int)) fun (x1118:Bool)=>
  Let (bif x1117 then x1118 else false) fun (x1119:Bool)=>
  Let (r1113.fst.NextID==(2:Int)) fun (x1120:Bool)=>
  Let (bif x1119 then x1120 else false) fun (x1121:Bool)=>
  Rx.Bind (if (x1121==true)=true then world_Validate r1113.fst else some default) fun (r1122:Int)=>
  Let (r1122==(0:Int)) fun (x1123:Bool)=>
  Let (bif x1121 then x1123 else false) fun (x1124:Bool)=>
  Rx.Bind (if (x1124==true)=true then world_FindBody r1113.fst (1:Int) else some default) fun (r1125:Int)=>
  Let (r1125==(0:Int)) fun (x1126:Bool)=>
  Let (bif x1124 then x1126 else false) fun (x1127:Bool)=>
  Let (r1114.snd==(8:Int)) fun (x1128:Bool)=>
  Let (bif x1127 then x1128 else false) fun (x1129:Bool)=>
  Rx.Bind
  (if (x1129==true)=true then
  world_Validate
  { Settings:={ TimeStep:=(0:Int),Gravity:={ X:=(0:Int),Y:=(0:Int):Vec },Iterations:=(0:Int),SleepSteps:=(0:Int):Settings },Bodies:=[],Joints:=[],Contacts:=[],Overlaps:=[],NextID:=(0:Int),Frame:=(0:Int):World_ }
  else some default)
  fun (r1130:Int)=>
  Let (r1130==(17:Int)) fun (x1131:Bool)=>Let (bif x1129 then x1131 else false) fun (x1132:Bool)=>some x1132
noncomputable def caromref23_in (x0:Int) (low1:Int) (high2:Int):Option Bool:=
  Let (decide (x0≥low1)) fun (x1152:Bool)=>
  Let (decide (x0≤high2)) fun (x1153:Bool)=>Let (bif x1152 then x1153 else false) fun (x1154:Bool)=>some x1154
noncomputable def caromref04_outside (x0:Int):Option Bool:=
  Let (decide (x0<(-268435456:Int))) fun (x1155:Bool)=>
  Let (decide (x0>(268435456:Int))) fun (x1156:Bool)=>
  Let (bif x1155 then true else x1156) fun (x1157:Bool)=>some x1157
noncomputable def caromref04_Valid (p0:Transform):Option Bool:=
  Rx.Bind (caromref04_outside p0.Position.X) fun (r1158:Bool)=>
  Let (!r1158) fun (x1159:Bool)=>
  Rx.Bind (if (x1159==true)=true then caromref04_outside p0.Position.Y else some default) fun (r1160:Bool)=>
  Let (!r1160) fun (x1161:Bool)=>
  Let (bif x1159 then x1161 else false) fun (x1162:Bool)=>
  Let (decide (p0.Angle≥(-205888:Int))) fun (x1163:Bool)=>
  Let (bif x1162 then x1163 else false) fun (x1164:Bool)=>
  Let (decide (p0.Angle<(205888:Int))) fun (x1165:Bool)=>
  Let (bif x1164 then x1165 else false) fun (x1166:Bool)=>some x1166
noncomputable def caromref23_inRange (b0:Body):Option Bool:=
  Rx.Bind (caromref23_in b0.ID (1:Int) (1099511627776:Int)) fun (r1167:Bool)=>
  Let (!r1167) fun (x1168:Bool)=>
  Rx.Bind (if (x1168==false)=true then caromref04_Valid b0.Transform else some default) fun (r1169:Bool)=>
  Let (!r1169) fun (x1170:Bool)=>
  Let (bif x1168 then true else x1170) fun (x1171:Bool)=>
  Rx.Bind
  (if (x1171==false)=true then caromref23_in b0.Velocity.X (-16777216:Int) (16777216:Int) else some default)
  fun (r1172:Bool)=>
  Let (!r1172) fun (x1173:Bool)=>
  Let (bif x1171 then true else x1173) fun (x1174:Bool)=>
  Rx.Bind
  (if (x1174==false)=true then caromref23_in b0.Velocity.Y (-16777216:Int) (16777216:Int) else some default)
  fun (r1175:Bool)=>
  Let (!r1175) fun (x1176:Bool)=>
  Let (bif x1174 then true else x1176) fun (x1177:Bool)=>
  Rx.Bind
  (if (x1177==false)=true then caromref23_in b0.AngularVelocity (-4194304:Int) (4194304:Int) else some default)
  fun (r1178:Bool)=>
  Let (!r1178) fun (x1179:Bool)=>
  Let (bif x1177 then true else x1179) fun (x1180:Bool)=>
  if x1180=true then some false
  else
  Rx.Bind (caromref23_in b0.Force.X (-536870911:Int) (536870911:Int)) fun (r1181:Bool)=>
  Let (!r1181) fun (x1182:Bool)=>
  Rx.Bind
  (if (x1182==false)=true then caromref23_in b0.Force.Y (-536870911:Int) (536870911:Int) else some default)
  fun (r1183:Bool)=>
  Let (!r1183) fun (x1184:Bool)=>
  Let (bif x1182 then true else x1184) fun (x1185:Bool)=>
  Rx.Bind (if (x1185==false)=true then caromref23_in b0.Torque (-536870911:Int) (536870911:Int) else some default)
  fun (r1186:Bool)=>
  Let (!r1186) fun (x1187:Bool)=>
  Let (bif x1185 then true else x1187) fun (x1188:Bool)=>
  if x1188=true then some false
  else
  Rx.Bind (caromref23_in b0.LinearDamping (0:Int) (65536:Int)) fun (r1189:Bool)=>
  Rx.Bind (if (r1189==true)=true then caromref23_in b0.AngularDamping (0:Int) (65536:Int) else some default)
  fun (r1190:Bool)=>
  Let (bif r1189 then r1190 else false) fun (x1191:Bool)=>
  Rx.Bind (if (x1191==true)=true then caromref23_in b0.GravityScale (-262144:Int) (262144:Int) else some default)
  fun (r1192:Bool)=>
  Let (bif x1191 then r1192 else false) fun (x1193:Bool)=>
  Rx.Bind (if (x1193==true)=true then caromref23_in b0.IdleSteps (0:Int) (1048576:Int) else some default)
  fun (r1194:Bool)=>Let (bif x1193 then r1194 else false) fun (x1195:Bool)=>some x1195
noncomputable def caromref12_countMatches (s0:Shape):Option Bool:=
  Let (↑s0.Vertices.length:Int) fun (x1196:Int)=>
  Let (s0.Kind==(3:Int)) fun (x1197:Bool)=>
  if x1197=true then
  Let (decide (x1196≥(3:Int))) fun (x1198:Bool)=>
  Let (decide (x1196≤(8:Int))) fun (x1199:Bool)=>
  Let (bif x1198 then x1199 else false) fun (x1200:Bool)=>some x1200
  else Let (x1196==s0.Kind) fun (x1201:Bool)=>some x1201
noncomputable def caromref12_within (x0:Int) (m1:Int):Option Bool:=
  Let (IntKind.i64.wrap ((0:Int) - m1)) fun (x1202:Int)=>
  Let (decide (x0≥x1202)) fun (x1203:Bool)=>
  Let (decide (x0≤m1)) fun (x1204:Bool)=>Let (bif x1203 then x1204 else false) fun (x1205:Bool)=>some x1205
noncomputable def caromref01_Saturate (x0:Int):Option Int:=
  Let (decide (x0>(536870911:Int))) fun (x1206:Bool)=>
  if x1206=true then some (536870911:Int)
  else
  Let (decide (x0<(-536870911:Int))) fun (x1207:Bool)=>if x1207=true then some (-536870911:Int) else some x0
noncomputable def caromref01_Sub (a0:Int) (b1:Int):Option Int:=
  Rx.Bind (caromref01_Saturate a0) fun (r1208:Int)=>
  Rx.Bind (caromref01_Saturate b1) fun (r1209:Int)=>
  Let (IntKind.i64.wrap (r1208 - r1209)) fun (x1210:Int)=>
  Rx.Bind (caromref01_Saturate x1210) fun (r1211:Int)=>some r1211
noncomputable def caromref03_Sub (a0:Vec) (b1:Vec):Option Vec:=
  Rx.Bind (caromref01_Sub a0.X b1.X) fun (r1212:Int)=>
  Rx.Bind (caromref01_Sub a0.Y b1.Y) fun (r1213:Int)=>some { X:=r1212,Y:=r1213:Vec }
noncomputable def caromref03_Saturated (v0:Vec):Option Vec:=
  Rx.Bind (caromref01_Saturate v0.X) fun (r1214:Int)=>
  Rx.Bind (caromref01_Saturate v0.Y) fun (r1215:Int)=>some { X:=r1214,Y:=r1215:Vec }
noncomputable def caromref01_outOfRange (n0:Int):Option Bool:=
  Let (decide (n0>(4611686018427387904:Int))) fun (x1216:Bool)=>
  Let (decide (n0<(-4611686018427387904:Int))) fun (x1217:Bool)=>
  Let (bif x1216 then true else x1217) fun (x1218:Bool)=>some x1218
noncomputable def caromref01_Isqrt (n0:Int):Option Int:=
  Let (decide (n0<(0:Int))) fun (x1219:Bool)=>
  Rx.Bind (if (x1219==false)=true then caromref01_outOfRange n0 else some default) fun (r1220:Bool)=>
  Let (bif x1219 then true else r1220) fun (x1221:Bool)=>
  if x1221=true then some (0:Int)
  else
  LOOP
  (fun (rec1222:Int × Int→Option Int) (s1223:Int × Int)=>
  Let (decide (s1223.snd>(0:Int))) fun (x1224:Bool)=>
  if x1224=true then
  Join
  (fun (v1225:Int)=>Let (IntKind.i64.wrap (Int.tdiv s1223.snd (2:Int))) fun (x1226:Int)=>rec1222 (v1225,x1226))
  fun (j1227:Int→Option Int)=>
  Let (IntKind.i64.wrap (s1223.fst+s1223.snd)) fun (x1228:Int)=>
  Let (IntKind.i64.wrap (s1223.fst+s1223.snd)) fun (x1229:Int)=>
  Chk (x1229≠(0:Int))
  (Let (IntKind.i64.wrap (n0.tdiv x1229)) fun (x1230:Int)=>
  Let (decide (x1228≤x1230)) fun (x1231:Bool)=>
  if x1231=true then Let (IntKind.i64.wrap (s1223.fst+s1223.snd)) fun (x1232:Int)=>j1227 x1232
  else j1227 s1223.fst)
  else some s1223.fst)
  fuel ((0:Int),(2147483648:Int))
noncomputable def caromref03_Length (v0:Vec):Option Int:=
  Rx.Bind (caromref03_Saturated v0) fun (r1233:Vec)=>
  Let (IntKind.i64.wrap (r1233.X*r1233.X)) fun (x1234:Int)=>
  Let (IntKind.i64.wrap (r1233.Y*r1233.Y)) fun (x1235:Int)=>
  Let (IntKind.i64.wrap (x1234+x1235)) fun (x1236:Int)=>
  Rx.Bind (caromref01_Isqrt x1236) fun (r1237:Int)=>some r1237
noncomputable def caromref11_inRange (v0:Vec):Option Bool:=
  Let (decide (v0.X≥(-1048576:Int))) fun (x1238:Bool)=>
  Let (decide (v0.X≤(1048576:Int))) fun (x1239:Bool)=>
  Let (bif x1238 then x1239 else false) fun (x1240:Bool)=>
  Let (decide (v0.Y≥(-1048576:Int))) fun (x1241:Bool)=>
  Let (bif x1240 then x1241 else false) fun (x1242:Bool)=>
  Let (decide (v0.Y≤(1048576:Int))) fun (x1243:Bool)=>
  Let (bif x1242 then x1243 else false) fun (x1244:Bool)=>some x1244
noncomputable def caromref03_Orientation (a0:Vec) (b1:Vec) (c2:Vec):Option Int:=
  Rx.Bind (caromref03_Saturated a0) fun (r1245:Vec)=>
  Rx.Bind (caromref03_Saturated b1) fun (r1246:Vec)=>
  Rx.Bind (caromref03_Saturated c2) fun (r1247:Vec)=>
  Let (IntKind.i64.wrap (r1246.X - r1245.X)) fun (x1248:Int)=>
  Let (IntKind.i64.wrap (r1247.Y - r1245.Y)) fun (x1249:Int)=>
  Let (IntKind.i64.wrap (x1248*x1249)) fun (x1250:Int)=>
  Let (IntKind.i64.wrap (r1246.Y - r1245.Y)) fun (x1251:Int)=>
  Let (IntKind.i64.wrap (r1247.X - r1245.X)) fun (x1252:Int)=>
  Let (IntKind.i64.wrap (x1251*x1252)) fun (x1253:Int)=>
  Let (IntKind.i64.wrap (x1250 - x1253)) fun (x1254:Int)=>
  Let (decide (x1254>(0:Int))) fun (x1255:Bool)=>
  if x1255=true then some (1:Int)
  else Let (decide (x1254<(0:Int))) fun (x1256:Bool)=>if x1256=true then some (-1:Int) else some (0:Int)
noncomputable def caromref11_IsConvex (vertices0:(List Vec)):Option Bool:=
  Let (↑vertices0.length:Int) fun (x1257:Int)=>
  Let (decide (x1257<(3:Int))) fun (x1258:Bool)=>
  Let (decide (x1257>(8:Int))) fun (x1259:Bool)=>
  Let (bif x1258 then true else x1259) fun (x1260:Bool)=>
  if x1260=true then some false
  else
  LOOP
  (fun (rec1261:Int→Option Bool) (s1262:Int)=>
  Let (decide (s1262<x1257)) fun (x1263:Bool)=>
  if x1263=true then
  Chk ((0:Int)≤s1262∧s1262<(↑vertices0.length:Int))
  (Let (ix vertices0 s1262) fun (x1264:Vec)=>
  Rx.Bind (caromref11_inRange x1264) fun (r1265:Bool)=>
  Let (!r1265) fun (x1266:Bool)=>
  if x1266=true then some false else Let (IntKind.i64.wrap (s1262+(1:Int))) fun (x1267:Int)=>rec1261 x1267)
  else
  LOOP
  (fun (rec1268:Int→Option Bool) (s1269:Int)=>
  Let (decide (s1269<x1257)) fun (x1270:Bool)=>
  if x1270=true then
  Let (IntKind.i64.wrap (s1269+(1:Int))) fun (x1271:Int)=>
  Chk (x1257≠(0:Int))
  (Let (x1271.tmod x1257) fun (x1272:Int)=>
  LOOP
  (fun (rec1273:Int→Option Bool) (s1274:Int)=>
  Let (decide (s1274<x1257)) fun (x1275:Bool)=>
  if x1275=true then
  Let (s1274 != s1269) fun (x1276:Bool)=>
  Let (s1274 != x1272) fun (x1277:Bool)=>
  Let (bif x1276 then x1277 else false) fun (x1278:Bool)=>
  Chk ((x1278==true)=true→(0:Int)≤s1269∧s1269<(↑vertices0.length:Int))
  (Let (ix vertices0 s1269) fun (x1279:Vec)=>
  Chk ((x1278==true)=true→(0:Int)≤x1272∧x1272<(↑vertices0.length:Int))
  (Let (ix vertices0 x1272) fun (x1280:Vec)=>
  Chk ((x1278==true)=true→(0:Int)≤s1274∧s1274<(↑vertices0.length:Int))
  (Let (ix vertices0 s1274) fun (x1281:Vec)=>
  Rx.Bind (if (x1278==true)=true then caromref03_Orientation x1279 x1280 x1281 else some default) fun (r1282:Int)=>
  Let (r1282 != (1:Int)) fun (x1283:Bool)=>
  Let (bif x1278 then x1283 else false) fun (x1284:Bool)=>
  if x1284=true then some false else Let (IntKind.i64.wrap (s1274+(1:Int))) fun (x1285:Int)=>rec1273 x1285)))
  else Let (IntKind.i64.wrap (s1269+(1:Int))) fun (x1286:Int)=>rec1268 x1286)
  fuel (0:Int))
  else some true)
  fuel (0:Int))
  fuel (0:Int)
noncomputable def caromref11_ShortestEdge (vertices0:(List Vec)):Option Int:=
  Rx.Bind (caromref11_IsConvex vertices0) fun (r1287:Bool)=>
  Let (!r1287) fun (x1288:Bool)=>
  if x1288=true then some (0:Int)
  else
  LOOP
  (fun (rec1289:Int × Int→Option Int) (s1290:Int × Int)=>
  Let (↑vertices0.length:Int) fun (x1291:Int)=>
  Let (decide (s1290.snd<x1291)) fun (x1292:Bool)=>
  if x1292=true then
  Join (fun (v1293:Int)=>Let (IntKind.i64.wrap (s1290.snd+(1:Int))) fun (x1294:Int)=>rec1289 (v1293,x1294))
  fun (j1295:Int→Option Int)=>
  Let (IntKind.i64.wrap (s1290.snd+(1:Int))) fun (x1296:Int)=>
  Let (↑vertices0.length:Int) fun (x1297:Int)=>
  Chk (x1297≠(0:Int))
  (Let (x1296.tmod x1297) fun (x1298:Int)=>
  Chk ((0:Int)≤x1298∧x1298<(↑vertices0.length:Int))
  (Let (ix vertices0 x1298) fun (x1299:Vec)=>
  Chk ((0:Int)≤s1290.snd∧s1290.snd<(↑vertices0.length:Int))
  (Let (ix vertices0 s1290.snd) fun (x1300:Vec)=>
  Rx.Bind (caromref03_Sub x1299 x1300) fun (r1301:Vec)=>
  Rx.Bind (caromref03_Length r1301) fun (r1302:Int)=>
  Let (decide (s1290.fst<(0:Int))) fun (x1303:Bool)=>
  Let (decide (r1302<s1290.fst)) fun (x1304:Bool)=>
  Let (bif x1303 then true else x1304) fun (x1305:Bool)=>if x1305=true then j1295 r1302 else j1295 s1290.fst)))
  else some s1290.fst)
  fuel ((-1:Int),(0:Int))
noncomputable def caromref01_RoundDiv (n0:Int) (d1:Int):Option Int:=
  Let (decide (d1<(1:Int))) fun (x1306:Bool)=>
  Rx.Bind (if (x1306==false)=true then caromref01_outOfRange d1 else some default) fun (r1307:Bool)=>
  Let (bif x1306 then true else r1307) fun (x1308:Bool)=>
  Rx.Bind (if (x1308==false)=true then caromref01_outOfRange n0 else some default) fun (r1309:Bool)=>
  Let (bif x1308 then true else r1309) fun (x1310:Bool)=>
  if x1310=true then some (0:Int)
  else
  Join
  (fun (v1311:Int)=>
  Chk (d1≠(0:Int))
  (Let (IntKind.i64.wrap (v1311.tdiv d1)) fun (x1312:Int)=>
  Let (IntKind.i64.wrap (x1312*d1)) fun (x1313:Int)=>
  Let (IntKind.i64.wrap (v1311 - x1313)) fun (x1314:Int)=>
  Join
  (fun (v1315:Int)=>
  Let (decide (n0<(0:Int))) fun (x1316:Bool)=>
  if x1316=true then Let (IntKind.i64.wrap ((0:Int) - v1315)) fun (x1317:Int)=>some x1317 else some v1315)
  fun (j1318:Int→Option Int)=>
  Let (IntKind.i64.wrap (d1 - x1314)) fun (x1319:Int)=>
  Let (decide (x1314≥x1319)) fun (x1320:Bool)=>
  if x1320=true then Let (IntKind.i64.wrap (x1312+(1:Int))) fun (x1321:Int)=>j1318 x1321 else j1318 x1312))
  fun (j1322:Int→Option Int)=>
  Let (decide (n0<(0:Int))) fun (x1323:Bool)=>
  if x1323=true then Let (IntKind.i64.wrap ((0:Int) - n0)) fun (x1324:Int)=>j1322 x1324 else j1322 n0
noncomputable def caromref11_cross (v0:(List Vec)) (i1:Int):Option Int:=
  Chk ((0:Int)≤i1∧i1<(↑v0.length:Int))
  (Let (ix v0 i1) fun (x1325:Vec)=>
  Chk ((0:Int)≤(0:Int)∧(0:Int)<(↑v0.length:Int))
  (Let (ix v0 (0:Int)) fun (x1326:Vec)=>
  Let (IntKind.i64.wrap (x1325.X - x1326.X)) fun (x1327:Int)=>
  Chk ((0:Int)≤i1∧i1<(↑v0.length:Int))
  (Let (ix v0 i1) fun (x1328:Vec)=>
  Chk ((0:Int)≤(0:Int)∧(0:Int)<(↑v0.length:Int))
  (Let (ix v0 (0:Int)) fun (x1329:Vec)=>
  Let (IntKind.i64.wrap (x1328.Y - x1329.Y)) fun (x1330:Int)=>
  Let (IntKind.i64.wrap (i1+(1:Int))) fun (x1331:Int)=>
  Chk ((0:Int)≤x1331∧x1331<(↑v0.length:Int))
  (Let (ix v0 x1331) fun (x1332:Vec)=>
  Chk ((0:Int)≤(0:Int)∧(0:Int)<(↑v0.length:Int))
  (Let (ix v0 (0:Int)) fun (x1333:Vec)=>
  Let (IntKind.i64.wrap (x1332.X - x1333.X)) fun (x1334:Int)=>
  Let (IntKind.i64.wrap (i1+(1:Int))) fun (x1335:Int)=>
  Chk ((0:Int)≤x1335∧x1335<(↑v0.length:Int))
  (Let (ix v0 x1335) fun (x1336:Vec)=>
  Chk ((0:Int)≤(0:Int)∧(0:Int)<(↑v0.length:Int))
  (Let (ix v0 (0:Int)) fun (x1337:Vec)=>
  Let (IntKind.i64.wrap (x1336.Y - x1337.Y)) fun (x1338:Int)=>
  Let (IntKind.i64.wrap (x1327*x1338)) fun (x1339:Int)=>
  Let (IntKind.i64.wrap (x1330*x1334)) fun (x1340:Int)=>
  Let (IntKind.i64.wrap (x1339 - x1340)) fun (x1341:Int)=>
  Rx.Bind (caromref01_RoundDiv x1341 (65536:Int)) fun (r1342:Int)=>some r1342))))))))
noncomputable def caromref11_Area (vertices0:(List Vec)):Option Int:=
  Rx.Bind (caromref11_IsConvex vertices0) fun (r1343:Bool)=>
  Let (!r1343) fun (x1344:Bool)=>
  if x1344=true then some (0:Int)
  else
  LOOP
  (fun (rec1345:Int × Int→Option Int) (s1346:Int × Int)=>
  Let (IntKind.i64.wrap (s1346.snd+(1:Int))) fun (x1347:Int)=>
  Let (↑vertices0.length:Int) fun (x1348:Int)=>
  Let (decide (x1347<x1348)) fun (x1349:Bool)=>
  if x1349=true then
  Rx.Bind (caromref11_cross vertices0 s1346.snd) fun (r1350:Int)=>
  Let (IntKind.i64.wrap (s1346.fst+r1350)) fun (x1351:Int)=>
  Let (IntKind.i64.wrap (s1346.snd+(1:Int))) fun (x1352:Int)=>rec1345 (x1351,x1352)
  else Rx.Bind (caromref01_RoundDiv s1346.fst (2:Int)) fun (r1353:Int)=>some r1353)
  fuel ((0:Int),(1:Int))
noncomputable def caromref12_Validate (s0:Shape):Option Int:=
  Let (decide (s0.Kind<(1:Int))) fun (x1354:Bool)=>
  Let (decide (s0.Kind>(3:Int))) fun (x1355:Bool)=>
  Let (bif x1354 then true else x1355) fun (x1356:Bool)=>
  if x1356=true then some (10:Int)
  else
  Rx.Bind (caromref12_countMatches s0) fun (r1357:Bool)=>
  Let (!r1357) fun (x1358:Bool)=>
  if x1358=true then some (11:Int)
  else
  LOOP
  (fun (rec1359:Int→Option Int) (s1360:Int)=>
  Let (↑s0.Vertices.length:Int) fun (x1361:Int)=>
  Let (decide (s1360<x1361)) fun (x1362:Bool)=>
  if x1362=true then
  Chk ((0:Int)≤s1360∧s1360<(↑s0.Vertices.length:Int))
  (Let (ix s0.Vertices s1360) fun (x1363:Vec)=>
  Rx.Bind (caromref12_within x1363.X (1048576:Int)) fun (r1364:Bool)=>
  Let (!r1364) fun (x1365:Bool)=>
  Chk ((x1365==false)=true→(0:Int)≤s1360∧s1360<(↑s0.Vertices.length:Int))
  (Let (ix s0.Vertices s1360) fun (x1366:Vec)=>
  Rx.Bind (if (x1365==false)=true then caromref12_within x1366.Y (1048576:Int) else some default)
  fun (r1367:Bool)=>
  Let (!r1367) fun (x1368:Bool)=>
  Let (bif x1365 then true else x1368) fun (x1369:Bool)=>
  if x1369=true then some (6:Int) else Let (IntKind.i64.wrap (s1360+(1:Int))) fun (x1370:Int)=>rec1359 x1370))
  else
  Let (s0.Kind==(3:Int)) fun (x1371:Bool)=>
  Let (s0.Radius != (0:Int)) fun (x1372:Bool)=>
  Let (bif x1371 then x1372 else false) fun (x1373:Bool)=>
  Let (s0.Kind != (3:Int)) fun (x1374:Bool)=>
  Let (decide (s0.Radius<(2048:Int))) fun (x1375:Bool)=>
  Let (decide (s0.Radius>(524288:Int))) fun (x1376:Bool)=>
  Let (bif x1375 then true else x1376) fun (x1377:Bool)=>
  Let (bif x1374 then x1377 else false) fun (x1378:Bool)=>
  Let (bif x1373 then true else x1378) fun (x1379:Bool)=>
  if x1379=true then some (6:Int)
  else
  Let (s0.Kind==(2:Int)) fun (x1380:Bool)=>
  Chk ((x1380==true)=true→(0:Int)≤(1:Int)∧(1:Int)<(↑s0.Vertices.length:Int))
  (Let (ix s0.Vertices (1:Int)) fun (x1381:Vec)=>
  Chk ((x1380==true)=true→(0:Int)≤(0:Int)∧(0:Int)<(↑s0.Vertices.length:Int))
  (Let (ix s0.Vertices (0:Int)) fun (x1382:Vec)=>
  Rx.Bind (if (x1380==true)=true then caromref03_Sub x1381 x1382 else some { X:=default,Y:=default:Vec })
  fun (r1383:Vec)=>
  Rx.Bind (if (x1380==true)=true then caromref03_Length r1383 else some default) fun (r1384:Int)=>
  Let (decide (r1384<(4096:Int))) fun (x1385:Bool)=>
  Let (bif x1380 then x1385 else false) fun (x1386:Bool)=>
  if x1386=true then some (12:Int)
  else
  Let (s0.Kind==(3:Int)) fun (x1387:Bool)=>
  Rx.Bind (if (x1387==true)=true then caromref11_IsConvex s0.Vertices else some default) fun (r1388:Bool)=>
  Let (!r1388) fun (x1389:Bool)=>
  Rx.Bind (if (x1387==true&&x1389==false)=true then caromref11_ShortestEdge s0.Vertices else some default)
  fun (r1390:Int)=>
  Let (decide (r1390<(4096:Int))) fun (x1391:Bool)=>
  Let (bif x1389 then true else x1391) fun (x1392:Bool)=>
  Rx.Bind (if (x1387==true&&x1392==false)=true then caromref11_Area s0.Vertices else some default)
  fun (r1393:Int)=>
  Let (decide (r1393<(256:Int))) fun (x1394:Bool)=>
  Let (bif x1392 then true else x1394) fun (x1395:Bool)=>
  Let (bif x1387 then x1395 else false) fun (x1396:Bool)=>if x1396=true then some (12:Int) else some (0:Int))))
  fuel (0:Int)
noncomputable def caromref23_ValidateFixture (f0:Fixture):Option Int:=
  Rx.Bind (caromref12_Validate f0.Shape) fun (r1397:Int)=>
  Let (r1397 != (0:Int)) fun (x1398:Bool)=>
  if x1398=true then some r1397
  else
  Rx.Bind (caromref23_in f0.Density (0:Int) (262144:Int)) fun (r1399:Bool)=>
  Let (!r1399) fun (x1400:Bool)=>
  Rx.Bind (if (x1400==false)=true then caromref23_in f0.Friction (0:Int) (131072:Int) else some default)
  fun (r1401:Bool)=>
  Let (!r1401) fun (x1402:Bool)=>
  Let (bif x1400 then true else x1402) fun (x1403:Bool)=>
  Rx.Bind (if (x1403==false)=true then caromref23_in f0.Restitution (0:Int) (65536:Int) else some default)
  fun (r1404:Bool)=>
  Let (!r1404) fun (x1405:Bool)=>
  Let (bif x1403 then true else x1405) fun (x1406:Bool)=>
  Rx.Bind (if (x1406==false)=true then caromref23_in f0.Category (0:Int) (65535:Int) else some default)
  fun (r1407:Bool)=>
  Let (!r1407) fun (x1408:Bool)=>
  Let (bif x1406 then true else x1408) fun (x1409:Bool)=>
  Rx.Bind (if (x1409==false)=true then caromref23_in f0.Mask (0:Int) (65535:Int) else some default)
  fun (r1410:Bool)=>
  Let (!r1410) fun (x1411:Bool)=>
  Let (bif x1409 then true else x1411) fun (x1412:Bool)=>
  Rx.Bind (if (x1412==false)=true then caromref23_in f0.Group (-32:Int) (32:Int) else some default)
  fun (r1413:Bool)=>
  Let (!r1413) fun (x1414:Bool)=>
  Let (bif x1412 then true else x1414) fun (x1415:Bool)=>if x1415=true then some (6:Int) else some (0:Int)
noncomputable def caromref23_Validate (b0:Body):Option Int:=
  Let (b0.Kind != (1:Int)) fun (x1416:Bool)=>
  Let (b0.Kind != (2:Int)) fun (x1417:Bool)=>
  Let (bif x1416 then x1417 else false) fun (x1418:Bool)=>
  Let (b0.Kind != (3:Int)) fun (x1419:Bool)=>
  Let (bif x1418 then x1419 else false) fun (x1420:Bool)=>
  if x1420=true then some (10:Int)
  else
  Rx.Bind (caromref23_inRange b0) fun (r1421:Bool)=>
  Let (!r1421) fun (x1422:Bool)=>
  if x1422=true then some (6:Int)
  else
  Let (↑b0.Fixtures.length:Int) fun (x1423:Int)=>
  Let (decide (x1423>(4:Int))) fun (x1424:Bool)=>
  if x1424=true then some (11:Int)
  else
  LOOP
  (fun (rec1425:Int→Option Int) (s1426:Int)=>
  Let (↑b0.Fixtures.length:Int) fun (x1427:Int)=>
  Let (decide (s1426<x1427)) fun (x1428:Bool)=>
  if x1428=true then
  Chk ((0:Int)≤s1426∧s1426<(↑b0.Fixtures.length:Int))
  (Let (ix b0.Fixtures s1426) fun (x1429:Fixture)=>
  Rx.Bind (caromref23_ValidateFixture x1429) fun (r1430:Int)=>
  Let (r1430 != (0:Int)) fun (x1431:Bool)=>
  if x1431=true then some (13:Int) else Let (IntKind.i64.wrap (s1426+(1:Int))) fun (x1432:Int)=>rec1425 x1432)
  else
  Let (!(decide (b0.Velocity.X=(0:Int))&&decide (b0.Velocity.Y=(0:Int)))) fun (x1433:Bool)=>
  Let (b0.AngularVelocity != (0:Int)) fun (x1434:Bool)=>
  Let (bif x1433 then true else x1434) fun (x1435:Bool)=>
  Let (!(decide (b0.Force.X=(0:Int))&&decide (b0.Force.Y=(0:Int)))) fun (x1436:Bool)=>
  Let (b0.Torque != (0:Int)) fun (x1437:Bool)=>
  Let (bif x1436 then true else x1437) fun (x1438:Bool)=>
  Let (b0.Kind==(1:Int)) fun (x1439:Bool)=>
  Let (bif x1435 then true else x1438) fun (x1440:Bool)=>
  Let (bif x1439 then x1440 else false) fun (x1441:Bool)=>
  Let (b0.Kind != (3:Int)) fun (x1442:Bool)=>
  Let (bif b0.Asleep then true else b0.Bullet) fun (x1443:Bool)=>
  Let (bif x1442 then x1443 else false) fun (x1444:Bool)=>
  Let (bif x1441 then true else x1444) fun (x1445:Bool)=>
  Let (bif b0.Asleep then x1435 else false) fun (x1446:Bool)=>
  Let (bif x1445 then true else x1446) fun (x1447:Bool)=>if x1447=true then some (14:Int) else some (0:Int))
  fuel (0:Int)
noncomputable def caromref22_Keys (a0:(List PairKey)) (b1:(List PairKey)):Option Bool:=
  Let (↑a0.length:Int) fun (x1724:Int)=>
  Let (↑b1.length:Int) fun (x1725:Int)=>
  Let (x1724 != x1725) fun (x1726:Bool)=>
  if x1726=true then some false
  else
  LOOP
  (fun (rec1727:Int→Option Bool) (s1728:Int)=>
  Let (↑a0.length:Int) fun (x1729:Int)=>
  Let (decide (s1728<x1729)) fun (x1730:Bool)=>
  if x1730=true then
  Chk ((0:Int)≤s1728∧s1728<(↑a0.length:Int))
  (Let (ix a0 s1728) fun (x1731:PairKey)=>
  Chk ((0:Int)≤s1728∧s1728<(↑b1.length:Int))
  (Let (ix b1 s1728) fun (x1732:PairKey)=>
  Let
  (!(decide (x1731.BodyA=x1732.BodyA)&&
  (decide (x1731.FixtureA=x1732.FixtureA)&&
  (decide (x1731.BodyB=x1732.BodyB)&&decide (x1731.FixtureB=x1732.FixtureB)))))
  fun (x1733:Bool)=>
  if x1733=true then some false else Let (IntKind.i64.wrap (s1728+(1:Int))) fun (x1734:Int)=>rec1727 x1734))
  else some true)
  fuel (0:Int)
noncomputable def caromref12_EqualVecs (a0:(List Vec)) (b1:(List Vec)):Option Bool:=
  Let (↑a0.length:Int) fun (x1735:Int)=>
  Let (↑b1.length:Int) fun (x1736:Int)=>
  Let (x1735 != x1736) fun (x1737:Bool)=>
  if x1737=true then some false
  else
  LOOP
  (fun (rec1738:Int→Option Bool) (s1739:Int)=>
  Let (↑a0.length:Int) fun (x1740:Int)=>
  Let (decide (s1739<x1740)) fun (x1741:Bool)=>
  if x1741=true then
  Chk ((0:Int)≤s1739∧s1739<(↑a0.length:Int))
  (Let (ix a0 s1739) fun (x1742:Vec)=>
  Chk ((0:Int)≤s1739∧s1739<(↑b1.length:Int))
  (Let (ix b1 s1739) fun (x1743:Vec)=>
  Let (!(decide (x1742.X=x1743.X)&&decide (x1742.Y=x1743.Y))) fun (x1744:Bool)=>
  if x1744=true then some false else Let (IntKind.i64.wrap (s1739+(1:Int))) fun (x1745:Int)=>rec1738 x1745))
  else some true)
  fuel (0:Int)
noncomputable def caromref12_Equal (a0:Shape) (b1:Shape):Option Bool:=
  Let (a0.Kind==b1.Kind) fun (x1746:Bool)=>
  Let (a0.Radius==b1.Radius) fun (x1747:Bool)=>
  Let (bif x1746 then x1747 else false) fun (x1748:Bool)=>
  Rx.Bind (if (x1748==true)=true then caromref12_EqualVecs a0.Vertices b1.Vertices else some default)
  fun (r1749:Bool)=>Let (bif x1748 then r1749 else false) fun (x1750:Bool)=>some x1750
noncomputable def caromref23_EqualFixture (a0:Fixture) (b1:Fixture):Option Bool:=
  Rx.Bind (caromref12_Equal a0.Shape b1.Shape) fun (r1751:Bool)=>
  Let (a0.Density==b1.Density) fun (x1752:Bool)=>
  Let (bif r1751 then x1752 else false) fun (x1753:Bool)=>
  Let (a0.Friction==b1.Friction) fun (x1754:Bool)=>
  Let (bif x1753 then x1754 else false) fun (x1755:Bool)=>
  Let (a0.Restitution==b1.Restitution) fun (x1756:Bool)=>
  Let (bif x1755 then x1756 else false) fun (x1757:Bool)=>
  Let (a0.Sensor==b1.Sensor) fun (x1758:Bool)=>
  Let (bif x1757 then x1758 else false) fun (x1759:Bool)=>
  Let (a0.Category==b1.Category) fun (x1760:Bool)=>
  Let (bif x1759 then x1760 else false) fun (x1761:Bool)=>
  Let (a0.Mask==b1.Mask) fun (x1762:Bool)=>
  Let (bif x1761 then x1762 else false) fun (x1763:Bool)=>
  Let (a0.Group==b1.Group) fun (x1764:Bool)=>Let (bif x1763 then x1764 else false) fun (x1765:Bool)=>some x1765
noncomputable def caromref23_Equal (a0:Body) (b1:Body):Option Bool:=
  Let (↑a0.Fixtures.length:Int) fun (x1766:Int)=>
  Let (↑b1.Fixtures.length:Int) fun (x1767:Int)=>
  Let (x1766 != x1767) fun (x1768:Bool)=>
  if x1768=true then some false
  else
  LOOP
  (fun (rec1769:Int→Option Bool) (s1770:Int)=>
  Let (↑a0.Fixtures.length:Int) fun (x1771:Int)=>
  Let (decide (s1770<x1771)) fun (x1772:Bool)=>
  Let (↑b1.Fixtures.length:Int) fun (x1773:Int)=>
  Let (decide (s1770<x1773)) fun (x1774:Bool)=>
  Let (bif x1772 then x1774 else false) fun (x1775:Bool)=>
  if x1775=true then
  Chk ((0:Int)≤s1770∧s1770<(↑a0.Fixtures.length:Int))
  (Let (ix a0.Fixtures s1770) fun (x1776:Fixture)=>
  Chk ((0:Int)≤s1770∧s1770<(↑b1.Fixtures.length:Int))
  (Let (ix b1.Fixtures s1770) fun (x1777:Fixture)=>
  Rx.Bind (caromref23_EqualFixture x1776 x1777) fun (r1778:Bool)=>
  Let (!r1778) fun (x1779:Bool)=>
  if x1779=true then some false else Let (IntKind.i64.wrap (s1770+(1:Int))) fun (x1780:Int)=>rec1769 x1780))
  else
  Let (a0.ID != b1.ID) fun (x1781:Bool)=>
  Let (a0.Kind != b1.Kind) fun (x1782:Bool)=>
  Let (bif x1781 then true else x1782) fun (x1783:Bool)=>
  Let
  (!(decide (a0.Transform.Position.X=b1.Transform.Position.X)&&
  decide (a0.Transform.Position.Y=b1.Transform.Position.Y)&&
  decide (a0.Transform.Angle=b1.Transform.Angle)))
  fun (x1784:Bool)=>
  Let (bif x1783 then true else x1784) fun (x1785:Bool)=>
  Let (!(decide (a0.Velocity.X=b1.Velocity.X)&&decide (a0.Velocity.Y=b1.Velocity.Y))) fun (x1786:Bool)=>
  Let (bif x1785 then true else x1786) fun (x1787:Bool)=>
  Let (a0.AngularVelocity != b1.AngularVelocity) fun (x1788:Bool)=>
  Let (bif x1787 then true else x1788) fun (x1789:Bool)=>
  Let (!(decide (a0.Force.X=b1.Force.X)&&decide (a0.Force.Y=b1.Force.Y))) fun (x1790:Bool)=>
  Let (bif x1789 then true else x1790) fun (x1791:Bool)=>
  Let (a0.Torque != b1.Torque) fun (x1792:Bool)=>
  Let (bif x1791 then true else x1792) fun (x1793:Bool)=>
  if x1793=true then some false
  else
  Let (a0.LinearDamping==b1.LinearDamping) fun (x1794:Bool)=>
  Let (a0.AngularDamping==b1.AngularDamping) fun (x1795:Bool)=>
  Let (bif x1794 then x1795 else false) fun (x1796:Bool)=>
  Let (a0.GravityScale==b1.GravityScale) fun (x1797:Bool)=>
  Let (bif x1796 then x1797 else false) fun (x1798:Bool)=>
  Let (a0.Bullet==b1.Bullet) fun (x1799:Bool)=>
  Let (bif x1798 then x1799 else false) fun (x1800:Bool)=>
  Let (a0.FixedRotation==b1.FixedRotation) fun (x1801:Bool)=>
  Let (bif x1800 then x1801 else false) fun (x1802:Bool)=>
  Let (a0.NoSleep==b1.NoSleep) fun (x1803:Bool)=>
  Let (bif x1802 then x1803 else false) fun (x1804:Bool)=>
  Let (a0.Asleep==b1.Asleep) fun (x1805:Bool)=>
  Let (bif x1804 then x1805 else false) fun (x1806:Bool)=>
  Let (a0.IdleSteps==b1.IdleSteps) fun (x1807:Bool)=>
  Let (bif x1806 then x1807 else false) fun (x1808:Bool)=>some x1808)
  fuel (0:Int)
noncomputable def caromref16_Equal (a0:Manifold) (b1:Manifold):Option Bool:=
  Let (!(decide (a0.Normal.X=b1.Normal.X)&&decide (a0.Normal.Y=b1.Normal.Y))) fun (x1809:Bool)=>
  Let (↑a0.Points.length:Int) fun (x1810:Int)=>
  Let (↑b1.Points.length:Int) fun (x1811:Int)=>
  Let (x1810 != x1811) fun (x1812:Bool)=>
  Let (bif x1809 then true else x1812) fun (x1813:Bool)=>
  if x1813=true then some false
  else
  LOOP
  (fun (rec1814:Int→Option Bool) (s1815:Int)=>
  Let (↑a0.Points.length:Int) fun (x1816:Int)=>
  Let (decide (s1815<x1816)) fun (x1817:Bool)=>
  if x1817=true then
  Chk ((0:Int)≤s1815∧s1815<(↑a0.Points.length:Int))
  (Let (ix a0.Points s1815) fun (x1818:ContactPoint)=>
  Chk ((0:Int)≤s1815∧s1815<(↑b1.Points.length:Int))
  (Let (ix b1.Points s1815) fun (x1819:ContactPoint)=>
  Let
  (!(decide (x1818.Point.X=x1819.Point.X)&&decide (x1818.Point.Y=x1819.Point.Y)&&
  (decide (x1818.Separation=x1819.Separation)&&
  (decide (x1818.ID=x1819.ID)&&
  (decide (x1818.NormalImpulse=x1819.NormalImpulse)&&decide (x1818.TangentImpulse=x1819.TangentImpulse))))))
  fun (x1820:Bool)=>
  if x1820=true then some false else Let (IntKind.i64.wrap (s1815+(1:Int))) fun (x1821:Int)=>rec1814 x1821))
  else some true)
  fuel (0:Int)
noncomputable def caromref25_Equal (a0:World_) (b1:World_):Option Bool:=
  Let
  (!(decide (a0.Settings.TimeStep=b1.Settings.TimeStep)&&
  (decide (a0.Settings.Gravity.X=b1.Settings.Gravity.X)&&decide (a0.Settings.Gravity.Y=b1.Settings.Gravity.Y)&&
  (decide (a0.Settings.Iterations=b1.Settings.Iterations)&&
  decide (a0.Settings.SleepSteps=b1.Settings.SleepSteps)))))
  fun (x1822:Bool)=>
  Let (a0.NextID != b1.NextID) fun (x1823:Bool)=>
  Let (bif x1822 then true else x1823) fun (x1824:Bool)=>
  Let (a0.Frame != b1.Frame) fun (x1825:Bool)=>
  Let (bif x1824 then true else x1825) fun (x1826:Bool)=>
  Let (↑a0.Bodies.length:Int) fun (x1827:Int)=>
  Let (↑b1.Bodies.length:Int) fun (x1828:Int)=>
  Let (x1827 != x1828) fun (x1829:Bool)=>
  Let (bif x1826 then true else x1829) fun (x1830:Bool)=>
  Let (↑a0.Joints.length:Int) fun (x1831:Int)=>
  Let (↑b1.Joints.length:Int) fun (x1832:Int)=>
  Let (x1831 != x1832) fun (x1833:Bool)=>
  Let (bif x1830 then true else x1833) fun (x1834:Bool)=>
  Let (↑a0.Contacts.length:Int) fun (x1835:Int)=>
  Let (↑b1.Contacts.length:Int) fun (x1836:Int)=>
  Let (x1835 != x1836) fun (x1837:Bool)=>
  Let (bif x1834 then true else x1837) fun (x1838:Bool)=>
  Rx.Bind (if (x1838==false)=true then caromref22_Keys a0.Overlaps b1.Overlaps else some default)
  fun (r1839:Bool)=>
  Let (!r1839) fun (x1840:Bool)=>
  Let (bif x1838 then true else x1840) fun (x1841:Bool)=>
  if x1841=true then some false
  else
  LOOP
  (fun (rec1842:Int→Option Bool) (s1843:Int)=>
  Let (↑a0.Bodies.length:Int) fun (x1844:Int)=>
  Let (decide (s1843<x1844)) fun (x1845:Bool)=>
  if x1845=true then
  Chk ((0:Int)≤s1843∧s1843<(↑a0.Bodies.length:Int))
  (Let (ix a0.Bodies s1843) fun (x1846:Body)=>
  Chk ((0:Int)≤s1843∧s1843<(↑b1.Bodies.length:Int))
  (Let (ix b1.Bodies s1843) fun (x1847:Body)=>
  Rx.Bind (caromref23_Equal x1846 x1847) fun (r1848:Bool)=>
  Let (!r1848) fun (x1849:Bool)=>
  if x1849=true then some false else Let (IntKind.i64.wrap (s1843+(1:Int))) fun (x1850:Int)=>rec1842 x1850))
  else
  LOOP
  (fun (rec1851:Int→Option Bool) (s1852:Int)=>
  Let (↑a0.Joints.length:Int) fun (x1853:Int)=>
  Let (decide (s1852<x1853)) fun (x1854:Bool)=>
  if x1854=true then
  Chk ((0:Int)≤s1852∧s1852<(↑a0.Joints.length:Int))
  (Let (ix a0.Joints s1852) fun (x1855:Joint)=>
  Chk ((0:Int)≤s1852∧s1852<(↑b1.Joints.length:Int))
  (Let (ix b1.Joints s1852) fun (x1856:Joint)=>
  Let
  (!(decide (x1855.ID=x1856.ID)&&
  (decide (x1855.Kind=x1856.Kind)&&
  (decide (x1855.BodyA=x1856.BodyA)&&
  (decide (x1855.BodyB=x1856.BodyB)&&
  (decide (x1855.AnchorA.X=x1856.AnchorA.X)&&decide (x1855.AnchorA.Y=x1856.AnchorA.Y)&&
  (decide (x1855.AnchorB.X=x1856.AnchorB.X)&&decide (x1855.AnchorB.Y=x1856.AnchorB.Y)&&
  (decide (x1855.Axis.X=x1856.Axis.X)&&decide (x1855.Axis.Y=x1856.Axis.Y)&&
  (decide (x1855.ReferenceAngle=x1856.ReferenceAngle)&&
  (decide (x1855.EnableLimit=x1856.EnableLimit)&&
  (decide (x1855.Lower=x1856.Lower)&&
  (decide (x1855.Upper=x1856.Upper)&&
  (decide (x1855.EnableMotor=x1856.EnableMotor)&&
  (decide (x1855.MotorSpeed=x1856.MotorSpeed)&&
  (decide (x1855.MaxForce=x1856.MaxForce)&&
  (decide (x1855.Softness=x1856.Softness)&&
  (decide (x1855.BreakForce=x1856.BreakForce)&&
  (decide (x1855.CollideConnected=x1856.CollideConnected)&&
  (decide (x1855.Impulses.fst=x1856.Impulses.fst)&&
  (decide (x1855.Impulses.snd.fst=x1856.Impulses.snd.fst)&&
  (decide (x1855.Impulses.snd.snd.fst=x1856.Impulses.snd.snd.fst)&&
  decide (x1855.Impulses.snd.snd.snd=x1856.Impulses.snd.snd.snd))))))))))))))))))))))
  fun (x1857:Bool)=>
  if x1857=true then some false else Let (IntKind.i64.wrap (s1852+(1:Int))) fun (x1858:Int)=>rec1851 x1858))
  else
  LOOP
  (fun (rec1859:Int→Option Bool) (s1860:Int)=>
  Let (↑a0.Contacts.length:Int) fun (x1861:Int)=>
  Let (decide (s1860<x1861)) fun (x1862:Bool)=>
  if x1862=true then
  Chk ((0:Int)≤s1860∧s1860<(↑a0.Contacts.length:Int))
  (Let (ix a0.Contacts s1860) fun (x1863:Contact)=>
  Chk ((0:Int)≤s1860∧s1860<(↑b1.Contacts.length:Int))
  (Let (ix b1.Contacts s1860) fun (x1864:Contact)=>
  Let
  (!(decide (x1863.Key.BodyA=x1864.Key.BodyA)&&
  (decide (x1863.Key.FixtureA=x1864.Key.FixtureA)&&
  (decide (x1863.Key.BodyB=x1864.Key.BodyB)&&decide (x1863.Key.FixtureB=x1864.Key.FixtureB)))))
  fun (x1865:Bool)=>
  Chk ((x1865==false)=true→(0:Int)≤s1860∧s1860<(↑a0.Contacts.length:Int))
  (Let (ix a0.Contacts s1860) fun (x1866:Contact)=>
  Chk ((x1865==false)=true→(0:Int)≤s1860∧s1860<(↑b1.Contacts.length:Int))
  (Let (ix b1.Contacts s1860) fun (x1867:Contact)=>
  Rx.Bind (if (x1865==false)=true then caromref16_Equal x1866.Manifold x1867.Manifold else some default)
  fun (r1868:Bool)=>
  Let (!r1868) fun (x1869:Bool)=>
  Let (bif x1865 then true else x1869) fun (x1870:Bool)=>
  if x1870=true then some false else Let (IntKind.i64.wrap (s1860+(1:Int))) fun (x1871:Int)=>rec1859 x1871))))
  else some true)
  fuel (0:Int))
  fuel (0:Int))
  fuel (0:Int)
noncomputable def caromref12_Clone (s0:Shape):Option Shape:=
  Chk (s0.Vertices.length*(16:Nat)≤(140737488355328:Nat)) (some s0)
noncomputable def caromref23_Clone (b0:Body):Option Body:=
  LOOP
  (fun (rec1897:List Fixture × Int→Option Body) (s1898:List Fixture × Int)=>
  Let (↑b0.Fixtures.length:Int) fun (x1899:Int)=>
  Let (decide (s1898.snd<x1899)) fun (x1900:Bool)=>
  if x1900=true then
  Chk ((0:Int)≤s1898.snd∧s1898.snd<(↑b0.Fixtures.length:Int))
  (Let (ix b0.Fixtures s1898.snd) fun (x1901:Fixture)=>
  Rx.Bind (caromref12_Clone x1901.Shape) fun (r1902:Shape)=>
  Chk
  ((List.length s1898.fst+
  [{ Shape:=r1902,Density:=x1901.Density,Friction:=x1901.Friction,Restitution:=x1901.Restitution,Sensor:=x1901.Sensor,Category:=x1901.Category,Mask:=x1901.Mask,Group:=x1901.Group:Fixture }].length)*
  (96:Nat)≤
  (140737488355328:Nat))
  (Let
  (s1898.fst++
  [{ Shape:=r1902,Density:=x1901.Density,Friction:=x1901.Friction,Restitution:=x1901.Restitution,Sensor:=x1901.Sensor,Category:=x1901.Category,Mask:=x1901.Mask,Group:=x1901.Group:Fixture }])
  fun (x1903:List Fixture)=>
  Let (IntKind.i64.wrap (s1898.snd+(1:Int))) fun (x1904:Int)=>rec1897 (x1903,x1904)))
  else
  some
  { ID:=b0.ID,Kind:=b0.Kind,Transform:=b0.Transform,Velocity:=b0.Velocity,AngularVelocity:=b0.AngularVelocity,Force:=b0.Force,Torque:=b0.Torque,LinearDamping:=b0.LinearDamping,AngularDamping:=b0.AngularDamping,GravityScale:=b0.GravityScale,Bullet:=b0.Bullet,FixedRotation:=b0.FixedRotation,NoSleep:=b0.NoSleep,Asleep:=b0.Asleep,IdleSteps:=b0.IdleSteps,Fixtures:=s1898.fst:Body })
  fuel ([],(0:Int))
noncomputable def caromref16_Clone (m0:Manifold):Option Manifold:=
  Chk (m0.Points.length*(48:Nat)≤(140737488355328:Nat)) (some m0)
noncomputable def caromref25_Clone (w0:World_):Option World_:=
  LOOP
  (fun (rec1905:Int × World_→Option World_) (s1906:Int × World_)=>
  Let (↑w0.Bodies.length:Int) fun (x1907:Int)=>
  Let (decide (s1906.fst<x1907)) fun (x1908:Bool)=>
  if x1908=true then
  Chk ((0:Int)≤s1906.fst∧s1906.fst<(↑w0.Bodies.length:Int))
  (Let (ix w0.Bodies s1906.fst) fun (x1909:Body)=>
  Rx.Bind (caromref23_Clone x1909) fun (r1910:Body)=>
  Chk ((s1906.snd.Bodies.length+[r1910].length)*(152:Nat)≤(140737488355328:Nat))
  (Let (s1906.snd.Bodies++[r1910]) fun (x1911:List Body)=>
  Let (IntKind.i64.wrap (s1906.fst+(1:Int))) fun (x1912:Int)=>
  rec1905
  (x1912,
  { Settings:=s1906.snd.Settings,Bodies:=x1911,Joints:=s1906.snd.Joints,Contacts:=s1906.snd.Contacts,Overlaps:=s1906.snd.Overlaps,NextID:=s1906.snd.NextID,Frame:=s1906.snd.Frame:World_ })))
  else
  Chk (w0.Joints.length*(192:Nat)≤(140737488355328:Nat))
  (LOOP
  (fun (rec1913:Int × World_→Option World_) (s1914:Int × World_)=>
  Let (↑w0.Contacts.length:Int) fun (x1915:Int)=>
  Let (decide (s1914.fst<x1915)) fun (x1916:Bool)=>
  if x1916=true then
  Chk ((0:Int)≤s1914.fst∧s1914.fst<(↑w0.Contacts.length:Int))
  (Let (ix w0.Contacts s1914.fst) fun (x1917:Contact)=>
  Chk ((0:Int)≤s1914.fst∧s1914.fst<(↑w0.Contacts.length:Int))
  (Let (ix w0.Contacts s1914.fst) fun (x1918:Contact)=>
  Rx.Bind (caromref16_Clone x1918.Manifold) fun (r1919:Manifold)=>
  Chk
  ((s1914.snd.Contacts.length+[{ Key:=x1917.Key,Manifold:=r1919:Contact }].length)*(72:Nat)≤
  (140737488355328:Nat))
  (Let (s1914.snd.Contacts++[{ Key:=x1917.Key,Manifold:=r1919:Contact }]) fun (x1920:List Contact)=>
  Let (IntKind.i64.wrap (s1914.fst+(1:Int))) fun (x1921:Int)=>
  rec1913
  (x1921,
  { Settings:=s1914.snd.Settings,Bodies:=s1914.snd.Bodies,Joints:=s1914.snd.Joints,Contacts:=x1920,Overlaps:=s1914.snd.Overlaps,NextID:=s1914.snd.NextID,Frame:=s1914.snd.Frame:World_ }))))
  else
  Chk (w0.Overlaps.length*(32:Nat)≤(140737488355328:Nat))
  (some
  { Settings:=s1914.snd.Settings,Bodies:=s1914.snd.Bodies,Joints:=s1914.snd.Joints,Contacts:=s1914.snd.Contacts,Overlaps:=w0.Overlaps,NextID:=s1914.snd.NextID,Frame:=s1914.snd.Frame:World_ }))
  fuel
  ((0:Int),
  { Settings:=s1906.snd.Settings,Bodies:=s1906.snd.Bodies,Joints:=w0.Joints,Contacts:=s1906.snd.Contacts,Overlaps:=s1906.snd.Overlaps,NextID:=s1906.snd.NextID,Frame:=s1906.snd.Frame:World_ })))
  fuel
  ((0:Int),
  { Settings:=w0.Settings,Bodies:=[],Joints:=w0.Joints,Contacts:=[],Overlaps:=w0.Overlaps,NextID:=w0.NextID,Frame:=w0.Frame:World_ })
noncomputable def slices_Equal_116 (s10:(List ContactPoint)) (s21:(List ContactPoint)):Option Bool:=
  Let (↑s10.length:Int) fun (x2128:Int)=>
  Let (↑s21.length:Int) fun (x2129:Int)=>
  Let (x2128 != x2129) fun (x2130:Bool)=>
  if x2130=true then some false
  else
  Let (↑s10.length:Int) fun (x2131:Int)=>
  LOOP
  (fun (rec2132:Int→Option Bool) (s2133:Int)=>
  Let (decide (s2133<x2131)) fun (x2134:Bool)=>
  if x2134=true then
  Chk ((0:Int)≤s2133∧s2133<(↑s10.length:Int))
  (Let (ix s10 s2133) fun (x2135:ContactPoint)=>
  Chk ((0:Int)≤s2133∧s2133<(↑s21.length:Int))
  (Let (ix s21 s2133) fun (x2136:ContactPoint)=>
  Let
  (!(decide (x2135.Point.X=x2136.Point.X)&&decide (x2135.Point.Y=x2136.Point.Y)&&
  (decide (x2135.Separation=x2136.Separation)&&
  (decide (x2135.ID=x2136.ID)&&
  (decide (x2135.NormalImpulse=x2136.NormalImpulse)&&decide (x2135.TangentImpulse=x2136.TangentImpulse))))))
  fun (x2137:Bool)=>
  if x2137=true then some false else Let (IntKind.i64.wrap (s2133+(1:Int))) fun (x2138:Int)=>rec2132 x2138))
  else some true)
  fuel (0:Int)
noncomputable def manifold_Equal (a0:Manifold) (b1:Manifold):Option Bool:=
  Let (decide (a0.Normal.X=b1.Normal.X)&&decide (a0.Normal.Y=b1.Normal.Y)) fun (x2139:Bool)=>
  Rx.Bind (if (x2139==true)=true then slices_Equal_116 a0.Points b1.Points else some default) fun (r2140:Bool)=>
  Let (bif x2139 then r2140 else false) fun (x2141:Bool)=>some x2141
noncomputable def world_Equal_1 (x0:Contact) (y1:Contact):Option Bool:=
  Let
  (decide (x0.Key.BodyA=y1.Key.BodyA)&&
  (decide (x0.Key.FixtureA=y1.Key.FixtureA)&&
  (decide (x0.Key.BodyB=y1.Key.BodyB)&&decide (x0.Key.FixtureB=y1.Key.FixtureB))))
  fun (x2142:Bool)=>
  Rx.Bind (if (x2142==true)=true then manifold_Equal x0.Manifold y1.Manifold else some default) fun (r2143:Bool)=>
  Let (bif x2142 then r2143 else false) fun (x2144:Bool)=>some x2144
noncomputable def slices_EqualFunc (s10:(List Body)) (s21:(List Body)) (eq2:((Body × Body)→Option Bool)):Option Bool:=
  Let (↑s10.length:Int) fun (x2145:Int)=>
  Let (↑s21.length:Int) fun (x2146:Int)=>
  Let (x2145 != x2146) fun (x2147:Bool)=>
  if x2147=true then some false
  else
  Let (↑s10.length:Int) fun (x2148:Int)=>
  LOOP
  (fun (rec2149:Int→Option Bool) (s2150:Int)=>
  Let (decide (s2150<x2148)) fun (x2151:Bool)=>
  if x2151=true then
  Chk ((0:Int)≤s2150∧s2150<(↑s10.length:Int))
  (Let (ix s10 s2150) fun (x2152:Body)=>
  Chk ((0:Int)≤s2150∧s2150<(↑s21.length:Int))
  (Let (ix s21 s2150) fun (x2153:Body)=>
  Rx.Bind (eq2 (x2152,x2153)) fun (r2154:Bool)=>
  Let (!r2154) fun (x2155:Bool)=>
  if x2155=true then some false else Let (IntKind.i64.wrap (s2150+(1:Int))) fun (x2156:Int)=>rec2149 x2156))
  else some true)
  fuel (0:Int)
noncomputable def slices_Equal_171 (s10:(List Vec)) (s21:(List Vec)):Option Bool:=
  Let (↑s10.length:Int) fun (x2157:Int)=>
  Let (↑s21.length:Int) fun (x2158:Int)=>
  Let (x2157 != x2158) fun (x2159:Bool)=>
  if x2159=true then some false
  else
  Let (↑s10.length:Int) fun (x2160:Int)=>
  LOOP
  (fun (rec2161:Int→Option Bool) (s2162:Int)=>
  Let (decide (s2162<x2160)) fun (x2163:Bool)=>
  if x2163=true then
  Chk ((0:Int)≤s2162∧s2162<(↑s10.length:Int))
  (Let (ix s10 s2162) fun (x2164:Vec)=>
  Chk ((0:Int)≤s2162∧s2162<(↑s21.length:Int))
  (Let (ix s21 s2162) fun (x2165:Vec)=>
  Let (!(decide (x2164.X=x2165.X)&&decide (x2164.Y=x2165.Y))) fun (x2166:Bool)=>
  if x2166=true then some false else Let (IntKind.i64.wrap (s2162+(1:Int))) fun (x2167:Int)=>rec2161 x2167))
  else some true)
  fuel (0:Int)
noncomputable def shape_Equal (a0:Shape) (b1:Shape):Option Bool:=
  Let (a0.Kind==b1.Kind) fun (x2168:Bool)=>
  Let (a0.Radius==b1.Radius) fun (x2169:Bool)=>
  Let (bif x2168 then x2169 else false) fun (x2170:Bool)=>
  Rx.Bind (if (x2170==true)=true then slices_Equal_171 a0.Vertices b1.Vertices else some default)
  fun (r2171:Bool)=>Let (bif x2170 then r2171 else false) fun (x2172:Bool)=>some x2172
noncomputable def body_equalFixtures (a0:Fixture) (b1:Fixture):Option Bool:=
  Let (a0.Density==b1.Density) fun (x2173:Bool)=>
  Let (a0.Friction==b1.Friction) fun (x2174:Bool)=>
  Let (bif x2173 then x2174 else false) fun (x2175:Bool)=>
  Let (a0.Restitution==b1.Restitution) fun (x2176:Bool)=>
  Let (bif x2175 then x2176 else false) fun (x2177:Bool)=>
  Let (a0.Sensor==b1.Sensor) fun (x2178:Bool)=>
  Let (a0.Category==b1.Category) fun (x2179:Bool)=>
  Let (bif x2178 then x2179 else false) fun (x2180:Bool)=>
  Let (a0.Mask==b1.Mask) fun (x2181:Bool)=>
  Let (bif x2180 then x2181 else false) fun (x2182:Bool)=>
  Let (a0.Group==b1.Group) fun (x2183:Bool)=>
  Let (bif x2182 then x2183 else false) fun (x2184:Bool)=>
  Rx.Bind (shape_Equal a0.Shape b1.Shape) fun (r2185:Bool)=>
  Let (bif r2185 then x2177 else false) fun (x2186:Bool)=>
  Let (bif x2186 then x2184 else false) fun (x2187:Bool)=>some x2187
noncomputable def body_Equal (a0:Body) (b1:Body):Option Bool:=
  Let (↑a0.Fixtures.length:Int) fun (x2188:Int)=>
  Let (↑b1.Fixtures.length:Int) fun (x2189:Int)=>
  Let (x2188 != x2189) fun (x2190:Bool)=>
  if x2190=true then some false
  else
  Let (↑a0.Fixtures.length:Int) fun (x2191:Int)=>
  LOOP
  (fun (rec2192:Int→Option Bool) (s2193:Int)=>
  Let (decide (s2193<x2191)) fun (x2194:Bool)=>
  if x2194=true then
  Chk ((0:Int)≤s2193∧s2193<(↑a0.Fixtures.length:Int))
  (Let (ix a0.Fixtures s2193) fun (x2195:Fixture)=>
  Chk ((0:Int)≤s2193∧s2193<(↑b1.Fixtures.length:Int))
  (Let (ix b1.Fixtures s2193) fun (x2196:Fixture)=>
  Rx.Bind (body_equalFixtures x2195 x2196) fun (r2197:Bool)=>
  Let (!r2197) fun (x2198:Bool)=>
  if x2198=true then some false else Let (IntKind.i64.wrap (s2193+(1:Int))) fun (x2199:Int)=>rec2192 x2199))
  else
  Let (a0.ID==b1.ID) fun (x2200:Bool)=>
  Let (a0.Kind==b1.Kind) fun (x2201:Bool)=>
  Let (bif x2200 then x2201 else false) fun (x2202:Bool)=>
  Let
  (decide (a0.Transform.Position.X=b1.Transform.Position.X)&&
  decide (a0.Transform.Position.Y=b1.Transform.Position.Y)&&
  decide (a0.Transform.Angle=b1.Transform.Angle))
  fun (x2203:Bool)=>
  Let (bif x2202 then x2203 else false) fun (x2204:Bool)=>
  Let (decide (a0.Velocity.X=b1.Velocity.X)&&decide (a0.Velocity.Y=b1.Velocity.Y)) fun (x2205:Bool)=>
  Let (a0.AngularVelocity==b1.AngularVelocity) fun (x2206:Bool)=>
  Let (bif x2205 then x2206 else false) fun (x2207:Bool)=>
  Let (decide (a0.Force.X=b1.Force.X)&&decide (a0.Force.Y=b1.Force.Y)) fun (x2208:Bool)=>
  Let (a0.Torque==b1.Torque) fun (x2209:Bool)=>
  Let (bif x2208 then x2209 else false) fun (x2210:Bool)=>
  Let (a0.LinearDamping==b1.LinearDamping) fun (x2211:Bool)=>
  Let (a0.AngularDamping==b1.AngularDamping) fun (x2212:Bool)=>
  Let (bif x2211 then x2212 else false) fun (x2213:Bool)=>
  Let (a0.GravityScale==b1.GravityScale) fun (x2214:Bool)=>
  Let (bif x2213 then x2214 else false) fun (x2215:Bool)=>
  Let (a0.Bullet==b1.Bullet) fun (x2216:Bool)=>
  Let (a0.FixedRotation==b1.FixedRotation) fun (x2217:Bool)=>
  Let (bif x2216 then x2217 else false) fun (x2218:Bool)=>
  Let (a0.NoSleep==b1.NoSleep) fun (x2219:Bool)=>
  Let (bif x2218 then x2219 else false) fun (x2220:Bool)=>
  Let (a0.Asleep==b1.Asleep) fun (x2221:Bool)=>
  Let (a0.IdleSteps==b1.IdleSteps) fun (x2222:Bool)=>
  Let (bif x2221 then x2222 else false) fun (x2223:Bool)=>
  Let (bif x2204 then x2207 else false) fun (x2224:Bool)=>
  Let (bif x2224 then x2210 else false) fun (x2225:Bool)=>
  Let (bif x2225 then x2215 else false) fun (x2226:Bool)=>
  Let (bif x2226 then x2220 else false) fun (x2227:Bool)=>
  Let (bif x2227 then x2223 else false) fun (x2228:Bool)=>some x2228)
  fuel (0:Int)
noncomputable def slices_Equal (s10:(List Joint)) (s21:(List Joint)):Option Bool:=
  Let (↑s10.length:Int) fun (x2229:Int)=>
  Let (↑s21.length:Int) fun (x2230:Int)=>
  Let (x2229 != x2230) fun (x2231:Bool)=>
  if x2231=true then some false
  else
  Let (↑s10.length:Int) fun (x2232:Int)=>
  LOOP
  (fun (rec2233:Int→Option Bool) (s2234:Int)=>
  Let (decide (s2234<x2232)) fun (x2235:Bool)=>
  if x2235=true then
  Chk ((0:Int)≤s2234∧s2234<(↑s10.length:Int))
  (Let (ix s10 s2234) fun (x2236:Joint)=>
  Chk ((0:Int)≤s2234∧s2234<(↑s21.length:Int))
  (Let (ix s21 s2234) fun (x2237:Joint)=>
  Let
  (!(decide (x2236.ID=x2237.ID)&&
  (decide (x2236.Kind=x2237.Kind)&&
  (decide (x2236.BodyA=x2237.BodyA)&&
  (decide (x2236.BodyB=x2237.BodyB)&&
  (decide (x2236.AnchorA.X=x2237.AnchorA.X)&&decide (x2236.AnchorA.Y=x2237.AnchorA.Y)&&
  (decide (x2236.AnchorB.X=x2237.AnchorB.X)&&decide (x2236.AnchorB.Y=x2237.AnchorB.Y)&&
  (decide (x2236.Axis.X=x2237.Axis.X)&&decide (x2236.Axis.Y=x2237.Axis.Y)&&
  (decide (x2236.ReferenceAngle=x2237.ReferenceAngle)&&
  (decide (x2236.EnableLimit=x2237.EnableLimit)&&
  (decide (x2236.Lower=x2237.Lower)&&
  (decide (x2236.Upper=x2237.Upper)&&
  (decide (x2236.EnableMotor=x2237.EnableMotor)&&
  (decide (x2236.MotorSpeed=x2237.MotorSpeed)&&
  (decide (x2236.MaxForce=x2237.MaxForce)&&
  (decide (x2236.Softness=x2237.Softness)&&
  (decide (x2236.BreakForce=x2237.BreakForce)&&
  (decide (x2236.CollideConnected=x2237.CollideConnected)&&
  (decide (x2236.Impulses.fst=x2237.Impulses.fst)&&
  (decide (x2236.Impulses.snd.fst=x2237.Impulses.snd.fst)&&
  (decide (x2236.Impulses.snd.snd.fst=x2237.Impulses.snd.snd.fst)&&
  decide (x2236.Impulses.snd.snd.snd=x2237.Impulses.snd.snd.snd))))))))))))))))))))))
  fun (x2238:Bool)=>
  if x2238=true then some false else Let (IntKind.i64.wrap (s2234+(1:Int))) fun (x2239:Int)=>rec2233 x2239))
  else some true)
  fuel (0:Int)
noncomputable def slices_EqualFunc_87 (s10:(List Contact)) (s21:(List Contact)) (eq2:((Contact × Contact)→Option Bool)):Option Bool:=
  Let (↑s10.length:Int) fun (x2240:Int)=>
  Let (↑s21.length:Int) fun (x2241:Int)=>
  Let (x2240 != x2241) fun (x2242:Bool)=>
  if x2242=true then some false
  else
  Let (↑s10.length:Int) fun (x2243:Int)=>
  LOOP
  (fun (rec2244:Int→Option Bool) (s2245:Int)=>
  Let (decide (s2245<x2243)) fun (x2246:Bool)=>
  if x2246=true then
  Chk ((0:Int)≤s2245∧s2245<(↑s10.length:Int))
  (Let (ix s10 s2245) fun (x2247:Contact)=>
  Chk ((0:Int)≤s2245∧s2245<(↑s21.length:Int))
  (Let (ix s21 s2245) fun (x2248:Contact)=>
  Rx.Bind (eq2 (x2247,x2248)) fun (r2249:Bool)=>
  Let (!r2249) fun (x2250:Bool)=>
  if x2250=true then some false else Let (IntKind.i64.wrap (s2245+(1:Int))) fun (x2251:Int)=>rec2244 x2251))
  else some true)
  fuel (0:Int)
noncomputable def slices_Equal_88 (s10:(List PairKey)) (s21:(List PairKey)):Option Bool:=
  Let (↑s10.length:Int) fun (x2252:Int)=>
  Let (↑s21.length:Int) fun (x2253:Int)=>
  Let (x2252 != x2253) fun (x2254:Bool)=>
  if x2254=true then some false
  else
  Let (↑s10.length:Int) fun (x2255:Int)=>
  LOOP
  (fun (rec2256:Int→Option Bool) (s2257:Int)=>
  Let (decide (s2257<x2255)) fun (x2258:Bool)=>
  if x2258=true then
  Chk ((0:Int)≤s2257∧s2257<(↑s10.length:Int))
  (Let (ix s10 s2257) fun (x2259:PairKey)=>
  Chk ((0:Int)≤s2257∧s2257<(↑s21.length:Int))
  (Let (ix s21 s2257) fun (x2260:PairKey)=>
  Let
  (!(decide (x2259.BodyA=x2260.BodyA)&&
  (decide (x2259.FixtureA=x2260.FixtureA)&&
  (decide (x2259.BodyB=x2260.BodyB)&&decide (x2259.FixtureB=x2260.FixtureB)))))
  fun (x2261:Bool)=>
  if x2261=true then some false else Let (IntKind.i64.wrap (s2257+(1:Int))) fun (x2262:Int)=>rec2256 x2262))
  else some true)
  fuel (0:Int)
noncomputable def world_Equal (a0:World_) (b1:World_):Option Bool:=
  Let
  (decide (a0.Settings.TimeStep=b1.Settings.TimeStep)&&
  (decide (a0.Settings.Gravity.X=b1.Settings.Gravity.X)&&decide (a0.Settings.Gravity.Y=b1.Settings.Gravity.Y)&&
  (decide (a0.Settings.Iterations=b1.Settings.Iterations)&&decide (a0.Settings.SleepSteps=b1.Settings.SleepSteps))))
  fun (x2263:Bool)=>
  Let (a0.NextID==b1.NextID) fun (x2264:Bool)=>
  Let (bif x2263 then x2264 else false) fun (x2265:Bool)=>
  Let (a0.Frame==b1.Frame) fun (x2266:Bool)=>
  Let (bif x2265 then x2266 else false) fun (x2267:Bool)=>
  Rx.Bind
  (if (x2267==true)=true then
  slices_EqualFunc a0.Bodies b1.Bodies fun (a:Tup tb [Ix.tBody,Ix.tBody])=>body_Equal a.fst a.snd
  else some default)
  fun (r2268:Bool)=>
  Let (bif x2267 then r2268 else false) fun (x2269:Bool)=>
  Rx.Bind (if (x2269==true)=true then slices_Equal a0.Joints b1.Joints else some default) fun (r2270:Bool)=>
  Let (bif x2269 then r2270 else false) fun (x2271:Bool)=>
  Rx.Bind
  (if (x2271==true)=true then
  slices_EqualFunc_87 a0.Contacts b1.Contacts fun (a:Tup tb [Ix.tContact,Ix.tContact])=>world_Equal_1 a.fst a.snd
  else some default)
  fun (r2272:Bool)=>
  Let (bif x2271 then r2272 else false) fun (x2273:Bool)=>
  Rx.Bind (if (x2273==true)=true then slices_Equal_88 a0.Overlaps b1.Overlaps else some default) fun (r2274:Bool)=>
  Let (bif x2273 then r2274 else false) fun (x2275:Bool)=>some x2275
end GoForm
