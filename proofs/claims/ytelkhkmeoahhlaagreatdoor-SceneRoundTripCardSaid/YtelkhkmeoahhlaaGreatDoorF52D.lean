/- The functions' plain forms. Printed by go3.py. No conditions. -/
import Derived.Test.YtelkhkmeoahhlaaGreatDoorF52T
set_option linter.all false
set_option maxRecDepth 100000
open Go Go.Rx Go.Proofs Go.RowKit
namespace GoForm
noncomputable def caromref22_Few (bodies0:(List Body)) (limit1:Int):Option Bool:=
 Let (↑bodies0.length:Int) fun (x1:Int)=>
 Let (decide (x1>limit1)) fun (x2:Bool)=>
 if x2=true then some false
 else
 LOOP
 (fun (rec3:Int->Option Bool) (s4:Int)=>
 Let (↑bodies0.length:Int) fun (x5:Int)=>
 Let (decide (s4<x5)) fun (x6:Bool)=>
 if x6=true then
 Chk ((0:Int)<=s4/\s4<(↑bodies0.length:Int))
 (Let (ix bodies0 s4) fun (x7:Body)=>
 Let (↑x7.Fixtures.length:Int) fun (x8:Int)=>
 Let (decide (x8>(8:Int))) fun (x9:Bool)=>
 if x9=true then some false
 else
 LOOP
 (fun (rec10:Int->Option Bool) (s11:Int)=>
 Chk ((0:Int)<=s4/\s4<(↑bodies0.length:Int))
 (Let (ix bodies0 s4) fun (x12:Body)=>
 Let (↑x12.Fixtures.length:Int) fun (x13:Int)=>
 Let (decide (s11<x13)) fun (x14:Bool)=>
 if x14=true then
 Chk ((0:Int)<=s4/\s4<(↑bodies0.length:Int))
 (Let (ix bodies0 s4) fun (x15:Body)=>
 Chk ((0:Int)<=s11/\s11<(↑x15.Fixtures.length:Int))
 (Let (ix x15.Fixtures s11) fun (x16:Fixture)=>
 Let (↑x16.Shape.Vertices.length:Int) fun (x17:Int)=>
 Let (decide (x17>(20:Int))) fun (x18:Bool)=>
 if x18=true then some false else Let (IntKind.i64.wrap (s11+(1:Int))) fun (x19:Int)=>rec10 x19))
 else Let (IntKind.i64.wrap (s4+(1:Int))) fun (x20:Int)=>rec3 x20))
 fuel (0:Int))
 else some true)
 fuel (0:Int)
noncomputable def caromref25_Few (w0:World_):Option Bool:=
 Let (↑w0.Joints.length:Int) fun (x21:Int)=>
 Let (decide (x21>(40:Int))) fun (x22:Bool)=>
 Let (↑w0.Contacts.length:Int) fun (x23:Int)=>
 Let (decide (x23>(80:Int))) fun (x24:Bool)=>
 Let (bif x22 then true else x24) fun (x25:Bool)=>
 Let (↑w0.Overlaps.length:Int) fun (x26:Int)=>
 Let (decide (x26>(80:Int))) fun (x27:Bool)=>
 Let (bif x25 then true else x27) fun (x28:Bool)=>
 Rx.Bind (if (x28==false)=true then caromref22_Few w0.Bodies (40:Int) else some default) fun (r29:Bool)=>
 Let (!r29) fun (x30:Bool)=>
 Let (bif x28 then true else x30) fun (x31:Bool)=>
 if x31=true then some false
 else
 LOOP
 (fun (rec32:Int->Option Bool) (s33:Int)=>
 Let (↑w0.Contacts.length:Int) fun (x34:Int)=>
 Let (decide (s33<x34)) fun (x35:Bool)=>
 if x35=true then
 Chk ((0:Int)<=s33/\s33<(↑w0.Contacts.length:Int))
 (Let (ix w0.Contacts s33) fun (x36:Contact)=>
 Let (↑x36.Manifold.Points.length:Int) fun (x37:Int)=>
 Let (decide (x37>(8:Int))) fun (x38:Bool)=>
 if x38=true then some false else Let (IntKind.i64.wrap (s33+(1:Int))) fun (x39:Int)=>rec32 x39)
 else some true)
 fuel (0:Int)
noncomputable def world_in (x0:Int) (low1:Int) (high2:Int):Option Bool:=
 Let (decide (x0>=low1)) fun (x40:Bool)=>
 Let (decide (x0<=high2)) fun (x41:Bool)=>Let (bif x40 then x41 else false) fun (x42:Bool)=>some x42
noncomputable def world_ValidateSettings (s0:Settings):Option Int:=
 Rx.Bind (world_in s0.Gravity.X (-16777216:Int) (16777216:Int)) fun (r43:Bool)=>
 Rx.Bind (if (r43==true)=true then world_in s0.Gravity.Y (-16777216:Int) (16777216:Int) else some default)
 fun (r44:Bool)=>
 Let (bif r43 then r44 else false) fun (x45:Bool)=>
 Rx.Bind (world_in s0.TimeStep (64:Int) (8192:Int)) fun (r46:Bool)=>
 Let (!r46) fun (x47:Bool)=>
 Let (!x45) fun (x48:Bool)=>
 Let (bif x47 then true else x48) fun (x49:Bool)=>
 Rx.Bind (if (x49==false)=true then world_in s0.Iterations (1:Int) (32:Int) else some default)
 fun (r50:Bool)=>
 Let (!r50) fun (x51:Bool)=>
 Let (bif x49 then true else x51) fun (x52:Bool)=>
 Rx.Bind (if (x52==false)=true then world_in s0.SleepSteps (0:Int) (1048576:Int) else some default)
 fun (r53:Bool)=>
 Let (!r53) fun (x54:Bool)=>
 Let (bif x52 then true else x54) fun (x55:Bool)=>if x55=true then some (6:Int) else some (0:Int)
noncomputable def body_within (x0:Int) (low1:Int) (high2:Int):Option Bool:=
 Let (decide (low1<=x0)) fun (x56:Bool)=>
 Let (decide (x0<=high2)) fun (x57:Bool)=>Let (bif x56 then x57 else false) fun (x58:Bool)=>some x58
noncomputable def body_bounded (v0:Vec) (limit1:Int):Option Bool:=
 Let (IntKind.i64.wrap ((0:Int) - limit1)) fun (x59:Int)=>
 Rx.Bind (body_within v0.X x59 limit1) fun (r60:Bool)=>
 Let (IntKind.i64.wrap ((0:Int) - limit1)) fun (x61:Int)=>
 Rx.Bind (if (r60==true)=true then body_within v0.Y x61 limit1 else some default) fun (r62:Bool)=>
 Let (bif r60 then r62 else false) fun (x63:Bool)=>some x63
noncomputable def transform_inWorld (x0:Int):Option Bool:=
 Let (decide (x0>=(-268435456:Int))) fun (x64:Bool)=>
 Let (decide (x0<=(268435456:Int))) fun (x65:Bool)=>Let (bif x64 then x65 else false) fun (x66:Bool)=>some x66
noncomputable def transform_Valid (t0:Transform):Option Bool:=
 Rx.Bind (transform_inWorld t0.Position.X) fun (r67:Bool)=>
 Rx.Bind (if (r67==true)=true then transform_inWorld t0.Position.Y else some default) fun (r68:Bool)=>
 Let (bif r67 then r68 else false) fun (x69:Bool)=>
 Let (decide (t0.Angle>=(-205888:Int))) fun (x70:Bool)=>
 Let (bif x69 then x70 else false) fun (x71:Bool)=>
 Let (decide (t0.Angle<(205888:Int))) fun (x72:Bool)=>
 Let (bif x71 then x72 else false) fun (x73:Bool)=>some x73
noncomputable def body_inRange (b0:Body):Option Bool:=
 Rx.Bind (body_bounded b0.Velocity (16777216:Int)) fun (r74:Bool)=>
 Rx.Bind (if (r74==true)=true then body_within b0.AngularVelocity (-4194304:Int) (4194304:Int) else some default)
 fun (r75:Bool)=>
 Let (bif r74 then r75 else false) fun (x76:Bool)=>
 Rx.Bind (body_bounded b0.Force (536870911:Int)) fun (r77:Bool)=>
 Rx.Bind (if (r77==true)=true then body_within b0.Torque (-536870911:Int) (536870911:Int) else some default)
 fun (r78:Bool)=>
 Let (bif r77 then r78 else false) fun (x79:Bool)=>
 Rx.Bind (body_within b0.LinearDamping (0:Int) (65536:Int)) fun (r80:Bool)=>
 Rx.Bind (if (r80==true)=true then body_within b0.AngularDamping (0:Int) (65536:Int) else some default)
 fun (r81:Bool)=>
 Let (bif r80 then r81 else false) fun (x82:Bool)=>
 Rx.Bind (body_within b0.GravityScale (-262144:Int) (262144:Int)) fun (r83:Bool)=>
 Rx.Bind (body_within b0.ID (1:Int) (1099511627776:Int)) fun (r84:Bool)=>
 Rx.Bind (if (r84==true)=true then transform_Valid b0.Transform else some default) fun (r85:Bool)=>
 Let (bif r84 then r85 else false) fun (x86:Bool)=>
 Let (bif x86 then x76 else false) fun (x87:Bool)=>
 Let (bif x87 then x79 else false) fun (x88:Bool)=>
 Let (bif x88 then x82 else false) fun (x89:Bool)=>
 Let (bif x89 then r83 else false) fun (x90:Bool)=>
 Rx.Bind (if (x90==true)=true then body_within b0.IdleSteps (0:Int) (1048576:Int) else some default)
 fun (r91:Bool)=>Let (bif x90 then r91 else false) fun (x92:Bool)=>some x92
noncomputable def shape_validCount (s0:Shape):Option Bool:=
 Let (↑s0.Vertices.length:Int) fun (x93:Int)=>
 Let (s0.Kind==(1:Int)) fun (x94:Bool)=>
 if x94=true then Let (x93==(1:Int)) fun (x95:Bool)=>some x95
 else
 Let (s0.Kind==(2:Int)) fun (x96:Bool)=>
 if x96=true then Let (x93==(2:Int)) fun (x97:Bool)=>some x97
 else
 Let (decide (x93>=(3:Int))) fun (x98:Bool)=>
 Let (decide (x93<=(8:Int))) fun (x99:Bool)=>Let (bif x98 then x99 else false) fun (x100:Bool)=>some x100
noncomputable def slices_IndexFunc_200 (s0:(List Vec)) (f1:(Vec->Option Bool)):Option Int:=
 Let (↑s0.length:Int) fun (x101:Int)=>
 LOOP
 (fun (rec102:Int->Option Int) (s103:Int)=>
 Let (decide (s103<x101)) fun (x104:Bool)=>
 if x104=true then
 Chk ((0:Int)<=s103/\s103<(↑s0.length:Int))
 (Let (ix s0 s103) fun (x105:Vec)=>
 Rx.Bind (f1 x105) fun (r106:Bool)=>
 if r106=true then some s103 else Let (IntKind.i64.wrap (s103+(1:Int))) fun (x107:Int)=>rec102 x107)
 else some (-1:Int))
 fuel (0:Int)
noncomputable def slices_ContainsFunc_174 (s0:(List Vec)) (f1:(Vec->Option Bool)):Option Bool:=
 Rx.Bind (slices_IndexFunc_200 s0 f1) fun (r108:Int)=>Let (decide (r108>=(0:Int))) fun (x109:Bool)=>some x109
noncomputable def shape_outOfRange (n0:Int):Option Bool:=
 Let (decide (n0<(-1048576:Int))) fun (x110:Bool)=>
 Let (decide (n0>(1048576:Int))) fun (x111:Bool)=>
 Let (bif x110 then true else x111) fun (x112:Bool)=>some x112
noncomputable def shape_Validate_1 (v0:Vec):Option Bool:=
 Rx.Bind (shape_outOfRange v0.X) fun (r113:Bool)=>
 Rx.Bind (if (r113==false)=true then shape_outOfRange v0.Y else some default) fun (r114:Bool)=>
 Let (bif r113 then true else r114) fun (x115:Bool)=>some x115
noncomputable def fixed_Saturate (x0:Int):Option Int:=
 Let (max x0 (-536870911:Int)) fun (x116:Int)=>Let (min x116 (536870911:Int)) fun (x117:Int)=>some x117
noncomputable def fixed_Sub (a0:Int) (b1:Int):Option Int:=
 Rx.Bind (fixed_Saturate a0) fun (r118:Int)=>
 Rx.Bind (fixed_Saturate b1) fun (r119:Int)=>
 Let (IntKind.i64.wrap (r118 - r119)) fun (x120:Int)=>Rx.Bind (fixed_Saturate x120) fun (r121:Int)=>some r121
noncomputable def vec2_Sub (a0:Vec) (b1:Vec):Option Vec:=
 Rx.Bind (fixed_Sub a0.X b1.X) fun (r122:Int)=>
 Rx.Bind (fixed_Sub a0.Y b1.Y) fun (r123:Int)=>some { X:=r122,Y:=r123:Vec }
noncomputable def vec2_saturate (v0:Vec):Option Vec:=
 Rx.Bind (fixed_Saturate v0.X) fun (r124:Int)=>
 Rx.Bind (fixed_Saturate v0.Y) fun (r125:Int)=>some { X:=r124,Y:=r125:Vec }
noncomputable def vec2_DistanceSquared (a0:Vec) (b1:Vec):Option Int:=
 Rx.Bind (vec2_saturate a0) fun (r126:Vec)=>
 Rx.Bind (vec2_saturate b1) fun (r127:Vec)=>
 Let (IntKind.i64.wrap (r127.X - r126.X)) fun (x128:Int)=>
 Let (IntKind.i64.wrap (r127.Y - r126.Y)) fun (x129:Int)=>
 Let (IntKind.i64.wrap (x128*x128)) fun (x130:Int)=>
 Let (IntKind.i64.wrap (x129*x129)) fun (x131:Int)=>
 Let (IntKind.i64.wrap (x130+x131)) fun (x132:Int)=>some x132
noncomputable def fixed_Isqrt (n0:Int):Option Int:=
 Let (decide (n0<(0:Int))) fun (x133:Bool)=>
 Let (decide (n0>(4611686018427387904:Int))) fun (x134:Bool)=>
 Let (bif x133 then true else x134) fun (x135:Bool)=>
 if x135=true then some (0:Int)
 else
 LOOP
 (fun (rec136:Int × Int->Option Int) (s137:Int × Int)=>
 Let (decide (s137.snd>(0:Int))) fun (x138:Bool)=>
 if x138=true then
 Join (fun (v139:Int)=>Let (bShr IntKind.i64 s137.snd (1:Int)) fun (x140:Int)=>rec136 (v139,x140))
 fun (j141:Int->Option Int)=>
 Let (bOr IntKind.i64 s137.fst s137.snd) fun (x142:Int)=>
 Let (IntKind.u64.wrap x142) fun (x143:Int)=>
 Let (IntKind.u64.wrap x142) fun (x144:Int)=>
 Let (IntKind.u64.wrap (x143*x144)) fun (x145:Int)=>
 Let (IntKind.u64.wrap n0) fun (x146:Int)=>
 Let (decide (x145<=x146)) fun (x147:Bool)=>if x147=true then j141 x142 else j141 s137.fst
 else some s137.fst)
 fuel ((0:Int),(2147483648:Int))
noncomputable def vec2_Length (v0:Vec):Option Int:=
 Rx.Bind (vec2_DistanceSquared { X:=(0:Int),Y:=(0:Int):Vec } v0) fun (r148:Int)=>
 Rx.Bind (fixed_Isqrt r148) fun (r149:Int)=>some r149
noncomputable def polygon_inReach (v0:Vec):Option Bool:=
 Let (decide (v0.X>=(-1048576:Int))) fun (x150:Bool)=>
 Let (decide (v0.X<=(1048576:Int))) fun (x151:Bool)=>
 Let (bif x150 then x151 else false) fun (x152:Bool)=>
 Let (decide (v0.Y>=(-1048576:Int))) fun (x153:Bool)=>
 Let (bif x152 then x153 else false) fun (x154:Bool)=>
 Let (decide (v0.Y<=(1048576:Int))) fun (x155:Bool)=>
 Let (bif x154 then x155 else false) fun (x156:Bool)=>some x156
noncomputable def polygon_allInReach (points0:(List Vec)):Option Bool:=
 Let (↑points0.length:Int) fun (x157:Int)=>
 LOOP
 (fun (rec158:Int->Option Bool) (s159:Int)=>
 Let (decide (s159<x157)) fun (x160:Bool)=>
 if x160=true then
 Chk ((0:Int)<=s159/\s159<(↑points0.length:Int))
 (Let (ix points0 s159) fun (x161:Vec)=>
 Rx.Bind (polygon_inReach x161) fun (r162:Bool)=>
 Let (!r162) fun (x163:Bool)=>
 if x163=true then some false else Let (IntKind.i64.wrap (s159+(1:Int))) fun (x164:Int)=>rec158 x164)
 else some true)
 fuel (0:Int)
noncomputable def vec2_Orientation (a0:Vec) (b1:Vec) (c2:Vec):Option Int:=
 Rx.Bind (vec2_saturate a0) fun (r165:Vec)=>
 Rx.Bind (vec2_saturate b1) fun (r166:Vec)=>
 Rx.Bind (vec2_saturate c2) fun (r167:Vec)=>
 Let (IntKind.i64.wrap (r166.X - r165.X)) fun (x168:Int)=>
 Let (IntKind.i64.wrap (r167.Y - r165.Y)) fun (x169:Int)=>
 Let (IntKind.i64.wrap (x168*x169)) fun (x170:Int)=>
 Let (IntKind.i64.wrap (r166.Y - r165.Y)) fun (x171:Int)=>
 Let (IntKind.i64.wrap (r167.X - r165.X)) fun (x172:Int)=>
 Let (IntKind.i64.wrap (x171*x172)) fun (x173:Int)=>
 Let (IntKind.i64.wrap (x170 - x173)) fun (x174:Int)=>
 Let (max (-1:Int) x174) fun (x175:Int)=>Let (min (1:Int) x175) fun (x176:Int)=>some x176
noncomputable def polygon_IsConvex (vertices0:(List Vec)):Option Bool:=
 Let (↑vertices0.length:Int) fun (x177:Int)=>
 Let (decide (x177<(3:Int))) fun (x178:Bool)=>
 Let (decide (x177>(8:Int))) fun (x179:Bool)=>
 Let (bif x178 then true else x179) fun (x180:Bool)=>
 Rx.Bind (if (x180==false)=true then polygon_allInReach vertices0 else some default) fun (r181:Bool)=>
 Let (!r181) fun (x182:Bool)=>
 Let (bif x180 then true else x182) fun (x183:Bool)=>
 if x183=true then some false
 else
 Let (↑vertices0.length:Int) fun (x184:Int)=>
 LOOP
 (fun (rec185:Int->Option Bool) (s186:Int)=>
 Let (decide (s186<x184)) fun (x187:Bool)=>
 if x187=true then
 Chk ((0:Int)<=s186/\s186<(↑vertices0.length:Int))
 (Let (ix vertices0 s186) fun (x188:Vec)=>
 Let (IntKind.i64.wrap (s186+(1:Int))) fun (x189:Int)=>
 Chk (x177≠(0:Int))
 (Let (x189.tmod x177) fun (x190:Int)=>
 Let (↑vertices0.length:Int) fun (x191:Int)=>
 LOOP
 (fun (rec192:Int->Option Bool) (s193:Int)=>
 Let (decide (s193<x191)) fun (x194:Bool)=>
 if x194=true then
 Chk ((0:Int)<=s193/\s193<(↑vertices0.length:Int))
 (Let (ix vertices0 s193) fun (x195:Vec)=>
 Let (s193 != s186) fun (x196:Bool)=>
 Let (s193 != x190) fun (x197:Bool)=>
 Let (bif x196 then x197 else false) fun (x198:Bool)=>
 Chk ((x198==true)=true->(0:Int)<=x190/\x190<(↑vertices0.length:Int))
 (Let (ix vertices0 x190) fun (x199:Vec)=>
 Rx.Bind (if (x198==true)=true then vec2_Orientation x188 x199 x195 else some default) fun (r200:Int)=>
 Let (r200 != (1:Int)) fun (x201:Bool)=>
 Let (bif x198 then x201 else false) fun (x202:Bool)=>
 if x202=true then some false else Let (IntKind.i64.wrap (s193+(1:Int))) fun (x203:Int)=>rec192 x203))
 else Let (IntKind.i64.wrap (s186+(1:Int))) fun (x204:Int)=>rec185 x204)
 fuel (0:Int)))
 else some true)
 fuel (0:Int)
noncomputable def polygon_ShortestEdge (vertices0:(List Vec)):Option Int:=
 Rx.Bind (polygon_IsConvex vertices0) fun (r205:Bool)=>
 Let (!r205) fun (x206:Bool)=>
 if x206=true then some (0:Int)
 else
 Let (↑vertices0.length:Int) fun (x207:Int)=>
 LOOP
 (fun (rec208:Int × Int->Option Int) (s209:Int × Int)=>
 Let (decide (s209.snd<x207)) fun (x210:Bool)=>
 if x210=true then
 Chk ((0:Int)<=s209.snd/\s209.snd<(↑vertices0.length:Int))
 (Let (ix vertices0 s209.snd) fun (x211:Vec)=>
 Let (IntKind.i64.wrap (s209.snd+(1:Int))) fun (x212:Int)=>
 Let (↑vertices0.length:Int) fun (x213:Int)=>
 Chk (x213≠(0:Int))
 (Let (x212.tmod x213) fun (x214:Int)=>
 Chk ((0:Int)<=x214/\x214<(↑vertices0.length:Int))
 (Let (ix vertices0 x214) fun (x215:Vec)=>
 Rx.Bind (vec2_Sub x215 x211) fun (r216:Vec)=>
 Rx.Bind (vec2_Length r216) fun (r217:Int)=>
 Let (min s209.fst r217) fun (x218:Int)=>
 Let (IntKind.i64.wrap (s209.snd+(1:Int))) fun (x219:Int)=>rec208 (x218,x219))))
 else some s209.fst)
 fuel ((536870911:Int),(0:Int))
noncomputable def fixed_RoundDiv (n0:Int) (d1:Int):Option Int:=
 Let (decide (d1<(1:Int))) fun (x220:Bool)=>
 Let (decide (d1>(4611686018427387904:Int))) fun (x221:Bool)=>
 Let (bif x220 then true else x221) fun (x222:Bool)=>
 Let (decide (n0<(-4611686018427387904:Int))) fun (x223:Bool)=>
 Let (bif x222 then true else x223) fun (x224:Bool)=>
 Let (decide (n0>(4611686018427387904:Int))) fun (x225:Bool)=>
 Let (bif x224 then true else x225) fun (x226:Bool)=>
 if x226=true then some (0:Int)
 else
 Chk (d1≠(0:Int))
 (Let (IntKind.i64.wrap (n0.tdiv d1)) fun (x227:Int)=>
 Chk (d1≠(0:Int))
 (Let (n0.tmod d1) fun (x228:Int)=>
 Join (fun (v229:Int)=>some v229) fun (j230:Int->Option Int)=>
 Let (IntKind.i64.wrap (d1 - x228)) fun (x231:Int)=>
 Let (decide (x228>=x231)) fun (x232:Bool)=>
 if x232=true then Let (IntKind.i64.wrap (x227+(1:Int))) fun (x233:Int)=>j230 x233
 else
 Let (IntKind.i64.wrap ((0:Int) - x228)) fun (x234:Int)=>
 Let (IntKind.i64.wrap (d1+x228)) fun (x235:Int)=>
 Let (decide (x234>=x235)) fun (x236:Bool)=>
 if x236=true then Let (IntKind.i64.wrap (x227 - (1:Int))) fun (x237:Int)=>j230 x237 else j230 x227))
noncomputable def polygon_fan (vertices0:(List Vec)):Option ((List polygon_triangle) × Int):=
 Chk ((0:Int)<=(0:Int)/\(0:Int)<(↑vertices0.length:Int))
 (Let (ix vertices0 (0:Int)) fun (x238:Vec)=>
 LOOP
 (fun (rec239:List polygon_triangle × Int × Int->Option (List polygon_triangle × Int))
 (s240:List polygon_triangle × Int × Int)=>
 Let (IntKind.i64.wrap (s240.snd.snd+(1:Int))) fun (x241:Int)=>
 Let (↑vertices0.length:Int) fun (x242:Int)=>
 Let (decide (x241<x242)) fun (x243:Bool)=>
 if x243=true then
 Chk ((0:Int)<=s240.snd.snd/\s240.snd.snd<(↑vertices0.length:Int))
 (Let (ix vertices0 s240.snd.snd) fun (x244:Vec)=>
 Let (IntKind.i64.wrap (x244.X - x238.X)) fun (x245:Int)=>
 Chk ((0:Int)<=s240.snd.snd/\s240.snd.snd<(↑vertices0.length:Int))
 (Let (ix vertices0 s240.snd.snd) fun (x246:Vec)=>
 Let (IntKind.i64.wrap (x246.Y - x238.Y)) fun (x247:Int)=>
 Let (IntKind.i64.wrap (s240.snd.snd+(1:Int))) fun (x248:Int)=>
 Chk ((0:Int)<=x248/\x248<(↑vertices0.length:Int))
 (Let (ix vertices0 x248) fun (x249:Vec)=>
 Let (IntKind.i64.wrap (x249.X - x238.X)) fun (x250:Int)=>
 Let (IntKind.i64.wrap (s240.snd.snd+(1:Int))) fun (x251:Int)=>
 Chk ((0:Int)<=x251/\x251<(↑vertices0.length:Int))
 (Let (ix vertices0 x251) fun (x252:Vec)=>
 Let (IntKind.i64.wrap (x252.Y - x238.Y)) fun (x253:Int)=>
 Let (IntKind.i64.wrap (x245*x253)) fun (x254:Int)=>
 Let (IntKind.i64.wrap (x247*x250)) fun (x255:Int)=>
 Let (IntKind.i64.wrap (x254 - x255)) fun (x256:Int)=>
 Rx.Bind (fixed_RoundDiv x256 (65536:Int)) fun (r257:Int)=>
 Chk
 ((List.length s240.fst+
 [{ e:={ X:=x245,Y:=x247:Vec },f:={ X:=x250,Y:=x253:Vec },cross:=r257:polygon_triangle }].length)*
 (40:Nat)<=
 (140737488355328:Nat))
 (Let
 (s240.fst++
 [{ e:={ X:=x245,Y:=x247:Vec },f:={ X:=x250,Y:=x253:Vec },cross:=r257:polygon_triangle }])
 fun (x258:List polygon_triangle)=>
 Let (IntKind.i64.wrap (s240.snd.fst+r257)) fun (x259:Int)=>
 Let (IntKind.i64.wrap (s240.snd.snd+(1:Int))) fun (x260:Int)=>rec239 (x258,x259,x260))))))
 else some (s240.fst,s240.snd.fst))
 fuel ([],(0:Int),(1:Int)))
noncomputable def polygon_Area (vertices0:(List Vec)):Option Int:=
 Rx.Bind (polygon_IsConvex vertices0) fun (r261:Bool)=>
 Let (!r261) fun (x262:Bool)=>
 if x262=true then some (0:Int)
 else
 Rx.Bind (polygon_fan vertices0) fun (r263:List polygon_triangle × Int)=>
 Rx.Bind (fixed_RoundDiv r263.snd (2:Int)) fun (r264:Int)=>some r264
noncomputable def shape_Validate (s0:Shape):Option Int:=
 Let (decide (s0.Kind<(1:Int))) fun (x265:Bool)=>
 Let (decide (s0.Kind>(3:Int))) fun (x266:Bool)=>
 Let (bif x265 then true else x266) fun (x267:Bool)=>
 if x267=true then some (10:Int)
 else
 Rx.Bind (shape_validCount s0) fun (r268:Bool)=>
 Let (!r268) fun (x269:Bool)=>
 if x269=true then some (11:Int)
 else
 Rx.Bind (slices_ContainsFunc_174 s0.Vertices fun (a:Tup tb [Ix.tVec])=>shape_Validate_1 a) fun (r270:Bool)=>
 if r270=true then some (6:Int)
 else
 Join
 (fun (v271:Bool)=>
 if v271=true then some (6:Int)
 else
 Let (s0.Kind==(2:Int)) fun (x272:Bool)=>
 Chk ((x272==true)=true->(0:Int)<=(1:Int)/\(1:Int)<(↑s0.Vertices.length:Int))
 (Let (ix s0.Vertices (1:Int)) fun (x273:Vec)=>
 Chk ((x272==true)=true->(0:Int)<=(0:Int)/\(0:Int)<(↑s0.Vertices.length:Int))
 (Let (ix s0.Vertices (0:Int)) fun (x274:Vec)=>
 Rx.Bind (if (x272==true)=true then vec2_Sub x273 x274 else some { X:=default,Y:=default:Vec })
 fun (r275:Vec)=>
 Rx.Bind (if (x272==true)=true then vec2_Length r275 else some default) fun (r276:Int)=>
 Let (decide (r276<(4096:Int))) fun (x277:Bool)=>
 Let (bif x272 then x277 else false) fun (x278:Bool)=>
 if x278=true then some (12:Int)
 else
 Let (s0.Kind==(3:Int)) fun (x279:Bool)=>
 Rx.Bind (if (x279==true)=true then polygon_IsConvex s0.Vertices else some default) fun (r280:Bool)=>
 Let (!r280) fun (x281:Bool)=>
 Rx.Bind (if (x279==true&&x281==false)=true then polygon_ShortestEdge s0.Vertices else some default)
 fun (r282:Int)=>
 Let (decide (r282<(4096:Int))) fun (x283:Bool)=>
 Let (bif x281 then true else x283) fun (x284:Bool)=>
 Rx.Bind (if (x279==true&&x284==false)=true then polygon_Area s0.Vertices else some default) fun (r285:Int)=>
 Let (decide (r285<(256:Int))) fun (x286:Bool)=>
 Let (bif x284 then true else x286) fun (x287:Bool)=>
 Let (bif x279 then x287 else false) fun (x288:Bool)=>if x288=true then some (12:Int) else some (0:Int))))
 fun (j289:Bool->Option Int)=>
 Let (s0.Kind==(3:Int)) fun (x290:Bool)=>
 Let (s0.Radius != (0:Int)) fun (x291:Bool)=>
 Let (bif x290 then x291 else false) fun (x292:Bool)=>
 if x292=true then j289 x292
 else
 Let (s0.Kind != (3:Int)) fun (x293:Bool)=>
 Let (decide (s0.Radius<(2048:Int))) fun (x294:Bool)=>
 Let (decide (s0.Radius>(524288:Int))) fun (x295:Bool)=>
 Let (bif x294 then true else x295) fun (x296:Bool)=>
 Let (bif x293 then x296 else false) fun (x297:Bool)=>j289 x297
noncomputable def body_ValidateFixture (f0:Fixture):Option Int:=
 Rx.Bind (shape_Validate f0.Shape) fun (r298:Int)=>
 Let (r298 != (0:Int)) fun (x299:Bool)=>
 if x299=true then some r298
 else
 Rx.Bind (body_within f0.Density (0:Int) (262144:Int)) fun (r300:Bool)=>
 Rx.Bind (if (r300==true)=true then body_within f0.Friction (0:Int) (131072:Int) else some default)
 fun (r301:Bool)=>
 Let (bif r300 then r301 else false) fun (x302:Bool)=>
 Rx.Bind (if (x302==true)=true then body_within f0.Restitution (0:Int) (65536:Int) else some default)
 fun (r303:Bool)=>
 Let (bif x302 then r303 else false) fun (x304:Bool)=>
 Rx.Bind (body_within f0.Category (0:Int) (65535:Int)) fun (r305:Bool)=>
 Rx.Bind (if (r305==true)=true then body_within f0.Mask (0:Int) (65535:Int) else some default)
 fun (r306:Bool)=>
 Let (bif r305 then r306 else false) fun (x307:Bool)=>
 Rx.Bind (if (x307==true)=true then body_within f0.Group (-32:Int) (32:Int) else some default)
 fun (r308:Bool)=>
 Let (bif x307 then r308 else false) fun (x309:Bool)=>
 Let (!x304) fun (x310:Bool)=>
 Let (!x309) fun (x311:Bool)=>
 Let (bif x310 then true else x311) fun (x312:Bool)=>if x312=true then some (6:Int) else some (0:Int)
noncomputable def body_moving (b0:Body):Option Bool:=
 Let (!(decide (b0.Velocity.X=(0:Int))&&decide (b0.Velocity.Y=(0:Int)))) fun (x313:Bool)=>
 Let (b0.AngularVelocity != (0:Int)) fun (x314:Bool)=>
 Let (bif x313 then true else x314) fun (x315:Bool)=>some x315
noncomputable def body_consistent (b0:Body):Option Bool:=
 Let (!(decide (b0.Force.X=(0:Int))&&decide (b0.Force.Y=(0:Int)))) fun (x316:Bool)=>
 Let (b0.Torque != (0:Int)) fun (x317:Bool)=>
 Let (bif x316 then true else x317) fun (x318:Bool)=>
 Let (b0.Kind==(1:Int)) fun (x319:Bool)=>
 Rx.Bind (if (x319==true)=true then body_moving b0 else some default) fun (r320:Bool)=>
 Let (bif r320 then true else x318) fun (x321:Bool)=>
 Let (bif x319 then x321 else false) fun (x322:Bool)=>
 if x322=true then some false
 else
 Let (b0.Kind != (3:Int)) fun (x323:Bool)=>
 Let (bif b0.Asleep then true else b0.Bullet) fun (x324:Bool)=>
 Let (bif x323 then x324 else false) fun (x325:Bool)=>
 if x325=true then some false
 else
 Let (!b0.Asleep) fun (x326:Bool)=>
 Rx.Bind (if (x326==false)=true then body_moving b0 else some default) fun (r327:Bool)=>
 Let (!r327) fun (x328:Bool)=>Let (bif x326 then true else x328) fun (x329:Bool)=>some x329
noncomputable def body_Validate (b0:Body):Option Int:=
 Let (b0.Kind != (1:Int)) fun (x330:Bool)=>
 Let (b0.Kind != (2:Int)) fun (x331:Bool)=>
 Let (bif x330 then x331 else false) fun (x332:Bool)=>
 Let (b0.Kind != (3:Int)) fun (x333:Bool)=>
 Let (bif x332 then x333 else false) fun (x334:Bool)=>
 if x334=true then some (10:Int)
 else
 Rx.Bind (body_inRange b0) fun (r335:Bool)=>
 Let (!r335) fun (x336:Bool)=>
 if x336=true then some (6:Int)
 else
 Let (↑b0.Fixtures.length:Int) fun (x337:Int)=>
 Let (decide (x337>(4:Int))) fun (x338:Bool)=>
 if x338=true then some (11:Int)
 else
 Let (↑b0.Fixtures.length:Int) fun (x339:Int)=>
 LOOP
 (fun (rec340:Int->Option Int) (s341:Int)=>
 Let (decide (s341<x339)) fun (x342:Bool)=>
 if x342=true then
 Chk ((0:Int)<=s341/\s341<(↑b0.Fixtures.length:Int))
 (Let (ix b0.Fixtures s341) fun (x343:Fixture)=>
 Rx.Bind (body_ValidateFixture x343) fun (r344:Int)=>
 Let (r344 != (0:Int)) fun (x345:Bool)=>
 if x345=true then some (13:Int) else Let (IntKind.i64.wrap (s341+(1:Int))) fun (x346:Int)=>rec340 x346)
 else
 Rx.Bind (body_consistent b0) fun (r347:Bool)=>
 Let (!r347) fun (x348:Bool)=>if x348=true then some (14:Int) else some (0:Int))
 fuel (0:Int)
noncomputable def world_validBodies (w0:World_):Option Bool:=
 Let (↑w0.Bodies.length:Int) fun (x349:Int)=>
 LOOP
 (fun (rec350:Int × Int->Option Bool) (s351:Int × Int)=>
 Let (decide (s351.snd<x349)) fun (x352:Bool)=>
 if x352=true then
 Chk ((0:Int)<=s351.snd/\s351.snd<(↑w0.Bodies.length:Int))
 (Let (ix w0.Bodies s351.snd) fun (x353:Body)=>
 Rx.Bind (body_Validate x353) fun (r354:Int)=>
 Let (r354 != (0:Int)) fun (x355:Bool)=>
 Let (decide (x353.ID>=w0.NextID)) fun (x356:Bool)=>
 Let (bif x355 then true else x356) fun (x357:Bool)=>
 Let (decide (x353.ID<=s351.fst)) fun (x358:Bool)=>
 Let (bif x357 then true else x358) fun (x359:Bool)=>
 if x359=true then some false
 else Let (IntKind.i64.wrap (s351.snd+(1:Int))) fun (x360:Int)=>rec350 (x353.ID,x360))
 else some true)
 fuel ((0:Int),(0:Int))
noncomputable def joint_limitRange (k0:Int):Option (Int × Int):=
 Let (k0==(1:Int)) fun (x361:Bool)=>
 if x361=true then some ((0:Int),(268435456:Int))
 else
 Let (k0==(2:Int)) fun (x362:Bool)=>
 if x362=true then some ((-205888:Int),(205888:Int)) else some ((-268435456:Int),(268435456:Int))
noncomputable def joint_inRange (n0:Int) (low1:Int) (high2:Int):Option Bool:=
 Let (decide (n0>=low1)) fun (x363:Bool)=>
 Let (decide (n0<=high2)) fun (x364:Bool)=>Let (bif x363 then x364 else false) fun (x365:Bool)=>some x365
noncomputable def joint_pointInRange (v0:Vec) (limit1:Int):Option Bool:=
 Let (IntKind.i64.wrap ((0:Int) - limit1)) fun (x366:Int)=>
 Rx.Bind (joint_inRange v0.X x366 limit1) fun (r367:Bool)=>
 Let (IntKind.i64.wrap ((0:Int) - limit1)) fun (x368:Int)=>
 Rx.Bind (if (r367==true)=true then joint_inRange v0.Y x368 limit1 else some default) fun (r369:Bool)=>
 Let (bif r367 then r369 else false) fun (x370:Bool)=>some x370
noncomputable def joint_numbersInRange (j0:Joint):Option Bool:=
 Join
 (fun (v371:Int)=>
 Rx.Bind (joint_limitRange j0.Kind) fun (r372:Int × Int)=>
 LOOP
 (fun (rec373:Int->Option Bool) (s374:Int)=>
 Let (decide (s374<(4:Int))) fun (x375:Bool)=>
 if x375=true then
 Chk ((0:Int)<=s374/\s374<(↑(4:Nat):Int))
 (Let (ix [j0.Impulses.fst,j0.Impulses.snd.fst,j0.Impulses.snd.snd.fst,j0.Impulses.snd.snd.snd] s374)
 fun (x376:Int)=>
 Rx.Bind (joint_inRange x376 (-536870911:Int) (536870911:Int)) fun (r377:Bool)=>
 Let (!r377) fun (x378:Bool)=>
 if x378=true then some false else Let (IntKind.i64.wrap (s374+(1:Int))) fun (x379:Int)=>rec373 x379)
 else
 Rx.Bind (joint_inRange j0.ID (1:Int) (1099511627776:Int)) fun (r380:Bool)=>
 Rx.Bind (if (r380==true)=true then joint_pointInRange j0.AnchorA v371 else some default) fun (r381:Bool)=>
 Let (bif r380 then r381 else false) fun (x382:Bool)=>
 Rx.Bind (if (x382==true)=true then joint_pointInRange j0.AnchorB (1048576:Int) else some default)
 fun (r383:Bool)=>
 Let (bif x382 then r383 else false) fun (x384:Bool)=>
 Rx.Bind (if (x384==true)=true then joint_inRange j0.ReferenceAngle (-205888:Int) (205887:Int) else some default)
 fun (r385:Bool)=>
 Let (bif x384 then r385 else false) fun (x386:Bool)=>
 Rx.Bind (if (x386==true)=true then joint_inRange j0.Lower r372.fst r372.snd else some default) fun (r387:Bool)=>
 Let (bif x386 then r387 else false) fun (x388:Bool)=>
 Rx.Bind (if (x388==true)=true then joint_inRange j0.Upper r372.fst r372.snd else some default) fun (r389:Bool)=>
 Let (bif x388 then r389 else false) fun (x390:Bool)=>
 Let (decide (j0.Lower<=j0.Upper)) fun (x391:Bool)=>
 Let (bif x390 then x391 else false) fun (x392:Bool)=>
 Rx.Bind (if (x392==true)=true then joint_inRange j0.MotorSpeed (-16777216:Int) (16777216:Int) else some default)
 fun (r393:Bool)=>
 Let (bif x392 then r393 else false) fun (x394:Bool)=>
 Rx.Bind (if (x394==true)=true then joint_inRange j0.MaxForce (0:Int) (536870911:Int) else some default)
 fun (r395:Bool)=>
 Let (bif x394 then r395 else false) fun (x396:Bool)=>
 Rx.Bind (if (x396==true)=true then joint_inRange j0.Softness (0:Int) (536870911:Int) else some default)
 fun (r397:Bool)=>
 Let (bif x396 then r397 else false) fun (x398:Bool)=>
 Rx.Bind (if (x398==true)=true then joint_inRange j0.BreakForce (0:Int) (536870911:Int) else some default)
 fun (r399:Bool)=>Let (bif x398 then r399 else false) fun (x400:Bool)=>some x400)
 fuel (0:Int))
 fun (j401:Int->Option Bool)=>
 Let (j0.Kind==(5:Int)) fun (x402:Bool)=>if x402=true then j401 (268435456:Int) else j401 (1048576:Int)
noncomputable def joint_validBodies (j0:Joint):Option Bool:=
 Let (j0.Kind==(5:Int)) fun (x403:Bool)=>
 if x403=true then
 Let (j0.BodyA==(0:Int)) fun (x404:Bool)=>
 Rx.Bind (if (x404==true)=true then joint_inRange j0.BodyB (1:Int) (1099511627776:Int) else some default)
 fun (r405:Bool)=>Let (bif x404 then r405 else false) fun (x406:Bool)=>some x406
 else
 Rx.Bind (joint_inRange j0.BodyA (1:Int) (1099511627776:Int)) fun (r407:Bool)=>
 Rx.Bind (if (r407==true)=true then joint_inRange j0.BodyB (1:Int) (1099511627776:Int) else some default)
 fun (r408:Bool)=>
 Let (bif r407 then r408 else false) fun (x409:Bool)=>
 Let (j0.BodyA != j0.BodyB) fun (x410:Bool)=>Let (bif x409 then x410 else false) fun (x411:Bool)=>some x411
noncomputable def joint_inconsistent (j0:Joint):Option Bool:=
 Let (decide (j0.Axis.X=(0:Int))&&decide (j0.Axis.Y=(0:Int))) fun (x412:Bool)=>
 Join
 (fun (v413:PUnit)=>
 Let (!x412) fun (x414:Bool)=>
 Let (bif x414 then true else j0.EnableMotor) fun (x415:Bool)=>
 Let (bif x415 then true else j0.EnableLimit) fun (x416:Bool)=>some x416)
 fun (j417:PUnit->Option Bool)=>
 Let (j0.Kind==(3:Int)) fun (x418:Bool)=>
 if x418=true then
 Rx.Bind (vec2_Length j0.Axis) fun (r419:Int)=>
 Rx.Bind (joint_inRange r419 (65520:Int) (65552:Int)) fun (r420:Bool)=>Let (!r420) fun (x421:Bool)=>some x421
 else
 Let (j0.Kind==(1:Int)) fun (x422:Bool)=>
 if x422=true then
 Let (!x412) fun (x423:Bool)=>
 Let (bif x423 then true else j0.EnableMotor) fun (x424:Bool)=>
 Let (!j0.EnableLimit) fun (x425:Bool)=>Let (bif x424 then true else x425) fun (x426:Bool)=>some x426
 else
 Let (j0.Kind==(4:Int)) fun (x427:Bool)=>
 if x427=true then j417 ()
 else
 Let (j0.Kind==(5:Int)) fun (x428:Bool)=>
 if x428=true then j417 () else Let (!x412) fun (x429:Bool)=>some x429
noncomputable def joint_Validate (j0:Joint):Option Int:=
 Let (decide (j0.Kind<(1:Int))) fun (x430:Bool)=>
 Let (decide (j0.Kind>(5:Int))) fun (x431:Bool)=>
 Let (bif x430 then true else x431) fun (x432:Bool)=>
 if x432=true then some (10:Int)
 else
 Rx.Bind (joint_numbersInRange j0) fun (r433:Bool)=>
 Let (!r433) fun (x434:Bool)=>
 if x434=true then some (6:Int)
 else
 Rx.Bind (joint_validBodies j0) fun (r435:Bool)=>
 Let (!r435) fun (x436:Bool)=>
 if x436=true then some (14:Int)
 else Rx.Bind (joint_inconsistent j0) fun (r437:Bool)=>if r437=true then some (15:Int) else some (0:Int)
noncomputable def world_FindBody_1 (b0:Body) (p1:Int):Option Bool:=
 Let (b0.ID==p1) fun (x438:Bool)=>some x438
noncomputable def slices_IndexFunc (s0:(List Body)) (f1:(Body->Option Bool)):Option Int:=
 Let (↑s0.length:Int) fun (x439:Int)=>
 LOOP
 (fun (rec440:Int->Option Int) (s441:Int)=>
 Let (decide (s441<x439)) fun (x442:Bool)=>
 if x442=true then
 Chk ((0:Int)<=s441/\s441<(↑s0.length:Int))
 (Let (ix s0 s441) fun (x443:Body)=>
 Rx.Bind (f1 x443) fun (r444:Bool)=>
 if r444=true then some s441 else Let (IntKind.i64.wrap (s441+(1:Int))) fun (x445:Int)=>rec440 x445)
 else some (-1:Int))
 fuel (0:Int)
noncomputable def world_FindBody (w0:World_) (id1:Int):Option Int:=
 Rx.Bind (slices_IndexFunc w0.Bodies fun (a:Tup tb [Ix.tBody])=>world_FindBody_1 a id1) fun (r446:Int)=>some r446
noncomputable def world_bodiesExist (w0:World_) (j1:Joint):Option Bool:=
 Rx.Bind (world_FindBody w0 j1.BodyB) fun (r447:Int)=>
 Let (decide (r447>=(0:Int))) fun (x448:Bool)=>
 Let (j1.Kind==(5:Int)) fun (x449:Bool)=>
 Rx.Bind (if (x448==true&&x449==false)=true then world_FindBody w0 j1.BodyA else some default)
 fun (r450:Int)=>
 Let (decide (r450>=(0:Int))) fun (x451:Bool)=>
 Let (bif x449 then true else x451) fun (x452:Bool)=>
 Let (bif x448 then x452 else false) fun (x453:Bool)=>some x453
noncomputable def world_validJoints (w0:World_):Option Bool:=
 Let (↑w0.Joints.length:Int) fun (x454:Int)=>
 LOOP
 (fun (rec455:Int × Int->Option Bool) (s456:Int × Int)=>
 Let (decide (s456.snd<x454)) fun (x457:Bool)=>
 if x457=true then
 Chk ((0:Int)<=s456.snd/\s456.snd<(↑w0.Joints.length:Int))
 (Let (ix w0.Joints s456.snd) fun (x458:Joint)=>
 Rx.Bind (joint_Validate x458) fun (r459:Int)=>
 Let (r459 != (0:Int)) fun (x460:Bool)=>
 Let (decide (x458.ID>=w0.NextID)) fun (x461:Bool)=>
 Let (bif x460 then true else x461) fun (x462:Bool)=>
 Let (decide (x458.ID<=s456.fst)) fun (x463:Bool)=>
 Let (bif x462 then true else x463) fun (x464:Bool)=>
 Rx.Bind (if (x464==false)=true then world_bodiesExist w0 x458 else some default) fun (r465:Bool)=>
 Let (!r465) fun (x466:Bool)=>
 Let (bif x464 then true else x466) fun (x467:Bool)=>
 Rx.Bind (if (x467==false)=true then world_FindBody w0 x458.ID else some default) fun (r468:Int)=>
 Let (decide (r468>=(0:Int))) fun (x469:Bool)=>
 Let (bif x467 then true else x469) fun (x470:Bool)=>
 if x470=true then some false
 else Let (IntKind.i64.wrap (s456.snd+(1:Int))) fun (x471:Int)=>rec455 (x458.ID,x471))
 else some true)
 fuel ((0:Int),(0:Int))
noncomputable def slices_IndexFunc_183 (s0:(List Int)) (f1:(Int->Option Bool)):Option Int:=
 Let (↑s0.length:Int) fun (x472:Int)=>
 LOOP
 (fun (rec473:Int->Option Int) (s474:Int)=>
 Let (decide (s474<x472)) fun (x475:Bool)=>
 if x475=true then
 Chk ((0:Int)<=s474/\s474<(↑s0.length:Int))
 (Let (ix s0 s474) fun (x476:Int)=>
 Rx.Bind (f1 x476) fun (r477:Bool)=>
 if r477=true then some s474 else Let (IntKind.i64.wrap (s474+(1:Int))) fun (x478:Int)=>rec473 x478)
 else some (-1:Int))
 fuel (0:Int)
noncomputable def slices_ContainsFunc_149 (s0:(List Int)) (f1:(Int->Option Bool)):Option Bool:=
 Rx.Bind (slices_IndexFunc_183 s0 f1) fun (r479:Int)=>Let (decide (r479>=(0:Int))) fun (x480:Bool)=>some x480
noncomputable def world_saturated_1 (n0:Int):Option Bool:=
 Rx.Bind (world_in n0 (-536870911:Int) (536870911:Int)) fun (r481:Bool)=>
 Let (!r481) fun (x482:Bool)=>some x482
noncomputable def world_saturated (values0:(List Int)):Option Bool:=
 Rx.Bind (slices_ContainsFunc_149 values0 fun (a:Tup tb [Ix.tint])=>world_saturated_1 a) fun (r483:Bool)=>
 Let (!r483) fun (x484:Bool)=>some x484
noncomputable def slices_IndexFunc_151 (s0:(List ContactPoint)) (f1:(ContactPoint->Option Bool)):Option Int:=
 Let (↑s0.length:Int) fun (x485:Int)=>
 LOOP
 (fun (rec486:Int->Option Int) (s487:Int)=>
 Let (decide (s487<x485)) fun (x488:Bool)=>
 if x488=true then
 Chk ((0:Int)<=s487/\s487<(↑s0.length:Int))
 (Let (ix s0 s487) fun (x489:ContactPoint)=>
 Rx.Bind (f1 x489) fun (r490:Bool)=>
 if r490=true then some s487 else Let (IntKind.i64.wrap (s487+(1:Int))) fun (x491:Int)=>rec486 x491)
 else some (-1:Int))
 fuel (0:Int)
noncomputable def slices_ContainsFunc_113 (s0:(List ContactPoint)) (f1:(ContactPoint->Option Bool)):Option Bool:=
 Rx.Bind (slices_IndexFunc_151 s0 f1) fun (r492:Int)=>Let (decide (r492>=(0:Int))) fun (x493:Bool)=>some x493
noncomputable def world_validManifold_1 (p0:ContactPoint):Option Bool:=
 Let (decide (p0.NormalImpulse<(0:Int))) fun (x494:Bool)=>
 Rx.Bind
 (if (x494==false)=true then
 world_saturated [p0.Point.X,p0.Point.Y,p0.Separation,p0.ID,p0.NormalImpulse,p0.TangentImpulse]
 else some default)
 fun (r495:Bool)=>Let (!r495) fun (x496:Bool)=>Let (bif x494 then true else x496) fun (x497:Bool)=>some x497
noncomputable def world_validManifold (m0:Manifold):Option Bool:=
 Let (↑m0.Points.length:Int) fun (x498:Int)=>
 Let (decide (x498<(1:Int))) fun (x499:Bool)=>
 Let (decide (x498>(2:Int))) fun (x500:Bool)=>
 Let (bif x499 then true else x500) fun (x501:Bool)=>
 Let (x498==(2:Int)) fun (x502:Bool)=>
 Chk ((x501==false&&x502==true)=true->(0:Int)<=(0:Int)/\(0:Int)<(↑m0.Points.length:Int))
 (Let (ix m0.Points (0:Int)) fun (x503:ContactPoint)=>
 Chk ((x501==false&&x502==true)=true->(0:Int)<=(1:Int)/\(1:Int)<(↑m0.Points.length:Int))
 (Let (ix m0.Points (1:Int)) fun (x504:ContactPoint)=>
 Let (x503.ID==x504.ID) fun (x505:Bool)=>
 Let (bif x502 then x505 else false) fun (x506:Bool)=>
 Let (bif x501 then true else x506) fun (x507:Bool)=>
 Rx.Bind (if (x507==false)=true then world_saturated [m0.Normal.X,m0.Normal.Y] else some default)
 fun (r508:Bool)=>
 Let (!r508) fun (x509:Bool)=>
 Let (bif x507 then true else x509) fun (x510:Bool)=>
 if x510=true then some false
 else
 Rx.Bind (slices_ContainsFunc_113 m0.Points fun (a:Tup tb [Ix.tContactPoint])=>world_validManifold_1 a)
 fun (r511:Bool)=>Let (!r511) fun (x512:Bool)=>some x512))
noncomputable def broadphase_valid (k0:PairKey):Option Bool:=
 Let (decide (k0.BodyA<k0.BodyB)) fun (x513:Bool)=>
 Let (decide (k0.FixtureA>=(0:Int))) fun (x514:Bool)=>
 Let (bif x513 then x514 else false) fun (x515:Bool)=>
 Let (decide (k0.FixtureA<(4:Int))) fun (x516:Bool)=>
 Let (bif x515 then x516 else false) fun (x517:Bool)=>
 Let (decide (k0.FixtureB>=(0:Int))) fun (x518:Bool)=>
 Let (bif x517 then x518 else false) fun (x519:Bool)=>
 Let (decide (k0.FixtureB<(4:Int))) fun (x520:Bool)=>
 Let (bif x519 then x520 else false) fun (x521:Bool)=>some x521
noncomputable def cmp_isNaN (x0:Int):Option Bool:=
 Let (x0 != x0) fun (x522:Bool)=>some x522
noncomputable def cmp_Compare (x0:Int) (y1:Int):Option Int:=
 Rx.Bind (cmp_isNaN x0) fun (r523:Bool)=>
 Rx.Bind (cmp_isNaN y1) fun (r524:Bool)=>
 if r523=true then if r524=true then some (0:Int) else some (-1:Int)
 else
 if r524=true then some (1:Int)
 else
 Let (decide (x0<y1)) fun (x525:Bool)=>
 if x525=true then some (-1:Int)
 else Let (decide (x0>y1)) fun (x526:Bool)=>if x526=true then some (1:Int) else some (0:Int)
noncomputable def cmp_Or (vals0:(List Int)):Option Int:=
 Let (↑vals0.length:Int) fun (x527:Int)=>
 LOOP
 (fun (rec528:Int->Option Int) (s529:Int)=>
 Let (decide (s529<x527)) fun (x530:Bool)=>
 if x530=true then
 Chk ((0:Int)<=s529/\s529<(↑vals0.length:Int))
 (Let (ix vals0 s529) fun (x531:Int)=>
 Let (x531 != (0:Int)) fun (x532:Bool)=>
 if x532=true then some x531 else Let (IntKind.i64.wrap (s529+(1:Int))) fun (x533:Int)=>rec528 x533)
 else some (0:Int))
 fuel (0:Int)
noncomputable def broadphase_compare (a0:PairKey) (b1:PairKey):Option Int:=
 Rx.Bind (cmp_Compare a0.BodyA b1.BodyA) fun (r534:Int)=>
 Rx.Bind (cmp_Compare a0.FixtureA b1.FixtureA) fun (r535:Int)=>
 Rx.Bind (cmp_Compare a0.BodyB b1.BodyB) fun (r536:Int)=>
 Rx.Bind (cmp_Compare a0.FixtureB b1.FixtureB) fun (r537:Int)=>
 Rx.Bind (cmp_Or [r534,r535,r536,r537]) fun (r538:Int)=>some r538
noncomputable def broadphase_Less (a0:PairKey) (b1:PairKey):Option Bool:=
 Rx.Bind (broadphase_compare a0 b1) fun (r539:Int)=>Let (decide (r539<(0:Int))) fun (x540:Bool)=>some x540
noncomputable def broadphase_ValidKeys (keys0:(List PairKey)):Option Bool:=
 Let (↑keys0.length:Int) fun (x541:Int)=>
 LOOP
 (fun (rec542:Int × PairKey->Option Bool) (s543:Int × PairKey)=>
 Let (decide (s543.fst<x541)) fun (x544:Bool)=>
 if x544=true then
 Chk ((0:Int)<=s543.fst/\s543.fst<(↑keys0.length:Int))
 (Let (ix keys0 s543.fst) fun (x545:PairKey)=>
 Rx.Bind (broadphase_valid x545) fun (r546:Bool)=>
 Let (!r546) fun (x547:Bool)=>
 Let (decide (s543.fst>(0:Int))) fun (x548:Bool)=>
 Let
 (decide (x545.BodyA=s543.snd.BodyA)&&
 (decide (x545.FixtureA=s543.snd.FixtureA)&&
 (decide (x545.BodyB=s543.snd.BodyB)&&decide (x545.FixtureB=s543.snd.FixtureB))))
 fun (x549:Bool)=>
 Rx.Bind
 (if (x547==false&&x548==true&&x549==false)=true then broadphase_Less s543.snd x545 else some default)
 fun (r550:Bool)=>
 Let (!r550) fun (x551:Bool)=>
 Let (bif x549 then true else x551) fun (x552:Bool)=>
 Let (bif x548 then x552 else false) fun (x553:Bool)=>
 Let (bif x547 then true else x553) fun (x554:Bool)=>
 if x554=true then some false
 else Let (IntKind.i64.wrap (s543.fst+(1:Int))) fun (x555:Int)=>rec542 (x555,x545))
 else some true)
 fuel ((0:Int),{ BodyA:=(0:Int),FixtureA:=(0:Int),BodyB:=(0:Int),FixtureB:=(0:Int):PairKey })
noncomputable def slices_Concat (slices0:(List (List PairKey))):Option (List PairKey):=
 Let (↑slices0.length:Int) fun (x556:Int)=>
 LOOP
 (fun (rec557:Int × Int->Option (List PairKey)) (s558:Int × Int)=>
 Let (decide (s558.snd<x556)) fun (x559:Bool)=>
 if x559=true then
 Chk ((0:Int)<=s558.snd/\s558.snd<(↑slices0.length:Int))
 (Let (ix slices0 s558.snd) fun (x560:List PairKey)=>
 Let (↑x560.length:Int) fun (x561:Int)=>
 Let (IntKind.i64.wrap (s558.fst+x561)) fun (x562:Int)=>
 Let (decide (x562<(0:Int))) fun (x563:Bool)=>
 if x563=true then none else Let (IntKind.i64.wrap (s558.snd+(1:Int))) fun (x564:Int)=>rec557 (x562,x564))
 else
 Let (decide (s558.fst<(0:Int))) fun (x565:Bool)=>
 if x565=true then none
 else
 Join
 (fun (v566:List PairKey)=>
 Let (↑slices0.length:Int) fun (x567:Int)=>
 LOOP
 (fun (rec568:List PairKey × Int->Option (List PairKey)) (s569:List PairKey × Int)=>
 Let (decide (s569.snd<x567)) fun (x570:Bool)=>
 if x570=true then
 Chk ((0:Int)<=s569.snd/\s569.snd<(↑slices0.length:Int))
 (Let (ix slices0 s569.snd) fun (x571:List PairKey)=>
 Chk ((List.length s569.fst+x571.length)*(32:Nat)<=(140737488355328:Nat))
 (Let (s569.fst++x571) fun (x572:List PairKey)=>
 Let (IntKind.i64.wrap (s569.snd+(1:Int))) fun (x573:Int)=>rec568 (x572,x573)))
 else some s569.fst)
 fuel (v566,(0:Int)))
 fun (j574:List PairKey->Option (List PairKey))=>
 Let (IntKind.i64.wrap ((0:Int) - (0:Int))) fun (x575:Int)=>
 Let (IntKind.i64.wrap (s558.fst - x575)) fun (x576:Int)=>
 Let (decide (x576>(0:Int))) fun (x577:Bool)=>
 if x577=true then
 Chk ((0:Int)=(0:Int))
 (Chk ((0:Int)<x576/\x576.toNat*(32:Nat)<=(140737488355328:Nat)/\x576<=(9223372036854775807:Int))
 (Let
 (List.replicate x576.toNat
 { BodyA:=(0:Int),FixtureA:=(0:Int),BodyB:=(0:Int),FixtureB:=(0:Int):PairKey })
 fun (x578:List PairKey)=>
 Chk
 ((0:Int)<=none.getD (0:Int)/\
 (0:Int)<=(some (0:Int)).getD (0:Int)/\(0:Nat)<=Int.toNat (0:Int)/\Int.toNat (0:Int)<=x578.length)
 (Chk (Int.toNat (0:Int) - (0:Nat)<=x578.length)
 (Let (List.take (Int.toNat (0:Int) - (0:Nat)) x578) fun (x579:List PairKey)=>j574 x579))))
 else j574 [])
 fuel ((0:Int),(0:Int))
noncomputable def world_fixturesExist (w0:World_) (k1:PairKey):Option Bool:=
 Rx.Bind (world_FindBody w0 k1.BodyA) fun (r580:Int)=>
 Rx.Bind (world_FindBody w0 k1.BodyB) fun (r581:Int)=>
 Let (decide (r580>=(0:Int))) fun (x582:Bool)=>
 Let (decide (r581>=(0:Int))) fun (x583:Bool)=>
 Let (bif x582 then x583 else false) fun (x584:Bool)=>
 Chk ((x584==true)=true->(0:Int)<=r580/\r580<(↑w0.Bodies.length:Int))
 (Let (ix w0.Bodies r580) fun (x585:Body)=>
 Let (↑x585.Fixtures.length:Int) fun (x586:Int)=>
 Let (decide (k1.FixtureA<x586)) fun (x587:Bool)=>
 Let (bif x584 then x587 else false) fun (x588:Bool)=>
 Chk ((x588==true)=true->(0:Int)<=r581/\r581<(↑w0.Bodies.length:Int))
 (Let (ix w0.Bodies r581) fun (x589:Body)=>
 Let (↑x589.Fixtures.length:Int) fun (x590:Int)=>
 Let (decide (k1.FixtureB<x590)) fun (x591:Bool)=>
 Let (bif x588 then x591 else false) fun (x592:Bool)=>some x592))
noncomputable def world_validContacts_1 (k0:PairKey) (p1:World_):Option Bool:=
 Rx.Bind (world_fixturesExist p1 k0) fun (r593:Bool)=>Let (!r593) fun (x594:Bool)=>some x594
noncomputable def slices_IndexFunc_117 (s0:(List PairKey)) (f1:(PairKey->Option Bool)):Option Int:=
 Let (↑s0.length:Int) fun (x595:Int)=>
 LOOP
 (fun (rec596:Int->Option Int) (s597:Int)=>
 Let (decide (s597<x595)) fun (x598:Bool)=>
 if x598=true then
 Chk ((0:Int)<=s597/\s597<(↑s0.length:Int))
 (Let (ix s0 s597) fun (x599:PairKey)=>
 Rx.Bind (f1 x599) fun (r600:Bool)=>
 if r600=true then some s597 else Let (IntKind.i64.wrap (s597+(1:Int))) fun (x601:Int)=>rec596 x601)
 else some (-1:Int))
 fuel (0:Int)
noncomputable def slices_ContainsFunc (s0:(List PairKey)) (f1:(PairKey->Option Bool)):Option Bool:=
 Rx.Bind (slices_IndexFunc_117 s0 f1) fun (r602:Int)=>Let (decide (r602>=(0:Int))) fun (x603:Bool)=>some x603
noncomputable def world_validContacts (w0:World_):Option Bool:=
 Let (↑w0.Contacts.length:Int) fun (x604:Int)=>
 LOOP
 (fun (rec605:List PairKey × Int->Option Bool) (s606:List PairKey × Int)=>
 Let (decide (s606.snd<x604)) fun (x607:Bool)=>
 if x607=true then
 Chk ((0:Int)<=s606.snd/\s606.snd<(↑w0.Contacts.length:Int))
 (Let (ix w0.Contacts s606.snd) fun (x608:Contact)=>
 Rx.Bind (world_validManifold x608.Manifold) fun (r609:Bool)=>
 Let (!r609) fun (x610:Bool)=>
 if x610=true then some false
 else
 Chk ((List.length s606.fst+[x608.Key].length)*(32:Nat)<=(140737488355328:Nat))
 (Let (s606.fst++[x608.Key]) fun (x611:List PairKey)=>
 Let (IntKind.i64.wrap (s606.snd+(1:Int))) fun (x612:Int)=>rec605 (x611,x612)))
 else
 Rx.Bind (broadphase_ValidKeys s606.fst) fun (r613:Bool)=>
 Let (!r613) fun (x614:Bool)=>
 Rx.Bind (if (x614==false)=true then broadphase_ValidKeys w0.Overlaps else some default) fun (r615:Bool)=>
 Let (!r615) fun (x616:Bool)=>
 Let (bif x614 then true else x616) fun (x617:Bool)=>
 if x617=true then some false
 else
 Rx.Bind (slices_Concat [s606.fst,w0.Overlaps]) fun (r618:List PairKey)=>
 Rx.Bind (slices_ContainsFunc r618 fun (a:Tup tb [Ix.tPairKey])=>world_validContacts_1 a w0) fun (r619:Bool)=>
 Let (!r619) fun (x620:Bool)=>some x620)
 fuel ([],(0:Int))
noncomputable def world_Validate (w0:World_):Option Int:=
 Rx.Bind (world_ValidateSettings w0.Settings) fun (r621:Int)=>
 Let (r621 != (0:Int)) fun (x622:Bool)=>
 if x622=true then some (17:Int)
 else
 Let (↑w0.Bodies.length:Int) fun (x623:Int)=>
 Let (decide (x623>(32:Int))) fun (x624:Bool)=>
 Let (↑w0.Joints.length:Int) fun (x625:Int)=>
 Let (decide (x625>(32:Int))) fun (x626:Bool)=>
 Let (bif x624 then true else x626) fun (x627:Bool)=>
 Let (↑w0.Contacts.length:Int) fun (x628:Int)=>
 Let (decide (x628>(8192:Int))) fun (x629:Bool)=>
 Let (bif x627 then true else x629) fun (x630:Bool)=>
 Let (↑w0.Overlaps.length:Int) fun (x631:Int)=>
 Let (decide (x631>(8192:Int))) fun (x632:Bool)=>
 Let (bif x630 then true else x632) fun (x633:Bool)=>
 if x633=true then some (11:Int)
 else
 Rx.Bind (world_in w0.NextID (1:Int) (1099511627776:Int)) fun (r634:Bool)=>
 Let (!r634) fun (x635:Bool)=>
 Rx.Bind (if (x635==false)=true then world_in w0.Frame (0:Int) (1099511627776:Int) else some default)
 fun (r636:Bool)=>
 Let (!r636) fun (x637:Bool)=>
 Let (bif x635 then true else x637) fun (x638:Bool)=>
 if x638=true then some (6:Int)
 else
 Rx.Bind (world_validBodies w0) fun (r639:Bool)=>
 Let (!r639) fun (x640:Bool)=>
 if x640=true then some (14:Int)
 else
 Rx.Bind (world_validJoints w0) fun (r641:Bool)=>
 Let (!r641) fun (x642:Bool)=>
 if x642=true then some (15:Int)
 else
 Rx.Bind (world_validContacts w0) fun (r643:Bool)=>
 Let (!r643) fun (x644:Bool)=>if x644=true then some (16:Int) else some (0:Int)
noncomputable def format_FormatInt (n0:Int):Option (List UInt8):=
 Let (IntKind.u64.wrap n0) fun (x645:Int)=>
 Join
 (fun (v646:Int)=>
 LOOP
 (fun (rec647:Int × Int × List UInt8->Option (List UInt8)) (s648:Int × Int × List UInt8)=>
 Let (IntKind.i64.wrap (s648.snd.fst - (1:Int))) fun (x649:Int)=>
 Let (Int.tmod s648.fst (10:Int)) fun (x650:Int)=>
 Let (IntKind.u64.wrap ((48:Int)+x650)) fun (x651:Int)=>
 Let (toByte x651) fun (x652:UInt8)=>
 Chk ((0:Int)<=x649/\x649<(↑(20:Nat):Int))
 (Chk ((0:Int)<=x649/\x649<(↑(List.length s648.snd.snd):Int))
 (Let (List.set s648.snd.snd x649.toNat x652) fun (x653:List UInt8)=>
 Let (IntKind.u64.wrap (Int.tdiv s648.fst (10:Int))) fun (x654:Int)=>
 Let (x654==(0:Int)) fun (x655:Bool)=>
 if x655=true then
 Join
 (fun (v656:Int × List UInt8)=>
 Chk
 ((0:Int)<=(some v656.fst).getD (0:Int)/\
 (0:Int)<=none.getD (0:Int)/\
 Int.toNat v656.fst<=(20:Nat)/\(20:Nat)<=(20:Nat)/\(20:Nat)<=List.length v656.snd)
 (Chk (Int.toNat v656.fst+((20:Nat) - Int.toNat v656.fst)<=List.length v656.snd)
 (some (List.take ((20:Nat) - Int.toNat v656.fst) (List.drop (Int.toNat v656.fst) v656.snd)))))
 fun (j657:Int × List UInt8->Option (List UInt8))=>
 Let (decide (n0<(0:Int))) fun (x658:Bool)=>
 if x658=true then
 Let (IntKind.i64.wrap (x649 - (1:Int))) fun (x659:Int)=>
 Chk ((0:Int)<=x659/\x659<(↑(20:Nat):Int))
 (Chk ((0:Int)<=x659/\x659<(↑x653.length:Int))
 (Let (x653.set x659.toNat (toByte (45:Int))) fun (x660:List UInt8)=>j657 (x659,x660)))
 else j657 (x649,x653)
 else rec647 (x654,x649,x653))))
 fuel
 (v646,(20:Int),
 [toByte (0:Int),toByte (0:Int),toByte (0:Int),toByte (0:Int),toByte (0:Int),toByte (0:Int),
 toByte (0:Int),toByte (0:Int),toByte (0:Int),toByte (0:Int),toByte (0:Int),toByte (0:Int),
 toByte (0:Int),toByte (0:Int),toByte (0:Int),toByte (0:Int),toByte (0:Int),toByte (0:Int),
 toByte (0:Int),toByte (0:Int)]))
 fun (j661:Int->Option (List UInt8))=>
 Let (decide (n0<(0:Int))) fun (x662:Bool)=>
 if x662=true then Let (IntKind.u64.wrap ((0:Int) - x645)) fun (x663:Int)=>j661 x663 else j661 x645
noncomputable def strings_Join (elems0:(List (List UInt8))) (sep1:(List UInt8)):Option (List UInt8):=
 joinS elems0 sep1
noncomputable def format_JoinFields (fields0:(List (List UInt8))):Option (List UInt8):=
 Rx.Bind (strings_Join fields0 #[(32:UInt8)].toList) fun (r664:List UInt8)=>some r664
noncomputable def scene_FormatLine (keyword0:(List UInt8)) (values1:(List Int)):Option (List UInt8):=
 Let (↑values1.length:Int) fun (x665:Int)=>
 LOOP
 (fun (rec666:List (List UInt8) × Int->Option (List UInt8)) (s667:List (List UInt8) × Int)=>
 Let (decide (s667.snd<x665)) fun (x668:Bool)=>
 if x668=true then
 Chk ((0:Int)<=s667.snd/\s667.snd<(↑values1.length:Int))
 (Let (ix values1 s667.snd) fun (x669:Int)=>
 Rx.Bind (format_FormatInt x669) fun (r670:List UInt8)=>
 Chk ((List.length s667.fst+[r670].length)*(16:Nat)<=(140737488355328:Nat))
 (Let (s667.fst++[r670]) fun (x671:List (List UInt8))=>
 Let (IntKind.i64.wrap (s667.snd+(1:Int))) fun (x672:Int)=>rec666 (x671,x672)))
 else Rx.Bind (format_JoinFields s667.fst) fun (r673:List UInt8)=>some r673)
 fuel ([keyword0],(0:Int))
noncomputable def scene_boolValue (x0:Bool):Option Int:=
 if x0=true then some (1:Int) else some (0:Int)
noncomputable def scene_bodyLines (b0:Body):Option (List (List UInt8)):=
 Rx.Bind (scene_boolValue b0.Bullet) fun (r674:Int)=>
 Rx.Bind (scene_boolValue b0.FixedRotation) fun (r675:Int)=>
 Rx.Bind (scene_boolValue b0.NoSleep) fun (r676:Int)=>
 Rx.Bind (scene_boolValue b0.Asleep) fun (r677:Int)=>
 Rx.Bind
 (scene_FormatLine #[(98:UInt8),(111:UInt8),(100:UInt8),(121:UInt8)].toList
 [b0.ID,b0.Kind,b0.Transform.Position.X,b0.Transform.Position.Y,b0.Transform.Angle,b0.Velocity.X,b0.Velocity.Y,
 b0.AngularVelocity,b0.Force.X,b0.Force.Y,b0.Torque,b0.LinearDamping,b0.AngularDamping,b0.GravityScale,r674,r675,
 r676,r677,b0.IdleSteps])
 fun (r678:List UInt8)=>
 Let (↑b0.Fixtures.length:Int) fun (x679:Int)=>
 LOOP
 (fun (rec680:List (List UInt8) × Int->Option (List (List UInt8))) (s681:List (List UInt8) × Int)=>
 Let (decide (s681.snd<x679)) fun (x682:Bool)=>
 if x682=true then
 Chk ((0:Int)<=s681.snd/\s681.snd<(↑b0.Fixtures.length:Int))
 (Let (ix b0.Fixtures s681.snd) fun (x683:Fixture)=>
 Rx.Bind (scene_boolValue x683.Sensor) fun (r684:Int)=>
 Let (↑x683.Shape.Vertices.length:Int) fun (x685:Int)=>
 LOOP
 (fun (rec686:List Int × Int->Option (List (List UInt8))) (s687:List Int × Int)=>
 Let (decide (s687.snd<x685)) fun (x688:Bool)=>
 if x688=true then
 Chk ((0:Int)<=s687.snd/\s687.snd<(↑x683.Shape.Vertices.length:Int))
 (Let (ix x683.Shape.Vertices s687.snd) fun (x689:Vec)=>
 Chk ((List.length s687.fst+[x689.X,x689.Y].length)*(8:Nat)<=(140737488355328:Nat))
 (Let (s687.fst++[x689.X,x689.Y]) fun (x690:List Int)=>
 Let (IntKind.i64.wrap (s687.snd+(1:Int))) fun (x691:Int)=>rec686 (x690,x691)))
 else
 Rx.Bind
 (scene_FormatLine
 #[(102:UInt8),(105:UInt8),(120:UInt8),(116:UInt8),(117:UInt8),(114:UInt8),(101:UInt8)].toList
 s687.fst)
 fun (r692:List UInt8)=>
 Chk ((List.length s681.fst+[r692].length)*(16:Nat)<=(140737488355328:Nat))
 (Let (s681.fst++[r692]) fun (x693:List (List UInt8))=>
 Let (IntKind.i64.wrap (s681.snd+(1:Int))) fun (x694:Int)=>rec680 (x693,x694)))
 fuel
 ([x683.Density,x683.Friction,x683.Restitution,r684,x683.Category,x683.Mask,x683.Group,x683.Shape.Kind,
 x683.Shape.Radius],
 (0:Int)))
 else some s681.fst)
 fuel ([r678],(0:Int))
noncomputable def scene_jointLine (j0:Joint):Option (List UInt8):=
 Rx.Bind (scene_boolValue j0.EnableLimit) fun (r695:Int)=>
 Rx.Bind (scene_boolValue j0.EnableMotor) fun (r696:Int)=>
 Rx.Bind (scene_boolValue j0.CollideConnected) fun (r697:Int)=>
 Chk
 (([j0.ID,j0.Kind,j0.BodyA,j0.BodyB,j0.AnchorA.X,j0.AnchorA.Y,j0.AnchorB.X,j0.AnchorB.Y,j0.Axis.X,j0.Axis.Y,
 j0.ReferenceAngle,r695,j0.Lower,j0.Upper,r696,j0.MotorSpeed,j0.MaxForce,j0.Softness,j0.BreakForce,
 r697].length+
 [j0.Impulses.fst,j0.Impulses.snd.fst,j0.Impulses.snd.snd.fst,j0.Impulses.snd.snd.snd].length)*
 (8:Nat)<=
 (140737488355328:Nat))
 (Let
 ([j0.ID,j0.Kind,j0.BodyA,j0.BodyB,j0.AnchorA.X,j0.AnchorA.Y,j0.AnchorB.X,j0.AnchorB.Y,j0.Axis.X,j0.Axis.Y,
 j0.ReferenceAngle,r695,j0.Lower,j0.Upper,r696,j0.MotorSpeed,j0.MaxForce,j0.Softness,j0.BreakForce,r697]++
 [j0.Impulses.fst,j0.Impulses.snd.fst,j0.Impulses.snd.snd.fst,j0.Impulses.snd.snd.snd])
 fun (x698:List Int)=>
 Rx.Bind (scene_FormatLine #[(106:UInt8),(111:UInt8),(105:UInt8),(110:UInt8),(116:UInt8)].toList x698)
 fun (r699:List UInt8)=>some r699)
noncomputable def scene_contactLines (c0:Contact):Option (List (List UInt8)):=
 Rx.Bind
 (scene_FormatLine
 #[(99:UInt8),(111:UInt8),(110:UInt8),(116:UInt8),(97:UInt8),(99:UInt8),(116:UInt8)].toList
 [c0.Key.BodyA,c0.Key.FixtureA,c0.Key.BodyB,c0.Key.FixtureB,c0.Manifold.Normal.X,c0.Manifold.Normal.Y])
 fun (r700:List UInt8)=>
 Let (↑c0.Manifold.Points.length:Int) fun (x701:Int)=>
 LOOP
 (fun (rec702:List (List UInt8) × Int->Option (List (List UInt8))) (s703:List (List UInt8) × Int)=>
 Let (decide (s703.snd<x701)) fun (x704:Bool)=>
 if x704=true then
 Chk ((0:Int)<=s703.snd/\s703.snd<(↑c0.Manifold.Points.length:Int))
 (Let (ix c0.Manifold.Points s703.snd) fun (x705:ContactPoint)=>
 Rx.Bind
 (scene_FormatLine #[(112:UInt8),(111:UInt8),(105:UInt8),(110:UInt8),(116:UInt8)].toList
 [x705.Point.X,x705.Point.Y,x705.Separation,x705.ID,x705.NormalImpulse,x705.TangentImpulse])
 fun (r706:List UInt8)=>
 Chk ((List.length s703.fst+[r706].length)*(16:Nat)<=(140737488355328:Nat))
 (Let (s703.fst++[r706]) fun (x707:List (List UInt8))=>
 Let (IntKind.i64.wrap (s703.snd+(1:Int))) fun (x708:Int)=>rec702 (x707,x708)))
 else some s703.fst)
 fuel ([r700],(0:Int))
noncomputable def scene_Format (w0:World_):Option ((List UInt8) × Int):=
 Rx.Bind (world_Validate w0) fun (r709:Int)=>
 Let (r709 != (0:Int)) fun (x710:Bool)=>
 if x710=true then some (#[].toList,(18:Int))
 else
 Rx.Bind
 (scene_FormatLine #[(119:UInt8),(111:UInt8),(114:UInt8),(108:UInt8),(100:UInt8)].toList
 [w0.Settings.TimeStep,w0.Settings.Gravity.X,w0.Settings.Gravity.Y,w0.Settings.Iterations,w0.Settings.SleepSteps,
 w0.NextID,w0.Frame])
 fun (r711:List UInt8)=>
 Let (↑w0.Bodies.length:Int) fun (x712:Int)=>
 LOOP
 (fun (rec713:List (List UInt8) × Int->Option (List UInt8 × Int)) (s714:List (List UInt8) × Int)=>
 Let (decide (s714.snd<x712)) fun (x715:Bool)=>
 if x715=true then
 Chk ((0:Int)<=s714.snd/\s714.snd<(↑w0.Bodies.length:Int))
 (Let (ix w0.Bodies s714.snd) fun (x716:Body)=>
 Rx.Bind (scene_bodyLines x716) fun (r717:List (List UInt8))=>
 Chk ((List.length s714.fst+r717.length)*(16:Nat)<=(140737488355328:Nat))
 (Let (s714.fst++r717) fun (x718:List (List UInt8))=>
 Let (IntKind.i64.wrap (s714.snd+(1:Int))) fun (x719:Int)=>rec713 (x718,x719)))
 else
 Let (↑w0.Joints.length:Int) fun (x720:Int)=>
 LOOP
 (fun (rec721:List (List UInt8) × Int->Option (List UInt8 × Int)) (s722:List (List UInt8) × Int)=>
 Let (decide (s722.snd<x720)) fun (x723:Bool)=>
 if x723=true then
 Chk ((0:Int)<=s722.snd/\s722.snd<(↑w0.Joints.length:Int))
 (Let (ix w0.Joints s722.snd) fun (x724:Joint)=>
 Rx.Bind (scene_jointLine x724) fun (r725:List UInt8)=>
 Chk ((List.length s722.fst+[r725].length)*(16:Nat)<=(140737488355328:Nat))
 (Let (s722.fst++[r725]) fun (x726:List (List UInt8))=>
 Let (IntKind.i64.wrap (s722.snd+(1:Int))) fun (x727:Int)=>rec721 (x726,x727)))
 else
 Let (↑w0.Contacts.length:Int) fun (x728:Int)=>
 LOOP
 (fun (rec729:List (List UInt8) × Int->Option (List UInt8 × Int)) (s730:List (List UInt8) × Int)=>
 Let (decide (s730.snd<x728)) fun (x731:Bool)=>
 if x731=true then
 Chk ((0:Int)<=s730.snd/\s730.snd<(↑w0.Contacts.length:Int))
 (Let (ix w0.Contacts s730.snd) fun (x732:Contact)=>
 Rx.Bind (scene_contactLines x732) fun (r733:List (List UInt8))=>
 Chk ((List.length s730.fst+r733.length)*(16:Nat)<=(140737488355328:Nat))
 (Let (s730.fst++r733) fun (x734:List (List UInt8))=>
 Let (IntKind.i64.wrap (s730.snd+(1:Int))) fun (x735:Int)=>rec729 (x734,x735)))
 else
 Let (↑w0.Overlaps.length:Int) fun (x736:Int)=>
 LOOP
 (fun (rec737:List (List UInt8) × Int->Option (List UInt8 × Int)) (s738:List (List UInt8) × Int)=>
 Let (decide (s738.snd<x736)) fun (x739:Bool)=>
 if x739=true then
 Chk ((0:Int)<=s738.snd/\s738.snd<(↑w0.Overlaps.length:Int))
 (Let (ix w0.Overlaps s738.snd) fun (x740:PairKey)=>
 Rx.Bind
 (scene_FormatLine
 #[(111:UInt8),(118:UInt8),(101:UInt8),(114:UInt8),(108:UInt8),(97:UInt8),(112:UInt8)].toList
 [x740.BodyA,x740.FixtureA,x740.BodyB,x740.FixtureB])
 fun (r741:List UInt8)=>
 Chk ((List.length s738.fst+[r741].length)*(16:Nat)<=(140737488355328:Nat))
 (Let (s738.fst++[r741]) fun (x742:List (List UInt8))=>
 Let (IntKind.i64.wrap (s738.snd+(1:Int))) fun (x743:Int)=>rec737 (x742,x743)))
 else
 Let (↑(List.length s738.fst):Int) fun (x744:Int)=>
 LOOP
 (fun (rec745:List UInt8 × Int->Option (List UInt8 × Int)) (s746:List UInt8 × Int)=>
 Let (decide (s746.snd<x744)) fun (x747:Bool)=>
 if x747=true then
 Chk ((0:Int)<=s746.snd/\s746.snd<(↑(List.length s738.fst):Int))
 (Chk ((0:Int)<=s746.snd/\s746.snd<(↑(List.length s738.fst):Int))
 (Let (ix s738.fst s746.snd) fun (x748:List UInt8)=>
 Chk (x748.length+(1:Nat)<=(9223372036854775807:Nat))
 (Let (x748++#[(10:UInt8)].toList) fun (x749:List UInt8)=>
 Chk (List.length s746.fst+x749.length<=(9223372036854775807:Nat))
 (Let (s746.fst++x749) fun (x750:List UInt8)=>
 Let (IntKind.i64.wrap (s746.snd+(1:Int))) fun (x751:Int)=>rec745 (x750,x751)))))
 else some (s746.fst,(0:Int)))
 fuel (#[].toList,(0:Int)))
 fuel (s730.fst,(0:Int)))
 fuel (s722.fst,(0:Int)))
 fuel (s714.fst,(0:Int)))
 fuel ([r711],(0:Int))
noncomputable def stringslite_HasSuffix (s0:(List UInt8)) (suffix1:(List UInt8)):Option Bool:=
 Let (↑s0.length:Int) fun (x752:Int)=>
 Let (↑suffix1.length:Int) fun (x753:Int)=>
 Let (decide (x752>=x753)) fun (x754:Bool)=>
 Let (↑s0.length:Int) fun (x755:Int)=>
 Let (↑suffix1.length:Int) fun (x756:Int)=>
 Let (IntKind.i64.wrap (x755 - x756)) fun (x757:Int)=>
 Chk ((x754==true)=true->(0:Int)<=x757/\x757<=(↑s0.length:Int))
 (Let (List.drop x757.toNat s0) fun (x758:List UInt8)=>
 Let (x758==suffix1) fun (x759:Bool)=>Let (bif x754 then x759 else false) fun (x760:Bool)=>some x760)
noncomputable def stringslite_CutSuffix (s0:(List UInt8)) (suffix1:(List UInt8)):Option ((List UInt8) × Bool):=
 Rx.Bind (stringslite_HasSuffix s0 suffix1) fun (r761:Bool)=>
 Let (!r761) fun (x762:Bool)=>
 if x762=true then some (s0,false)
 else
 Let (↑s0.length:Int) fun (x763:Int)=>
 Let (↑suffix1.length:Int) fun (x764:Int)=>
 Let (IntKind.i64.wrap (x763 - x764)) fun (x765:Int)=>
 Chk ((0:Int)<=x765/\x765<=(↑s0.length:Int))
 (Let (List.take x765.toNat s0) fun (x766:List UInt8)=>some (x766,true))
noncomputable def strings_CutSuffix (s0:(List UInt8)) (suffix1:(List UInt8)):Option ((List UInt8) × Bool):=
 Rx.Bind (stringslite_CutSuffix s0 suffix1) fun (r767:List UInt8 × Bool)=>some r767
noncomputable def strings_explode (s0:(List UInt8)) (n1:Int):Option (List (List UInt8)):=
 none
noncomputable def strings_Count (s0:(List UInt8)) (substr1:(List UInt8)):Option Int:=
 count1 s0 substr1
noncomputable def strings_Index (s0:(List UInt8)) (substr1:(List UInt8)):Option Int:=
 index1 s0 substr1
noncomputable def strings_genSplit (s0:(List UInt8)) (sep1:(List UInt8)) (sepSave2:Int) (n3:Int):Option (List (List UInt8)):=
 Let (n3==(0:Int)) fun (x768:Bool)=>
 if x768=true then some []
 else
 Let (sep1==#[].toList) fun (x769:Bool)=>
 if x769=true then Rx.Bind (strings_explode s0 n3) fun (r770:List (List UInt8))=>some r770
 else
 Join
 (fun (v771:Int)=>
 Let (↑s0.length:Int) fun (x772:Int)=>
 Let (IntKind.i64.wrap (x772+(1:Int))) fun (x773:Int)=>
 Let (min v771 x773) fun (x774:Int)=>
 Chk
 ((0:Int)<=x774/\
 x774<=x774/\(↑(16:Nat):Int)*x774<=(281474976710656:Int)/\x774<=(9223372036854775807:Int))
 (Let (List.replicate x774.toNat #[].toList) fun (x775:List (List UInt8))=>
 Let (IntKind.i64.wrap (x774 - (1:Int))) fun (x776:Int)=>
 Join
 (fun (v777:List UInt8 × Int × List (List UInt8))=>
 Chk ((0:Int)<=v777.snd.fst/\v777.snd.fst<(↑(List.length v777.snd.snd):Int))
 (Chk ((0:Int)<=v777.snd.fst/\v777.snd.fst<(↑(List.length v777.snd.snd):Int))
 (Let (List.set v777.snd.snd (Int.toNat v777.snd.fst) v777.fst) fun (x778:List (List UInt8))=>
 Let (IntKind.i64.wrap (v777.snd.fst+(1:Int))) fun (x779:Int)=>
 Chk
 ((0:Int)<=none.getD (0:Int)/\
 (0:Int)<=(some x779).getD (0:Int)/\(0:Nat)<=x779.toNat/\x779.toNat<=x778.length)
 (Chk (x779.toNat - (0:Nat)<=x778.length)
 (Let (List.take (x779.toNat - (0:Nat)) x778) fun (x780:List (List UInt8))=>some x780)))))
 fun (j781:List UInt8 × Int × List (List UInt8)->Option (List (List UInt8)))=>
 LOOP
 (fun (rec782:List UInt8 × Int × List (List UInt8)->Option (List (List UInt8)))
 (s783:List UInt8 × Int × List (List UInt8))=>
 Let (decide (s783.snd.fst<x776)) fun (x784:Bool)=>
 if x784=true then
 Rx.Bind (strings_Index s783.fst sep1) fun (r785:Int)=>
 Let (decide (r785<(0:Int))) fun (x786:Bool)=>
 if x786=true then j781 s783
 else
 Let (IntKind.i64.wrap (r785+sepSave2)) fun (x787:Int)=>
 Chk ((0:Int)<=x787/\x787<=(↑(List.length s783.fst):Int))
 (Let (List.take x787.toNat s783.fst) fun (x788:List UInt8)=>
 Chk ((0:Int)<=s783.snd.fst/\s783.snd.fst<(↑(List.length s783.snd.snd):Int))
 (Chk ((0:Int)<=s783.snd.fst/\s783.snd.fst<(↑(List.length s783.snd.snd):Int))
 (Let (List.set s783.snd.snd (Int.toNat s783.snd.fst) x788) fun (x789:List (List UInt8))=>
 Let (↑sep1.length:Int) fun (x790:Int)=>
 Let (IntKind.i64.wrap (r785+x790)) fun (x791:Int)=>
 Chk ((0:Int)<=x791/\x791<=(↑(List.length s783.fst):Int))
 (Let (List.drop x791.toNat s783.fst) fun (x792:List UInt8)=>
 Let (IntKind.i64.wrap (s783.snd.fst+(1:Int))) fun (x793:Int)=>rec782 (x792,x793,x789)))))
 else j781 s783)
 fuel (s0,(0:Int),x775)))
 fun (j794:Int->Option (List (List UInt8)))=>
 Let (decide (n3<(0:Int))) fun (x795:Bool)=>
 if x795=true then
 Rx.Bind (strings_Count s0 sep1) fun (r796:Int)=>
 Let (IntKind.i64.wrap (r796+(1:Int))) fun (x797:Int)=>j794 x797
 else j794 n3
noncomputable def strings_Split (s0:(List UInt8)) (sep1:(List UInt8)):Option (List (List UInt8)):=
 Rx.Bind (strings_genSplit s0 sep1 (0:Int) (-1:Int)) fun (r798:List (List UInt8))=>some r798
noncomputable def format_SplitLines (text0:(List UInt8)):Option ((List (List UInt8)) × Int):=
 Let (text0==#[].toList) fun (x799:Bool)=>
 if x799=true then some ([],(0:Int))
 else
 Rx.Bind (strings_CutSuffix text0 #[(10:UInt8)].toList) fun (r800:List UInt8 × Bool)=>
 Let (!r800.snd) fun (x801:Bool)=>
 if x801=true then some ([],(3:Int))
 else Rx.Bind (strings_Split r800.fst #[(10:UInt8)].toList) fun (r802:List (List UInt8))=>some (r802,(0:Int))
noncomputable def format_Fields (line0:(List UInt8)):Option ((List (List UInt8)) × Int):=
 Let (line0==#[].toList) fun (x803:Bool)=>
 if x803=true then some ([],(0:Int))
 else
 Let (↑line0.length:Int) fun (x804:Int)=>
 LOOP
 (fun (rec805:Int->Option (List (List UInt8) × Int)) (s806:Int)=>
 Let (decide (s806<x804)) fun (x807:Bool)=>
 if x807=true then
 Chk ((0:Int)<=s806/\s806<(↑line0.length:Int))
 (Let (ix line0 s806) fun (x808:UInt8)=>
 Let (decide (x808<toByte (32:Int))) fun (x809:Bool)=>
 Let (decide (toByte (126:Int)<x808)) fun (x810:Bool)=>
 Let (bif x809 then true else x810) fun (x811:Bool)=>
 if x811=true then some ([],(3:Int)) else Let (IntKind.i64.wrap (s806+(1:Int))) fun (x812:Int)=>rec805 x812)
 else
 Rx.Bind (strings_Split line0 #[(32:UInt8)].toList) fun (r813:List (List UInt8))=>
 Let (↑r813.length:Int) fun (x814:Int)=>
 LOOP
 (fun (rec815:Int->Option (List (List UInt8) × Int)) (s816:Int)=>
 Let (decide (s816<x814)) fun (x817:Bool)=>
 if x817=true then
 Chk ((0:Int)<=s816/\s816<(↑r813.length:Int))
 (Let (ix r813 s816) fun (x818:List UInt8)=>
 Let (x818==#[].toList) fun (x819:Bool)=>
 if x819=true then some ([],(3:Int)) else Let (IntKind.i64.wrap (s816+(1:Int))) fun (x820:Int)=>rec815 x820)
 else some (r813,(0:Int)))
 fuel (0:Int))
 fuel (0:Int)
noncomputable def scene_exactly_1 (k0:Int) (p1:Int):Option Bool:=
 Let (k0==p1) fun (x821:Bool)=>some x821
noncomputable def stringslite_HasPrefix (s0:(List UInt8)) (prefix1:(List UInt8)):Option Bool:=
 Let (↑s0.length:Int) fun (x822:Int)=>
 Let (↑prefix1.length:Int) fun (x823:Int)=>
 Let (decide (x822>=x823)) fun (x824:Bool)=>
 Let (↑prefix1.length:Int) fun (x825:Int)=>
 Chk ((x824==true)=true->(0:Int)<=x825/\x825<=(↑s0.length:Int))
 (Let (List.take x825.toNat s0) fun (x826:List UInt8)=>
 Let (x826==prefix1) fun (x827:Bool)=>Let (bif x824 then x827 else false) fun (x828:Bool)=>some x828)
noncomputable def stringslite_CutPrefix (s0:(List UInt8)) (prefix1:(List UInt8)):Option ((List UInt8) × Bool):=
 Rx.Bind (stringslite_HasPrefix s0 prefix1) fun (r829:Bool)=>
 Let (!r829) fun (x830:Bool)=>
 if x830=true then some (s0,false)
 else
 Let (↑prefix1.length:Int) fun (x831:Int)=>
 Chk ((0:Int)<=x831/\x831<=(↑s0.length:Int))
 (Let (List.drop x831.toNat s0) fun (x832:List UInt8)=>some (x832,true))
noncomputable def strings_CutPrefix (s0:(List UInt8)) (prefix1:(List UInt8)):Option ((List UInt8) × Bool):=
 Rx.Bind (stringslite_CutPrefix s0 prefix1) fun (r833:List UInt8 × Bool)=>some r833
noncomputable def format_parseDecimal (s0:(List UInt8)):Option (format_decimal × Bool):=
 Rx.Bind (strings_CutPrefix s0 #[(45:UInt8)].toList) fun (r834:List UInt8 × Bool)=>
 Let (r834.fst==#[].toList) fun (x835:Bool)=>
 Chk ((x835==false)=true->(0:Int)<=(0:Int)/\(0:Int)<(↑(List.length r834.fst):Int))
 (Let (ix r834.fst (0:Int)) fun (x836:UInt8)=>
 Let (x836==toByte (48:Int)) fun (x837:Bool)=>
 Let (s0 != #[(48:UInt8)].toList) fun (x838:Bool)=>
 Let (bif x837 then x838 else false) fun (x839:Bool)=>
 Let (bif x835 then true else x839) fun (x840:Bool)=>
 if x840=true then some ({ negative:=false,magnitude:=(0:Int),unit:=(0:Int):format_decimal },false)
 else
 LOOP
 (fun (rec841:format_decimal × format_decimal × List UInt8 × Nat->Option (format_decimal × Bool))
 (s842:format_decimal × format_decimal × List UInt8 × Nat)=>
 if decide (s842.snd.snd.snd<s842.snd.snd.fst.length)=true then
 Let (decide ((↑(Utf8.decode { data:=s842.snd.snd.fst.toArray:ByteArray } s842.snd.snd.snd).fst:Int)<(48:Int)))
 fun (x843:Bool)=>
 Let (decide ((↑(Utf8.decode { data:=s842.snd.snd.fst.toArray:ByteArray } s842.snd.snd.snd).fst:Int)>(57:Int)))
 fun (x844:Bool)=>
 Let (bif x843 then true else x844) fun (x845:Bool)=>
 if x845=true then some ({ negative:=false,magnitude:=(0:Int),unit:=(0:Int):format_decimal },false)
 else
 Let
 (IntKind.i32.wrap
 ((↑(Utf8.decode { data:=s842.snd.snd.fst.toArray:ByteArray } s842.snd.snd.snd).fst:Int) - (48:Int)))
 fun (x846:Int)=>
 Let (IntKind.u64.wrap x846) fun (x847:Int)=>
 Join
 (fun (v848:format_decimal)=>
 Let (IntKind.u64.wrap (v848.unit*(10:Int))) fun (x849:Int)=>
 Let (IntKind.u64.wrap (x849+x847)) fun (x850:Int)=>
 Let (x850.tmod (65536:Int)) fun (x851:Int)=>
 rec841
 (s842.fst,{ negative:=v848.negative,magnitude:=v848.magnitude,unit:=x851:format_decimal },s842.snd.snd.fst,
 s842.snd.snd.snd+(Utf8.decode { data:=s842.snd.snd.fst.toArray:ByteArray } s842.snd.snd.snd).snd))
 fun (j852:format_decimal->Option (format_decimal × Bool))=>
 Let (decide (s842.snd.fst.magnitude>(461168601842738790:Int))) fun (x853:Bool)=>
 if x853=true then
 j852
 { negative:=s842.snd.fst.negative,magnitude:=(4611686018427387905:Int),unit:=s842.snd.fst.unit:format_decimal }
 else
 Let (IntKind.u64.wrap (s842.snd.fst.magnitude*(10:Int))) fun (x854:Int)=>
 Let (IntKind.u64.wrap (x854+x847)) fun (x855:Int)=>
 Let (min x855 (4611686018427387905:Int)) fun (x856:Int)=>
 j852 { negative:=s842.snd.fst.negative,magnitude:=x856,unit:=s842.snd.fst.unit:format_decimal }
 else some (s842.snd.fst,true))
 fuel
 ({ negative:=false,magnitude:=(0:Int),unit:=(0:Int):format_decimal },
 { negative:=r834.snd,magnitude:=(0:Int),unit:=(0:Int):format_decimal },r834.fst,(0:Nat)))
noncomputable def format_decimal_value (d0:format_decimal):Option Int:=
 if d0.negative=true then
 Let (IntKind.i64.wrap d0.magnitude) fun (x857:Int)=>
 Let (IntKind.i64.wrap ((0:Int) - x857)) fun (x858:Int)=>some x858
 else Let (IntKind.i64.wrap d0.magnitude) fun (x859:Int)=>some x859
noncomputable def format_ParseInt (s0:(List UInt8)):Option (Int × Int):=
 Rx.Bind (format_parseDecimal s0) fun (r860:format_decimal × Bool)=>
 Let (!r860.snd) fun (x861:Bool)=>
 if x861=true then some ((0:Int),(3:Int))
 else
 Let (decide (r860.fst.magnitude>(4611686018427387904:Int))) fun (x862:Bool)=>
 if x862=true then some ((0:Int),(6:Int))
 else Rx.Bind (format_decimal_value r860.fst) fun (r863:Int)=>some (r863,(0:Int))
noncomputable def scene_parseValues (fields0:(List (List UInt8))) (keyword1:(List UInt8)) (valid2:(Int->Option Bool)) (bools3:(List Int)):Option ((List Int) × Int):=
 Let (↑fields0.length:Int) fun (x864:Int)=>
 Let (x864==(0:Int)) fun (x865:Bool)=>
 Chk ((x865==false)=true->(0:Int)<=(0:Int)/\(0:Int)<(↑fields0.length:Int))
 (Let (ix fields0 (0:Int)) fun (x866:List UInt8)=>
 Let (x866 != keyword1) fun (x867:Bool)=>
 Let (bif x865 then true else x867) fun (x868:Bool)=>
 Let (↑fields0.length:Int) fun (x869:Int)=>
 Let (IntKind.i64.wrap (x869 - (1:Int))) fun (x870:Int)=>
 Rx.Bind (if (x868==false)=true then valid2 x870 else some default) fun (r871:Bool)=>
 Let (!r871) fun (x872:Bool)=>
 Let (bif x868 then true else x872) fun (x873:Bool)=>
 if x873=true then some ([],(3:Int))
 else
 Let (↑fields0.length:Int) fun (x874:Int)=>
 Let (IntKind.i64.wrap (x874 - (1:Int))) fun (x875:Int)=>
 Chk
 ((0:Int)<=(0:Int)/\
 (0:Int)<=x875/\(↑(8:Nat):Int)*x875<=(281474976710656:Int)/\x875<=(9223372036854775807:Int))
 (Let (List.replicate (0:Nat) (0:Int)) fun (x876:List Int)=>
 Chk ((0:Int)<=(1:Int)/\(1:Int)<=(↑fields0.length:Int))
 (Let (List.drop (1:Nat) fields0) fun (x877:List (List UInt8))=>
 Let (↑x877.length:Int) fun (x878:Int)=>
 LOOP
 (fun (rec879:List Int × Bool × Int->Option (List Int × Int)) (s880:List Int × Bool × Int)=>
 Let (decide (s880.snd.snd<x878)) fun (x881:Bool)=>
 if x881=true then
 Chk ((0:Int)<=s880.snd.snd/\s880.snd.snd<(↑x877.length:Int))
 (Let (ix x877 s880.snd.snd) fun (x882:List UInt8)=>
 Rx.Bind (format_ParseInt x882) fun (r883:Int × Int)=>
 Let (r883.snd==(3:Int)) fun (x884:Bool)=>
 if x884=true then some ([],(3:Int))
 else
 Let (r883.snd != (0:Int)) fun (x885:Bool)=>
 Let (bif s880.snd.fst then true else x885) fun (x886:Bool)=>
 Chk ((List.length s880.fst+[r883.fst].length)*(8:Nat)<=(140737488355328:Nat))
 (Let (s880.fst++[r883.fst]) fun (x887:List Int)=>
 Let (IntKind.i64.wrap (s880.snd.snd+(1:Int))) fun (x888:Int)=>rec879 (x887,x886,x888)))
 else
 Let (↑bools3.length:Int) fun (x889:Int)=>
 LOOP
 (fun (rec890:Int->Option (List Int × Int)) (s891:Int)=>
 Let (decide (s891<x889)) fun (x892:Bool)=>
 if x892=true then
 Chk ((0:Int)<=s891/\s891<(↑bools3.length:Int))
 (Let (ix bools3 s891) fun (x893:Int)=>
 Let (IntKind.i64.wrap ((1:Int)+x893)) fun (x894:Int)=>
 Chk ((0:Int)<=x894/\x894<(↑fields0.length:Int))
 (Let (ix fields0 x894) fun (x895:List UInt8)=>
 Let (x895 != #[(48:UInt8)].toList) fun (x896:Bool)=>
 Let (IntKind.i64.wrap ((1:Int)+x893)) fun (x897:Int)=>
 Chk ((x896==true)=true->(0:Int)<=x897/\x897<(↑fields0.length:Int))
 (Let (ix fields0 x897) fun (x898:List UInt8)=>
 Let (x898 != #[(49:UInt8)].toList) fun (x899:Bool)=>
 Let (bif x896 then x899 else false) fun (x900:Bool)=>
 if x900=true then some ([],(3:Int))
 else Let (IntKind.i64.wrap (s891+(1:Int))) fun (x901:Int)=>rec890 x901)))
 else if s880.snd.fst=true then some ([],(6:Int)) else some (s880.fst,(0:Int)))
 fuel (0:Int))
 fuel (x876,false,(0:Int)))))
noncomputable def scene_integers (fields0:(List (List UInt8))) (n1:Int):Option ((List Int) × Bool):=
 Chk ((0:Int)<=(0:Int)/\(0:Int)<(↑fields0.length:Int))
 (Let (ix fields0 (0:Int)) fun (x902:List UInt8)=>
 Rx.Bind (scene_parseValues fields0 x902 (fun (a:Tup tb [Ix.tint])=>scene_exactly_1 a n1) [])
 fun (r903:List Int × Int)=>Let (r903.snd==(0:Int)) fun (x904:Bool)=>some (r903.fst,x904))
noncomputable def scene_ParseBody (fields0:(List (List UInt8))):Option (Body × Int):=
 Rx.Bind
 (scene_parseValues fields0 #[(98:UInt8),(111:UInt8),(100:UInt8),(121:UInt8)].toList
 (fun (a:Tup tb [Ix.tint])=>scene_exactly_1 a (19:Int)) [(14:Int),(15:Int),(16:Int),(17:Int)])
 fun (r905:List Int × Int)=>
 Let (r905.snd != (0:Int)) fun (x906:Bool)=>
 if x906=true then
 some
 ({ ID:=(0:Int),Kind:=(0:Int),Transform:={ Position:={ X:=(0:Int),Y:=(0:Int):Vec },Angle:=(0:Int):Transform },Velocity:={ X:=(0:Int),Y:=(0:Int):Vec },AngularVelocity:=(0:Int),Force:={ X:=(0:Int),Y:=(0:Int):Vec },Torque:=(0:Int),LinearDamping:=(0:Int),AngularDamping:=(0:Int),GravityScale:=(0:Int),Bullet:=false,FixedRotation:=false,NoSleep:=false,Asleep:=false,IdleSteps:=(0:Int),Fixtures:=[]:Body },
 r905.snd)
 else
 Chk ((0:Int)<=(0:Int)/\(0:Int)<(↑(List.length r905.fst):Int))
 (Let (ix r905.fst (0:Int)) fun (x907:Int)=>
 Chk ((0:Int)<=(1:Int)/\(1:Int)<(↑(List.length r905.fst):Int))
 (Let (ix r905.fst (1:Int)) fun (x908:Int)=>
 Chk ((0:Int)<=(2:Int)/\(2:Int)<(↑(List.length r905.fst):Int))
 (Let (ix r905.fst (2:Int)) fun (x909:Int)=>
 Chk ((0:Int)<=(3:Int)/\(3:Int)<(↑(List.length r905.fst):Int))
 (Let (ix r905.fst (3:Int)) fun (x910:Int)=>
 Chk ((0:Int)<=(4:Int)/\(4:Int)<(↑(List.length r905.fst):Int))
 (Let (ix r905.fst (4:Int)) fun (x911:Int)=>
 Chk ((0:Int)<=(5:Int)/\(5:Int)<(↑(List.length r905.fst):Int))
 (Let (ix r905.fst (5:Int)) fun (x912:Int)=>
 Chk ((0:Int)<=(6:Int)/\(6:Int)<(↑(List.length r905.fst):Int))
 (Let (ix r905.fst (6:Int)) fun (x913:Int)=>
 Chk ((0:Int)<=(7:Int)/\(7:Int)<(↑(List.length r905.fst):Int))
 (Let (ix r905.fst (7:Int)) fun (x914:Int)=>
 Chk ((0:Int)<=(8:Int)/\(8:Int)<(↑(List.length r905.fst):Int))
 (Let (ix r905.fst (8:Int)) fun (x915:Int)=>
 Chk ((0:Int)<=(9:Int)/\(9:Int)<(↑(List.length r905.fst):Int))
 (Let (ix r905.fst (9:Int)) fun (x916:Int)=>
 Chk ((0:Int)<=(10:Int)/\(10:Int)<(↑(List.length r905.fst):Int))
 (Let (ix r905.fst (10:Int)) fun (x917:Int)=>
 Chk ((0:Int)<=(11:Int)/\(11:Int)<(↑(List.length r905.fst):Int))
 (Let (ix r905.fst (11:Int)) fun (x918:Int)=>
 Chk ((0:Int)<=(12:Int)/\(12:Int)<(↑(List.length r905.fst):Int))
 (Let (ix r905.fst (12:Int)) fun (x919:Int)=>
 Chk ((0:Int)<=(13:Int)/\(13:Int)<(↑(List.length r905.fst):Int))
 (Let (ix r905.fst (13:Int)) fun (x920:Int)=>
 Chk ((0:Int)<=(14:Int)/\(14:Int)<(↑(List.length r905.fst):Int))
 (Let (ix r905.fst (14:Int)) fun (x921:Int)=>
 Let (x921==(1:Int)) fun (x922:Bool)=>
 Chk ((0:Int)<=(15:Int)/\(15:Int)<(↑(List.length r905.fst):Int))
 (Let (ix r905.fst (15:Int)) fun (x923:Int)=>
 Let (x923==(1:Int)) fun (x924:Bool)=>
 Chk ((0:Int)<=(16:Int)/\(16:Int)<(↑(List.length r905.fst):Int))
 (Let (ix r905.fst (16:Int)) fun (x925:Int)=>
 Let (x925==(1:Int)) fun (x926:Bool)=>
 Chk ((0:Int)<=(17:Int)/\(17:Int)<(↑(List.length r905.fst):Int))
 (Let (ix r905.fst (17:Int)) fun (x927:Int)=>
 Let (x927==(1:Int)) fun (x928:Bool)=>
 Chk ((0:Int)<=(18:Int)/\(18:Int)<(↑(List.length r905.fst):Int))
 (Let (ix r905.fst (18:Int)) fun (x929:Int)=>
 some
 ({ ID:=x907,Kind:=x908,Transform:={ Position:={ X:=x909,Y:=x910:Vec },Angle:=x911:Transform },Velocity:={ X:=x912,Y:=x913:Vec },AngularVelocity:=x914,Force:={ X:=x915,Y:=x916:Vec },Torque:=x917,LinearDamping:=x918,AngularDamping:=x919,GravityScale:=x920,Bullet:=x922,FixedRotation:=x924,NoSleep:=x926,Asleep:=x928,IdleSteps:=x929,Fixtures:=[]:Body },
 (0:Int)))))))))))))))))))))
noncomputable def scene_ParseFixture_1 (k0:Int):Option Bool:=
 Let (decide (k0>=(9:Int))) fun (x930:Bool)=>
 Let (k0.tmod (2:Int)) fun (x931:Int)=>
 Let (x931==(1:Int)) fun (x932:Bool)=>Let (bif x930 then x932 else false) fun (x933:Bool)=>some x933
noncomputable def scene_ParseFixture (fields0:(List (List UInt8))):Option (Fixture × Int):=
 Rx.Bind
 (scene_parseValues fields0
 #[(102:UInt8),(105:UInt8),(120:UInt8),(116:UInt8),(117:UInt8),(114:UInt8),(101:UInt8)].toList
 (fun (a:Tup tb [Ix.tint])=>scene_ParseFixture_1 a) [(3:Int)])
 fun (r934:List Int × Int)=>
 Let (r934.snd != (0:Int)) fun (x935:Bool)=>
 if x935=true then
 some
 ({ Shape:={ Kind:=(0:Int),Radius:=(0:Int),Vertices:=[]:Shape },Density:=(0:Int),Friction:=(0:Int),Restitution:=(0:Int),Sensor:=false,Category:=(0:Int),Mask:=(0:Int),Group:=(0:Int):Fixture },
 r934.snd)
 else
 Chk ((0:Int)<=(0:Int)/\(0:Int)<(↑(List.length r934.fst):Int))
 (Let (ix r934.fst (0:Int)) fun (x936:Int)=>
 Chk ((0:Int)<=(1:Int)/\(1:Int)<(↑(List.length r934.fst):Int))
 (Let (ix r934.fst (1:Int)) fun (x937:Int)=>
 Chk ((0:Int)<=(2:Int)/\(2:Int)<(↑(List.length r934.fst):Int))
 (Let (ix r934.fst (2:Int)) fun (x938:Int)=>
 Chk ((0:Int)<=(3:Int)/\(3:Int)<(↑(List.length r934.fst):Int))
 (Let (ix r934.fst (3:Int)) fun (x939:Int)=>
 Let (x939==(1:Int)) fun (x940:Bool)=>
 Chk ((0:Int)<=(4:Int)/\(4:Int)<(↑(List.length r934.fst):Int))
 (Let (ix r934.fst (4:Int)) fun (x941:Int)=>
 Chk ((0:Int)<=(5:Int)/\(5:Int)<(↑(List.length r934.fst):Int))
 (Let (ix r934.fst (5:Int)) fun (x942:Int)=>
 Chk ((0:Int)<=(6:Int)/\(6:Int)<(↑(List.length r934.fst):Int))
 (Let (ix r934.fst (6:Int)) fun (x943:Int)=>
 Chk ((0:Int)<=(7:Int)/\(7:Int)<(↑(List.length r934.fst):Int))
 (Let (ix r934.fst (7:Int)) fun (x944:Int)=>
 Chk ((0:Int)<=(8:Int)/\(8:Int)<(↑(List.length r934.fst):Int))
 (Let (ix r934.fst (8:Int)) fun (x945:Int)=>
 LOOP
 (fun (rec946:Int × Fixture->Option (Fixture × Int)) (s947:Int × Fixture)=>
 Let (↑(List.length r934.fst):Int) fun (x948:Int)=>
 Let (decide (s947.fst<x948)) fun (x949:Bool)=>
 if x949=true then
 Chk ((0:Int)<=s947.fst/\s947.fst<(↑(List.length r934.fst):Int))
 (Let (ix r934.fst s947.fst) fun (x950:Int)=>
 Let (IntKind.i64.wrap (s947.fst+(1:Int))) fun (x951:Int)=>
 Chk ((0:Int)<=x951/\x951<(↑(List.length r934.fst):Int))
 (Let (ix r934.fst x951) fun (x952:Int)=>
 Chk ((s947.snd.Shape.Vertices.length+[{ X:=x950,Y:=x952:Vec }].length)*(16:Nat)<=(140737488355328:Nat))
 (Let (s947.snd.Shape.Vertices++[{ X:=x950,Y:=x952:Vec }]) fun (x953:List Vec)=>
 Let (IntKind.i64.wrap (s947.fst+(2:Int))) fun (x954:Int)=>
 rec946
 (x954,
 { Shape:={ Kind:=s947.snd.Shape.Kind,Radius:=s947.snd.Shape.Radius,Vertices:=x953:Shape },Density:=s947.snd.Density,Friction:=s947.snd.Friction,Restitution:=s947.snd.Restitution,Sensor:=s947.snd.Sensor,Category:=s947.snd.Category,Mask:=s947.snd.Mask,Group:=s947.snd.Group:Fixture }))))
 else some (s947.snd,(0:Int)))
 fuel
 ((9:Int),
 { Shape:={ Kind:=x944,Radius:=x945,Vertices:=[]:Shape },Density:=x936,Friction:=x937,Restitution:=x938,Sensor:=x940,Category:=x941,Mask:=x942,Group:=x943:Fixture }))))))))))
noncomputable def scene_ParseJoint (fields0:(List (List UInt8))):Option (Joint × Int):=
 Rx.Bind
 (scene_parseValues fields0 #[(106:UInt8),(111:UInt8),(105:UInt8),(110:UInt8),(116:UInt8)].toList
 (fun (a:Tup tb [Ix.tint])=>scene_exactly_1 a (24:Int)) [(11:Int),(14:Int),(19:Int)])
 fun (r955:List Int × Int)=>
 Let (r955.snd != (0:Int)) fun (x956:Bool)=>
 if x956=true then
 some
 ({ ID:=(0:Int),Kind:=(0:Int),BodyA:=(0:Int),BodyB:=(0:Int),AnchorA:={ X:=(0:Int),Y:=(0:Int):Vec },AnchorB:={ X:=(0:Int),Y:=(0:Int):Vec },Axis:={ X:=(0:Int),Y:=(0:Int):Vec },ReferenceAngle:=(0:Int),EnableLimit:=false,Lower:=(0:Int),Upper:=(0:Int),EnableMotor:=false,MotorSpeed:=(0:Int),MaxForce:=(0:Int),Softness:=(0:Int),BreakForce:=(0:Int),CollideConnected:=false,Impulses:=((0:Int),(0:Int),(0:Int),(0:Int)):Joint },
 r955.snd)
 else
 Chk ((0:Int)<=(0:Int)/\(0:Int)<(↑(List.length r955.fst):Int))
 (Let (ix r955.fst (0:Int)) fun (x957:Int)=>
 Chk ((0:Int)<=(1:Int)/\(1:Int)<(↑(List.length r955.fst):Int))
 (Let (ix r955.fst (1:Int)) fun (x958:Int)=>
 Chk ((0:Int)<=(2:Int)/\(2:Int)<(↑(List.length r955.fst):Int))
 (Let (ix r955.fst (2:Int)) fun (x959:Int)=>
 Chk ((0:Int)<=(3:Int)/\(3:Int)<(↑(List.length r955.fst):Int))
 (Let (ix r955.fst (3:Int)) fun (x960:Int)=>
 Chk ((0:Int)<=(4:Int)/\(4:Int)<(↑(List.length r955.fst):Int))
 (Let (ix r955.fst (4:Int)) fun (x961:Int)=>
 Chk ((0:Int)<=(5:Int)/\(5:Int)<(↑(List.length r955.fst):Int))
 (Let (ix r955.fst (5:Int)) fun (x962:Int)=>
 Chk ((0:Int)<=(6:Int)/\(6:Int)<(↑(List.length r955.fst):Int))
 (Let (ix r955.fst (6:Int)) fun (x963:Int)=>
 Chk ((0:Int)<=(7:Int)/\(7:Int)<(↑(List.length r955.fst):Int))
 (Let (ix r955.fst (7:Int)) fun (x964:Int)=>
 Chk ((0:Int)<=(8:Int)/\(8:Int)<(↑(List.length r955.fst):Int))
 (Let (ix r955.fst (8:Int)) fun (x965:Int)=>
 Chk ((0:Int)<=(9:Int)/\(9:Int)<(↑(List.length r955.fst):Int))
 (Let (ix r955.fst (9:Int)) fun (x966:Int)=>
 Chk ((0:Int)<=(10:Int)/\(10:Int)<(↑(List.length r955.fst):Int))
 (Let (ix r955.fst (10:Int)) fun (x967:Int)=>
 Chk ((0:Int)<=(11:Int)/\(11:Int)<(↑(List.length r955.fst):Int))
 (Let (ix r955.fst (11:Int)) fun (x968:Int)=>
 Let (x968==(1:Int)) fun (x969:Bool)=>
 Chk ((0:Int)<=(12:Int)/\(12:Int)<(↑(List.length r955.fst):Int))
 (Let (ix r955.fst (12:Int)) fun (x970:Int)=>
 Chk ((0:Int)<=(13:Int)/\(13:Int)<(↑(List.length r955.fst):Int))
 (Let (ix r955.fst (13:Int)) fun (x971:Int)=>
 Chk ((0:Int)<=(14:Int)/\(14:Int)<(↑(List.length r955.fst):Int))
 (Let (ix r955.fst (14:Int)) fun (x972:Int)=>
 Let (x972==(1:Int)) fun (x973:Bool)=>
 Chk ((0:Int)<=(15:Int)/\(15:Int)<(↑(List.length r955.fst):Int))
 (Let (ix r955.fst (15:Int)) fun (x974:Int)=>
 Chk ((0:Int)<=(16:Int)/\(16:Int)<(↑(List.length r955.fst):Int))
 (Let (ix r955.fst (16:Int)) fun (x975:Int)=>
 Chk ((0:Int)<=(17:Int)/\(17:Int)<(↑(List.length r955.fst):Int))
 (Let (ix r955.fst (17:Int)) fun (x976:Int)=>
 Chk ((0:Int)<=(18:Int)/\(18:Int)<(↑(List.length r955.fst):Int))
 (Let (ix r955.fst (18:Int)) fun (x977:Int)=>
 Chk ((0:Int)<=(19:Int)/\(19:Int)<(↑(List.length r955.fst):Int))
 (Let (ix r955.fst (19:Int)) fun (x978:Int)=>
 Let (x978==(1:Int)) fun (x979:Bool)=>
 Chk ((0:Int)<=(20:Int)/\(20:Int)<=(24:Int)/\(24:Int)<=(↑(List.length r955.fst):Int))
 (Let (sub r955.fst (20:Int) (24:Int)) fun (x980:List Int)=>
 Chk ((4:Nat)<=x980.length)
 (Let (ix x980 (↑(0:Nat):Int)) fun (x981:Int)=>
 Let (ix x980 (↑(1:Nat):Int)) fun (x982:Int)=>
 Let (ix x980 (↑(2:Nat):Int)) fun (x983:Int)=>
 Let (ix x980 (↑(3:Nat):Int)) fun (x984:Int)=>
 some
 ({ ID:=x957,Kind:=x958,BodyA:=x959,BodyB:=x960,AnchorA:={ X:=x961,Y:=x962:Vec },AnchorB:={ X:=x963,Y:=x964:Vec },Axis:={ X:=x965,Y:=x966:Vec },ReferenceAngle:=x967,EnableLimit:=x969,Lower:=x970,Upper:=x971,EnableMotor:=x973,MotorSpeed:=x974,MaxForce:=x975,Softness:=x976,BreakForce:=x977,CollideConnected:=x979,Impulses:=(x981,x982,x983,x984):Joint },
 (0:Int))))))))))))))))))))))))
def enterT (sec s:Int):Bool := !((sec==0&&s != 1)||(s==1&&sec != 0)||decide (s<sec))
def worldOf (l:List Int):World_:={ Settings:={ TimeStep:=ix l 0,Gravity:=⟨ix l 1,ix l 2⟩,Iterations:=ix l 3,SleepSteps:=ix l 4 },Bodies:=[],Joints:=[],Contacts:=[],Overlaps:=[],NextID:=ix l 5,Frame:=ix l 6 }
def contactOf (l:List Int):Contact:={ Key:=⟨ix l 0,ix l 1,ix l 2,ix l 3⟩,Manifold:={ Normal:=⟨ix l 4,ix l 5⟩,Points:=[] } }
def pointOf (l:List Int):ContactPoint:={ Point:=⟨ix l 0,ix l 1⟩,Separation:=ix l 2,ID:=ix l 3,NormalImpulse:=ix l 4,TangentImpulse:=ix l 5 }
def keyOf (l:List Int):PairKey:=⟨ix l 0,ix l 1,ix l 2,ix l 3⟩
def noW:World_:={ Settings:={ TimeStep:=0,Gravity:={ X:=0,Y:=0 },Iterations:=0,SleepSteps:=0 },Bodies:=[],Joints:=[],Contacts:=[],Overlaps:=[],NextID:=0,Frame:=0 }
def lastF (l:List Body) (f:Fixture):Option (List Body):=
 match l.getLast? with
 | some b=>if l.length<1048576/\b.Fixtures.length<1048576 then some (l.dropLast++[{ b with Fixtures:=b.Fixtures++[f] }]) else none
 | none=>none
def lastP (l:List Contact) (p:ContactPoint):Option (List Contact):=
 match l.getLast? with
 | some c=>if l.length<1048576/\c.Manifold.Points.length<1048576 then some (l.dropLast++[{ c with Manifold:={ c.Manifold with Points:=c.Manifold.Points++[p] } }]) else none
 | none=>none
noncomputable def stepP (x:World_) (sec:Int):List (List UInt8)->Option (World_ × Int × Bool)
 | []=>some (x,sec,false)
 | k :: rest=>
   if k=[119,111,114,108,100] then
    Rx.Bind (scene_integers (k::rest) 7) fun (r:List Int × Bool)=>if r.2=true->r.1.length=7 then some (if (r.2&&enterT sec 1)=true then (worldOf r.1,1,true) else (x,sec,false)) else none
   else if k=[98,111,100,121] then
    Rx.Bind (scene_ParseBody (k::rest)) fun (r:Body × Int)=>if r.1.Fixtures=[]/\x.Bodies.length<1048576 then some (if (r.2==0&&enterT sec 2)=true then ({ x with Bodies:=x.Bodies++[r.1] },2,true) else (x,sec,false)) else none
   else if k=[102,105,120,116,117,114,101] then
    Rx.Bind (scene_ParseFixture (k::rest)) fun (r:Fixture × Int)=>if sec=2 then Rx.Bind (lastF x.Bodies r.1) fun (l:List Body)=>some (if (r.2==0)=true then ({ x with Bodies:=l },2,true) else (x,sec,false)) else some (x,sec,false)
   else if k=[106,111,105,110,116] then
    Rx.Bind (scene_ParseJoint (k::rest)) fun (r:Joint × Int)=>if x.Joints.length<1048576 then some (if (r.2==0&&enterT sec 3)=true then ({ x with Joints:=x.Joints++[r.1] },3,true) else (x,sec,false)) else none
   else if k=[99,111,110,116,97,99,116] then
    Rx.Bind (scene_integers (k::rest) 6) fun (r:List Int × Bool)=>if (r.2=true->r.1.length=6)/\x.Contacts.length<1048576 then some (if (r.2&&enterT sec 4)=true then ({ x with Contacts:=x.Contacts++[contactOf r.1] },4,true) else (x,sec,false)) else none
   else if k=[112,111,105,110,116] then
    Rx.Bind (scene_integers (k::rest) 6) fun (r:List Int × Bool)=>if r.2=true->r.1.length=6 then (if sec=4 then Rx.Bind (lastP x.Contacts (pointOf r.1)) fun (l:List Contact)=>some (if r.2=true then ({ x with Contacts:=l },4,true) else (x,sec,false)) else some (x,sec,false)) else none
   else if k=[111,118,101,114,108,97,112] then
    Rx.Bind (scene_integers (k::rest) 4) fun (r:List Int × Bool)=>if (r.2=true->r.1.length=4)/\x.Overlaps.length<1048576 then some (if (r.2&&enterT sec 5)=true then ({ x with Overlaps:=x.Overlaps++[keyOf r.1] },5,true) else (x,sec,false)) else none
   else some (x,sec,false)
noncomputable def linesP:List (List UInt8)->Nat->World_->Int->Option (World_ × Int)
 | [],i,x,sec=>some (if sec=0 then (noW,(i:Int)+1) else (x,0))
 | l::ls,i,x,sec=>Rx.Bind (format_Fields l) fun (r:List (List UInt8) × Int)=>Rx.Bind (stepP x sec (if r.2=0 then r.1 else [])) fun (s:World_ × Int × Bool)=>if s.2.2=true then linesP ls (i+1) s.1 s.2.1 else some (noW,(i:Int)+1)
noncomputable def scene_Parse (text0:List UInt8):Option (World_ × Int × Int):=
 Rx.Bind (format_SplitLines text0) fun (r:List (List UInt8) × Int)=>if r.2≠0 then some (noW,0,r.2) else if r.1.length<1048576 then Rx.Bind (linesP r.1 0 noW 0) fun (t:World_ × Int)=>if t.2≠0 then some (noW,t.2,27) else Rx.Bind (world_Validate t.1) fun (v:Int)=>if v≠0 then some (noW,0,18) else some (t.1,0,0) else none
noncomputable def caromref22_Keys (a0:(List PairKey)) (b1:(List PairKey)):Option Bool:=
 Let (↑a0.length:Int) fun (x1182:Int)=>
 Let (↑b1.length:Int) fun (x1183:Int)=>
 Let (x1182 != x1183) fun (x1184:Bool)=>
 if x1184=true then some false
 else
 LOOP
 (fun (rec1185:Int->Option Bool) (s1186:Int)=>
 Let (↑a0.length:Int) fun (x1187:Int)=>
 Let (decide (s1186<x1187)) fun (x1188:Bool)=>
 if x1188=true then
 Chk ((0:Int)<=s1186/\s1186<(↑a0.length:Int))
 (Let (ix a0 s1186) fun (x1189:PairKey)=>
 Chk ((0:Int)<=s1186/\s1186<(↑b1.length:Int))
 (Let (ix b1 s1186) fun (x1190:PairKey)=>
 Let
 (!(decide (x1189.BodyA=x1190.BodyA)&&
 (decide (x1189.FixtureA=x1190.FixtureA)&&
 (decide (x1189.BodyB=x1190.BodyB)&&decide (x1189.FixtureB=x1190.FixtureB)))))
 fun (x1191:Bool)=>
 if x1191=true then some false else Let (IntKind.i64.wrap (s1186+(1:Int))) fun (x1192:Int)=>rec1185 x1192))
 else some true)
 fuel (0:Int)
noncomputable def caromref12_EqualVecs (a0:(List Vec)) (b1:(List Vec)):Option Bool:=
 Let (↑a0.length:Int) fun (x1193:Int)=>
 Let (↑b1.length:Int) fun (x1194:Int)=>
 Let (x1193 != x1194) fun (x1195:Bool)=>
 if x1195=true then some false
 else
 LOOP
 (fun (rec1196:Int->Option Bool) (s1197:Int)=>
 Let (↑a0.length:Int) fun (x1198:Int)=>
 Let (decide (s1197<x1198)) fun (x1199:Bool)=>
 if x1199=true then
 Chk ((0:Int)<=s1197/\s1197<(↑a0.length:Int))
 (Let (ix a0 s1197) fun (x1200:Vec)=>
 Chk ((0:Int)<=s1197/\s1197<(↑b1.length:Int))
 (Let (ix b1 s1197) fun (x1201:Vec)=>
 Let (!(decide (x1200.X=x1201.X)&&decide (x1200.Y=x1201.Y))) fun (x1202:Bool)=>
 if x1202=true then some false else Let (IntKind.i64.wrap (s1197+(1:Int))) fun (x1203:Int)=>rec1196 x1203))
 else some true)
 fuel (0:Int)
noncomputable def caromref12_Equal (a0:Shape) (b1:Shape):Option Bool:=
 Let (a0.Kind==b1.Kind) fun (x1204:Bool)=>
 Let (a0.Radius==b1.Radius) fun (x1205:Bool)=>
 Let (bif x1204 then x1205 else false) fun (x1206:Bool)=>
 Rx.Bind (if (x1206==true)=true then caromref12_EqualVecs a0.Vertices b1.Vertices else some default)
 fun (r1207:Bool)=>Let (bif x1206 then r1207 else false) fun (x1208:Bool)=>some x1208
noncomputable def caromref23_EqualFixture (a0:Fixture) (b1:Fixture):Option Bool:=
 Rx.Bind (caromref12_Equal a0.Shape b1.Shape) fun (r1209:Bool)=>
 Let (a0.Density==b1.Density) fun (x1210:Bool)=>
 Let (bif r1209 then x1210 else false) fun (x1211:Bool)=>
 Let (a0.Friction==b1.Friction) fun (x1212:Bool)=>
 Let (bif x1211 then x1212 else false) fun (x1213:Bool)=>
 Let (a0.Restitution==b1.Restitution) fun (x1214:Bool)=>
 Let (bif x1213 then x1214 else false) fun (x1215:Bool)=>
 Let (a0.Sensor==b1.Sensor) fun (x1216:Bool)=>
 Let (bif x1215 then x1216 else false) fun (x1217:Bool)=>
 Let (a0.Category==b1.Category) fun (x1218:Bool)=>
 Let (bif x1217 then x1218 else false) fun (x1219:Bool)=>
 Let (a0.Mask==b1.Mask) fun (x1220:Bool)=>
 Let (bif x1219 then x1220 else false) fun (x1221:Bool)=>
 Let (a0.Group==b1.Group) fun (x1222:Bool)=>Let (bif x1221 then x1222 else false) fun (x1223:Bool)=>some x1223
noncomputable def caromref23_Equal (a0:Body) (b1:Body):Option Bool:=
 Let (↑a0.Fixtures.length:Int) fun (x1224:Int)=>
 Let (↑b1.Fixtures.length:Int) fun (x1225:Int)=>
 Let (x1224 != x1225) fun (x1226:Bool)=>
 if x1226=true then some false
 else
 LOOP
 (fun (rec1227:Int->Option Bool) (s1228:Int)=>
 Let (↑a0.Fixtures.length:Int) fun (x1229:Int)=>
 Let (decide (s1228<x1229)) fun (x1230:Bool)=>
 Let (↑b1.Fixtures.length:Int) fun (x1231:Int)=>
 Let (decide (s1228<x1231)) fun (x1232:Bool)=>
 Let (bif x1230 then x1232 else false) fun (x1233:Bool)=>
 if x1233=true then
 Chk ((0:Int)<=s1228/\s1228<(↑a0.Fixtures.length:Int))
 (Let (ix a0.Fixtures s1228) fun (x1234:Fixture)=>
 Chk ((0:Int)<=s1228/\s1228<(↑b1.Fixtures.length:Int))
 (Let (ix b1.Fixtures s1228) fun (x1235:Fixture)=>
 Rx.Bind (caromref23_EqualFixture x1234 x1235) fun (r1236:Bool)=>
 Let (!r1236) fun (x1237:Bool)=>
 if x1237=true then some false else Let (IntKind.i64.wrap (s1228+(1:Int))) fun (x1238:Int)=>rec1227 x1238))
 else
 Let (a0.ID != b1.ID) fun (x1239:Bool)=>
 Let (a0.Kind != b1.Kind) fun (x1240:Bool)=>
 Let (bif x1239 then true else x1240) fun (x1241:Bool)=>
 Let
 (!(decide (a0.Transform.Position.X=b1.Transform.Position.X)&&
 decide (a0.Transform.Position.Y=b1.Transform.Position.Y)&&
 decide (a0.Transform.Angle=b1.Transform.Angle)))
 fun (x1242:Bool)=>
 Let (bif x1241 then true else x1242) fun (x1243:Bool)=>
 Let (!(decide (a0.Velocity.X=b1.Velocity.X)&&decide (a0.Velocity.Y=b1.Velocity.Y))) fun (x1244:Bool)=>
 Let (bif x1243 then true else x1244) fun (x1245:Bool)=>
 Let (a0.AngularVelocity != b1.AngularVelocity) fun (x1246:Bool)=>
 Let (bif x1245 then true else x1246) fun (x1247:Bool)=>
 Let (!(decide (a0.Force.X=b1.Force.X)&&decide (a0.Force.Y=b1.Force.Y))) fun (x1248:Bool)=>
 Let (bif x1247 then true else x1248) fun (x1249:Bool)=>
 Let (a0.Torque != b1.Torque) fun (x1250:Bool)=>
 Let (bif x1249 then true else x1250) fun (x1251:Bool)=>
 if x1251=true then some false
 else
 Let (a0.LinearDamping==b1.LinearDamping) fun (x1252:Bool)=>
 Let (a0.AngularDamping==b1.AngularDamping) fun (x1253:Bool)=>
 Let (bif x1252 then x1253 else false) fun (x1254:Bool)=>
 Let (a0.GravityScale==b1.GravityScale) fun (x1255:Bool)=>
 Let (bif x1254 then x1255 else false) fun (x1256:Bool)=>
 Let (a0.Bullet==b1.Bullet) fun (x1257:Bool)=>
 Let (bif x1256 then x1257 else false) fun (x1258:Bool)=>
 Let (a0.FixedRotation==b1.FixedRotation) fun (x1259:Bool)=>
 Let (bif x1258 then x1259 else false) fun (x1260:Bool)=>
 Let (a0.NoSleep==b1.NoSleep) fun (x1261:Bool)=>
 Let (bif x1260 then x1261 else false) fun (x1262:Bool)=>
 Let (a0.Asleep==b1.Asleep) fun (x1263:Bool)=>
 Let (bif x1262 then x1263 else false) fun (x1264:Bool)=>
 Let (a0.IdleSteps==b1.IdleSteps) fun (x1265:Bool)=>
 Let (bif x1264 then x1265 else false) fun (x1266:Bool)=>some x1266)
 fuel (0:Int)
noncomputable def caromref16_Equal (a0:Manifold) (b1:Manifold):Option Bool:=
 Let (!(decide (a0.Normal.X=b1.Normal.X)&&decide (a0.Normal.Y=b1.Normal.Y))) fun (x1267:Bool)=>
 Let (↑a0.Points.length:Int) fun (x1268:Int)=>
 Let (↑b1.Points.length:Int) fun (x1269:Int)=>
 Let (x1268 != x1269) fun (x1270:Bool)=>
 Let (bif x1267 then true else x1270) fun (x1271:Bool)=>
 if x1271=true then some false
 else
 LOOP
 (fun (rec1272:Int->Option Bool) (s1273:Int)=>
 Let (↑a0.Points.length:Int) fun (x1274:Int)=>
 Let (decide (s1273<x1274)) fun (x1275:Bool)=>
 if x1275=true then
 Chk ((0:Int)<=s1273/\s1273<(↑a0.Points.length:Int))
 (Let (ix a0.Points s1273) fun (x1276:ContactPoint)=>
 Chk ((0:Int)<=s1273/\s1273<(↑b1.Points.length:Int))
 (Let (ix b1.Points s1273) fun (x1277:ContactPoint)=>
 Let
 (!(decide (x1276.Point.X=x1277.Point.X)&&decide (x1276.Point.Y=x1277.Point.Y)&&
 (decide (x1276.Separation=x1277.Separation)&&
 (decide (x1276.ID=x1277.ID)&&
 (decide (x1276.NormalImpulse=x1277.NormalImpulse)&&decide (x1276.TangentImpulse=x1277.TangentImpulse))))))
 fun (x1278:Bool)=>
 if x1278=true then some false else Let (IntKind.i64.wrap (s1273+(1:Int))) fun (x1279:Int)=>rec1272 x1279))
 else some true)
 fuel (0:Int)
noncomputable def caromref25_Equal (a0:World_) (b1:World_):Option Bool:=
 Let
 (!(decide (a0.Settings.TimeStep=b1.Settings.TimeStep)&&
 (decide (a0.Settings.Gravity.X=b1.Settings.Gravity.X)&&decide (a0.Settings.Gravity.Y=b1.Settings.Gravity.Y)&&
 (decide (a0.Settings.Iterations=b1.Settings.Iterations)&&
 decide (a0.Settings.SleepSteps=b1.Settings.SleepSteps)))))
 fun (x1280:Bool)=>
 Let (a0.NextID != b1.NextID) fun (x1281:Bool)=>
 Let (bif x1280 then true else x1281) fun (x1282:Bool)=>
 Let (a0.Frame != b1.Frame) fun (x1283:Bool)=>
 Let (bif x1282 then true else x1283) fun (x1284:Bool)=>
 Let (↑a0.Bodies.length:Int) fun (x1285:Int)=>
 Let (↑b1.Bodies.length:Int) fun (x1286:Int)=>
 Let (x1285 != x1286) fun (x1287:Bool)=>
 Let (bif x1284 then true else x1287) fun (x1288:Bool)=>
 Let (↑a0.Joints.length:Int) fun (x1289:Int)=>
 Let (↑b1.Joints.length:Int) fun (x1290:Int)=>
 Let (x1289 != x1290) fun (x1291:Bool)=>
 Let (bif x1288 then true else x1291) fun (x1292:Bool)=>
 Let (↑a0.Contacts.length:Int) fun (x1293:Int)=>
 Let (↑b1.Contacts.length:Int) fun (x1294:Int)=>
 Let (x1293 != x1294) fun (x1295:Bool)=>
 Let (bif x1292 then true else x1295) fun (x1296:Bool)=>
 Rx.Bind (if (x1296==false)=true then caromref22_Keys a0.Overlaps b1.Overlaps else some default)
 fun (r1297:Bool)=>
 Let (!r1297) fun (x1298:Bool)=>
 Let (bif x1296 then true else x1298) fun (x1299:Bool)=>
 if x1299=true then some false
 else
 LOOP
 (fun (rec1300:Int->Option Bool) (s1301:Int)=>
 Let (↑a0.Bodies.length:Int) fun (x1302:Int)=>
 Let (decide (s1301<x1302)) fun (x1303:Bool)=>
 if x1303=true then
 Chk ((0:Int)<=s1301/\s1301<(↑a0.Bodies.length:Int))
 (Let (ix a0.Bodies s1301) fun (x1304:Body)=>
 Chk ((0:Int)<=s1301/\s1301<(↑b1.Bodies.length:Int))
 (Let (ix b1.Bodies s1301) fun (x1305:Body)=>
 Rx.Bind (caromref23_Equal x1304 x1305) fun (r1306:Bool)=>
 Let (!r1306) fun (x1307:Bool)=>
 if x1307=true then some false else Let (IntKind.i64.wrap (s1301+(1:Int))) fun (x1308:Int)=>rec1300 x1308))
 else
 LOOP
 (fun (rec1309:Int->Option Bool) (s1310:Int)=>
 Let (↑a0.Joints.length:Int) fun (x1311:Int)=>
 Let (decide (s1310<x1311)) fun (x1312:Bool)=>
 if x1312=true then
 Chk ((0:Int)<=s1310/\s1310<(↑a0.Joints.length:Int))
 (Let (ix a0.Joints s1310) fun (x1313:Joint)=>
 Chk ((0:Int)<=s1310/\s1310<(↑b1.Joints.length:Int))
 (Let (ix b1.Joints s1310) fun (x1314:Joint)=>
 Let
 (!(decide (x1313.ID=x1314.ID)&&
 (decide (x1313.Kind=x1314.Kind)&&
 (decide (x1313.BodyA=x1314.BodyA)&&
 (decide (x1313.BodyB=x1314.BodyB)&&
 (decide (x1313.AnchorA.X=x1314.AnchorA.X)&&decide (x1313.AnchorA.Y=x1314.AnchorA.Y)&&
 (decide (x1313.AnchorB.X=x1314.AnchorB.X)&&decide (x1313.AnchorB.Y=x1314.AnchorB.Y)&&
 (decide (x1313.Axis.X=x1314.Axis.X)&&decide (x1313.Axis.Y=x1314.Axis.Y)&&
 (decide (x1313.ReferenceAngle=x1314.ReferenceAngle)&&
 (decide (x1313.EnableLimit=x1314.EnableLimit)&&
 (decide (x1313.Lower=x1314.Lower)&&
 (decide (x1313.Upper=x1314.Upper)&&
 (decide (x1313.EnableMotor=x1314.EnableMotor)&&
 (decide (x1313.MotorSpeed=x1314.MotorSpeed)&&
 (decide (x1313.MaxForce=x1314.MaxForce)&&
 (decide (x1313.Softness=x1314.Softness)&&
 (decide (x1313.BreakForce=x1314.BreakForce)&&
 (decide (x1313.CollideConnected=x1314.CollideConnected)&&
 (decide (x1313.Impulses.fst=x1314.Impulses.fst)&&
 (decide (x1313.Impulses.snd.fst=x1314.Impulses.snd.fst)&&
 (decide (x1313.Impulses.snd.snd.fst=x1314.Impulses.snd.snd.fst)&&
 decide (x1313.Impulses.snd.snd.snd=x1314.Impulses.snd.snd.snd))))))))))))))))))))))
 fun (x1315:Bool)=>
 if x1315=true then some false else Let (IntKind.i64.wrap (s1310+(1:Int))) fun (x1316:Int)=>rec1309 x1316))
 else
 LOOP
 (fun (rec1317:Int->Option Bool) (s1318:Int)=>
 Let (↑a0.Contacts.length:Int) fun (x1319:Int)=>
 Let (decide (s1318<x1319)) fun (x1320:Bool)=>
 if x1320=true then
 Chk ((0:Int)<=s1318/\s1318<(↑a0.Contacts.length:Int))
 (Let (ix a0.Contacts s1318) fun (x1321:Contact)=>
 Chk ((0:Int)<=s1318/\s1318<(↑b1.Contacts.length:Int))
 (Let (ix b1.Contacts s1318) fun (x1322:Contact)=>
 Let
 (!(decide (x1321.Key.BodyA=x1322.Key.BodyA)&&
 (decide (x1321.Key.FixtureA=x1322.Key.FixtureA)&&
 (decide (x1321.Key.BodyB=x1322.Key.BodyB)&&decide (x1321.Key.FixtureB=x1322.Key.FixtureB)))))
 fun (x1323:Bool)=>
 Chk ((x1323==false)=true->(0:Int)<=s1318/\s1318<(↑a0.Contacts.length:Int))
 (Let (ix a0.Contacts s1318) fun (x1324:Contact)=>
 Chk ((x1323==false)=true->(0:Int)<=s1318/\s1318<(↑b1.Contacts.length:Int))
 (Let (ix b1.Contacts s1318) fun (x1325:Contact)=>
 Rx.Bind (if (x1323==false)=true then caromref16_Equal x1324.Manifold x1325.Manifold else some default)
 fun (r1326:Bool)=>
 Let (!r1326) fun (x1327:Bool)=>
 Let (bif x1323 then true else x1327) fun (x1328:Bool)=>
 if x1328=true then some false else Let (IntKind.i64.wrap (s1318+(1:Int))) fun (x1329:Int)=>rec1317 x1329))))
 else some true)
 fuel (0:Int))
 fuel (0:Int))
 fuel (0:Int)
noncomputable def caromlaw52_example  : Option Bool:=
 Rx.Bind
 (scene_Format
 { Settings:={ TimeStep:=(1092:Int),Gravity:={ X:=(0:Int),Y:=(-655360:Int):Vec },Iterations:=(8:Int),SleepSteps:=(60:Int):Settings },Bodies:=[],Joints:=[],Contacts:=[],Overlaps:=[],NextID:=(1:Int),Frame:=(0:Int):World_ })
 fun (r1330:List UInt8 × Int)=>
 Rx.Bind
 (scene_Parse
 #[(119:UInt8),(111:UInt8),(114:UInt8),(108:UInt8),(100:UInt8),(32:UInt8),(49:UInt8),(48:UInt8),
 (57:UInt8),(50:UInt8),(32:UInt8),(48:UInt8),(32:UInt8),(45:UInt8),(54:UInt8),(53:UInt8),
 (53:UInt8),(51:UInt8),(54:UInt8),(48:UInt8),(32:UInt8),(56:UInt8),(32:UInt8),(54:UInt8),
 (48:UInt8),(32:UInt8),(49:UInt8),(32:UInt8),(48:UInt8),(10:UInt8)].toList)
 fun (r1331:World_ × Int × Int)=>
 Rx.Bind
 (scene_Parse
 #[(119:UInt8),(111:UInt8),(114:UInt8),(108:UInt8),(100:UInt8),(32:UInt8),(49:UInt8),(48:UInt8),
 (57:UInt8),(50:UInt8),(32:UInt8),(48:UInt8),(32:UInt8),(45:UInt8),(54:UInt8),(53:UInt8),
 (53:UInt8),(51:UInt8),(54:UInt8),(48:UInt8),(32:UInt8),(56:UInt8),(32:UInt8),(54:UInt8),
 (48:UInt8),(32:UInt8),(49:UInt8),(32:UInt8),(48:UInt8),(10:UInt8),(119:UInt8),(111:UInt8),
 (114:UInt8),(108:UInt8),(100:UInt8),(32:UInt8),(49:UInt8),(48:UInt8),(57:UInt8),(50:UInt8),
 (32:UInt8),(48:UInt8),(32:UInt8),(45:UInt8),(54:UInt8),(53:UInt8),(53:UInt8),(51:UInt8),
 (54:UInt8),(48:UInt8),(32:UInt8),(56:UInt8),(32:UInt8),(54:UInt8),(48:UInt8),(32:UInt8),
 (49:UInt8),(32:UInt8),(48:UInt8),(10:UInt8)].toList)
 fun (r1332:World_ × Int × Int)=>
 Let
 (r1330.fst==
 #[(119:UInt8),(111:UInt8),(114:UInt8),(108:UInt8),(100:UInt8),(32:UInt8),(49:UInt8),(48:UInt8),
 (57:UInt8),(50:UInt8),(32:UInt8),(48:UInt8),(32:UInt8),(45:UInt8),(54:UInt8),(53:UInt8),
 (53:UInt8),(51:UInt8),(54:UInt8),(48:UInt8),(32:UInt8),(56:UInt8),(32:UInt8),(54:UInt8),
 (48:UInt8),(32:UInt8),(49:UInt8),(32:UInt8),(48:UInt8),(10:UInt8)].toList)
 fun (x1333:Bool)=>
 Let (r1330.snd==(0:Int)) fun (x1334:Bool)=>
 Let (bif x1333 then x1334 else false) fun (x1335:Bool)=>
 Rx.Bind
 (if (x1335==true)=true then
 caromref25_Equal r1331.fst
 { Settings:={ TimeStep:=(1092:Int),Gravity:={ X:=(0:Int),Y:=(-655360:Int):Vec },Iterations:=(8:Int),SleepSteps:=(60:Int):Settings },Bodies:=[],Joints:=[],Contacts:=[],Overlaps:=[],NextID:=(1:Int),Frame:=(0:Int):World_ }
 else some default)
 fun (r1336:Bool)=>
 Let (bif x1335 then r1336 else false) fun (x1337:Bool)=>
 Let (r1331.snd.fst==(0:Int)) fun (x1338:Bool)=>
 Let (bif x1337 then x1338 else false) fun (x1339:Bool)=>
 Let (r1331.snd.snd==(0:Int)) fun (x1340:Bool)=>
 Let (bif x1339 then x1340 else false) fun (x1341:Bool)=>
 Let (r1332.snd.fst==(2:Int)) fun (x1342:Bool)=>
 Let (bif x1341 then x1342 else false) fun (x1343:Bool)=>
 Let (r1332.snd.snd==(27:Int)) fun (x1344:Bool)=>
 Let (bif x1343 then x1344 else false) fun (x1345:Bool)=>some x1345
noncomputable def caromlaw52_SceneRoundTrip (w0:World_):Option Bool:=
 Rx.Bind (caromref25_Few w0) fun (r1346:Bool)=>
 Let (!r1346) fun (x1347:Bool)=>
 if x1347=true then Rx.Bind caromlaw52_example fun (r1348:Bool)=>some r1348
 else
 Rx.Bind (scene_Format w0) fun (r1349:List UInt8 × Int)=>
 Rx.Bind (world_Validate w0) fun (r1350:Int)=>
 Let (r1350 != (0:Int)) fun (x1351:Bool)=>
 if x1351=true then
 Let (r1349.fst==#[].toList) fun (x1352:Bool)=>
 Let (r1349.snd==(18:Int)) fun (x1353:Bool)=>
 Let (bif x1352 then x1353 else false) fun (x1354:Bool)=>
 Rx.Bind (if (x1354==true)=true then caromlaw52_example else some default) fun (r1355:Bool)=>
 Let (bif x1354 then r1355 else false) fun (x1356:Bool)=>some x1356
 else
 Rx.Bind (scene_Parse r1349.fst) fun (r1357:World_ × Int × Int)=>
 Let (r1349.snd==(0:Int)) fun (x1358:Bool)=>
 Let (r1357.snd.snd==(0:Int)) fun (x1359:Bool)=>
 Let (bif x1358 then x1359 else false) fun (x1360:Bool)=>
 Let (r1357.snd.fst==(0:Int)) fun (x1361:Bool)=>
 Let (bif x1360 then x1361 else false) fun (x1362:Bool)=>
 Rx.Bind (if (x1362==true)=true then caromref25_Equal r1357.fst w0 else some default) fun (r1363:Bool)=>
 Let (bif x1362 then r1363 else false) fun (x1364:Bool)=>
 Rx.Bind (if (x1364==true)=true then caromlaw52_example else some default) fun (r1365:Bool)=>
 Let (bif x1364 then r1365 else false) fun (x1366:Bool)=>some x1366
noncomputable def caromref23_in (x0:Int) (low1:Int) (high2:Int):Option Bool:=
 Let (decide (x0>=low1)) fun (x1384:Bool)=>
 Let (decide (x0<=high2)) fun (x1385:Bool)=>Let (bif x1384 then x1385 else false) fun (x1386:Bool)=>some x1386
noncomputable def caromref04_outside (x0:Int):Option Bool:=
 Let (decide (x0<(-268435456:Int))) fun (x1387:Bool)=>
 Let (decide (x0>(268435456:Int))) fun (x1388:Bool)=>
 Let (bif x1387 then true else x1388) fun (x1389:Bool)=>some x1389
noncomputable def caromref04_Valid (p0:Transform):Option Bool:=
 Rx.Bind (caromref04_outside p0.Position.X) fun (r1390:Bool)=>
 Let (!r1390) fun (x1391:Bool)=>
 Rx.Bind (if (x1391==true)=true then caromref04_outside p0.Position.Y else some default) fun (r1392:Bool)=>
 Let (!r1392) fun (x1393:Bool)=>
 Let (bif x1391 then x1393 else false) fun (x1394:Bool)=>
 Let (decide (p0.Angle>=(-205888:Int))) fun (x1395:Bool)=>
 Let (bif x1394 then x1395 else false) fun (x1396:Bool)=>
 Let (decide (p0.Angle<(205888:Int))) fun (x1397:Bool)=>
 Let (bif x1396 then x1397 else false) fun (x1398:Bool)=>some x1398
noncomputable def caromref23_inRange (b0:Body):Option Bool:=
 Rx.Bind (caromref23_in b0.ID (1:Int) (1099511627776:Int)) fun (r1399:Bool)=>
 Let (!r1399) fun (x1400:Bool)=>
 Rx.Bind (if (x1400==false)=true then caromref04_Valid b0.Transform else some default) fun (r1401:Bool)=>
 Let (!r1401) fun (x1402:Bool)=>
 Let (bif x1400 then true else x1402) fun (x1403:Bool)=>
 Rx.Bind
 (if (x1403==false)=true then caromref23_in b0.Velocity.X (-16777216:Int) (16777216:Int) else some default)
 fun (r1404:Bool)=>
 Let (!r1404) fun (x1405:Bool)=>
 Let (bif x1403 then true else x1405) fun (x1406:Bool)=>
 Rx.Bind
 (if (x1406==false)=true then caromref23_in b0.Velocity.Y (-16777216:Int) (16777216:Int) else some default)
 fun (r1407:Bool)=>
 Let (!r1407) fun (x1408:Bool)=>
 Let (bif x1406 then true else x1408) fun (x1409:Bool)=>
 Rx.Bind
 (if (x1409==false)=true then caromref23_in b0.AngularVelocity (-4194304:Int) (4194304:Int) else some default)
 fun (r1410:Bool)=>
 Let (!r1410) fun (x1411:Bool)=>
 Let (bif x1409 then true else x1411) fun (x1412:Bool)=>
 if x1412=true then some false
 else
 Rx.Bind (caromref23_in b0.Force.X (-536870911:Int) (536870911:Int)) fun (r1413:Bool)=>
 Let (!r1413) fun (x1414:Bool)=>
 Rx.Bind
 (if (x1414==false)=true then caromref23_in b0.Force.Y (-536870911:Int) (536870911:Int) else some default)
 fun (r1415:Bool)=>
 Let (!r1415) fun (x1416:Bool)=>
 Let (bif x1414 then true else x1416) fun (x1417:Bool)=>
 Rx.Bind (if (x1417==false)=true then caromref23_in b0.Torque (-536870911:Int) (536870911:Int) else some default)
 fun (r1418:Bool)=>
 Let (!r1418) fun (x1419:Bool)=>
 Let (bif x1417 then true else x1419) fun (x1420:Bool)=>
 if x1420=true then some false
 else
 Rx.Bind (caromref23_in b0.LinearDamping (0:Int) (65536:Int)) fun (r1421:Bool)=>
 Rx.Bind (if (r1421==true)=true then caromref23_in b0.AngularDamping (0:Int) (65536:Int) else some default)
 fun (r1422:Bool)=>
 Let (bif r1421 then r1422 else false) fun (x1423:Bool)=>
 Rx.Bind (if (x1423==true)=true then caromref23_in b0.GravityScale (-262144:Int) (262144:Int) else some default)
 fun (r1424:Bool)=>
 Let (bif x1423 then r1424 else false) fun (x1425:Bool)=>
 Rx.Bind (if (x1425==true)=true then caromref23_in b0.IdleSteps (0:Int) (1048576:Int) else some default)
 fun (r1426:Bool)=>Let (bif x1425 then r1426 else false) fun (x1427:Bool)=>some x1427
noncomputable def caromref12_countMatches (s0:Shape):Option Bool:=
 Let (↑s0.Vertices.length:Int) fun (x1428:Int)=>
 Let (s0.Kind==(3:Int)) fun (x1429:Bool)=>
 if x1429=true then
 Let (decide (x1428>=(3:Int))) fun (x1430:Bool)=>
 Let (decide (x1428<=(8:Int))) fun (x1431:Bool)=>
 Let (bif x1430 then x1431 else false) fun (x1432:Bool)=>some x1432
 else Let (x1428==s0.Kind) fun (x1433:Bool)=>some x1433
noncomputable def caromref12_within (x0:Int) (m1:Int):Option Bool:=
 Let (IntKind.i64.wrap ((0:Int) - m1)) fun (x1434:Int)=>
 Let (decide (x0>=x1434)) fun (x1435:Bool)=>
 Let (decide (x0<=m1)) fun (x1436:Bool)=>Let (bif x1435 then x1436 else false) fun (x1437:Bool)=>some x1437
noncomputable def caromref01_Saturate (x0:Int):Option Int:=
 Let (decide (x0>(536870911:Int))) fun (x1438:Bool)=>
 if x1438=true then some (536870911:Int)
 else
 Let (decide (x0<(-536870911:Int))) fun (x1439:Bool)=>if x1439=true then some (-536870911:Int) else some x0
noncomputable def caromref01_Sub (a0:Int) (b1:Int):Option Int:=
 Rx.Bind (caromref01_Saturate a0) fun (r1440:Int)=>
 Rx.Bind (caromref01_Saturate b1) fun (r1441:Int)=>
 Let (IntKind.i64.wrap (r1440 - r1441)) fun (x1442:Int)=>
 Rx.Bind (caromref01_Saturate x1442) fun (r1443:Int)=>some r1443
noncomputable def caromref03_Sub (a0:Vec) (b1:Vec):Option Vec:=
 Rx.Bind (caromref01_Sub a0.X b1.X) fun (r1444:Int)=>
 Rx.Bind (caromref01_Sub a0.Y b1.Y) fun (r1445:Int)=>some { X:=r1444,Y:=r1445:Vec }
noncomputable def caromref03_Saturated (v0:Vec):Option Vec:=
 Rx.Bind (caromref01_Saturate v0.X) fun (r1446:Int)=>
 Rx.Bind (caromref01_Saturate v0.Y) fun (r1447:Int)=>some { X:=r1446,Y:=r1447:Vec }
noncomputable def caromref01_outOfRange (n0:Int):Option Bool:=
 Let (decide (n0>(4611686018427387904:Int))) fun (x1448:Bool)=>
 Let (decide (n0<(-4611686018427387904:Int))) fun (x1449:Bool)=>
 Let (bif x1448 then true else x1449) fun (x1450:Bool)=>some x1450
noncomputable def caromref01_Isqrt (n0:Int):Option Int:=
 Let (decide (n0<(0:Int))) fun (x1451:Bool)=>
 Rx.Bind (if (x1451==false)=true then caromref01_outOfRange n0 else some default) fun (r1452:Bool)=>
 Let (bif x1451 then true else r1452) fun (x1453:Bool)=>
 if x1453=true then some (0:Int)
 else
 LOOP
 (fun (rec1454:Int × Int->Option Int) (s1455:Int × Int)=>
 Let (decide (s1455.snd>(0:Int))) fun (x1456:Bool)=>
 if x1456=true then
 Join
 (fun (v1457:Int)=>Let (IntKind.i64.wrap (Int.tdiv s1455.snd (2:Int))) fun (x1458:Int)=>rec1454 (v1457,x1458))
 fun (j1459:Int->Option Int)=>
 Let (IntKind.i64.wrap (s1455.fst+s1455.snd)) fun (x1460:Int)=>
 Let (IntKind.i64.wrap (s1455.fst+s1455.snd)) fun (x1461:Int)=>
 Chk (x1461≠(0:Int))
 (Let (IntKind.i64.wrap (n0.tdiv x1461)) fun (x1462:Int)=>
 Let (decide (x1460<=x1462)) fun (x1463:Bool)=>
 if x1463=true then Let (IntKind.i64.wrap (s1455.fst+s1455.snd)) fun (x1464:Int)=>j1459 x1464
 else j1459 s1455.fst)
 else some s1455.fst)
 fuel ((0:Int),(2147483648:Int))
noncomputable def caromref03_Length (v0:Vec):Option Int:=
 Rx.Bind (caromref03_Saturated v0) fun (r1465:Vec)=>
 Let (IntKind.i64.wrap (r1465.X*r1465.X)) fun (x1466:Int)=>
 Let (IntKind.i64.wrap (r1465.Y*r1465.Y)) fun (x1467:Int)=>
 Let (IntKind.i64.wrap (x1466+x1467)) fun (x1468:Int)=>
 Rx.Bind (caromref01_Isqrt x1468) fun (r1469:Int)=>some r1469
noncomputable def caromref11_inRange (v0:Vec):Option Bool:=
 Let (decide (v0.X>=(-1048576:Int))) fun (x1470:Bool)=>
 Let (decide (v0.X<=(1048576:Int))) fun (x1471:Bool)=>
 Let (bif x1470 then x1471 else false) fun (x1472:Bool)=>
 Let (decide (v0.Y>=(-1048576:Int))) fun (x1473:Bool)=>
 Let (bif x1472 then x1473 else false) fun (x1474:Bool)=>
 Let (decide (v0.Y<=(1048576:Int))) fun (x1475:Bool)=>
 Let (bif x1474 then x1475 else false) fun (x1476:Bool)=>some x1476
noncomputable def caromref03_Orientation (a0:Vec) (b1:Vec) (c2:Vec):Option Int:=
 Rx.Bind (caromref03_Saturated a0) fun (r1477:Vec)=>
 Rx.Bind (caromref03_Saturated b1) fun (r1478:Vec)=>
 Rx.Bind (caromref03_Saturated c2) fun (r1479:Vec)=>
 Let (IntKind.i64.wrap (r1478.X - r1477.X)) fun (x1480:Int)=>
 Let (IntKind.i64.wrap (r1479.Y - r1477.Y)) fun (x1481:Int)=>
 Let (IntKind.i64.wrap (x1480*x1481)) fun (x1482:Int)=>
 Let (IntKind.i64.wrap (r1478.Y - r1477.Y)) fun (x1483:Int)=>
 Let (IntKind.i64.wrap (r1479.X - r1477.X)) fun (x1484:Int)=>
 Let (IntKind.i64.wrap (x1483*x1484)) fun (x1485:Int)=>
 Let (IntKind.i64.wrap (x1482 - x1485)) fun (x1486:Int)=>
 Let (decide (x1486>(0:Int))) fun (x1487:Bool)=>
 if x1487=true then some (1:Int)
 else Let (decide (x1486<(0:Int))) fun (x1488:Bool)=>if x1488=true then some (-1:Int) else some (0:Int)
noncomputable def caromref11_IsConvex (vertices0:(List Vec)):Option Bool:=
 Let (↑vertices0.length:Int) fun (x1489:Int)=>
 Let (decide (x1489<(3:Int))) fun (x1490:Bool)=>
 Let (decide (x1489>(8:Int))) fun (x1491:Bool)=>
 Let (bif x1490 then true else x1491) fun (x1492:Bool)=>
 if x1492=true then some false
 else
 LOOP
 (fun (rec1493:Int->Option Bool) (s1494:Int)=>
 Let (decide (s1494<x1489)) fun (x1495:Bool)=>
 if x1495=true then
 Chk ((0:Int)<=s1494/\s1494<(↑vertices0.length:Int))
 (Let (ix vertices0 s1494) fun (x1496:Vec)=>
 Rx.Bind (caromref11_inRange x1496) fun (r1497:Bool)=>
 Let (!r1497) fun (x1498:Bool)=>
 if x1498=true then some false else Let (IntKind.i64.wrap (s1494+(1:Int))) fun (x1499:Int)=>rec1493 x1499)
 else
 LOOP
 (fun (rec1500:Int->Option Bool) (s1501:Int)=>
 Let (decide (s1501<x1489)) fun (x1502:Bool)=>
 if x1502=true then
 Let (IntKind.i64.wrap (s1501+(1:Int))) fun (x1503:Int)=>
 Chk (x1489≠(0:Int))
 (Let (x1503.tmod x1489) fun (x1504:Int)=>
 LOOP
 (fun (rec1505:Int->Option Bool) (s1506:Int)=>
 Let (decide (s1506<x1489)) fun (x1507:Bool)=>
 if x1507=true then
 Let (s1506 != s1501) fun (x1508:Bool)=>
 Let (s1506 != x1504) fun (x1509:Bool)=>
 Let (bif x1508 then x1509 else false) fun (x1510:Bool)=>
 Chk ((x1510==true)=true->(0:Int)<=s1501/\s1501<(↑vertices0.length:Int))
 (Let (ix vertices0 s1501) fun (x1511:Vec)=>
 Chk ((x1510==true)=true->(0:Int)<=x1504/\x1504<(↑vertices0.length:Int))
 (Let (ix vertices0 x1504) fun (x1512:Vec)=>
 Chk ((x1510==true)=true->(0:Int)<=s1506/\s1506<(↑vertices0.length:Int))
 (Let (ix vertices0 s1506) fun (x1513:Vec)=>
 Rx.Bind (if (x1510==true)=true then caromref03_Orientation x1511 x1512 x1513 else some default) fun (r1514:Int)=>
 Let (r1514 != (1:Int)) fun (x1515:Bool)=>
 Let (bif x1510 then x1515 else false) fun (x1516:Bool)=>
 if x1516=true then some false else Let (IntKind.i64.wrap (s1506+(1:Int))) fun (x1517:Int)=>rec1505 x1517)))
 else Let (IntKind.i64.wrap (s1501+(1:Int))) fun (x1518:Int)=>rec1500 x1518)
 fuel (0:Int))
 else some true)
 fuel (0:Int))
 fuel (0:Int)
noncomputable def caromref11_ShortestEdge (vertices0:(List Vec)):Option Int:=
 Rx.Bind (caromref11_IsConvex vertices0) fun (r1519:Bool)=>
 Let (!r1519) fun (x1520:Bool)=>
 if x1520=true then some (0:Int)
 else
 LOOP
 (fun (rec1521:Int × Int->Option Int) (s1522:Int × Int)=>
 Let (↑vertices0.length:Int) fun (x1523:Int)=>
 Let (decide (s1522.snd<x1523)) fun (x1524:Bool)=>
 if x1524=true then
 Join (fun (v1525:Int)=>Let (IntKind.i64.wrap (s1522.snd+(1:Int))) fun (x1526:Int)=>rec1521 (v1525,x1526))
 fun (j1527:Int->Option Int)=>
 Let (IntKind.i64.wrap (s1522.snd+(1:Int))) fun (x1528:Int)=>
 Let (↑vertices0.length:Int) fun (x1529:Int)=>
 Chk (x1529≠(0:Int))
 (Let (x1528.tmod x1529) fun (x1530:Int)=>
 Chk ((0:Int)<=x1530/\x1530<(↑vertices0.length:Int))
 (Let (ix vertices0 x1530) fun (x1531:Vec)=>
 Chk ((0:Int)<=s1522.snd/\s1522.snd<(↑vertices0.length:Int))
 (Let (ix vertices0 s1522.snd) fun (x1532:Vec)=>
 Rx.Bind (caromref03_Sub x1531 x1532) fun (r1533:Vec)=>
 Rx.Bind (caromref03_Length r1533) fun (r1534:Int)=>
 Let (decide (s1522.fst<(0:Int))) fun (x1535:Bool)=>
 Let (decide (r1534<s1522.fst)) fun (x1536:Bool)=>
 Let (bif x1535 then true else x1536) fun (x1537:Bool)=>if x1537=true then j1527 r1534 else j1527 s1522.fst)))
 else some s1522.fst)
 fuel ((-1:Int),(0:Int))
noncomputable def caromref01_RoundDiv (n0:Int) (d1:Int):Option Int:=
 Let (decide (d1<(1:Int))) fun (x1538:Bool)=>
 Rx.Bind (if (x1538==false)=true then caromref01_outOfRange d1 else some default) fun (r1539:Bool)=>
 Let (bif x1538 then true else r1539) fun (x1540:Bool)=>
 Rx.Bind (if (x1540==false)=true then caromref01_outOfRange n0 else some default) fun (r1541:Bool)=>
 Let (bif x1540 then true else r1541) fun (x1542:Bool)=>
 if x1542=true then some (0:Int)
 else
 Join
 (fun (v1543:Int)=>
 Chk (d1≠(0:Int))
 (Let (IntKind.i64.wrap (v1543.tdiv d1)) fun (x1544:Int)=>
 Let (IntKind.i64.wrap (x1544*d1)) fun (x1545:Int)=>
 Let (IntKind.i64.wrap (v1543 - x1545)) fun (x1546:Int)=>
 Join
 (fun (v1547:Int)=>
 Let (decide (n0<(0:Int))) fun (x1548:Bool)=>
 if x1548=true then Let (IntKind.i64.wrap ((0:Int) - v1547)) fun (x1549:Int)=>some x1549 else some v1547)
 fun (j1550:Int->Option Int)=>
 Let (IntKind.i64.wrap (d1 - x1546)) fun (x1551:Int)=>
 Let (decide (x1546>=x1551)) fun (x1552:Bool)=>
 if x1552=true then Let (IntKind.i64.wrap (x1544+(1:Int))) fun (x1553:Int)=>j1550 x1553 else j1550 x1544))
 fun (j1554:Int->Option Int)=>
 Let (decide (n0<(0:Int))) fun (x1555:Bool)=>
 if x1555=true then Let (IntKind.i64.wrap ((0:Int) - n0)) fun (x1556:Int)=>j1554 x1556 else j1554 n0
noncomputable def caromref11_cross (v0:(List Vec)) (i1:Int):Option Int:=
 Chk ((0:Int)<=i1/\i1<(↑v0.length:Int))
 (Let (ix v0 i1) fun (x1557:Vec)=>
 Chk ((0:Int)<=(0:Int)/\(0:Int)<(↑v0.length:Int))
 (Let (ix v0 (0:Int)) fun (x1558:Vec)=>
 Let (IntKind.i64.wrap (x1557.X - x1558.X)) fun (x1559:Int)=>
 Chk ((0:Int)<=i1/\i1<(↑v0.length:Int))
 (Let (ix v0 i1) fun (x1560:Vec)=>
 Chk ((0:Int)<=(0:Int)/\(0:Int)<(↑v0.length:Int))
 (Let (ix v0 (0:Int)) fun (x1561:Vec)=>
 Let (IntKind.i64.wrap (x1560.Y - x1561.Y)) fun (x1562:Int)=>
 Let (IntKind.i64.wrap (i1+(1:Int))) fun (x1563:Int)=>
 Chk ((0:Int)<=x1563/\x1563<(↑v0.length:Int))
 (Let (ix v0 x1563) fun (x1564:Vec)=>
 Chk ((0:Int)<=(0:Int)/\(0:Int)<(↑v0.length:Int))
 (Let (ix v0 (0:Int)) fun (x1565:Vec)=>
 Let (IntKind.i64.wrap (x1564.X - x1565.X)) fun (x1566:Int)=>
 Let (IntKind.i64.wrap (i1+(1:Int))) fun (x1567:Int)=>
 Chk ((0:Int)<=x1567/\x1567<(↑v0.length:Int))
 (Let (ix v0 x1567) fun (x1568:Vec)=>
 Chk ((0:Int)<=(0:Int)/\(0:Int)<(↑v0.length:Int))
 (Let (ix v0 (0:Int)) fun (x1569:Vec)=>
 Let (IntKind.i64.wrap (x1568.Y - x1569.Y)) fun (x1570:Int)=>
 Let (IntKind.i64.wrap (x1559*x1570)) fun (x1571:Int)=>
 Let (IntKind.i64.wrap (x1562*x1566)) fun (x1572:Int)=>
 Let (IntKind.i64.wrap (x1571 - x1572)) fun (x1573:Int)=>
 Rx.Bind (caromref01_RoundDiv x1573 (65536:Int)) fun (r1574:Int)=>some r1574))))))))
noncomputable def caromref11_Area (vertices0:(List Vec)):Option Int:=
 Rx.Bind (caromref11_IsConvex vertices0) fun (r1575:Bool)=>
 Let (!r1575) fun (x1576:Bool)=>
 if x1576=true then some (0:Int)
 else
 LOOP
 (fun (rec1577:Int × Int->Option Int) (s1578:Int × Int)=>
 Let (IntKind.i64.wrap (s1578.snd+(1:Int))) fun (x1579:Int)=>
 Let (↑vertices0.length:Int) fun (x1580:Int)=>
 Let (decide (x1579<x1580)) fun (x1581:Bool)=>
 if x1581=true then
 Rx.Bind (caromref11_cross vertices0 s1578.snd) fun (r1582:Int)=>
 Let (IntKind.i64.wrap (s1578.fst+r1582)) fun (x1583:Int)=>
 Let (IntKind.i64.wrap (s1578.snd+(1:Int))) fun (x1584:Int)=>rec1577 (x1583,x1584)
 else Rx.Bind (caromref01_RoundDiv s1578.fst (2:Int)) fun (r1585:Int)=>some r1585)
 fuel ((0:Int),(1:Int))
noncomputable def caromref12_Validate (s0:Shape):Option Int:=
 Let (decide (s0.Kind<(1:Int))) fun (x1586:Bool)=>
 Let (decide (s0.Kind>(3:Int))) fun (x1587:Bool)=>
 Let (bif x1586 then true else x1587) fun (x1588:Bool)=>
 if x1588=true then some (10:Int)
 else
 Rx.Bind (caromref12_countMatches s0) fun (r1589:Bool)=>
 Let (!r1589) fun (x1590:Bool)=>
 if x1590=true then some (11:Int)
 else
 LOOP
 (fun (rec1591:Int->Option Int) (s1592:Int)=>
 Let (↑s0.Vertices.length:Int) fun (x1593:Int)=>
 Let (decide (s1592<x1593)) fun (x1594:Bool)=>
 if x1594=true then
 Chk ((0:Int)<=s1592/\s1592<(↑s0.Vertices.length:Int))
 (Let (ix s0.Vertices s1592) fun (x1595:Vec)=>
 Rx.Bind (caromref12_within x1595.X (1048576:Int)) fun (r1596:Bool)=>
 Let (!r1596) fun (x1597:Bool)=>
 Chk ((x1597==false)=true->(0:Int)<=s1592/\s1592<(↑s0.Vertices.length:Int))
 (Let (ix s0.Vertices s1592) fun (x1598:Vec)=>
 Rx.Bind (if (x1597==false)=true then caromref12_within x1598.Y (1048576:Int) else some default)
 fun (r1599:Bool)=>
 Let (!r1599) fun (x1600:Bool)=>
 Let (bif x1597 then true else x1600) fun (x1601:Bool)=>
 if x1601=true then some (6:Int) else Let (IntKind.i64.wrap (s1592+(1:Int))) fun (x1602:Int)=>rec1591 x1602))
 else
 Let (s0.Kind==(3:Int)) fun (x1603:Bool)=>
 Let (s0.Radius != (0:Int)) fun (x1604:Bool)=>
 Let (bif x1603 then x1604 else false) fun (x1605:Bool)=>
 Let (s0.Kind != (3:Int)) fun (x1606:Bool)=>
 Let (decide (s0.Radius<(2048:Int))) fun (x1607:Bool)=>
 Let (decide (s0.Radius>(524288:Int))) fun (x1608:Bool)=>
 Let (bif x1607 then true else x1608) fun (x1609:Bool)=>
 Let (bif x1606 then x1609 else false) fun (x1610:Bool)=>
 Let (bif x1605 then true else x1610) fun (x1611:Bool)=>
 if x1611=true then some (6:Int)
 else
 Let (s0.Kind==(2:Int)) fun (x1612:Bool)=>
 Chk ((x1612==true)=true->(0:Int)<=(1:Int)/\(1:Int)<(↑s0.Vertices.length:Int))
 (Let (ix s0.Vertices (1:Int)) fun (x1613:Vec)=>
 Chk ((x1612==true)=true->(0:Int)<=(0:Int)/\(0:Int)<(↑s0.Vertices.length:Int))
 (Let (ix s0.Vertices (0:Int)) fun (x1614:Vec)=>
 Rx.Bind (if (x1612==true)=true then caromref03_Sub x1613 x1614 else some { X:=default,Y:=default:Vec })
 fun (r1615:Vec)=>
 Rx.Bind (if (x1612==true)=true then caromref03_Length r1615 else some default) fun (r1616:Int)=>
 Let (decide (r1616<(4096:Int))) fun (x1617:Bool)=>
 Let (bif x1612 then x1617 else false) fun (x1618:Bool)=>
 if x1618=true then some (12:Int)
 else
 Let (s0.Kind==(3:Int)) fun (x1619:Bool)=>
 Rx.Bind (if (x1619==true)=true then caromref11_IsConvex s0.Vertices else some default) fun (r1620:Bool)=>
 Let (!r1620) fun (x1621:Bool)=>
 Rx.Bind (if (x1619==true&&x1621==false)=true then caromref11_ShortestEdge s0.Vertices else some default)
 fun (r1622:Int)=>
 Let (decide (r1622<(4096:Int))) fun (x1623:Bool)=>
 Let (bif x1621 then true else x1623) fun (x1624:Bool)=>
 Rx.Bind (if (x1619==true&&x1624==false)=true then caromref11_Area s0.Vertices else some default)
 fun (r1625:Int)=>
 Let (decide (r1625<(256:Int))) fun (x1626:Bool)=>
 Let (bif x1624 then true else x1626) fun (x1627:Bool)=>
 Let (bif x1619 then x1627 else false) fun (x1628:Bool)=>if x1628=true then some (12:Int) else some (0:Int))))
 fuel (0:Int)
noncomputable def caromref23_ValidateFixture (f0:Fixture):Option Int:=
 Rx.Bind (caromref12_Validate f0.Shape) fun (r1629:Int)=>
 Let (r1629 != (0:Int)) fun (x1630:Bool)=>
 if x1630=true then some r1629
 else
 Rx.Bind (caromref23_in f0.Density (0:Int) (262144:Int)) fun (r1631:Bool)=>
 Let (!r1631) fun (x1632:Bool)=>
 Rx.Bind (if (x1632==false)=true then caromref23_in f0.Friction (0:Int) (131072:Int) else some default)
 fun (r1633:Bool)=>
 Let (!r1633) fun (x1634:Bool)=>
 Let (bif x1632 then true else x1634) fun (x1635:Bool)=>
 Rx.Bind (if (x1635==false)=true then caromref23_in f0.Restitution (0:Int) (65536:Int) else some default)
 fun (r1636:Bool)=>
 Let (!r1636) fun (x1637:Bool)=>
 Let (bif x1635 then true else x1637) fun (x1638:Bool)=>
 Rx.Bind (if (x1638==false)=true then caromref23_in f0.Category (0:Int) (65535:Int) else some default)
 fun (r1639:Bool)=>
 Let (!r1639) fun (x1640:Bool)=>
 Let (bif x1638 then true else x1640) fun (x1641:Bool)=>
 Rx.Bind (if (x1641==false)=true then caromref23_in f0.Mask (0:Int) (65535:Int) else some default)
 fun (r1642:Bool)=>
 Let (!r1642) fun (x1643:Bool)=>
 Let (bif x1641 then true else x1643) fun (x1644:Bool)=>
 Rx.Bind (if (x1644==false)=true then caromref23_in f0.Group (-32:Int) (32:Int) else some default)
 fun (r1645:Bool)=>
 Let (!r1645) fun (x1646:Bool)=>
 Let (bif x1644 then true else x1646) fun (x1647:Bool)=>if x1647=true then some (6:Int) else some (0:Int)
noncomputable def caromref23_Validate (b0:Body):Option Int:=
 Let (b0.Kind != (1:Int)) fun (x1648:Bool)=>
 Let (b0.Kind != (2:Int)) fun (x1649:Bool)=>
 Let (bif x1648 then x1649 else false) fun (x1650:Bool)=>
 Let (b0.Kind != (3:Int)) fun (x1651:Bool)=>
 Let (bif x1650 then x1651 else false) fun (x1652:Bool)=>
 if x1652=true then some (10:Int)
 else
 Rx.Bind (caromref23_inRange b0) fun (r1653:Bool)=>
 Let (!r1653) fun (x1654:Bool)=>
 if x1654=true then some (6:Int)
 else
 Let (↑b0.Fixtures.length:Int) fun (x1655:Int)=>
 Let (decide (x1655>(4:Int))) fun (x1656:Bool)=>
 if x1656=true then some (11:Int)
 else
 LOOP
 (fun (rec1657:Int->Option Int) (s1658:Int)=>
 Let (↑b0.Fixtures.length:Int) fun (x1659:Int)=>
 Let (decide (s1658<x1659)) fun (x1660:Bool)=>
 if x1660=true then
 Chk ((0:Int)<=s1658/\s1658<(↑b0.Fixtures.length:Int))
 (Let (ix b0.Fixtures s1658) fun (x1661:Fixture)=>
 Rx.Bind (caromref23_ValidateFixture x1661) fun (r1662:Int)=>
 Let (r1662 != (0:Int)) fun (x1663:Bool)=>
 if x1663=true then some (13:Int) else Let (IntKind.i64.wrap (s1658+(1:Int))) fun (x1664:Int)=>rec1657 x1664)
 else
 Let (!(decide (b0.Velocity.X=(0:Int))&&decide (b0.Velocity.Y=(0:Int)))) fun (x1665:Bool)=>
 Let (b0.AngularVelocity != (0:Int)) fun (x1666:Bool)=>
 Let (bif x1665 then true else x1666) fun (x1667:Bool)=>
 Let (!(decide (b0.Force.X=(0:Int))&&decide (b0.Force.Y=(0:Int)))) fun (x1668:Bool)=>
 Let (b0.Torque != (0:Int)) fun (x1669:Bool)=>
 Let (bif x1668 then true else x1669) fun (x1670:Bool)=>
 Let (b0.Kind==(1:Int)) fun (x1671:Bool)=>
 Let (bif x1667 then true else x1670) fun (x1672:Bool)=>
 Let (bif x1671 then x1672 else false) fun (x1673:Bool)=>
 Let (b0.Kind != (3:Int)) fun (x1674:Bool)=>
 Let (bif b0.Asleep then true else b0.Bullet) fun (x1675:Bool)=>
 Let (bif x1674 then x1675 else false) fun (x1676:Bool)=>
 Let (bif x1673 then true else x1676) fun (x1677:Bool)=>
 Let (bif b0.Asleep then x1667 else false) fun (x1678:Bool)=>
 Let (bif x1677 then true else x1678) fun (x1679:Bool)=>if x1679=true then some (14:Int) else some (0:Int))
 fuel (0:Int)
noncomputable def caromref08_IsInteger (s0:(List UInt8)):Option Bool:=
 Let (s0==#[(48:UInt8)].toList) fun (x2180:Bool)=>
 if x2180=true then some true
 else
 Join
 (fun (v2181:List UInt8)=>
 LOOP
 (fun (rec2182:Int->Option Bool) (s2183:Int)=>
 Let (↑v2181.length:Int) fun (x2184:Int)=>
 Let (decide (s2183<x2184)) fun (x2185:Bool)=>
 if x2185=true then
 Chk ((0:Int)<=s2183/\s2183<(↑v2181.length:Int))
 (Let (ix v2181 s2183) fun (x2186:UInt8)=>
 Let (decide (x2186<toByte (48:Int))) fun (x2187:Bool)=>
 Chk ((x2187==false)=true->(0:Int)<=s2183/\s2183<(↑v2181.length:Int))
 (Let (ix v2181 s2183) fun (x2188:UInt8)=>
 Let (decide (toByte (57:Int)<x2188)) fun (x2189:Bool)=>
 Let (bif x2187 then true else x2189) fun (x2190:Bool)=>
 if x2190=true then some false else Let (IntKind.i64.wrap (s2183+(1:Int))) fun (x2191:Int)=>rec2182 x2191))
 else
 Let (↑v2181.length:Int) fun (x2192:Int)=>
 Let (decide (x2192>(0:Int))) fun (x2193:Bool)=>
 Chk ((x2193==true)=true->(0:Int)<=(0:Int)/\(0:Int)<(↑v2181.length:Int))
 (Let (ix v2181 (0:Int)) fun (x2194:UInt8)=>
 Let (x2194 != toByte (48:Int)) fun (x2195:Bool)=>
 Let (bif x2193 then x2195 else false) fun (x2196:Bool)=>some x2196))
 fuel (0:Int))
 fun (j2197:List UInt8->Option Bool)=>
 Let (↑s0.length:Int) fun (x2198:Int)=>
 Let (decide (x2198>(0:Int))) fun (x2199:Bool)=>
 Chk ((x2199==true)=true->(0:Int)<=(0:Int)/\(0:Int)<(↑s0.length:Int))
 (Let (ix s0 (0:Int)) fun (x2200:UInt8)=>
 Let (x2200==toByte (45:Int)) fun (x2201:Bool)=>
 Let (bif x2199 then x2201 else false) fun (x2202:Bool)=>
 if x2202=true then
 Chk ((0:Int)<=(1:Int)/\(1:Int)<=(↑s0.length:Int))
 (Let (List.drop (1:Nat) s0) fun (x2203:List UInt8)=>j2197 x2203)
 else j2197 s0)
noncomputable def caromref08_value (s0:(List UInt8)) (limit1:Int):Option (Int × Bool):=
 LOOP
 (fun (rec2204:Int × Bool × Int->Option (Int × Bool)) (s2205:Int × Bool × Int)=>
 Let (↑s0.length:Int) fun (x2206:Int)=>
 Let (decide (s2205.snd.snd<x2206)) fun (x2207:Bool)=>
 if x2207=true then
 Join
 (fun (v2208:Int × Bool)=>
 Let (IntKind.i64.wrap (s2205.snd.snd+(1:Int))) fun (x2209:Int)=>rec2204 (v2208.fst,v2208.snd,x2209))
 fun (j2210:Int × Bool->Option (Int × Bool))=>
 Chk ((0:Int)<=s2205.snd.snd/\s2205.snd.snd<(↑s0.length:Int))
 (Let (ix s0 s2205.snd.snd) fun (x2211:UInt8)=>
 Let (x2211==toByte (45:Int)) fun (x2212:Bool)=>
 if x2212=true then j2210 (s2205.fst,true)
 else
 Chk ((0:Int)<=s2205.snd.snd/\s2205.snd.snd<(↑s0.length:Int))
 (Let (ix s0 s2205.snd.snd) fun (x2213:UInt8)=>
 Let (↑x2213.toNat:Int) fun (x2214:Int)=>
 Let (IntKind.i64.wrap (x2214 - (48:Int))) fun (x2215:Int)=>
 Let (IntKind.i64.wrap (limit1 - x2215)) fun (x2216:Int)=>
 Let (IntKind.i64.wrap (x2216.tdiv (10:Int))) fun (x2217:Int)=>
 Let (decide (s2205.fst>x2217)) fun (x2218:Bool)=>
 if x2218=true then some ((0:Int),false)
 else
 Let (IntKind.i64.wrap ((10:Int)*s2205.fst)) fun (x2219:Int)=>
 Let (IntKind.i64.wrap (x2219+x2215)) fun (x2220:Int)=>j2210 (x2220,s2205.snd.fst)))
 else
 Join (fun (v2221:Int)=>some (v2221,true)) fun (j2222:Int->Option (Int × Bool))=>
 if s2205.snd.fst=true then Let (IntKind.i64.wrap ((0:Int) - s2205.fst)) fun (x2223:Int)=>j2222 x2223
 else j2222 s2205.fst)
 fuel ((0:Int),false,(0:Int))
noncomputable def caromref08_ParseInt (s0:(List UInt8)):Option (Int × Int):=
 Rx.Bind (caromref08_IsInteger s0) fun (r2224:Bool)=>
 Let (!r2224) fun (x2225:Bool)=>
 if x2225=true then some ((0:Int),(3:Int))
 else
 Rx.Bind (caromref08_value s0 (4611686018427387904:Int)) fun (r2226:Int × Bool)=>
 Let (!r2226.snd) fun (x2227:Bool)=>if x2227=true then some ((0:Int),(6:Int)) else some (r2226.fst,(0:Int))
noncomputable def caromref52_numbers (fields0:(List (List UInt8))) (keyword1:(List UInt8)) (n2:Int) (more3:Bool) (bools4:(List Int)):Option ((List Int) × Int):=
 Let (↑fields0.length:Int) fun (x2228:Int)=>
 Let (IntKind.i64.wrap (n2+(1:Int))) fun (x2229:Int)=>
 Let (decide (x2228<x2229)) fun (x2230:Bool)=>
 Chk ((x2230==false)=true->(0:Int)<=(0:Int)/\(0:Int)<(↑fields0.length:Int))
 (Let (ix fields0 (0:Int)) fun (x2231:List UInt8)=>
 Let (x2231 != keyword1) fun (x2232:Bool)=>
 Let (bif x2230 then true else x2232) fun (x2233:Bool)=>
 Let (!more3) fun (x2234:Bool)=>
 Let (↑fields0.length:Int) fun (x2235:Int)=>
 Let (IntKind.i64.wrap (n2+(1:Int))) fun (x2236:Int)=>
 Let (x2235 != x2236) fun (x2237:Bool)=>
 Let (bif x2234 then x2237 else false) fun (x2238:Bool)=>
 Let (bif x2233 then true else x2238) fun (x2239:Bool)=>
 Let (↑fields0.length:Int) fun (x2240:Int)=>
 Let (IntKind.i64.wrap (x2240 - n2)) fun (x2241:Int)=>
 Let (IntKind.i64.wrap (x2241 - (1:Int))) fun (x2242:Int)=>
 Let (x2242.tmod (2:Int)) fun (x2243:Int)=>
 Let (x2243 != (0:Int)) fun (x2244:Bool)=>
 Let (bif x2239 then true else x2244) fun (x2245:Bool)=>
 if x2245=true then some ([],(3:Int))
 else
 LOOP
 (fun (rec2246:Int->Option (List Int × Int)) (s2247:Int)=>
 Let (↑bools4.length:Int) fun (x2248:Int)=>
 Let (decide (s2247<x2248)) fun (x2249:Bool)=>
 if x2249=true then
 Chk ((0:Int)<=s2247/\s2247<(↑bools4.length:Int))
 (Let (ix bools4 s2247) fun (x2250:Int)=>
 Let (IntKind.i64.wrap ((1:Int)+x2250)) fun (x2251:Int)=>
 Chk ((0:Int)<=x2251/\x2251<(↑fields0.length:Int))
 (Let (ix fields0 x2251) fun (x2252:List UInt8)=>
 Let (x2252 != #[(48:UInt8)].toList) fun (x2253:Bool)=>
 Let (x2252 != #[(49:UInt8)].toList) fun (x2254:Bool)=>
 Let (bif x2253 then x2254 else false) fun (x2255:Bool)=>
 if x2255=true then some ([],(3:Int))
 else Let (IntKind.i64.wrap (s2247+(1:Int))) fun (x2256:Int)=>rec2246 x2256))
 else
 LOOP
 (fun (rec2257:List Int × Int × Int->Option (List Int × Int)) (s2258:List Int × Int × Int)=>
 Let (↑fields0.length:Int) fun (x2259:Int)=>
 Let (decide (s2258.snd.snd<x2259)) fun (x2260:Bool)=>
 if x2260=true then
 Chk ((0:Int)<=s2258.snd.snd/\s2258.snd.snd<(↑fields0.length:Int))
 (Let (ix fields0 s2258.snd.snd) fun (x2261:List UInt8)=>
 Rx.Bind (caromref08_ParseInt x2261) fun (r2262:Int × Int)=>
 Let (r2262.snd==(3:Int)) fun (x2263:Bool)=>
 if x2263=true then some ([],(3:Int))
 else
 Join
 (fun (v2264:Int)=>
 Chk ((List.length s2258.fst+[r2262.fst].length)*(8:Nat)<=(140737488355328:Nat))
 (Let (s2258.fst++[r2262.fst]) fun (x2265:List Int)=>
 Let (IntKind.i64.wrap (s2258.snd.snd+(1:Int))) fun (x2266:Int)=>rec2257 (x2265,v2264,x2266)))
 fun (j2267:Int->Option (List Int × Int))=>
 Let (r2262.snd != (0:Int)) fun (x2268:Bool)=>if x2268=true then j2267 (6:Int) else j2267 s2258.snd.fst)
 else
 Let (s2258.snd.fst != (0:Int)) fun (x2269:Bool)=>
 if x2269=true then some ([],s2258.snd.fst) else some (s2258.fst,(0:Int)))
 fuel ([],(0:Int),(1:Int)))
 fuel (0:Int))
noncomputable def caromref52_vec (l0:(List Int)) (at1:Int):Option Vec:=
 Chk ((0:Int)<=at1/\at1<(↑l0.length:Int))
 (Let (ix l0 at1) fun (x2270:Int)=>
 Let (IntKind.i64.wrap (at1+(1:Int))) fun (x2271:Int)=>
 Chk ((0:Int)<=x2271/\x2271<(↑l0.length:Int))
 (Let (ix l0 x2271) fun (x2272:Int)=>some { X:=x2270,Y:=x2272:Vec }))
noncomputable def caromref52_ParseBody (fields0:(List (List UInt8))):Option (Body × Int):=
 Rx.Bind
 (caromref52_numbers fields0 #[(98:UInt8),(111:UInt8),(100:UInt8),(121:UInt8)].toList (19:Int) false
 [(14:Int),(15:Int),(16:Int),(17:Int)])
 fun (r2273:List Int × Int)=>
 Let (r2273.snd != (0:Int)) fun (x2274:Bool)=>
 if x2274=true then
 some
 ({ ID:=(0:Int),Kind:=(0:Int),Transform:={ Position:={ X:=(0:Int),Y:=(0:Int):Vec },Angle:=(0:Int):Transform },Velocity:={ X:=(0:Int),Y:=(0:Int):Vec },AngularVelocity:=(0:Int),Force:={ X:=(0:Int),Y:=(0:Int):Vec },Torque:=(0:Int),LinearDamping:=(0:Int),AngularDamping:=(0:Int),GravityScale:=(0:Int),Bullet:=false,FixedRotation:=false,NoSleep:=false,Asleep:=false,IdleSteps:=(0:Int),Fixtures:=[]:Body },
 r2273.snd)
 else
 Chk ((0:Int)<=(0:Int)/\(0:Int)<(↑(List.length r2273.fst):Int))
 (Let (ix r2273.fst (0:Int)) fun (x2275:Int)=>
 Chk ((0:Int)<=(1:Int)/\(1:Int)<(↑(List.length r2273.fst):Int))
 (Let (ix r2273.fst (1:Int)) fun (x2276:Int)=>
 Rx.Bind (caromref52_vec r2273.fst (2:Int)) fun (r2277:Vec)=>
 Chk ((0:Int)<=(4:Int)/\(4:Int)<(↑(List.length r2273.fst):Int))
 (Let (ix r2273.fst (4:Int)) fun (x2278:Int)=>
 Rx.Bind (caromref52_vec r2273.fst (5:Int)) fun (r2279:Vec)=>
 Chk ((0:Int)<=(7:Int)/\(7:Int)<(↑(List.length r2273.fst):Int))
 (Let (ix r2273.fst (7:Int)) fun (x2280:Int)=>
 Rx.Bind (caromref52_vec r2273.fst (8:Int)) fun (r2281:Vec)=>
 Chk ((0:Int)<=(10:Int)/\(10:Int)<(↑(List.length r2273.fst):Int))
 (Let (ix r2273.fst (10:Int)) fun (x2282:Int)=>
 Chk ((0:Int)<=(11:Int)/\(11:Int)<(↑(List.length r2273.fst):Int))
 (Let (ix r2273.fst (11:Int)) fun (x2283:Int)=>
 Chk ((0:Int)<=(12:Int)/\(12:Int)<(↑(List.length r2273.fst):Int))
 (Let (ix r2273.fst (12:Int)) fun (x2284:Int)=>
 Chk ((0:Int)<=(13:Int)/\(13:Int)<(↑(List.length r2273.fst):Int))
 (Let (ix r2273.fst (13:Int)) fun (x2285:Int)=>
 Chk ((0:Int)<=(14:Int)/\(14:Int)<(↑(List.length r2273.fst):Int))
 (Let (ix r2273.fst (14:Int)) fun (x2286:Int)=>
 Let (x2286==(1:Int)) fun (x2287:Bool)=>
 Chk ((0:Int)<=(15:Int)/\(15:Int)<(↑(List.length r2273.fst):Int))
 (Let (ix r2273.fst (15:Int)) fun (x2288:Int)=>
 Let (x2288==(1:Int)) fun (x2289:Bool)=>
 Chk ((0:Int)<=(16:Int)/\(16:Int)<(↑(List.length r2273.fst):Int))
 (Let (ix r2273.fst (16:Int)) fun (x2290:Int)=>
 Let (x2290==(1:Int)) fun (x2291:Bool)=>
 Chk ((0:Int)<=(17:Int)/\(17:Int)<(↑(List.length r2273.fst):Int))
 (Let (ix r2273.fst (17:Int)) fun (x2292:Int)=>
 Let (x2292==(1:Int)) fun (x2293:Bool)=>
 Chk ((0:Int)<=(18:Int)/\(18:Int)<(↑(List.length r2273.fst):Int))
 (Let (ix r2273.fst (18:Int)) fun (x2294:Int)=>
 some
 ({ ID:=x2275,Kind:=x2276,Transform:={ Position:=r2277,Angle:=x2278:Transform },Velocity:=r2279,AngularVelocity:=x2280,Force:=r2281,Torque:=x2282,LinearDamping:=x2283,AngularDamping:=x2284,GravityScale:=x2285,Bullet:=x2287,FixedRotation:=x2289,NoSleep:=x2291,Asleep:=x2293,IdleSteps:=x2294,Fixtures:=[]:Body },
 (0:Int)))))))))))))))
noncomputable def caromref52_ParseFixture (fields0:(List (List UInt8))):Option (Fixture × Int):=
 Rx.Bind
 (caromref52_numbers fields0
 #[(102:UInt8),(105:UInt8),(120:UInt8),(116:UInt8),(117:UInt8),(114:UInt8),(101:UInt8)].toList
 (9:Int) true [(3:Int)])
 fun (r2295:List Int × Int)=>
 Let (r2295.snd != (0:Int)) fun (x2296:Bool)=>
 if x2296=true then
 some
 ({ Shape:={ Kind:=(0:Int),Radius:=(0:Int),Vertices:=[]:Shape },Density:=(0:Int),Friction:=(0:Int),Restitution:=(0:Int),Sensor:=false,Category:=(0:Int),Mask:=(0:Int),Group:=(0:Int):Fixture },
 r2295.snd)
 else
 Chk ((0:Int)<=(0:Int)/\(0:Int)<(↑(List.length r2295.fst):Int))
 (Let (ix r2295.fst (0:Int)) fun (x2297:Int)=>
 Chk ((0:Int)<=(1:Int)/\(1:Int)<(↑(List.length r2295.fst):Int))
 (Let (ix r2295.fst (1:Int)) fun (x2298:Int)=>
 Chk ((0:Int)<=(2:Int)/\(2:Int)<(↑(List.length r2295.fst):Int))
 (Let (ix r2295.fst (2:Int)) fun (x2299:Int)=>
 Chk ((0:Int)<=(3:Int)/\(3:Int)<(↑(List.length r2295.fst):Int))
 (Let (ix r2295.fst (3:Int)) fun (x2300:Int)=>
 Let (x2300==(1:Int)) fun (x2301:Bool)=>
 Chk ((0:Int)<=(4:Int)/\(4:Int)<(↑(List.length r2295.fst):Int))
 (Let (ix r2295.fst (4:Int)) fun (x2302:Int)=>
 Chk ((0:Int)<=(5:Int)/\(5:Int)<(↑(List.length r2295.fst):Int))
 (Let (ix r2295.fst (5:Int)) fun (x2303:Int)=>
 Chk ((0:Int)<=(6:Int)/\(6:Int)<(↑(List.length r2295.fst):Int))
 (Let (ix r2295.fst (6:Int)) fun (x2304:Int)=>
 Chk ((0:Int)<=(7:Int)/\(7:Int)<(↑(List.length r2295.fst):Int))
 (Let (ix r2295.fst (7:Int)) fun (x2305:Int)=>
 Chk ((0:Int)<=(8:Int)/\(8:Int)<(↑(List.length r2295.fst):Int))
 (Let (ix r2295.fst (8:Int)) fun (x2306:Int)=>
 LOOP
 (fun (rec2307:Int × Fixture->Option (Fixture × Int)) (s2308:Int × Fixture)=>
 Let (↑(List.length r2295.fst):Int) fun (x2309:Int)=>
 Let (decide (s2308.fst<x2309)) fun (x2310:Bool)=>
 if x2310=true then
 Rx.Bind (caromref52_vec r2295.fst s2308.fst) fun (r2311:Vec)=>
 Chk ((s2308.snd.Shape.Vertices.length+[r2311].length)*(16:Nat)<=(140737488355328:Nat))
 (Let (s2308.snd.Shape.Vertices++[r2311]) fun (x2312:List Vec)=>
 Let (IntKind.i64.wrap (s2308.fst+(2:Int))) fun (x2313:Int)=>
 rec2307
 (x2313,
 { Shape:={ Kind:=s2308.snd.Shape.Kind,Radius:=s2308.snd.Shape.Radius,Vertices:=x2312:Shape },Density:=s2308.snd.Density,Friction:=s2308.snd.Friction,Restitution:=s2308.snd.Restitution,Sensor:=s2308.snd.Sensor,Category:=s2308.snd.Category,Mask:=s2308.snd.Mask,Group:=s2308.snd.Group:Fixture }))
 else some (s2308.snd,(0:Int)))
 fuel
 ((9:Int),
 { Shape:={ Kind:=x2305,Radius:=x2306,Vertices:=[]:Shape },Density:=x2297,Friction:=x2298,Restitution:=x2299,Sensor:=x2301,Category:=x2302,Mask:=x2303,Group:=x2304:Fixture }))))))))))
noncomputable def caromref52_ParseJoint (fields0:(List (List UInt8))):Option (Joint × Int):=
 Rx.Bind
 (caromref52_numbers fields0 #[(106:UInt8),(111:UInt8),(105:UInt8),(110:UInt8),(116:UInt8)].toList
 (24:Int) false [(11:Int),(14:Int),(19:Int)])
 fun (r2314:List Int × Int)=>
 Let (r2314.snd != (0:Int)) fun (x2315:Bool)=>
 if x2315=true then
 some
 ({ ID:=(0:Int),Kind:=(0:Int),BodyA:=(0:Int),BodyB:=(0:Int),AnchorA:={ X:=(0:Int),Y:=(0:Int):Vec },AnchorB:={ X:=(0:Int),Y:=(0:Int):Vec },Axis:={ X:=(0:Int),Y:=(0:Int):Vec },ReferenceAngle:=(0:Int),EnableLimit:=false,Lower:=(0:Int),Upper:=(0:Int),EnableMotor:=false,MotorSpeed:=(0:Int),MaxForce:=(0:Int),Softness:=(0:Int),BreakForce:=(0:Int),CollideConnected:=false,Impulses:=((0:Int),(0:Int),(0:Int),(0:Int)):Joint },
 r2314.snd)
 else
 Chk ((0:Int)<=(0:Int)/\(0:Int)<(↑(List.length r2314.fst):Int))
 (Let (ix r2314.fst (0:Int)) fun (x2316:Int)=>
 Chk ((0:Int)<=(1:Int)/\(1:Int)<(↑(List.length r2314.fst):Int))
 (Let (ix r2314.fst (1:Int)) fun (x2317:Int)=>
 Chk ((0:Int)<=(2:Int)/\(2:Int)<(↑(List.length r2314.fst):Int))
 (Let (ix r2314.fst (2:Int)) fun (x2318:Int)=>
 Chk ((0:Int)<=(3:Int)/\(3:Int)<(↑(List.length r2314.fst):Int))
 (Let (ix r2314.fst (3:Int)) fun (x2319:Int)=>
 Rx.Bind (caromref52_vec r2314.fst (4:Int)) fun (r2320:Vec)=>
 Rx.Bind (caromref52_vec r2314.fst (6:Int)) fun (r2321:Vec)=>
 Rx.Bind (caromref52_vec r2314.fst (8:Int)) fun (r2322:Vec)=>
 Chk ((0:Int)<=(10:Int)/\(10:Int)<(↑(List.length r2314.fst):Int))
 (Let (ix r2314.fst (10:Int)) fun (x2323:Int)=>
 Chk ((0:Int)<=(11:Int)/\(11:Int)<(↑(List.length r2314.fst):Int))
 (Let (ix r2314.fst (11:Int)) fun (x2324:Int)=>
 Let (x2324==(1:Int)) fun (x2325:Bool)=>
 Chk ((0:Int)<=(12:Int)/\(12:Int)<(↑(List.length r2314.fst):Int))
 (Let (ix r2314.fst (12:Int)) fun (x2326:Int)=>
 Chk ((0:Int)<=(13:Int)/\(13:Int)<(↑(List.length r2314.fst):Int))
 (Let (ix r2314.fst (13:Int)) fun (x2327:Int)=>
 Chk ((0:Int)<=(14:Int)/\(14:Int)<(↑(List.length r2314.fst):Int))
 (Let (ix r2314.fst (14:Int)) fun (x2328:Int)=>
 Let (x2328==(1:Int)) fun (x2329:Bool)=>
 Chk ((0:Int)<=(15:Int)/\(15:Int)<(↑(List.length r2314.fst):Int))
 (Let (ix r2314.fst (15:Int)) fun (x2330:Int)=>
 Chk ((0:Int)<=(16:Int)/\(16:Int)<(↑(List.length r2314.fst):Int))
 (Let (ix r2314.fst (16:Int)) fun (x2331:Int)=>
 Chk ((0:Int)<=(17:Int)/\(17:Int)<(↑(List.length r2314.fst):Int))
 (Let (ix r2314.fst (17:Int)) fun (x2332:Int)=>
 Chk ((0:Int)<=(18:Int)/\(18:Int)<(↑(List.length r2314.fst):Int))
 (Let (ix r2314.fst (18:Int)) fun (x2333:Int)=>
 Chk ((0:Int)<=(19:Int)/\(19:Int)<(↑(List.length r2314.fst):Int))
 (Let (ix r2314.fst (19:Int)) fun (x2334:Int)=>
 Let (x2334==(1:Int)) fun (x2335:Bool)=>
 Chk ((0:Int)<=(20:Int)/\(20:Int)<(↑(List.length r2314.fst):Int))
 (Let (ix r2314.fst (20:Int)) fun (x2336:Int)=>
 Chk ((0:Int)<=(21:Int)/\(21:Int)<(↑(List.length r2314.fst):Int))
 (Let (ix r2314.fst (21:Int)) fun (x2337:Int)=>
 Chk ((0:Int)<=(22:Int)/\(22:Int)<(↑(List.length r2314.fst):Int))
 (Let (ix r2314.fst (22:Int)) fun (x2338:Int)=>
 Chk ((0:Int)<=(23:Int)/\(23:Int)<(↑(List.length r2314.fst):Int))
 (Let (ix r2314.fst (23:Int)) fun (x2339:Int)=>
 some
 ({ ID:=x2316,Kind:=x2317,BodyA:=x2318,BodyB:=x2319,AnchorA:=r2320,AnchorB:=r2321,Axis:=r2322,ReferenceAngle:=x2323,EnableLimit:=x2325,Lower:=x2326,Upper:=x2327,EnableMotor:=x2329,MotorSpeed:=x2330,MaxForce:=x2331,Softness:=x2332,BreakForce:=x2333,CollideConnected:=x2335,Impulses:=(x2336,x2337,x2338,x2339):Joint },
 (0:Int))))))))))))))))))))
end GoForm
