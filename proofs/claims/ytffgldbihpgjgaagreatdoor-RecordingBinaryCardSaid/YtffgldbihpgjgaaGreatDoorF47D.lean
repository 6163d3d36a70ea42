/- The functions' plain forms. Printed by go3.py. No conditions. -/
import Derived.Test.YtffgldbihpgjgaaGreatDoorF47T
import Derived.Test.YtffgldbihpgjgaaGreatDoorF47E
set_option linter.all false
set_option maxRecDepth 100000
open Go Go.Rx Go.Proofs Go.RowKit
namespace GoForm
noncomputable def jbK (inputs0:(List Input)):Option Bool:=
 LOOP
 (fun (rec1:Int→Option Bool) (s2:Int)=>
 Let (↑inputs0.length:Int) fun x3=>
 Let (decide (s2<x3)) fun x4=>
 Let (decide (s2<(40:Int))) fun x5=>
 Let (bif x4 then x5 else false) fun x6=>
 if x6=true then
 Chk ((0:Int)≤s2∧s2<(↑inputs0.length:Int))
 (Let (ix inputs0 s2) fun x7=>
 LOOP
 (fun (rec8:Int→Option Bool) (s9:Int)=>
 Let (↑x7.Body.Fixtures.length:Int) fun x10=>
 Let (decide (s9<x10)) fun x11=>
 Let (decide (s9<(6:Int))) fun x12=>
 Let (bif x11 then x12 else false) fun x13=>
 if x13=true then
 Chk ((0:Int)≤s9∧s9<(↑x7.Body.Fixtures.length:Int))
 (Let (ix x7.Body.Fixtures s9) fun x14=>
 Let (↑x14.Shape.Vertices.length:Int) fun x15=>
 Let (decide (x15>(12:Int))) fun x16=>
 if x16=true then some false else Let (IntKind.i64.wrap (s9+(1:Int))) fun x17=>rec8 x17)
 else
 Let (↑x7.Body.Fixtures.length:Int) fun x18=>
 Let (decide (x18>(6:Int))) fun x19=>
 if x19=true then some false else Let (IntKind.i64.wrap (s2+(1:Int))) fun x20=>rec1 x20)
 fuel (0:Int))
 else Let (↑inputs0.length:Int) fun x21=>Let (decide (x21≤(40:Int))) fun x22=>some x22)
 fuel (0:Int)
noncomputable def jcf (r0:(List (List Input))):Option Bool:=
 LOOP
 (fun (rec23:Int × Int→Option Bool) (s24:Int × Int)=>
 Let (↑r0.length:Int) fun x25=>
 Let (decide (s24.snd<x25)) fun x26=>
 Let (decide (s24.snd<(5000:Int))) fun x27=>
 Let (bif x26 then x27 else false) fun x28=>
 if x28=true then
 Chk ((0:Int)≤s24.snd∧s24.snd<(↑r0.length:Int))
 (Let (ix r0 s24.snd) fun x29=>
 Let (↑x29.length:Int) fun x30=>
 Let (IntKind.i64.wrap (s24.fst+x30)) fun x31=>
 Let (decide (x31>(100:Int))) fun x32=>
 Chk ((x32==false)=true→(0:Int)≤s24.snd∧s24.snd<(↑r0.length:Int))
 (Let (ix r0 s24.snd) fun x33=>
 Rx.Bind (if (x32==false)=true then jbK x33 else some default) fun r34=>
 Let (!r34) fun x35=>
 Let (bif x32 then true else x35) fun x36=>
 if x36=true then some false else Let (IntKind.i64.wrap (s24.snd+(1:Int))) fun x37=>rec23 (x31,x37)))
 else Let (↑r0.length:Int) fun x38=>Let (decide (x38≤(5000:Int))) fun x39=>some x39)
 fuel ((0:Int),(0:Int))
noncomputable def jea  : Option Input:=
 some
 {Kind:=(1:Int),ID:=(3:Int),Vec:={X:=(65536:Int),Y:=(0:Int):Vec},Value:=(0:Int),Body:={ID:=(0:Int),Kind:=(0:Int),Transform:={Position:={X:=(0:Int),Y:=(0:Int):Vec},Angle:=(0:Int):Transform},Velocity:={X:=(0:Int),Y:=(0:Int):Vec},AngularVelocity:=(0:Int),Force:={X:=(0:Int),Y:=(0:Int):Vec},Torque:=(0:Int),LinearDamping:=(0:Int),AngularDamping:=(0:Int),GravityScale:=(0:Int),Bullet:=false,FixedRotation:=false,NoSleep:=false,Asleep:=false,IdleSteps:=(0:Int),Fixtures:=[]:Body},Joint:={ID:=(0:Int),Kind:=(0:Int),BodyA:=(0:Int),BodyB:=(0:Int),AnchorA:={X:=(0:Int),Y:=(0:Int):Vec},AnchorB:={X:=(0:Int),Y:=(0:Int):Vec},Axis:={X:=(0:Int),Y:=(0:Int):Vec},ReferenceAngle:=(0:Int),EnableLimit:=false,Lower:=(0:Int),Upper:=(0:Int),EnableMotor:=false,MotorSpeed:=(0:Int),MaxForce:=(0:Int),Softness:=(0:Int),BreakForce:=(0:Int),CollideConnected:=false,Impulses:=((0:Int),(0:Int),(0:Int),(0:Int)):Joint}:Input}
noncomputable def jbe (k0:Int):Option (Bool × Bool × Bool):=
 Join
 (fun (v40:Bool)=>
 if v40=true then some (true,true,false)
 else
 Join
 (fun (v41:Bool)=>
 if v41=true then some (true,false,true)
 else
 Join
 (fun (v42:Bool)=>
 if v42=true then some (true,true,true)
 else
 Join (fun (v43:Bool)=>if v43=true then some (true,false,false) else some (false,false,false))
 fun (j44:Bool→Option (Bool × Bool × Bool))=>
 Let (k0==(6:Int)) fun x45=>
 if x45=true then j44 x45
 else
 Let (k0==(10:Int)) fun x46=>
 if x46=true then j44 x46 else Let (k0==(12:Int)) fun x47=>j44 x47)
 fun (j48:Bool→Option (Bool × Bool × Bool))=>
 Let (k0==(4:Int)) fun x49=>
 if x49=true then j48 x49 else Let (k0==(5:Int)) fun x50=>j48 x50)
 fun (j51:Bool→Option (Bool × Bool × Bool))=>
 Let (k0==(3:Int)) fun x52=>
 if x52=true then j51 x52 else Let (k0==(8:Int)) fun x53=>j51 x53)
 fun (j54:Bool→Option (Bool × Bool × Bool))=>
 Let (k0==(1:Int)) fun x55=>
 if x55=true then j54 x55
 else
 Let (k0==(2:Int)) fun x56=>
 if x56=true then j54 x56 else Let (k0==(7:Int)) fun x57=>j54 x57
noncomputable def jbB (n0:Int):Option Bool:=
 Let (decide (n0≥(-536870911:Int))) fun x58=>
 Let (decide (n0≤(536870911:Int))) fun x59=>Let (bif x58 then x59 else false) fun x60=>some x60
noncomputable def jd4 (s10:(List Vec)) (s21:(List Vec)):Option Bool:=
 Let (↑s10.length:Int) fun x61=>
 Let (↑s21.length:Int) fun x62=>
 Let (x61 != x62) fun x63=>
 if x63=true then some false
 else
 Let (↑s10.length:Int) fun x64=>
 LOOP
 (fun (rec65:Int→Option Bool) (s66:Int)=>
 Let (decide (s66<x64)) fun x67=>
 if x67=true then
 Chk ((0:Int)≤s66∧s66<(↑s10.length:Int))
 (Let (ix s10 s66) fun x68=>
 Chk ((0:Int)≤s66∧s66<(↑s21.length:Int))
 (Let (ix s21 s66) fun x69=>
 Let (!(decide (x68.X=x69.X)&&decide (x68.Y=x69.Y))) fun x70=>
 if x70=true then some false else Let (IntKind.i64.wrap (s66+(1:Int))) fun x71=>rec65 x71))
 else some true)
 fuel (0:Int)
noncomputable def jeC (a0:Shape) (b1:Shape):Option Bool:=
 Let (a0.Kind==b1.Kind) fun x72=>
 Let (a0.Radius==b1.Radius) fun x73=>
 Let (bif x72 then x73 else false) fun x74=>
 Rx.Bind (if (x74==true)=true then jd4 a0.Vertices b1.Vertices else some default) fun r75=>
 Let (bif x74 then r75 else false) fun x76=>some x76
noncomputable def jco (a0:Fixture) (b1:Fixture):Option Bool:=
 Let (a0.Density==b1.Density) fun x77=>
 Let (a0.Friction==b1.Friction) fun x78=>
 Let (bif x77 then x78 else false) fun x79=>
 Let (a0.Restitution==b1.Restitution) fun x80=>
 Let (bif x79 then x80 else false) fun x81=>
 Let (a0.Sensor==b1.Sensor) fun x82=>
 Let (a0.Category==b1.Category) fun x83=>
 Let (bif x82 then x83 else false) fun x84=>
 Let (a0.Mask==b1.Mask) fun x85=>
 Let (bif x84 then x85 else false) fun x86=>
 Let (a0.Group==b1.Group) fun x87=>
 Let (bif x86 then x87 else false) fun x88=>
 Rx.Bind (jeC a0.Shape b1.Shape) fun r89=>
 Let (bif r89 then x81 else false) fun x90=>Let (bif x90 then x88 else false) fun x91=>some x91
noncomputable def jde (a0:Body) (b1:Body):Option Bool:=
 Let (↑a0.Fixtures.length:Int) fun x92=>
 Let (↑b1.Fixtures.length:Int) fun x93=>
 Let (x92 != x93) fun x94=>
 if x94=true then some false
 else
 Let (↑a0.Fixtures.length:Int) fun x95=>
 LOOP
 (fun (rec96:Int→Option Bool) (s97:Int)=>
 Let (decide (s97<x95)) fun x98=>
 if x98=true then
 Chk ((0:Int)≤s97∧s97<(↑a0.Fixtures.length:Int))
 (Let (ix a0.Fixtures s97) fun x99=>
 Chk ((0:Int)≤s97∧s97<(↑b1.Fixtures.length:Int))
 (Let (ix b1.Fixtures s97) fun x100=>
 Rx.Bind (jco x99 x100) fun r101=>
 Let (!r101) fun x102=>
 if x102=true then some false else Let (IntKind.i64.wrap (s97+(1:Int))) fun x103=>rec96 x103))
 else
 Let (a0.ID==b1.ID) fun x104=>
 Let (a0.Kind==b1.Kind) fun x105=>
 Let (bif x104 then x105 else false) fun x106=>
 Let
 (decide (a0.Transform.Position.X=b1.Transform.Position.X)&&
 decide (a0.Transform.Position.Y=b1.Transform.Position.Y)&&
 decide (a0.Transform.Angle=b1.Transform.Angle))
 fun x107=>
 Let (bif x106 then x107 else false) fun x108=>
 Let (decide (a0.Velocity.X=b1.Velocity.X)&&decide (a0.Velocity.Y=b1.Velocity.Y)) fun x109=>
 Let (a0.AngularVelocity==b1.AngularVelocity) fun x110=>
 Let (bif x109 then x110 else false) fun x111=>
 Let (decide (a0.Force.X=b1.Force.X)&&decide (a0.Force.Y=b1.Force.Y)) fun x112=>
 Let (a0.Torque==b1.Torque) fun x113=>
 Let (bif x112 then x113 else false) fun x114=>
 Let (a0.LinearDamping==b1.LinearDamping) fun x115=>
 Let (a0.AngularDamping==b1.AngularDamping) fun x116=>
 Let (bif x115 then x116 else false) fun x117=>
 Let (a0.GravityScale==b1.GravityScale) fun x118=>
 Let (bif x117 then x118 else false) fun x119=>
 Let (a0.Bullet==b1.Bullet) fun x120=>
 Let (a0.FixedRotation==b1.FixedRotation) fun x121=>
 Let (bif x120 then x121 else false) fun x122=>
 Let (a0.NoSleep==b1.NoSleep) fun x123=>
 Let (bif x122 then x123 else false) fun x124=>
 Let (a0.Asleep==b1.Asleep) fun x125=>
 Let (a0.IdleSteps==b1.IdleSteps) fun x126=>
 Let (bif x125 then x126 else false) fun x127=>
 Let (bif x108 then x111 else false) fun x128=>
 Let (bif x128 then x114 else false) fun x129=>
 Let (bif x129 then x119 else false) fun x130=>
 Let (bif x130 then x124 else false) fun x131=>
 Let (bif x131 then x127 else false) fun x132=>some x132)
 fuel (0:Int)
noncomputable def jci (x0:Input):Option Int:=
 Let (decide (x0.Kind<(1:Int))) fun x133=>
 Let (decide (x0.Kind>(12:Int))) fun x134=>
 Let (bif x133 then true else x134) fun x135=>
 if x135=true then some (10:Int)
 else
 Rx.Bind (jbe x0.Kind) fun r136=>
 Join
 (fun (v137:Bool)=>
 if v137=true then some (6:Int)
 else
 Join (fun (v138:Bool)=>if v138=true then some (3:Int) else some (0:Int)) fun (j139:Bool→Option Int)=>
 Let (!r136.fst) fun x140=>
 Let (x0.ID != (0:Int)) fun x141=>
 Let (bif x140 then x141 else false) fun x142=>
 if x142=true then j139 x142
 else
 Let (!r136.snd.fst) fun x143=>
 Let (!(decide (x0.Vec.X=(0:Int))&&decide (x0.Vec.Y=(0:Int)))) fun x144=>
 Let (bif x143 then x144 else false) fun x145=>
 if x145=true then j139 x145
 else
 Let (!r136.snd.snd) fun x146=>
 Let (x0.Value != (0:Int)) fun x147=>
 Let (bif x146 then x147 else false) fun x148=>
 if x148=true then j139 x148
 else
 Let (x0.Kind != (9:Int)) fun x149=>
 Rx.Bind
 (if (x149==true)=true then
 jde x0.Body
 {ID:=(0:Int),Kind:=(0:Int),Transform:={Position:={X:=(0:Int),Y:=(0:Int):Vec},Angle:=(0:Int):Transform},Velocity:={X:=(0:Int),Y:=(0:Int):Vec},AngularVelocity:=(0:Int),Force:={X:=(0:Int),Y:=(0:Int):Vec},Torque:=(0:Int),LinearDamping:=(0:Int),AngularDamping:=(0:Int),GravityScale:=(0:Int),Bullet:=false,FixedRotation:=false,NoSleep:=false,Asleep:=false,IdleSteps:=(0:Int),Fixtures:=[]:Body}
 else some default)
 fun r150=>
 Let (!r150) fun x151=>
 Let (bif x149 then x151 else false) fun x152=>
 if x152=true then j139 x152
 else
 Let (x0.Kind != (11:Int)) fun x153=>
 Let
 (!(decide (x0.Joint.ID=(0:Int))&&
 (decide (x0.Joint.Kind=(0:Int))&&
 (decide (x0.Joint.BodyA=(0:Int))&&
 (decide (x0.Joint.BodyB=(0:Int))&&
 (decide (x0.Joint.AnchorA.X=(0:Int))&&decide (x0.Joint.AnchorA.Y=(0:Int))&&
 (decide (x0.Joint.AnchorB.X=(0:Int))&&decide (x0.Joint.AnchorB.Y=(0:Int))&&
 (decide (x0.Joint.Axis.X=(0:Int))&&decide (x0.Joint.Axis.Y=(0:Int))&&
 (decide (x0.Joint.ReferenceAngle=(0:Int))&&
 (decide (x0.Joint.EnableLimit=false)&&
 (decide (x0.Joint.Lower=(0:Int))&&
 (decide (x0.Joint.Upper=(0:Int))&&
 (decide (x0.Joint.EnableMotor=false)&&
 (decide (x0.Joint.MotorSpeed=(0:Int))&&
 (decide (x0.Joint.MaxForce=(0:Int))&&
 (decide (x0.Joint.Softness=(0:Int))&&
 (decide (x0.Joint.BreakForce=(0:Int))&&
 (decide (x0.Joint.CollideConnected=false)&&
 (decide (x0.Joint.Impulses.fst=(0:Int))&&
 (decide (x0.Joint.Impulses.snd.fst=(0:Int))&&
 (decide (x0.Joint.Impulses.snd.snd.fst=(0:Int))&&
 decide (x0.Joint.Impulses.snd.snd.snd=(0:Int)))))))))))))))))))))))
 fun x154=>Let (bif x153 then x154 else false) fun x155=>j139 x155)
 fun (j156:Bool→Option Int)=>
 Let (decide (x0.ID<(1:Int))) fun x157=>
 Let (decide (x0.ID>(1099511627776:Int))) fun x158=>
 Let (bif x157 then true else x158) fun x159=>
 Let (bif r136.fst then x159 else false) fun x160=>
 if x160=true then j156 x160
 else
 Rx.Bind (if (r136.snd.fst==true)=true then jbB x0.Vec.X else some default) fun r161=>
 Let (!r161) fun x162=>
 Rx.Bind (if (r136.snd.fst==true&&x162==false)=true then jbB x0.Vec.Y else some default)
 fun r163=>
 Let (!r163) fun x164=>
 Let (bif x162 then true else x164) fun x165=>
 Let (bif r136.snd.fst then x165 else false) fun x166=>
 if x166=true then j156 x166
 else
 Rx.Bind (if (r136.snd.snd==true)=true then jbB x0.Value else some default) fun r167=>
 Let (!r167) fun x168=>Let (bif r136.snd.snd then x168 else false) fun x169=>j156 x169
noncomputable def jaP (inputs0:(List Input)):Option Bool:=
 Let (↑inputs0.length:Int) fun x170=>
 LOOP
 (fun (rec171:Int→Option Bool) (s172:Int)=>
 Let (decide (s172<x170)) fun x173=>
 if x173=true then
 Chk ((0:Int)≤s172∧s172<(↑inputs0.length:Int))
 (Let (ix inputs0 s172) fun x174=>
 Rx.Bind (jci x174) fun r175=>
 Let (r175 != (0:Int)) fun x176=>
 if x176=true then some false else Let (IntKind.i64.wrap (s172+(1:Int))) fun x177=>rec171 x177)
 else some true)
 fuel (0:Int)
noncomputable def jas (r0:(List (List Input))):Option Int:=
 Let (↑r0.length:Int) fun x178=>
 Let (decide (x178>(4096:Int))) fun x179=>
 if x179=true then some (11:Int)
 else
 Let (↑r0.length:Int) fun x180=>
 LOOP
 (fun (rec181:Int→Option Int) (s182:Int)=>
 Let (decide (s182<x180)) fun x183=>
 if x183=true then
 Chk ((0:Int)≤s182∧s182<(↑r0.length:Int))
 (Let (ix r0 s182) fun x184=>
 Let (↑x184.length:Int) fun x185=>
 Let (decide (x185>(32:Int))) fun x186=>
 if x186=true then some (11:Int) else Let (IntKind.i64.wrap (s182+(1:Int))) fun x187=>rec181 x187)
 else
 Let (↑r0.length:Int) fun x188=>
 LOOP
 (fun (rec189:Int→Option Int) (s190:Int)=>
 Let (decide (s190<x188)) fun x191=>
 if x191=true then
 Chk ((0:Int)≤s190∧s190<(↑r0.length:Int))
 (Let (ix r0 s190) fun x192=>
 Rx.Bind (jaP x192) fun r193=>
 Let (!r193) fun x194=>
 if x194=true then some (20:Int) else Let (IntKind.i64.wrap (s190+(1:Int))) fun x195=>rec189 x195)
 else some (0:Int))
 fuel (0:Int))
 fuel (0:Int)
noncomputable def jgV (s0:(List Vec)):Option (List Vec):=
 Rx.Alike (s0=[]) (some []) (Chk (s0.length*(16:Nat)≤(140737488355328:Nat)) (some s0))
noncomputable def jhD (s0:Shape):Option Shape:=
 Rx.Bind (jgV s0.Vertices) fun r196=>
 some {Kind:=s0.Kind,Radius:=s0.Radius,Vertices:=r196:Shape}
noncomputable def jiI (b0:Body):Option Body:=
 Let (↑b0.Fixtures.length:Int) fun x197=>
 LOOP
 (fun (rec198:List Fixture × Int→Option Body) (s199:List Fixture × Int)=>
 Let (decide (s199.snd<x197)) fun x200=>
 if x200=true then
 Chk ((0:Int)≤s199.snd∧s199.snd<(↑b0.Fixtures.length:Int))
 (Let (ix b0.Fixtures s199.snd) fun x201=>
 Rx.Bind (jhD x201.Shape) fun r202=>
 Chk
 ((List.length s199.fst+
 [{Shape:=r202,Density:=x201.Density,Friction:=x201.Friction,Restitution:=x201.Restitution,Sensor:=x201.Sensor,Category:=x201.Category,Mask:=x201.Mask,Group:=x201.Group:Fixture}].length)*
 (96:Nat)≤
 (140737488355328:Nat))
 (Let
 (s199.fst++
 [{Shape:=r202,Density:=x201.Density,Friction:=x201.Friction,Restitution:=x201.Restitution,Sensor:=x201.Sensor,Category:=x201.Category,Mask:=x201.Mask,Group:=x201.Group:Fixture}])
 fun x203=>Let (IntKind.i64.wrap (s199.snd+(1:Int))) fun x204=>rec198 (x203,x204)))
 else
 some
 {ID:=b0.ID,Kind:=b0.Kind,Transform:=b0.Transform,Velocity:=b0.Velocity,AngularVelocity:=b0.AngularVelocity,Force:=b0.Force,Torque:=b0.Torque,LinearDamping:=b0.LinearDamping,AngularDamping:=b0.AngularDamping,GravityScale:=b0.GravityScale,Bullet:=b0.Bullet,FixedRotation:=b0.FixedRotation,NoSleep:=b0.NoSleep,Asleep:=b0.Asleep,IdleSteps:=b0.IdleSteps,Fixtures:=s199.fst:Body})
 fuel ([],(0:Int))
noncomputable def jbE (x0:Input):Option Input:=
 Rx.Bind (jiI x0.Body) fun r205=>
 some {Kind:=x0.Kind,ID:=x0.ID,Vec:=x0.Vec,Value:=x0.Value,Body:=r205,Joint:=x0.Joint:Input}
noncomputable def jct (inputs0:(List Input)):Option (List Input):=
 Let (↑inputs0.length:Int) fun x206=>
 LOOP
 (fun (rec207:List Input × Int→Option (List Input)) (s208:List Input × Int)=>
 Let (decide (s208.snd<x206)) fun x209=>
 if x209=true then
 Chk ((0:Int)≤s208.snd∧s208.snd<(↑inputs0.length:Int))
 (Let (ix inputs0 s208.snd) fun x210=>
 Rx.Bind (jbE x210) fun r211=>
 Chk ((List.length s208.fst+[r211].length)*(384:Nat)≤(140737488355328:Nat))
 (Let (s208.fst++[r211]) fun x212=>
 Let (IntKind.i64.wrap (s208.snd+(1:Int))) fun x213=>rec207 (x212,x213)))
 else some s208.fst)
 fuel ([],(0:Int))
noncomputable def ja8 (r0:(List (List Input))) (frame1:Int):Option (List Input):=
 Let (decide (frame1<(0:Int))) fun x214=>
 Let (↑r0.length:Int) fun x215=>
 Let (decide (frame1≥x215)) fun x216=>
 Let (bif x214 then true else x216) fun x217=>
 if x217=true then some []
 else
 Chk ((0:Int)≤frame1∧frame1<(↑r0.length:Int))
 (Let (ix r0 frame1) fun x218=>
 Rx.Bind (jct x218) fun r219=>some r219)
noncomputable def je8 (r0:(List (List Input))):Option (List (List Input)):=
 Let (↑r0.length:Int) fun x220=>
 LOOP
 (fun (rec221:List (List Input) × Int→Option (List (List Input))) (s222:List (List Input) × Int)=>
 Let (decide (s222.snd<x220)) fun x223=>
 if x223=true then
 Chk ((0:Int)≤s222.snd∧s222.snd<(↑r0.length:Int))
 (Let (ix r0 s222.snd) fun x224=>
 Rx.Bind (jct x224) fun r225=>
 Chk ((List.length s222.fst+[r225].length)*(24:Nat)≤(140737488355328:Nat))
 (Let (s222.fst++[r225]) fun x226=>
 Let (IntKind.i64.wrap (s222.snd+(1:Int))) fun x227=>rec221 (x226,x227)))
 else some s222.fst)
 fuel ([],(0:Int))
noncomputable def jdu (r0:(List (List Input))) (frame1:Int) (inputs2:(List Input)):Option ((List (List Input)) × Int):=
 jgz jas jaP ja8 jbE r0 frame1 inputs2
noncomputable def jdf (k0:Int):Option (List UInt8):=
 Let (k0==(1:Int)) fun x228=>
 if x228=true then
 some #[(105:UInt8),(109:UInt8),(112:UInt8),(117:UInt8),(108:UInt8),(115:UInt8),(101:UInt8)].toList
 else
 Let (k0==(2:Int)) fun x229=>
 if x229=true then some #[(102:UInt8),(111:UInt8),(114:UInt8),(99:UInt8),(101:UInt8)].toList
 else
 Let (k0==(3:Int)) fun x230=>
 if x230=true then
 some
 #[(97:UInt8),(110:UInt8),(103:UInt8),(117:UInt8),(108:UInt8),(97:UInt8),(114:UInt8),(45:UInt8),
 (105:UInt8),(109:UInt8),(112:UInt8),(117:UInt8),(108:UInt8),(115:UInt8),(101:UInt8)].toList
 else
 Let (k0==(4:Int)) fun x231=>
 if x231=true then
 some
 #[(116:UInt8),(114:UInt8),(97:UInt8),(110:UInt8),(115:UInt8),(102:UInt8),(111:UInt8),(114:UInt8),
 (109:UInt8)].toList
 else
 Let (k0==(5:Int)) fun x232=>
 if x232=true then
 some
 #[(118:UInt8),(101:UInt8),(108:UInt8),(111:UInt8),(99:UInt8),(105:UInt8),(116:UInt8),
 (121:UInt8)].toList
 else
 Let (k0==(6:Int)) fun x233=>
 if x233=true then some #[(119:UInt8),(97:UInt8),(107:UInt8),(101:UInt8)].toList
 else
 Let (k0==(7:Int)) fun x234=>
 if x234=true then
 some #[(116:UInt8),(97:UInt8),(114:UInt8),(103:UInt8),(101:UInt8),(116:UInt8)].toList
 else
 Let (k0==(8:Int)) fun x235=>
 if x235=true then
 some
 #[(109:UInt8),(111:UInt8),(116:UInt8),(111:UInt8),(114:UInt8),(45:UInt8),(115:UInt8),(112:UInt8),
 (101:UInt8),(101:UInt8),(100:UInt8)].toList
 else
 Let (k0==(10:Int)) fun x236=>
 if x236=true then
 some
 #[(114:UInt8),(101:UInt8),(109:UInt8),(111:UInt8),(118:UInt8),(101:UInt8),(45:UInt8),(98:UInt8),
 (111:UInt8),(100:UInt8),(121:UInt8)].toList
 else
 Let (k0==(12:Int)) fun x237=>
 if x237=true then
 some
 #[(114:UInt8),(101:UInt8),(109:UInt8),(111:UInt8),(118:UInt8),(101:UInt8),(45:UInt8),(106:UInt8),
 (111:UInt8),(105:UInt8),(110:UInt8),(116:UInt8)].toList
 else some #[].toList
noncomputable def jcK (n0:Int):Option (List UInt8):=
 Let (IntKind.u64.wrap n0) fun x238=>
 Join
 (fun (v239:Int)=>
 LOOP
 (fun (rec240:Int × Int × List UInt8→Option (List UInt8)) (s241:Int × Int × List UInt8)=>
 Let (IntKind.i64.wrap (s241.snd.fst - (1:Int))) fun x242=>
 Let (Int.tmod s241.fst (10:Int)) fun x243=>
 Let (IntKind.u64.wrap ((48:Int)+x243)) fun x244=>
 Let (jat x244) fun x245=>
 Chk ((0:Int)≤x242∧x242<(↑(20:Nat):Int))
 (Chk ((0:Int)≤x242∧x242<(↑(List.length s241.snd.snd):Int))
 (Let (List.set s241.snd.snd x242.toNat x245) fun x246=>
 Let (IntKind.u64.wrap (Int.tdiv s241.fst (10:Int))) fun x247=>
 Let (x247==(0:Int)) fun x248=>
 if x248=true then
 Join
 (fun (v249:Int × List UInt8)=>
 Chk
 ((0:Int)≤(some v249.fst).getD (0:Int)∧
 (0:Int)≤none.getD (0:Int)∧
 Int.toNat v249.fst≤(20:Nat)∧(20:Nat)≤(20:Nat)∧(20:Nat)≤List.length v249.snd)
 (Chk (Int.toNat v249.fst+((20:Nat) - Int.toNat v249.fst)≤List.length v249.snd)
 (some (List.take ((20:Nat) - Int.toNat v249.fst) (List.drop (Int.toNat v249.fst) v249.snd)))))
 fun (j250:Int × List UInt8→Option (List UInt8))=>
 Let (decide (n0<(0:Int))) fun x251=>
 if x251=true then
 Let (IntKind.i64.wrap (x242 - (1:Int))) fun x252=>
 Chk ((0:Int)≤x252∧x252<(↑(20:Nat):Int))
 (Chk ((0:Int)≤x252∧x252<(↑x246.length:Int))
 (Let (x246.set x252.toNat (jat (45:Int))) fun x253=>j250 (x252,x253)))
 else j250 (x242,x246)
 else rec240 (x247,x242,x246))))
 fuel
 (v239,(20:Int),
 [jat (0:Int),jat (0:Int),jat (0:Int),jat (0:Int),jat (0:Int),jat (0:Int),
 jat (0:Int),jat (0:Int),jat (0:Int),jat (0:Int),jat (0:Int),jat (0:Int),
 jat (0:Int),jat (0:Int),jat (0:Int),jat (0:Int),jat (0:Int),jat (0:Int),
 jat (0:Int),jat (0:Int)]))
 fun (j254:Int→Option (List UInt8))=>
 Let (decide (n0<(0:Int))) fun x255=>
 if x255=true then Let (IntKind.u64.wrap ((0:Int) - x238)) fun x256=>j254 x256 else j254 x238
noncomputable def jcl (x0:Int):Option (List UInt8):=
 Let (x0 != (0:Int)) fun x257=>
 Let (x0.tmod (65536:Int)) fun x258=>
 Let (x258==(0:Int)) fun x259=>
 Let (bif x257 then x259 else false) fun x260=>
 if x260=true then
 Let (IntKind.i64.wrap (x0.tdiv (65536:Int))) fun x261=>
 Rx.Bind (jcK x261) fun r262=>
 Chk (r262.length+(1:Nat)≤(9223372036854775807:Nat))
 (Let (r262++#[(117:UInt8)].toList) fun x263=>some x263)
 else Rx.Bind (jcK x0) fun r264=>some r264
noncomputable def strings_Join (elems0:(List (List UInt8))) (sep1:(List UInt8)):Option (List UInt8):=
 joinS elems0 sep1
noncomputable def jeu (fields0:(List (List UInt8))):Option (List UInt8):=
 Rx.Bind (strings_Join fields0 #[(32:UInt8)].toList) fun r265=>some r265
noncomputable def jdn (x0:Input):Option (List UInt8):=
 Rx.Bind (jdf x0.Kind) fun r266=>
 Rx.Bind (jcK x0.ID) fun r267=>
 Rx.Bind (jbe x0.Kind) fun r268=>
 Join
 (fun (v269:List (List UInt8))=>
 Join (fun (v270:List (List UInt8))=>Rx.Bind (jeu v270) fun r271=>some r271)
 fun (j272:List (List UInt8)→Option (List UInt8))=>
 if r268.snd.snd=true then
 Rx.Bind (jcl x0.Value) fun r273=>
 Chk ((v269.length+[r273].length)*(16:Nat)≤(140737488355328:Nat))
 (Let (v269++[r273]) fun x274=>j272 x274)
 else j272 v269)
 fun (j275:List (List UInt8)→Option (List UInt8))=>
 if r268.snd.fst=true then
 Rx.Bind (jcl x0.Vec.X) fun r276=>
 Rx.Bind (jcl x0.Vec.Y) fun r277=>
 Chk (([r266,r267].length+[r276,r277].length)*(16:Nat)≤(140737488355328:Nat))
 (Let ([r266,r267]++[r276,r277]) fun x278=>j275 x278)
 else j275 [r266,r267]
noncomputable def jeV (r0:(List (List Input))):Option ((List UInt8) × Int):=
 Rx.Bind (jas r0) fun r279=>
 Let (r279 != (0:Int)) fun x280=>
 if x280=true then some (#[].toList,(25:Int))
 else
 Let (↑r0.length:Int) fun x281=>
 LOOP
 (fun (rec282:List UInt8 × Int→Option (List UInt8 × Int)) (s283:List UInt8 × Int)=>
 Let (decide (s283.snd<x281)) fun x284=>
 if x284=true then
 Chk ((0:Int)≤s283.snd∧s283.snd<(↑r0.length:Int))
 (Let (ix r0 s283.snd) fun x285=>
 Chk (List.length s283.fst+(6:Nat)≤(9223372036854775807:Nat))
 (Let (s283.fst++#[(102:UInt8),(114:UInt8),(97:UInt8),(109:UInt8),(101:UInt8),(10:UInt8)].toList)
 fun x286=>
 Let (↑x285.length:Int) fun x287=>
 LOOP
 (fun (rec288:List UInt8 × Int→Option (List UInt8 × Int)) (s289:List UInt8 × Int)=>
 Let (decide (s289.snd<x287)) fun x290=>
 if x290=true then
 Chk ((0:Int)≤s289.snd∧s289.snd<(↑x285.length:Int))
 (Let (ix x285 s289.snd) fun x291=>
 Rx.Bind (jdf x291.Kind) fun r292=>
 Let (r292==#[].toList) fun x293=>
 if x293=true then some (#[].toList,(25:Int))
 else
 Rx.Bind (jdn x291) fun r294=>
 Chk (r294.length+(1:Nat)≤(9223372036854775807:Nat))
 (Let (r294++#[(10:UInt8)].toList) fun x295=>
 Chk (List.length s289.fst+x295.length≤(9223372036854775807:Nat))
 (Let (s289.fst++x295) fun x296=>
 Let (IntKind.i64.wrap (s289.snd+(1:Int))) fun x297=>rec288 (x296,x297))))
 else Let (IntKind.i64.wrap (s283.snd+(1:Int))) fun x298=>rec282 (s289.fst,x298))
 fuel (x286,(0:Int))))
 else some (s283.fst,(0:Int)))
 fuel (#[].toList,(0:Int))
noncomputable def jdk (s0:(List UInt8)) (suffix1:(List UInt8)):Option Bool:=
 Let (↑s0.length:Int) fun x299=>
 Let (↑suffix1.length:Int) fun x300=>
 Let (decide (x299≥x300)) fun x301=>
 Let (↑s0.length:Int) fun x302=>
 Let (↑suffix1.length:Int) fun x303=>
 Let (IntKind.i64.wrap (x302 - x303)) fun x304=>
 Chk ((x301==true)=true→(0:Int)≤x304∧x304≤(↑s0.length:Int))
 (Let (List.drop x304.toNat s0) fun x305=>
 Let (x305==suffix1) fun x306=>Let (bif x301 then x306 else false) fun x307=>some x307)
noncomputable def jdl (s0:(List UInt8)) (suffix1:(List UInt8)):Option ((List UInt8) × Bool):=
 Rx.Bind (jdk s0 suffix1) fun r308=>
 Let (!r308) fun x309=>
 if x309=true then some (s0,false)
 else
 Let (↑s0.length:Int) fun x310=>
 Let (↑suffix1.length:Int) fun x311=>
 Let (IntKind.i64.wrap (x310 - x311)) fun x312=>
 Chk ((0:Int)≤x312∧x312≤(↑s0.length:Int))
 (Let (List.take x312.toNat s0) fun x313=>some (x313,true))
noncomputable def jem (s0:(List UInt8)) (suffix1:(List UInt8)):Option ((List UInt8) × Bool):=
 Rx.Bind (jdl s0 suffix1) fun r314=>some r314
noncomputable def je5 (s0:(List UInt8)) (n1:Int):Option (List (List UInt8)):=
 none
noncomputable def jf5 (s0:(List UInt8)) (substr1:(List UInt8)):Option Int:=
 joa s0 substr1
noncomputable def jf4 (s0:(List UInt8)) (substr1:(List UInt8)):Option Int:=
 jnK s0 substr1
noncomputable def jeU (s0:(List UInt8)) (sep1:(List UInt8)) (sepSave2:Int) (n3:Int):Option (List (List UInt8)):=
 Let (n3==(0:Int)) fun x315=>
 if x315=true then some []
 else
 Let (sep1==#[].toList) fun x316=>
 if x316=true then Rx.Bind (je5 s0 n3) fun r317=>some r317
 else
 Join
 (fun (v318:Int)=>
 Let (↑s0.length:Int) fun x319=>
 Let (IntKind.i64.wrap (x319+(1:Int))) fun x320=>
 Let (min v318 x320) fun x321=>
 Chk
 ((0:Int)≤x321∧
 x321≤x321∧(↑(16:Nat):Int)*x321≤(281474976710656:Int)∧x321≤(9223372036854775807:Int))
 (Let (List.replicate x321.toNat #[].toList) fun x322=>
 Let (IntKind.i64.wrap (x321 - (1:Int))) fun x323=>
 Join
 (fun (v324:List UInt8 × Int × List (List UInt8))=>
 Chk ((0:Int)≤v324.snd.fst∧v324.snd.fst<(↑(List.length v324.snd.snd):Int))
 (Chk ((0:Int)≤v324.snd.fst∧v324.snd.fst<(↑(List.length v324.snd.snd):Int))
 (Let (List.set v324.snd.snd (Int.toNat v324.snd.fst) v324.fst) fun x325=>
 Let (IntKind.i64.wrap (v324.snd.fst+(1:Int))) fun x326=>
 Chk
 ((0:Int)≤none.getD (0:Int)∧
 (0:Int)≤(some x326).getD (0:Int)∧(0:Nat)≤x326.toNat∧x326.toNat≤x325.length)
 (Chk (x326.toNat - (0:Nat)≤x325.length)
 (Let (List.take (x326.toNat - (0:Nat)) x325) fun x327=>some x327)))))
 fun (j328:List UInt8 × Int × List (List UInt8)→Option (List (List UInt8)))=>
 LOOP
 (fun (rec329:List UInt8 × Int × List (List UInt8)→Option (List (List UInt8)))
 (s330:List UInt8 × Int × List (List UInt8))=>
 Let (decide (s330.snd.fst<x323)) fun x331=>
 if x331=true then
 Rx.Bind (jf4 s330.fst sep1) fun r332=>
 Let (decide (r332<(0:Int))) fun x333=>
 if x333=true then j328 s330
 else
 Let (IntKind.i64.wrap (r332+sepSave2)) fun x334=>
 Chk ((0:Int)≤x334∧x334≤(↑(List.length s330.fst):Int))
 (Let (List.take x334.toNat s330.fst) fun x335=>
 Chk ((0:Int)≤s330.snd.fst∧s330.snd.fst<(↑(List.length s330.snd.snd):Int))
 (Chk ((0:Int)≤s330.snd.fst∧s330.snd.fst<(↑(List.length s330.snd.snd):Int))
 (Let (List.set s330.snd.snd (Int.toNat s330.snd.fst) x335) fun x336=>
 Let (↑sep1.length:Int) fun x337=>
 Let (IntKind.i64.wrap (r332+x337)) fun x338=>
 Chk ((0:Int)≤x338∧x338≤(↑(List.length s330.fst):Int))
 (Let (List.drop x338.toNat s330.fst) fun x339=>
 Let (IntKind.i64.wrap (s330.snd.fst+(1:Int))) fun x340=>rec329 (x339,x340,x336)))))
 else j328 s330)
 fuel (s0,(0:Int),x322)))
 fun (j341:Int→Option (List (List UInt8)))=>
 Let (decide (n3<(0:Int))) fun x342=>
 if x342=true then
 Rx.Bind (jf5 s0 sep1) fun r343=>
 Let (IntKind.i64.wrap (r343+(1:Int))) fun x344=>j341 x344
 else j341 n3
noncomputable def jez (s0:(List UInt8)) (sep1:(List UInt8)):Option (List (List UInt8)):=
 Rx.Bind (jeU s0 sep1 (0:Int) (-1:Int)) fun r345=>some r345
noncomputable def jet (text0:(List UInt8)):Option ((List (List UInt8)) × Int):=
 Let (text0==#[].toList) fun x346=>
 if x346=true then some ([],(0:Int))
 else
 Rx.Bind (jem text0 #[(10:UInt8)].toList) fun r347=>
 Let (!r347.snd) fun x348=>
 if x348=true then some ([],(3:Int))
 else Rx.Bind (jez r347.fst #[(10:UInt8)].toList) fun r349=>some (r349,(0:Int))
noncomputable def jdB (line0:(List UInt8)):Option ((List (List UInt8)) × Int):=
 Let (line0==#[].toList) fun x350=>
 if x350=true then some ([],(0:Int))
 else
 Let (↑line0.length:Int) fun x351=>
 LOOP
 (fun (rec352:Int→Option (List (List UInt8) × Int)) (s353:Int)=>
 Let (decide (s353<x351)) fun x354=>
 if x354=true then
 Chk ((0:Int)≤s353∧s353<(↑line0.length:Int))
 (Let (ix line0 s353) fun x355=>
 Let (decide (x355<jat (32:Int))) fun x356=>
 Let (decide (jat (126:Int)<x355)) fun x357=>
 Let (bif x356 then true else x357) fun x358=>
 if x358=true then some ([],(3:Int)) else Let (IntKind.i64.wrap (s353+(1:Int))) fun x359=>rec352 x359)
 else
 Rx.Bind (jez line0 #[(32:UInt8)].toList) fun r360=>
 Let (↑r360.length:Int) fun x361=>
 LOOP
 (fun (rec362:Int→Option (List (List UInt8) × Int)) (s363:Int)=>
 Let (decide (s363<x361)) fun x364=>
 if x364=true then
 Chk ((0:Int)≤s363∧s363<(↑r360.length:Int))
 (Let (ix r360 s363) fun x365=>
 Let (x365==#[].toList) fun x366=>
 if x366=true then some ([],(3:Int)) else Let (IntKind.i64.wrap (s363+(1:Int))) fun x367=>rec362 x367)
 else some (r360,(0:Int)))
 fuel (0:Int))
 fuel (0:Int)
noncomputable def jfa (s0:(List UInt8)):Option ((List (List Input)) × Int × Int):=
 ji0 s0
noncomputable def codec_magnitude (n0:Int):Option Int:=
 Let (decide (n0<(0:Int))) fun x447=>
 if x447=true then
 Let (IntKind.u64.wrap n0) fun x448=>Let (IntKind.u64.wrap ((0:Int) - x448)) fun x449=>some x449
 else Let (IntKind.u64.wrap n0) fun x450=>some x450
noncomputable def codec_extend (b0:(List UInt8)) (more1:(List UInt8)):Option (List UInt8):=
 Let (↑b0.length:Int) fun x451=>
 Let (↑b0.length:Int) fun x452=>
 Chk ((0:Int)≤x451∧x451≤(↑b0.length:Int)∧x452=x451)
 (Let (List.take x451.toNat b0) fun x453=>
 Chk ((x453.length+more1.length)*(1:Nat)≤(140737488355328:Nat))
 (Let (x453++more1) fun x454=>some x454))
noncomputable def codec_AppendInt (b0:(List UInt8)) (n1:Int):Option (List UInt8):=
 Rx.Bind (codec_magnitude n1) fun r455=>
 LOOP
 (fun (rec456:List UInt8 × Int→Option (List UInt8)) (s457:List UInt8 × Int)=>
 Let (decide (s457.snd>(0:Int))) fun x458=>
 if x458=true then
 Let (jat s457.snd) fun x459=>
 Chk (([x459].length+List.length s457.fst)*(1:Nat)≤(140737488355328:Nat))
 (Let ([x459]++s457.fst) fun x460=>
 Let (bShr IntKind.u64 s457.snd (8:Int)) fun x461=>rec456 (x460,x461))
 else
 Let (↑(List.length s457.fst):Int) fun x462=>
 Join
 (fun (v463:Int)=>
 Let (jat v463) fun x464=>
 Rx.Bind (codec_extend b0 [x464]) fun r465=>
 Rx.Bind (codec_extend r465 s457.fst) fun r466=>some r466)
 fun (j467:Int→Option (List UInt8))=>
 Let (decide (n1<(0:Int))) fun x468=>
 if x468=true then Let (IntKind.i64.wrap (x462+(16:Int))) fun x469=>j467 x469 else j467 x462)
 fuel ([],r455)
noncomputable def jbF (b0:(List UInt8)) (v1:Vec):Option (List UInt8):=
 Rx.Bind (codec_AppendInt b0 v1.X) fun r470=>
 Rx.Bind (codec_AppendInt r470 v1.Y) fun r471=>some r471
noncomputable def jce (b0:(List UInt8)) (x1:Bool):Option (List UInt8):=
 if x1=true then Rx.Bind (codec_extend b0 [jat (1:Int)]) fun r472=>some r472
 else Rx.Bind (codec_extend b0 [jat (0:Int)]) fun r473=>some r473
 def eLK {α X:Type} [Inhabited α] (B:α→(snapshot_encoder→Option X)→snapshot_encoder→Option X) (l:List α) (K:snapshot_encoder→Option X) (e:snapshot_encoder):Option X:=
 Let (l.length:Int) fun n=>LOOP (fun rec s=>Let (decide (s.1<n)) fun x=>if x=true then Chk ((0:Int)≤s.1∧s.1<(l.length:Int)) (Let (ix l s.1) fun v=>B v (fun e'=>Let (IntKind.i64.wrap (s.1+1)) fun z=>rec (z,e')) s.2) else K s.2) fuel ((0:Int),e)
noncomputable def bI {X:Type} (v:Int) (k:snapshot_encoder→Option X) (e:snapshot_encoder):Option X:=Rx.Bind (codec_AppendInt e.buf v) fun q=>k {buf:=q }
noncomputable def bV {X:Type} (v:Vec) (k:snapshot_encoder→Option X) (e:snapshot_encoder):Option X:=Rx.Bind (jbF e.buf v) fun q=>k {buf:=q }
noncomputable def bB {X:Type} (v:Bool) (k:snapshot_encoder→Option X) (e:snapshot_encoder):Option X:=Rx.Bind (jce e.buf v) fun q=>k {buf:=q }
noncomputable def bF {X:Type} (f:Fixture) (k:snapshot_encoder→Option X) (e:snapshot_encoder):Option X:=
 Let (f.Shape.Vertices.length:Int) fun n=>eLK bI [f.Shape.Kind,f.Shape.Radius,n] (fun e=>eLK bV f.Shape.Vertices (fun e=>eLK bI [f.Density,f.Friction,f.Restitution] (fun e=>eLK bB [f.Sensor] (fun e=>eLK bI [f.Category,f.Mask,f.Group] k e) e) e) e) e
noncomputable def jbC (b:(List UInt8)) (x:Body):Option (List UInt8):=
 Chk (b.length*1≤140737488355328) (eLK bI [x.ID,x.Kind] (fun e=>eLK bV [x.Transform.Position] (fun e=>eLK bI [x.Transform.Angle] (fun e=>eLK bV [x.Velocity] (fun e=>eLK bI [x.AngularVelocity] (fun e=>eLK bV [x.Force] (fun e=>eLK bI [x.Torque,x.LinearDamping,x.AngularDamping,x.GravityScale] (fun e=>eLK bB [x.Bullet,x.FixedRotation,x.NoSleep,x.Asleep] (fun e=>Let (x.Fixtures.length:Int) fun n=>eLK bI [x.IdleSteps,n] (fun e=>eLK bF x.Fixtures (fun e=>some e.buf) e) e) e) e) e) e) e) e) e) {buf:=b })
noncomputable def jbr (b:(List UInt8)) (x:Joint):Option (List UInt8):=
 Chk (b.length*1≤140737488355328) (eLK bI [x.ID,x.Kind,x.BodyA,x.BodyB] (fun e=>eLK bV [x.AnchorA,x.AnchorB,x.Axis] (fun e=>eLK bI [x.ReferenceAngle] (fun e=>eLK bB [x.EnableLimit] (fun e=>eLK bI [x.Lower,x.Upper] (fun e=>eLK bB [x.EnableMotor] (fun e=>eLK bI [x.MotorSpeed,x.MaxForce,x.Softness,x.BreakForce] (fun e=>eLK bB [x.CollideConnected] (fun e=>eLK bI [x.Impulses.1,x.Impulses.2.1,x.Impulses.2.2.1,x.Impulses.2.2.2] (fun e=>some e.buf) e) e) e) e) e) e) e) e) {buf:=b })
noncomputable def jdY (crc0:Int):Option Int:=
 LOOP
 (fun (rec643:Int × Int→Option Int) (s644:Int × Int)=>
 Let (decide (s644.snd<(8:Int))) fun x645=>
 if x645=true then
 Join (fun (v646:Int)=>Let (IntKind.i64.wrap (s644.snd+(1:Int))) fun x647=>rec643 (v646,x647))
 fun (j648:Int→Option Int)=>
 Let (bAnd IntKind.u32 s644.fst (1:Int)) fun x649=>
 Let (bShr IntKind.u32 s644.fst (1:Int)) fun x650=>
 Let (x649==(1:Int)) fun x651=>
 if x651=true then Let (bXor IntKind.u32 x650 (2197175160:Int)) fun x652=>j648 x652 else j648 x650
 else some s644.fst)
 fuel (crc0,(0:Int))
noncomputable def jdE (b0:(List UInt8)):Option (List UInt8):=
 jmT b0
noncomputable def jcd (r0:(List (List Input))):Option ((List UInt8) × Int):=
 Rx.Bind (jas r0) fun r653=>
 Let (r653 != (0:Int)) fun x654=>
 if x654=true then some ([],(25:Int))
 else
 Let (↑r0.length:Int) fun x655=>
 Rx.Bind (codec_AppendInt [] x655) fun r656=>
 Let (↑r0.length:Int) fun x657=>
 LOOP
 (fun (rec658:List UInt8 × Int→Option (List UInt8 × Int)) (s659:List UInt8 × Int)=>
 Let (decide (s659.snd<x657)) fun x660=>
 if x660=true then
 Chk ((0:Int)≤s659.snd∧s659.snd<(↑r0.length:Int))
 (Let (ix r0 s659.snd) fun x661=>
 Let (↑x661.length:Int) fun x662=>
 Rx.Bind (codec_AppendInt s659.fst x662) fun r663=>
 Let (↑x661.length:Int) fun x664=>
 LOOP
 (fun (rec665:List UInt8 × Int→Option (List UInt8 × Int)) (s666:List UInt8 × Int)=>
 Let (decide (s666.snd<x664)) fun x667=>
 if x667=true then
 Chk ((0:Int)≤s666.snd∧s666.snd<(↑x661.length:Int))
 (Let (ix x661 s666.snd) fun x668=>
 Rx.Bind (codec_AppendInt s666.fst x668.Kind) fun r669=>
 Rx.Bind (codec_AppendInt r669 x668.ID) fun r670=>
 Rx.Bind (jbF r670 x668.Vec) fun r671=>
 Rx.Bind (codec_AppendInt r671 x668.Value) fun r672=>
 Rx.Bind (jbC r672 x668.Body) fun r673=>
 Rx.Bind (jbr r673 x668.Joint) fun r674=>
 Let (IntKind.i64.wrap (s666.snd+(1:Int))) fun x675=>rec665 (r674,x675))
 else Let (IntKind.i64.wrap (s659.snd+(1:Int))) fun x676=>rec658 (s666.fst,x676))
 fuel (r663,(0:Int)))
 else Rx.Bind (jdE s659.fst) fun r677=>some (r677,(0:Int)))
 fuel (r656,(0:Int))
noncomputable def jbu (b0:(List UInt8)):Option ((List UInt8) × Int):=
 Let (↑b0.length:Int) fun x678=>
 Let (IntKind.i64.wrap (x678 - (4:Int))) fun x679=>
 Let (decide (x679<(0:Int))) fun x680=>
 if x680=true then some ([],(4:Int))
 else
 Chk ((0:Int)≤x679∧x679≤(↑b0.length:Int))
 (Let (List.take x679.toNat b0) fun x681=>
 Rx.Bind (jdE x681) fun r682=>
 Let (r682 != b0) fun x683=>
 if x683=true then some ([],(22:Int))
 else
 Chk ((0:Int)≤x679∧x679≤(↑b0.length:Int))
 (Let (List.take x679.toNat b0) fun x684=>
 Chk (x684.length*(1:Nat)≤(140737488355328:Nat)) (some (x684,(0:Int)))))
noncomputable def codec_readByte (b0:(List UInt8)) (at1:Int):Option (UInt8 × Int):=
 Let (decide (at1<(0:Int))) fun x685=>
 Let (↑b0.length:Int) fun x686=>
 Let (decide (at1>x686)) fun x687=>
 Let (bif x685 then true else x687) fun x688=>
 if x688=true then some (jat (0:Int),(2:Int))
 else
 Let (↑b0.length:Int) fun x689=>
 Let (at1==x689) fun x690=>
 if x690=true then some (jat (0:Int),(4:Int))
 else Chk ((0:Int)≤at1∧at1<(↑b0.length:Int)) (Let (ix b0 at1) fun x691=>some (x691,(0:Int)))
noncomputable def codec_ReadInt (b0:(List UInt8)) (at1:Int):Option (Int × Int × Int):=
 Rx.Bind (codec_readByte b0 at1) fun r692=>
 Let (r692.snd != (0:Int)) fun x693=>
 if x693=true then some ((0:Int),(0:Int),r692.snd)
 else
 Let (↑(UInt8.toNat r692.fst):Int) fun x694=>
 Let (decide (jat (16:Int)<r692.fst)) fun x695=>
 Join
 (fun (v696:Int)=>
 Let (decide (v696>(8:Int))) fun x697=>
 if x697=true then some ((0:Int),(0:Int),(3:Int))
 else
 Let (IntKind.i64.wrap (at1+(1:Int))) fun x698=>
 Chk ((0:Int)≤x698∧x698≤(↑b0.length:Int))
 (Let (List.drop x698.toNat b0) fun x699=>
 Let (↑x699.length:Int) fun x700=>
 Let (decide (x700<v696)) fun x701=>
 if x701=true then some ((0:Int),(0:Int),(4:Int))
 else
 Chk ((0:Int)≤v696∧v696≤(↑x699.length:Int))
 (Let (List.take v696.toNat x699) fun x702=>
 Let (↑x702.length:Int) fun x703=>
 LOOP
 (fun (rec704:Int × Int→Option (Int × Int × Int)) (s705:Int × Int)=>
 Let (decide (s705.snd<x703)) fun x706=>
 if x706=true then
 Chk ((0:Int)≤s705.snd∧s705.snd<(↑x702.length:Int))
 (Let (ix x702 s705.snd) fun x707=>
 Let (bShl IntKind.u64 s705.fst (8:Int)) fun x708=>
 Let (↑x707.toNat:Int) fun x709=>
 Let (bOr IntKind.u64 x708 x709) fun x710=>
 Let (IntKind.i64.wrap (s705.snd+(1:Int))) fun x711=>rec704 (x710,x711))
 else
 Let (IntKind.i64.wrap s705.fst) fun x712=>
 Join
 (fun (v713:Int)=>
 Let (decide (v696>(0:Int))) fun x714=>
 Chk ((x714==true)=true→(0:Int)≤(0:Int)∧(0:Int)<(↑x699.length:Int))
 (Let (ix x699 (0:Int)) fun x715=>
 Let (x715==jat (0:Int)) fun x716=>
 Let (bif x714 then x716 else false) fun x717=>
 Rx.Bind (if (x717==false)=true then codec_magnitude v713 else some default) fun r718=>
 Let (r718 != s705.fst) fun x719=>
 Let (bif x717 then true else x719) fun x720=>
 Let (decide (v713<(0:Int))) fun x721=>
 Let (x721 != x695) fun x722=>
 Let (bif x720 then true else x722) fun x723=>
 if x723=true then some ((0:Int),(0:Int),(3:Int))
 else
 Let (IntKind.i64.wrap (at1+(1:Int))) fun x724=>
 Let (IntKind.i64.wrap (x724+v696)) fun x725=>some (v713,x725,(0:Int))))
 fun (j726:Int→Option (Int × Int × Int))=>
 if x695=true then Let (IntKind.i64.wrap ((0:Int) - x712)) fun x727=>j726 x727 else j726 x712)
 fuel ((0:Int),(0:Int)))))
 fun (j728:Int→Option (Int × Int × Int))=>
 if x695=true then Let (IntKind.i64.wrap (x694 - (16:Int))) fun x729=>j728 x729 else j728 x694
noncomputable def jaf (b0:(List UInt8)) (at1:Int):Option (Vec × Int × Int):=
 Rx.Bind (codec_ReadInt b0 at1) fun r730=>
 Let (r730.snd.snd != (0:Int)) fun x731=>
 if x731=true then some ({X:=(0:Int),Y:=(0:Int):Vec},(0:Int),r730.snd.snd)
 else
 Rx.Bind (codec_ReadInt b0 r730.snd.fst) fun r732=>
 Let (r732.snd.snd != (0:Int)) fun x733=>
 if x733=true then some ({X:=(0:Int),Y:=(0:Int):Vec},(0:Int),r732.snd.snd)
 else some ({X:=r730.fst,Y:=r732.fst:Vec},r732.snd.fst,(0:Int))
noncomputable def jac (b0:(List UInt8)) (at1:Int):Option (Bool × Int × Int):=
 Rx.Bind (codec_readByte b0 at1) fun r735=>
 Let (r735.snd != (0:Int)) fun x736=>
 if x736=true then some (false,(0:Int),r735.snd)
 else
 Let (decide (jat (1:Int)<r735.fst)) fun x737=>
 if x737=true then some (false,(0:Int),(3:Int))
 else
 Let (r735.fst==jat (1:Int)) fun x738=>
 Let (IntKind.i64.wrap (at1+(1:Int))) fun x739=>some (x738,x739,(0:Int))
noncomputable def jcJ (b0:(List UInt8)):Option ((List (List Input)) × Int):=
 jdH jbu codec_ReadInt jaf jac jas b0
noncomputable def jdS (a0:Input) (b1:Input):Option Bool:=
 Let (a0.Kind==b1.Kind) fun x741=>
 Let (a0.ID==b1.ID) fun x742=>
 Let (bif x741 then x742 else false) fun x743=>
 Let (decide (a0.Vec.X=b1.Vec.X)&&decide (a0.Vec.Y=b1.Vec.Y)) fun x744=>
 Let (bif x743 then x744 else false) fun x745=>
 Let (a0.Value==b1.Value) fun x746=>
 Let (bif x745 then x746 else false) fun x747=>
 Rx.Bind (if (x747==true)=true then jde a0.Body b1.Body else some default) fun r748=>
 Let (bif x747 then r748 else false) fun x749=>
 Let
 (decide (a0.Joint.ID=b1.Joint.ID)&&
 (decide (a0.Joint.Kind=b1.Joint.Kind)&&
 (decide (a0.Joint.BodyA=b1.Joint.BodyA)&&
 (decide (a0.Joint.BodyB=b1.Joint.BodyB)&&
 (decide (a0.Joint.AnchorA.X=b1.Joint.AnchorA.X)&&decide (a0.Joint.AnchorA.Y=b1.Joint.AnchorA.Y)&&
 (decide (a0.Joint.AnchorB.X=b1.Joint.AnchorB.X)&&decide (a0.Joint.AnchorB.Y=b1.Joint.AnchorB.Y)&&
 (decide (a0.Joint.Axis.X=b1.Joint.Axis.X)&&decide (a0.Joint.Axis.Y=b1.Joint.Axis.Y)&&
 (decide (a0.Joint.ReferenceAngle=b1.Joint.ReferenceAngle)&&
 (decide (a0.Joint.EnableLimit=b1.Joint.EnableLimit)&&
 (decide (a0.Joint.Lower=b1.Joint.Lower)&&
 (decide (a0.Joint.Upper=b1.Joint.Upper)&&
 (decide (a0.Joint.EnableMotor=b1.Joint.EnableMotor)&&
 (decide (a0.Joint.MotorSpeed=b1.Joint.MotorSpeed)&&
 (decide (a0.Joint.MaxForce=b1.Joint.MaxForce)&&
 (decide (a0.Joint.Softness=b1.Joint.Softness)&&
 (decide (a0.Joint.BreakForce=b1.Joint.BreakForce)&&
 (decide (a0.Joint.CollideConnected=b1.Joint.CollideConnected)&&
 (decide (a0.Joint.Impulses.fst=b1.Joint.Impulses.fst)&&
 (decide (a0.Joint.Impulses.snd.fst=b1.Joint.Impulses.snd.fst)&&
 (decide (a0.Joint.Impulses.snd.snd.fst=b1.Joint.Impulses.snd.snd.fst)&&
 decide (a0.Joint.Impulses.snd.snd.snd=b1.Joint.Impulses.snd.snd.snd)))))))))))))))))))))
 fun x750=>Let (bif x749 then x750 else false) fun x751=>some x751
noncomputable def jfb (a0:(List (List Input))) (b1:(List (List Input))):Option Bool:=
 Let (↑a0.length:Int) fun x752=>
 Let (↑b1.length:Int) fun x753=>
 Let (x752 != x753) fun x754=>
 if x754=true then some false
 else
 Let (↑a0.length:Int) fun x755=>
 LOOP
 (fun (rec756:Int→Option Bool) (s757:Int)=>
 Let (decide (s757<x755)) fun x758=>
 if x758=true then
 Chk ((0:Int)≤s757∧s757<(↑a0.length:Int))
 (Let (ix a0 s757) fun x759=>
 Let (↑x759.length:Int) fun x760=>
 Chk ((0:Int)≤s757∧s757<(↑b1.length:Int))
 (Let (ix b1 s757) fun x761=>
 Let (↑x761.length:Int) fun x762=>
 Let (x760 != x762) fun x763=>
 if x763=true then some false
 else
 Chk ((0:Int)≤s757∧s757<(↑a0.length:Int))
 (Let (ix a0 s757) fun x764=>
 Let (↑x764.length:Int) fun x765=>
 LOOP
 (fun (rec766:Int→Option Bool) (s767:Int)=>
 Let (decide (s767<x765)) fun x768=>
 if x768=true then
 Chk ((0:Int)≤s757∧s757<(↑a0.length:Int))
 (Let (ix a0 s757) fun x769=>
 Chk ((0:Int)≤s767∧s767<(↑x769.length:Int))
 (Let (ix x769 s767) fun x770=>
 Chk ((0:Int)≤s757∧s757<(↑b1.length:Int))
 (Let (ix b1 s757) fun x771=>
 Chk ((0:Int)≤s767∧s767<(↑x771.length:Int))
 (Let (ix x771 s767) fun x772=>
 Rx.Bind (jdS x770 x772) fun r773=>
 Let (!r773) fun x774=>
 if x774=true then some false else Let (IntKind.i64.wrap (s767+(1:Int))) fun x775=>rec766 x775))))
 else Let (IntKind.i64.wrap (s757+(1:Int))) fun x776=>rec756 x776)
 fuel (0:Int))))
 else some true)
 fuel (0:Int)
noncomputable def je9 (r0:(List (List Input))) (from1:Int) (to2:Int):Option (List (List Input)):=
 Let (max from1 (0:Int)) fun x777=>
 Let (↑r0.length:Int) fun x778=>
 Let (min to2 x778) fun x779=>
 Let (decide (x777≥x779)) fun x780=>
 if x780=true then some []
 else
 Chk ((0:Int)≤x777∧x777≤x779∧x779≤(↑r0.length:Int))
 (Let (sub r0 x777 x779) fun x781=>
 Rx.Bind (je8 x781) fun r782=>some r782)
noncomputable def jbY  : Option Bool:=
 Rx.Bind jea fun r783=>
 Rx.Bind (jdu [] (1:Int) [r783]) fun r784=>
 Rx.Bind (jeV r784.fst) fun r785=>
 Rx.Bind
 (jfa
 #[(102:UInt8),(114:UInt8),(97:UInt8),(109:UInt8),(101:UInt8),(10:UInt8),(105:UInt8),(109:UInt8),
 (112:UInt8),(117:UInt8),(108:UInt8),(115:UInt8),(101:UInt8),(32:UInt8),(51:UInt8),(32:UInt8),
 (49:UInt8),(117:UInt8),(10:UInt8)].toList)
 fun r786=>
 Rx.Bind (jcd r784.fst) fun r787=>
 Rx.Bind (jcJ r787.fst) fun r788=>
 Let (r784.snd==(0:Int)) fun x789=>
 Let (↑(List.length r784.fst):Int) fun x790=>
 Let (x790==(2:Int)) fun x791=>
 Let (bif x789 then x791 else false) fun x792=>
 Let (r785.snd==(0:Int)) fun x793=>
 Let (bif x792 then x793 else false) fun x794=>
 Let
 (r785.fst==
 #[(102:UInt8),(114:UInt8),(97:UInt8),(109:UInt8),(101:UInt8),(10:UInt8),(102:UInt8),(114:UInt8),
 (97:UInt8),(109:UInt8),(101:UInt8),(10:UInt8),(105:UInt8),(109:UInt8),(112:UInt8),(117:UInt8),
 (108:UInt8),(115:UInt8),(101:UInt8),(32:UInt8),(51:UInt8),(32:UInt8),(49:UInt8),(117:UInt8),
 (32:UInt8),(48:UInt8),(10:UInt8)].toList)
 fun x795=>
 Let (bif x794 then x795 else false) fun x796=>
 Let (r786.snd.fst==(2:Int)) fun x797=>
 Let (bif x796 then x797 else false) fun x798=>
 Let (r786.snd.snd==(27:Int)) fun x799=>
 Let (bif x798 then x799 else false) fun x800=>
 Let (r787.snd==(0:Int)) fun x801=>
 Let (bif x800 then x801 else false) fun x802=>
 Let (r788.snd==(0:Int)) fun x803=>
 Let (bif x802 then x803 else false) fun x804=>
 Rx.Bind (if (x804==true)=true then jfb r784.fst r788.fst else some default) fun r805=>
 Let (bif x804 then r805 else false) fun x806=>
 Rx.Bind (if (x806==true)=true then ja8 r784.fst (1:Int) else some default)
 fun r807=>
 Let (↑r807.length:Int) fun x808=>
 Let (x808==(1:Int)) fun x809=>
 Let (bif x806 then x809 else false) fun x810=>
 Rx.Bind (if (x810==true)=true then je9 r784.fst (1:Int) (9:Int) else some default)
 fun r811=>
 Let (↑r811.length:Int) fun x812=>
 Let (x812==(1:Int)) fun x813=>Let (bif x810 then x813 else false) fun x814=>some x814
noncomputable def jb4 (a0:(List Vec)) (b1:(List Vec)):Option Bool:=
 Let (↑a0.length:Int) fun x815=>
 Let (↑b1.length:Int) fun x816=>
 Let (x815 != x816) fun x817=>
 if x817=true then some false
 else
 LOOP
 (fun (rec818:Int→Option Bool) (s819:Int)=>
 Let (↑a0.length:Int) fun x820=>
 Let (decide (s819<x820)) fun x821=>
 if x821=true then
 Chk ((0:Int)≤s819∧s819<(↑a0.length:Int))
 (Let (ix a0 s819) fun x822=>
 Chk ((0:Int)≤s819∧s819<(↑b1.length:Int))
 (Let (ix b1 s819) fun x823=>
 Let (!(decide (x822.X=x823.X)&&decide (x822.Y=x823.Y))) fun x824=>
 if x824=true then some false else Let (IntKind.i64.wrap (s819+(1:Int))) fun x825=>rec818 x825))
 else some true)
 fuel (0:Int)
noncomputable def jcM (a0:Shape) (b1:Shape):Option Bool:=
 Let (a0.Kind==b1.Kind) fun x826=>
 Let (a0.Radius==b1.Radius) fun x827=>
 Let (bif x826 then x827 else false) fun x828=>
 Rx.Bind (if (x828==true)=true then jb4 a0.Vertices b1.Vertices else some default)
 fun r829=>Let (bif x828 then r829 else false) fun x830=>some x830
noncomputable def jbv (a0:Fixture) (b1:Fixture):Option Bool:=
 Rx.Bind (jcM a0.Shape b1.Shape) fun r831=>
 Let (a0.Density==b1.Density) fun x832=>
 Let (bif r831 then x832 else false) fun x833=>
 Let (a0.Friction==b1.Friction) fun x834=>
 Let (bif x833 then x834 else false) fun x835=>
 Let (a0.Restitution==b1.Restitution) fun x836=>
 Let (bif x835 then x836 else false) fun x837=>
 Let (a0.Sensor==b1.Sensor) fun x838=>
 Let (bif x837 then x838 else false) fun x839=>
 Let (a0.Category==b1.Category) fun x840=>
 Let (bif x839 then x840 else false) fun x841=>
 Let (a0.Mask==b1.Mask) fun x842=>
 Let (bif x841 then x842 else false) fun x843=>
 Let (a0.Group==b1.Group) fun x844=>Let (bif x843 then x844 else false) fun x845=>some x845
noncomputable def jbp (a0:Body) (b1:Body):Option Bool:=
 Let (↑a0.Fixtures.length:Int) fun x846=>
 Let (↑b1.Fixtures.length:Int) fun x847=>
 Let (x846 != x847) fun x848=>
 if x848=true then some false
 else
 LOOP
 (fun (rec849:Int→Option Bool) (s850:Int)=>
 Let (↑a0.Fixtures.length:Int) fun x851=>
 Let (decide (s850<x851)) fun x852=>
 Let (↑b1.Fixtures.length:Int) fun x853=>
 Let (decide (s850<x853)) fun x854=>
 Let (bif x852 then x854 else false) fun x855=>
 if x855=true then
 Chk ((0:Int)≤s850∧s850<(↑a0.Fixtures.length:Int))
 (Let (ix a0.Fixtures s850) fun x856=>
 Chk ((0:Int)≤s850∧s850<(↑b1.Fixtures.length:Int))
 (Let (ix b1.Fixtures s850) fun x857=>
 Rx.Bind (jbv x856 x857) fun r858=>
 Let (!r858) fun x859=>
 if x859=true then some false else Let (IntKind.i64.wrap (s850+(1:Int))) fun x860=>rec849 x860))
 else
 Let (a0.ID != b1.ID) fun x861=>
 Let (a0.Kind != b1.Kind) fun x862=>
 Let (bif x861 then true else x862) fun x863=>
 Let
 (!(decide (a0.Transform.Position.X=b1.Transform.Position.X)&&
 decide (a0.Transform.Position.Y=b1.Transform.Position.Y)&&
 decide (a0.Transform.Angle=b1.Transform.Angle)))
 fun x864=>
 Let (bif x863 then true else x864) fun x865=>
 Let (!(decide (a0.Velocity.X=b1.Velocity.X)&&decide (a0.Velocity.Y=b1.Velocity.Y))) fun x866=>
 Let (bif x865 then true else x866) fun x867=>
 Let (a0.AngularVelocity != b1.AngularVelocity) fun x868=>
 Let (bif x867 then true else x868) fun x869=>
 Let (!(decide (a0.Force.X=b1.Force.X)&&decide (a0.Force.Y=b1.Force.Y))) fun x870=>
 Let (bif x869 then true else x870) fun x871=>
 Let (a0.Torque != b1.Torque) fun x872=>
 Let (bif x871 then true else x872) fun x873=>
 if x873=true then some false
 else
 Let (a0.LinearDamping==b1.LinearDamping) fun x874=>
 Let (a0.AngularDamping==b1.AngularDamping) fun x875=>
 Let (bif x874 then x875 else false) fun x876=>
 Let (a0.GravityScale==b1.GravityScale) fun x877=>
 Let (bif x876 then x877 else false) fun x878=>
 Let (a0.Bullet==b1.Bullet) fun x879=>
 Let (bif x878 then x879 else false) fun x880=>
 Let (a0.FixedRotation==b1.FixedRotation) fun x881=>
 Let (bif x880 then x881 else false) fun x882=>
 Let (a0.NoSleep==b1.NoSleep) fun x883=>
 Let (bif x882 then x883 else false) fun x884=>
 Let (a0.Asleep==b1.Asleep) fun x885=>
 Let (bif x884 then x885 else false) fun x886=>
 Let (a0.IdleSteps==b1.IdleSteps) fun x887=>
 Let (bif x886 then x887 else false) fun x888=>some x888)
 fuel (0:Int)
noncomputable def jcg (a0:Input) (b1:Input):Option Bool:=
 Let (a0.Kind==b1.Kind) fun x889=>
 Let (a0.ID==b1.ID) fun x890=>
 Let (bif x889 then x890 else false) fun x891=>
 Let (decide (a0.Vec.X=b1.Vec.X)&&decide (a0.Vec.Y=b1.Vec.Y)) fun x892=>
 Let (bif x891 then x892 else false) fun x893=>
 Let (a0.Value==b1.Value) fun x894=>
 Let (bif x893 then x894 else false) fun x895=>
 Let
 (decide (a0.Joint.ID=b1.Joint.ID)&&
 (decide (a0.Joint.Kind=b1.Joint.Kind)&&
 (decide (a0.Joint.BodyA=b1.Joint.BodyA)&&
 (decide (a0.Joint.BodyB=b1.Joint.BodyB)&&
 (decide (a0.Joint.AnchorA.X=b1.Joint.AnchorA.X)&&decide (a0.Joint.AnchorA.Y=b1.Joint.AnchorA.Y)&&
 (decide (a0.Joint.AnchorB.X=b1.Joint.AnchorB.X)&&decide (a0.Joint.AnchorB.Y=b1.Joint.AnchorB.Y)&&
 (decide (a0.Joint.Axis.X=b1.Joint.Axis.X)&&decide (a0.Joint.Axis.Y=b1.Joint.Axis.Y)&&
 (decide (a0.Joint.ReferenceAngle=b1.Joint.ReferenceAngle)&&
 (decide (a0.Joint.EnableLimit=b1.Joint.EnableLimit)&&
 (decide (a0.Joint.Lower=b1.Joint.Lower)&&
 (decide (a0.Joint.Upper=b1.Joint.Upper)&&
 (decide (a0.Joint.EnableMotor=b1.Joint.EnableMotor)&&
 (decide (a0.Joint.MotorSpeed=b1.Joint.MotorSpeed)&&
 (decide (a0.Joint.MaxForce=b1.Joint.MaxForce)&&
 (decide (a0.Joint.Softness=b1.Joint.Softness)&&
 (decide (a0.Joint.BreakForce=b1.Joint.BreakForce)&&
 (decide (a0.Joint.CollideConnected=b1.Joint.CollideConnected)&&
 (decide (a0.Joint.Impulses.fst=b1.Joint.Impulses.fst)&&
 (decide (a0.Joint.Impulses.snd.fst=b1.Joint.Impulses.snd.fst)&&
 (decide (a0.Joint.Impulses.snd.snd.fst=b1.Joint.Impulses.snd.snd.fst)&&
 decide (a0.Joint.Impulses.snd.snd.snd=b1.Joint.Impulses.snd.snd.snd)))))))))))))))))))))
 fun x896=>
 Let (bif x895 then x896 else false) fun x897=>
 Rx.Bind (if (x897==true)=true then jbp a0.Body b1.Body else some default) fun r898=>
 Let (bif x897 then r898 else false) fun x899=>some x899
noncomputable def jbL (a0:(List Input)) (b1:(List Input)):Option Bool:=
 Let (↑a0.length:Int) fun x900=>
 Let (↑b1.length:Int) fun x901=>
 Let (x900 != x901) fun x902=>
 if x902=true then some false
 else
 LOOP
 (fun (rec903:Int→Option Bool) (s904:Int)=>
 Let (↑a0.length:Int) fun x905=>
 Let (decide (s904<x905)) fun x906=>
 Let (↑b1.length:Int) fun x907=>
 Let (decide (s904<x907)) fun x908=>
 Let (bif x906 then x908 else false) fun x909=>
 if x909=true then
 Chk ((0:Int)≤s904∧s904<(↑a0.length:Int))
 (Let (ix a0 s904) fun x910=>
 Chk ((0:Int)≤s904∧s904<(↑b1.length:Int))
 (Let (ix b1 s904) fun x911=>
 Rx.Bind (jcg x910 x911) fun r912=>
 Let (!r912) fun x913=>
 if x913=true then some false else Let (IntKind.i64.wrap (s904+(1:Int))) fun x914=>rec903 x914))
 else some true)
 fuel (0:Int)
noncomputable def jcL (a0:(List (List Input))) (b1:(List (List Input))):Option Bool:=
 Let (↑a0.length:Int) fun x915=>
 Let (↑b1.length:Int) fun x916=>
 Let (x915 != x916) fun x917=>
 if x917=true then some false
 else
 LOOP
 (fun (rec918:Int→Option Bool) (s919:Int)=>
 Let (↑a0.length:Int) fun x920=>
 Let (decide (s919<x920)) fun x921=>
 Let (↑b1.length:Int) fun x922=>
 Let (decide (s919<x922)) fun x923=>
 Let (bif x921 then x923 else false) fun x924=>
 if x924=true then
 Chk ((0:Int)≤s919∧s919<(↑a0.length:Int))
 (Let (ix a0 s919) fun x925=>
 Chk ((0:Int)≤s919∧s919<(↑b1.length:Int))
 (Let (ix b1 s919) fun x926=>
 Rx.Bind (jbL x925 x926) fun r927=>
 Let (!r927) fun x928=>
 if x928=true then some false else Let (IntKind.i64.wrap (s919+(1:Int))) fun x929=>rec918 x929))
 else some true)
 fuel (0:Int)
noncomputable def jbS (a0:(List UInt8)) (b1:(List UInt8)):Option Bool:=
 Let (↑a0.length:Int) fun x930=>
 Let (↑b1.length:Int) fun x931=>
 Let (x930 != x931) fun x932=>
 if x932=true then some false
 else
 LOOP
 (fun (rec933:Int→Option Bool) (s934:Int)=>
 Let (↑a0.length:Int) fun x935=>
 Let (decide (s934<x935)) fun x936=>
 Let (↑b1.length:Int) fun x937=>
 Let (decide (s934<x937)) fun x938=>
 Let (bif x936 then x938 else false) fun x939=>
 if x939=true then
 Chk ((0:Int)≤s934∧s934<(↑a0.length:Int))
 (Let (ix a0 s934) fun x940=>
 Chk ((0:Int)≤s934∧s934<(↑b1.length:Int))
 (Let (ix b1 s934) fun x941=>
 Let (x940 != x941) fun x942=>
 if x942=true then some false else Let (IntKind.i64.wrap (s934+(1:Int))) fun x943=>rec933 x943))
 else some true)
 fuel (0:Int)
noncomputable def jbV (k0:Int):Option (Bool × Bool × Bool):=
 Join
 (fun (v996:Bool)=>
 if v996=true then some (true,true,false)
 else
 Join
 (fun (v997:Bool)=>
 if v997=true then some (true,false,true)
 else
 Join
 (fun (v998:Bool)=>
 if v998=true then some (true,true,true)
 else
 Join (fun (v999:Bool)=>if v999=true then some (true,false,false) else some (false,false,false))
 fun (j1000:Bool→Option (Bool × Bool × Bool))=>
 Let (k0==(6:Int)) fun x1001=>
 if x1001=true then j1000 x1001
 else
 Let (k0==(10:Int)) fun x1002=>
 if x1002=true then j1000 x1002 else Let (k0==(12:Int)) fun x1003=>j1000 x1003)
 fun (j1004:Bool→Option (Bool × Bool × Bool))=>
 Let (k0==(4:Int)) fun x1005=>
 if x1005=true then j1004 x1005 else Let (k0==(5:Int)) fun x1006=>j1004 x1006)
 fun (j1007:Bool→Option (Bool × Bool × Bool))=>
 Let (k0==(3:Int)) fun x1008=>
 if x1008=true then j1007 x1008 else Let (k0==(8:Int)) fun x1009=>j1007 x1009)
 fun (j1010:Bool→Option (Bool × Bool × Bool))=>
 Let (k0==(1:Int)) fun x1011=>
 if x1011=true then j1010 x1011
 else
 Let (k0==(2:Int)) fun x1012=>
 if x1012=true then j1010 x1012 else Let (k0==(7:Int)) fun x1013=>j1010 x1013
noncomputable def jaZ (n0:Int):Option Bool:=
 Let (decide (n0<(-536870911:Int))) fun x1014=>
 Let (decide (n0>(536870911:Int))) fun x1015=>
 Let (bif x1014 then true else x1015) fun x1016=>some x1016
noncomputable def jbG (x0:Input):Option Int:=
 Let (decide (x0.Kind<(1:Int))) fun x1017=>
 Let (decide (x0.Kind>(12:Int))) fun x1018=>
 Let (bif x1017 then true else x1018) fun x1019=>
 if x1019=true then some (10:Int)
 else
 Rx.Bind (jbV x0.Kind) fun r1020=>
 Let (decide (x0.ID<(1:Int))) fun x1021=>
 Let (decide (x0.ID>(1099511627776:Int))) fun x1022=>
 Let (bif x1021 then true else x1022) fun x1023=>
 Let (bif r1020.fst then x1023 else false) fun x1024=>
 Rx.Bind (if (x1024==false&&r1020.snd.fst==true)=true then jaZ x0.Vec.X else some default)
 fun r1025=>
 Rx.Bind
 (if (x1024==false&&r1020.snd.fst==true&&r1025==false)=true then jaZ x0.Vec.Y
 else some default)
 fun r1026=>
 Let (bif r1025 then true else r1026) fun x1027=>
 Let (bif r1020.snd.fst then x1027 else false) fun x1028=>
 Let (bif x1024 then true else x1028) fun x1029=>
 Rx.Bind (if (x1029==false&&r1020.snd.snd==true)=true then jaZ x0.Value else some default)
 fun r1030=>
 Let (bif r1020.snd.snd then r1030 else false) fun x1031=>
 Let (bif x1029 then true else x1031) fun x1032=>
 if x1032=true then some (6:Int)
 else
 Let (!r1020.fst) fun x1033=>
 Let (x0.ID != (0:Int)) fun x1034=>
 Let (bif x1033 then x1034 else false) fun x1035=>
 Let (!r1020.snd.fst) fun x1036=>
 Let (!(decide (x0.Vec.X=(0:Int))&&decide (x0.Vec.Y=(0:Int)))) fun x1037=>
 Let (bif x1036 then x1037 else false) fun x1038=>
 Let (bif x1035 then true else x1038) fun x1039=>
 Let (!r1020.snd.snd) fun x1040=>
 Let (x0.Value != (0:Int)) fun x1041=>
 Let (bif x1040 then x1041 else false) fun x1042=>
 Let (bif x1039 then true else x1042) fun x1043=>
 Let (x0.Kind != (9:Int)) fun x1044=>
 Rx.Bind
 (if (x1043==false&&x1044==true)=true then
 jbp x0.Body
 {ID:=(0:Int),Kind:=(0:Int),Transform:={Position:={X:=(0:Int),Y:=(0:Int):Vec},Angle:=(0:Int):Transform},Velocity:={X:=(0:Int),Y:=(0:Int):Vec},AngularVelocity:=(0:Int),Force:={X:=(0:Int),Y:=(0:Int):Vec},Torque:=(0:Int),LinearDamping:=(0:Int),AngularDamping:=(0:Int),GravityScale:=(0:Int),Bullet:=false,FixedRotation:=false,NoSleep:=false,Asleep:=false,IdleSteps:=(0:Int),Fixtures:=[]:Body}
 else some default)
 fun r1045=>
 Let (!r1045) fun x1046=>
 Let (bif x1044 then x1046 else false) fun x1047=>
 Let (bif x1043 then true else x1047) fun x1048=>
 Let (x0.Kind != (11:Int)) fun x1049=>
 Let
 (!(decide (x0.Joint.ID=(0:Int))&&
 (decide (x0.Joint.Kind=(0:Int))&&
 (decide (x0.Joint.BodyA=(0:Int))&&
 (decide (x0.Joint.BodyB=(0:Int))&&
 (decide (x0.Joint.AnchorA.X=(0:Int))&&decide (x0.Joint.AnchorA.Y=(0:Int))&&
 (decide (x0.Joint.AnchorB.X=(0:Int))&&decide (x0.Joint.AnchorB.Y=(0:Int))&&
 (decide (x0.Joint.Axis.X=(0:Int))&&decide (x0.Joint.Axis.Y=(0:Int))&&
 (decide (x0.Joint.ReferenceAngle=(0:Int))&&
 (decide (x0.Joint.EnableLimit=false)&&
 (decide (x0.Joint.Lower=(0:Int))&&
 (decide (x0.Joint.Upper=(0:Int))&&
 (decide (x0.Joint.EnableMotor=false)&&
 (decide (x0.Joint.MotorSpeed=(0:Int))&&
 (decide (x0.Joint.MaxForce=(0:Int))&&
 (decide (x0.Joint.Softness=(0:Int))&&
 (decide (x0.Joint.BreakForce=(0:Int))&&
 (decide (x0.Joint.CollideConnected=false)&&
 (decide (x0.Joint.Impulses.fst=(0:Int))&&
 (decide (x0.Joint.Impulses.snd.fst=(0:Int))&&
 (decide (x0.Joint.Impulses.snd.snd.fst=(0:Int))&&
 decide (x0.Joint.Impulses.snd.snd.snd=(0:Int)))))))))))))))))))))))
 fun x1050=>
 Let (bif x1049 then x1050 else false) fun x1051=>
 Let (bif x1048 then true else x1051) fun x1052=>if x1052=true then some (3:Int) else some (0:Int)
noncomputable def jbI (inputs0:(List Input)):Option Bool:=
 LOOP
 (fun (rec1053:Int→Option Bool) (s1054:Int)=>
 Let (↑inputs0.length:Int) fun x1055=>
 Let (decide (s1054<x1055)) fun x1056=>
 if x1056=true then
 Chk ((0:Int)≤s1054∧s1054<(↑inputs0.length:Int))
 (Let (ix inputs0 s1054) fun x1057=>
 Rx.Bind (jbG x1057) fun r1058=>
 Let (r1058 != (0:Int)) fun x1059=>
 if x1059=true then some false else Let (IntKind.i64.wrap (s1054+(1:Int))) fun x1060=>rec1053 x1060)
 else some true)
 fuel (0:Int)
noncomputable def jbj (r0:(List (List Input))):Option Int:=
 Let (↑r0.length:Int) fun x1061=>
 Let (decide (x1061>(4096:Int))) fun x1062=>
 if x1062=true then some (11:Int)
 else
 LOOP
 (fun (rec1063:Int→Option Int) (s1064:Int)=>
 Let (↑r0.length:Int) fun x1065=>
 Let (decide (s1064<x1065)) fun x1066=>
 if x1066=true then
 Chk ((0:Int)≤s1064∧s1064<(↑r0.length:Int))
 (Let (ix r0 s1064) fun x1067=>
 Let (↑x1067.length:Int) fun x1068=>
 Let (decide (x1068>(32:Int))) fun x1069=>
 if x1069=true then some (11:Int) else Let (IntKind.i64.wrap (s1064+(1:Int))) fun x1070=>rec1063 x1070)
 else
 LOOP
 (fun (rec1071:Int→Option Int) (s1072:Int)=>
 Let (↑r0.length:Int) fun x1073=>
 Let (decide (s1072<x1073)) fun x1074=>
 if x1074=true then
 Chk ((0:Int)≤s1072∧s1072<(↑r0.length:Int))
 (Let (ix r0 s1072) fun x1075=>
 Rx.Bind (jbI x1075) fun r1076=>
 Let (!r1076) fun x1077=>
 if x1077=true then some (20:Int) else Let (IntKind.i64.wrap (s1072+(1:Int))) fun x1078=>rec1071 x1078)
 else some (0:Int))
 fuel (0:Int))
 fuel (0:Int)
noncomputable def jdh (n0:Int):Option Int:=
 Let (decide (n0<(0:Int))) fun x1096=>
 if x1096=true then
 Let (IntKind.i64.wrap (n0+(1:Int))) fun x1097=>
 Let (IntKind.i64.wrap ((0:Int) - x1097)) fun x1098=>
 Let (IntKind.u64.wrap x1098) fun x1099=>
 Let (IntKind.u64.wrap (x1099+(1:Int))) fun x1100=>some x1100
 else Let (IntKind.u64.wrap n0) fun x1101=>some x1101
noncomputable def jay (b0:(List UInt8)) (n1:Int):Option (List UInt8):=
 Rx.Bind (jdh n1) fun r1102=>
 LOOP
 (fun (rec1103:List UInt8 × Int→Option (List UInt8)) (s1104:List UInt8 × Int)=>
 Let (decide (s1104.snd>(0:Int))) fun x1105=>
 if x1105=true then
 Let (Int.tmod s1104.snd (256:Int)) fun x1106=>
 Let (jat x1106) fun x1107=>
 Chk (([x1107].length+List.length s1104.fst)*(1:Nat)≤(140737488355328:Nat))
 (Let ([x1107]++s1104.fst) fun x1108=>
 Let (IntKind.u64.wrap (Int.tdiv s1104.snd (256:Int))) fun x1109=>rec1103 (x1108,x1109))
 else
 Let (↑(List.length s1104.fst):Int) fun x1110=>
 Let (jat x1110) fun x1111=>
 Join
 (fun (v1112:UInt8)=>
 Chk (b0.length*(1:Nat)≤(140737488355328:Nat))
 (Chk ((b0.length+[v1112].length)*(1:Nat)≤(140737488355328:Nat))
 (Let (b0++[v1112]) fun x1113=>
 Chk ((x1113.length+List.length s1104.fst)*(1:Nat)≤(140737488355328:Nat))
 (Let (x1113++s1104.fst) fun x1114=>some x1114))))
 fun (j1115:UInt8→Option (List UInt8))=>
 Let (decide (n1<(0:Int))) fun x1116=>
 if x1116=true then Let (x1111+jat (16:Int)) fun x1117=>j1115 x1117 else j1115 x1111)
 fuel ([],r1102)
noncomputable def jaB (b0:(List UInt8)) (v1:Vec):Option (List UInt8):=
 Rx.Bind (jay b0 v1.X) fun r1118=>
 Rx.Bind (jay r1118 v1.Y) fun r1119=>some r1119
noncomputable def jap (b0:(List UInt8)) (l1:(List Int)):Option (List UInt8):=
 LOOP
 (fun (rec1120:List UInt8 × Int→Option (List UInt8)) (s1121:List UInt8 × Int)=>
 Let (↑l1.length:Int) fun x1122=>
 Let (decide (s1121.snd<x1122)) fun x1123=>
 if x1123=true then
 Chk ((0:Int)≤s1121.snd∧s1121.snd<(↑l1.length:Int))
 (Let (ix l1 s1121.snd) fun x1124=>
 Rx.Bind (jay s1121.fst x1124) fun r1125=>
 Let (IntKind.i64.wrap (s1121.snd+(1:Int))) fun x1126=>rec1120 (r1125,x1126))
 else some s1121.fst)
 fuel (b0,(0:Int))
noncomputable def jaD (b0:(List UInt8)) (x1:Bool):Option (List UInt8):=
 Chk (b0.length*(1:Nat)≤(140737488355328:Nat))
 (if x1=true then
 Chk ((b0.length+(1:Nat))*(1:Nat)≤(140737488355328:Nat))
 (Let (b0++[jat (1:Int)]) fun x1127=>some x1127)
 else
 Chk ((b0.length+(1:Nat))*(1:Nat)≤(140737488355328:Nat))
 (Let (b0++[jat (0:Int)]) fun x1128=>some x1128))
noncomputable def jck (b0:(List UInt8)) (s1:Shape):Option (List UInt8):=
 Let (↑s1.Vertices.length:Int) fun x1129=>
 Rx.Bind (jap b0 [s1.Kind,s1.Radius,x1129]) fun r1130=>
 LOOP
 (fun (rec1131:List UInt8 × Int→Option (List UInt8)) (s1132:List UInt8 × Int)=>
 Let (↑s1.Vertices.length:Int) fun x1133=>
 Let (decide (s1132.snd<x1133)) fun x1134=>
 if x1134=true then
 Chk ((0:Int)≤s1132.snd∧s1132.snd<(↑s1.Vertices.length:Int))
 (Let (ix s1.Vertices s1132.snd) fun x1135=>
 Rx.Bind (jaB s1132.fst x1135) fun r1136=>
 Let (IntKind.i64.wrap (s1132.snd+(1:Int))) fun x1137=>rec1131 (r1136,x1137))
 else some s1132.fst)
 fuel (r1130,(0:Int))
noncomputable def ja2 (b0:(List UInt8)) (p1:Fixture):Option (List UInt8):=
 Rx.Bind (jck b0 p1.Shape) fun r1138=>
 Rx.Bind (jap r1138 [p1.Density,p1.Friction,p1.Restitution]) fun r1139=>
 Rx.Bind (jaD r1139 p1.Sensor) fun r1140=>
 Rx.Bind (jap r1140 [p1.Category,p1.Mask,p1.Group]) fun r1141=>some r1141
noncomputable def jbU (b0:(List UInt8)) (x1:Body):Option (List UInt8):=
 Chk (b0.length*(1:Nat)≤(140737488355328:Nat))
 (Rx.Bind (jap b0 [x1.ID,x1.Kind]) fun r1142=>
 Rx.Bind (jaB r1142 x1.Transform.Position) fun r1143=>
 Rx.Bind (jap r1143 [x1.Transform.Angle]) fun r1144=>
 Rx.Bind (jaB r1144 x1.Velocity) fun r1145=>
 Rx.Bind (jap r1145 [x1.AngularVelocity]) fun r1146=>
 Rx.Bind (jaB r1146 x1.Force) fun r1147=>
 Rx.Bind (jap r1147 [x1.Torque,x1.LinearDamping,x1.AngularDamping,x1.GravityScale])
 fun r1148=>
 Rx.Bind (jaD r1148 x1.Bullet) fun r1149=>
 Rx.Bind (jaD r1149 x1.FixedRotation) fun r1150=>
 Rx.Bind (jaD r1150 x1.NoSleep) fun r1151=>
 Rx.Bind (jaD r1151 x1.Asleep) fun r1152=>
 Let (↑x1.Fixtures.length:Int) fun x1153=>
 Rx.Bind (jap r1152 [x1.IdleSteps,x1153]) fun r1154=>
 LOOP
 (fun (rec1155:List UInt8 × Int→Option (List UInt8)) (s1156:List UInt8 × Int)=>
 Let (↑x1.Fixtures.length:Int) fun x1157=>
 Let (decide (s1156.snd<x1157)) fun x1158=>
 if x1158=true then
 Chk ((0:Int)≤s1156.snd∧s1156.snd<(↑x1.Fixtures.length:Int))
 (Let (ix x1.Fixtures s1156.snd) fun x1159=>
 Rx.Bind (ja2 s1156.fst x1159) fun r1160=>
 Let (IntKind.i64.wrap (s1156.snd+(1:Int))) fun x1161=>rec1155 (r1160,x1161))
 else some s1156.fst)
 fuel (r1154,(0:Int)))
noncomputable def jbM (b0:(List UInt8)) (x1:Joint):Option (List UInt8):=
 Chk (b0.length*(1:Nat)≤(140737488355328:Nat))
 (Rx.Bind (jap b0 [x1.ID,x1.Kind,x1.BodyA,x1.BodyB]) fun r1162=>
 Rx.Bind (jaB r1162 x1.AnchorA) fun r1163=>
 Rx.Bind (jaB r1163 x1.AnchorB) fun r1164=>
 Rx.Bind (jaB r1164 x1.Axis) fun r1165=>
 Rx.Bind (jap r1165 [x1.ReferenceAngle]) fun r1166=>
 Rx.Bind (jaD r1166 x1.EnableLimit) fun r1167=>
 Rx.Bind (jap r1167 [x1.Lower,x1.Upper]) fun r1168=>
 Rx.Bind (jaD r1168 x1.EnableMotor) fun r1169=>
 Rx.Bind (jap r1169 [x1.MotorSpeed,x1.MaxForce,x1.Softness,x1.BreakForce])
 fun r1170=>
 Rx.Bind (jaD r1170 x1.CollideConnected) fun r1171=>
 Rx.Bind
 (jap r1171 [x1.Impulses.fst,x1.Impulses.snd.fst,x1.Impulses.snd.snd.fst,x1.Impulses.snd.snd.snd])
 fun r1172=>some r1172)
noncomputable def jbJ (b0:(List UInt8)) (x1:Input):Option (List UInt8):=
 Rx.Bind (jay b0 x1.Kind) fun r1173=>
 Rx.Bind (jay r1173 x1.ID) fun r1174=>
 Rx.Bind (jaB r1174 x1.Vec) fun r1175=>
 Rx.Bind (jay r1175 x1.Value) fun r1176=>
 Rx.Bind (jbU r1176 x1.Body) fun r1177=>
 Rx.Bind (jbM r1177 x1.Joint) fun r1178=>some r1178
noncomputable def jb7 (b0:(List UInt8)):Option Int:=
 LOOP
 (fun (rec1179:Int × Int→Option Int) (s1180:Int × Int)=>
 Let (↑b0.length:Int) fun x1181=>
 Let (decide (s1180.snd<x1181)) fun x1182=>
 if x1182=true then
 Chk ((0:Int)≤s1180.snd∧s1180.snd<(↑b0.length:Int))
 (Let (ix b0 s1180.snd) fun x1183=>
 Let (↑x1183.toNat:Int) fun x1184=>
 Let (bXor IntKind.u32 s1180.fst x1184) fun x1185=>
 LOOP
 (fun (rec1186:Int × Int→Option Int) (s1187:Int × Int)=>
 Let (decide (s1187.snd<(8:Int))) fun x1188=>
 if x1188=true then
 Join (fun (v1189:Int)=>Let (IntKind.i64.wrap (s1187.snd+(1:Int))) fun x1190=>rec1186 (v1189,x1190))
 fun (j1191:Int→Option Int)=>
 Let (Int.tmod s1187.fst (2:Int)) fun x1192=>
 Let (x1192==(1:Int)) fun x1193=>
 Let (IntKind.u32.wrap (Int.tdiv s1187.fst (2:Int))) fun x1194=>
 if x1193=true then Let (bXor IntKind.u32 x1194 (2197175160:Int)) fun x1195=>j1191 x1195 else j1191 x1194
 else Let (IntKind.i64.wrap (s1180.snd+(1:Int))) fun x1196=>rec1179 (s1187.fst,x1196))
 fuel (x1185,(0:Int)))
 else Let (bXor IntKind.u32 s1180.fst (4294967295:Int)) fun x1197=>some x1197)
 fuel ((4294967295:Int),(0:Int))
noncomputable def jcx (b0:(List UInt8)):Option (List UInt8):=
 Chk (b0.length*(1:Nat)≤(140737488355328:Nat))
 (Rx.Bind (jb7 b0) fun r1198=>
 LOOP
 (fun (rec1199:List UInt8 × Int × Int→Option (List UInt8)) (s1200:List UInt8 × Int × Int)=>
 Let (decide (s1200.snd.snd<(4:Int))) fun x1201=>
 if x1201=true then
 Let (Int.tmod s1200.snd.fst (256:Int)) fun x1202=>
 Let (jat x1202) fun x1203=>
 Chk ((List.length s1200.fst+[x1203].length)*(1:Nat)≤(140737488355328:Nat))
 (Let (s1200.fst++[x1203]) fun x1204=>
 Let (IntKind.u32.wrap (Int.tdiv s1200.snd.fst (256:Int))) fun x1205=>
 Let (IntKind.i64.wrap (s1200.snd.snd+(1:Int))) fun x1206=>rec1199 (x1204,x1205,x1206))
 else some s1200.fst)
 fuel (b0,r1198,(0:Int)))
noncomputable def jcB (r0:(List (List Input))):Option ((List UInt8) × Int):=
 Rx.Bind (jbj r0) fun r1207=>
 Let (r1207 != (0:Int)) fun x1208=>
 if x1208=true then some ([],(25:Int))
 else
 Let (↑r0.length:Int) fun x1209=>
 Rx.Bind (jay [] x1209) fun r1210=>
 LOOP
 (fun (rec1211:List UInt8 × Int→Option (List UInt8 × Int)) (s1212:List UInt8 × Int)=>
 Let (↑r0.length:Int) fun x1213=>
 Let (decide (s1212.snd<x1213)) fun x1214=>
 if x1214=true then
 Chk ((0:Int)≤s1212.snd∧s1212.snd<(↑r0.length:Int))
 (Let (ix r0 s1212.snd) fun x1215=>
 Let (↑x1215.length:Int) fun x1216=>
 Rx.Bind (jay s1212.fst x1216) fun r1217=>
 LOOP
 (fun (rec1218:List UInt8 × Int→Option (List UInt8 × Int)) (s1219:List UInt8 × Int)=>
 Chk ((0:Int)≤s1212.snd∧s1212.snd<(↑r0.length:Int))
 (Let (ix r0 s1212.snd) fun x1220=>
 Let (↑x1220.length:Int) fun x1221=>
 Let (decide (s1219.snd<x1221)) fun x1222=>
 if x1222=true then
 Chk ((0:Int)≤s1212.snd∧s1212.snd<(↑r0.length:Int))
 (Let (ix r0 s1212.snd) fun x1223=>
 Chk ((0:Int)≤s1219.snd∧s1219.snd<(↑x1223.length:Int))
 (Let (ix x1223 s1219.snd) fun x1224=>
 Rx.Bind (jbJ s1219.fst x1224) fun r1225=>
 Let (IntKind.i64.wrap (s1219.snd+(1:Int))) fun x1226=>rec1218 (r1225,x1226)))
 else Let (IntKind.i64.wrap (s1212.snd+(1:Int))) fun x1227=>rec1211 (s1219.fst,x1227)))
 fuel (r1217,(0:Int)))
 else Rx.Bind (jcx s1212.fst) fun r1228=>some (r1228,(0:Int)))
 fuel (r1210,(0:Int))
noncomputable def jbW (a0:(List UInt8)) (b1:(List UInt8)):Option Bool:=
 Let (a0==b1) fun x1229=>some x1229
noncomputable def jcy (b0:(List UInt8)):Option ((List UInt8) × Int):=
 Let (↑b0.length:Int) fun x1230=>
 Let (decide (x1230<(4:Int))) fun x1231=>
 if x1231=true then some ([],(4:Int))
 else
 Let (↑b0.length:Int) fun x1232=>
 Let (IntKind.i64.wrap (x1232 - (4:Int))) fun x1233=>
 Chk ((0:Int)≤x1233∧x1233≤(↑b0.length:Int))
 (Let (List.take x1233.toNat b0) fun x1234=>
 Rx.Bind (jcx x1234) fun r1235=>
 Rx.Bind (jbW r1235 b0) fun r1236=>
 Let (!r1236) fun x1237=>
 if x1237=true then some ([],(22:Int))
 else
 Chk ((0:Int)≤x1233∧x1233≤(↑b0.length:Int))
 (Let (List.take x1233.toNat b0) fun x1238=>
 Chk (x1238.length*(1:Nat)≤(140737488355328:Nat)) (some (x1238,(0:Int)))))
noncomputable def jaH (b0:(List UInt8)) (at1:Int):Option (Int × Int × Int):=
 Let (decide (at1<(0:Int))) fun x1239=>
 Let (↑b0.length:Int) fun x1240=>
 Let (decide (at1>x1240)) fun x1241=>
 Let (bif x1239 then true else x1241) fun x1242=>
 if x1242=true then some ((0:Int),(0:Int),(2:Int))
 else
 Let (↑b0.length:Int) fun x1243=>
 Let (at1==x1243) fun x1244=>
 if x1244=true then some ((0:Int),(0:Int),(4:Int))
 else
 Chk ((0:Int)≤at1∧at1<(↑b0.length:Int))
 (Let (ix b0 at1) fun x1245=>
 Let (↑x1245.toNat:Int) fun x1246=>
 Let (decide (x1246≥(16:Int))) fun x1247=>
 Join
 (fun (v1248:Int)=>
 Let (decide (v1248>(8:Int))) fun x1249=>
 Let (decide (v1248<(0:Int))) fun x1250=>
 Let (bif x1249 then true else x1250) fun x1251=>
 Let (v1248==(0:Int)) fun x1252=>
 Let (bif x1247 then x1252 else false) fun x1253=>
 Let (bif x1251 then true else x1253) fun x1254=>
 if x1254=true then some ((0:Int),(0:Int),(3:Int))
 else
 Let (↑b0.length:Int) fun x1255=>
 Let (IntKind.i64.wrap (x1255 - at1)) fun x1256=>
 Let (IntKind.i64.wrap (x1256 - (1:Int))) fun x1257=>
 Let (decide (x1257<v1248)) fun x1258=>
 if x1258=true then some ((0:Int),(0:Int),(4:Int))
 else
 LOOP
 (fun (rec1259:Int × Int→Option (Int × Int × Int)) (s1260:Int × Int)=>
 Let (decide (s1260.snd≤v1248)) fun x1261=>
 if x1261=true then
 Let (IntKind.u64.wrap (s1260.fst*(256:Int))) fun x1262=>
 Let (IntKind.i64.wrap (at1+s1260.snd)) fun x1263=>
 Chk ((0:Int)≤x1263∧x1263<(↑b0.length:Int))
 (Let (ix b0 x1263) fun x1264=>
 Let (↑x1264.toNat:Int) fun x1265=>
 Let (IntKind.u64.wrap (x1262+x1265)) fun x1266=>
 Let (IntKind.i64.wrap (s1260.snd+(1:Int))) fun x1267=>rec1259 (x1266,x1267))
 else
 Let (decide (v1248>(0:Int))) fun x1268=>
 Let (IntKind.i64.wrap (at1+(1:Int))) fun x1269=>
 Chk ((x1268==true)=true→(0:Int)≤x1269∧x1269<(↑b0.length:Int))
 (Let (ix b0 x1269) fun x1270=>
 Let (x1270==jat (0:Int)) fun x1271=>
 Let (bif x1268 then x1271 else false) fun x1272=>
 Let (!x1247) fun x1273=>
 Let (decide (s1260.fst>(9223372036854775807:Int))) fun x1274=>
 Let (bif x1273 then x1274 else false) fun x1275=>
 Let (bif x1272 then true else x1275) fun x1276=>
 Let (decide (s1260.fst>(9223372036854775808:Int))) fun x1277=>
 Let (bif x1247 then x1277 else false) fun x1278=>
 Let (bif x1276 then true else x1278) fun x1279=>
 if x1279=true then some ((0:Int),(0:Int),(3:Int))
 else
 if x1247=true then
 Let (IntKind.u64.wrap (s1260.fst - (1:Int))) fun x1280=>
 Let (IntKind.i64.wrap x1280) fun x1281=>
 Let (IntKind.i64.wrap ((0:Int) - x1281)) fun x1282=>
 Let (IntKind.i64.wrap (x1282 - (1:Int))) fun x1283=>
 Let (IntKind.i64.wrap (at1+(1:Int))) fun x1284=>
 Let (IntKind.i64.wrap (x1284+v1248)) fun x1285=>some (x1283,x1285,(0:Int))
 else
 Let (IntKind.i64.wrap s1260.fst) fun x1286=>
 Let (IntKind.i64.wrap (at1+(1:Int))) fun x1287=>
 Let (IntKind.i64.wrap (x1287+v1248)) fun x1288=>some (x1286,x1288,(0:Int))))
 fuel ((0:Int),(1:Int)))
 fun (j1289:Int→Option (Int × Int × Int))=>
 if x1247=true then Let (IntKind.i64.wrap (x1246 - (16:Int))) fun x1290=>j1289 x1290 else j1289 x1246)
noncomputable def jaR (b0:(List UInt8)) (at1:Int):Option (Int × Int × Int):=
 Rx.Bind (jaH b0 at1) fun r1291=>
 Let (r1291.snd.snd != (0:Int)) fun x1292=>
 if x1292=true then some ((0:Int),(0:Int),r1291.snd.snd)
 else
 Let (decide (r1291.fst<(0:Int))) fun x1293=>
 if x1293=true then some ((0:Int),(0:Int),(3:Int))
 else
 Let (decide (r1291.fst>(8192:Int))) fun x1294=>
 if x1294=true then some ((0:Int),(0:Int),(5:Int)) else some (r1291.fst,r1291.snd.fst,(0:Int))
noncomputable def jbX (b0:(List UInt8)) (at1:Int):Option (Vec × Int × Int):=
 Rx.Bind (jaH b0 at1) fun r1295=>
 Let (r1295.snd.snd != (0:Int)) fun x1296=>
 if x1296=true then some ({X:=(0:Int),Y:=(0:Int):Vec},(0:Int),r1295.snd.snd)
 else
 Rx.Bind (jaH b0 r1295.snd.fst) fun r1297=>
 Let (r1297.snd.snd != (0:Int)) fun x1298=>
 if x1298=true then some ({X:=(0:Int),Y:=(0:Int):Vec},(0:Int),r1297.snd.snd)
 else some ({X:=r1295.fst,Y:=r1297.fst:Vec},r1297.snd.fst,(0:Int))
noncomputable def jaa (r0:caromref45_Reader):Option (Int × caromref45_Reader):=
 Let (r0.Err != (0:Int)) fun x1299=>
 if x1299=true then some ((0:Int),r0)
 else
 Rx.Bind (jaH r0.B r0.Offset) fun r1300=>
 Let (r1300.snd.snd != (0:Int)) fun x1301=>
 if x1301=true then some ((0:Int),{B:=[],Offset:=(0:Int),Err:=r1300.snd.snd:caromref45_Reader })
 else some (r1300.fst,{B:=r0.B,Offset:=r1300.snd.fst,Err:=(0:Int):caromref45_Reader })
noncomputable def jaj (r0:caromref45_Reader) (n1:Int):Option ((List Int) × caromref45_Reader):=
 LOOP
 (fun (rec1302:List Int × Int × caromref45_Reader→Option (List Int × caromref45_Reader))
 (s1303:List Int × Int × caromref45_Reader)=>
 Let (decide (s1303.snd.fst<n1)) fun x1304=>
 if x1304=true then
 Rx.Bind (jaa s1303.snd.snd) fun r1305=>
 Chk ((List.length s1303.fst+[r1305.fst].length)*(8:Nat)≤(140737488355328:Nat))
 (Let (s1303.fst++[r1305.fst]) fun x1306=>
 Let (IntKind.i64.wrap (s1303.snd.fst+(1:Int))) fun x1307=>rec1302 (x1306,x1307,r1305.snd))
 else some (s1303.fst,s1303.snd.snd))
 fuel ([],(0:Int),r0)
noncomputable def jcb (b0:(List UInt8)) (at1:Int):Option (Bool × Int × Int):=
 Let (decide (at1<(0:Int))) fun x1308=>
 Let (↑b0.length:Int) fun x1309=>
 Let (decide (at1>x1309)) fun x1310=>
 Let (bif x1308 then true else x1310) fun x1311=>
 if x1311=true then some (false,(0:Int),(2:Int))
 else
 Let (↑b0.length:Int) fun x1312=>
 Let (at1==x1312) fun x1313=>
 if x1313=true then some (false,(0:Int),(4:Int))
 else
 Chk ((0:Int)≤at1∧at1<(↑b0.length:Int))
 (Let (ix b0 at1) fun x1314=>
 Let (decide (jat (1:Int)<x1314)) fun x1315=>
 if x1315=true then some (false,(0:Int),(3:Int))
 else
 Chk ((0:Int)≤at1∧at1<(↑b0.length:Int))
 (Let (ix b0 at1) fun x1316=>
 Let (x1316==jat (1:Int)) fun x1317=>
 Let (IntKind.i64.wrap (at1+(1:Int))) fun x1318=>some (x1317,x1318,(0:Int))))
noncomputable def jah (r0:caromref45_Reader):Option (Bool × caromref45_Reader):=
 Let (r0.Err != (0:Int)) fun x1319=>
 if x1319=true then some (false,r0)
 else
 Rx.Bind (jcb r0.B r0.Offset) fun r1320=>
 Let (r1320.snd.snd != (0:Int)) fun x1321=>
 if x1321=true then some (false,{B:=[],Offset:=(0:Int),Err:=r1320.snd.snd:caromref45_Reader })
 else some (r1320.fst,{B:=r0.B,Offset:=r1320.snd.fst,Err:=(0:Int):caromref45_Reader })
noncomputable def jaI (r0:caromref45_Reader):Option (Int × caromref45_Reader):=
 Rx.Bind (jaa r0) fun r1322=>
 Let (r1322.snd.Err==(0:Int)) fun x1323=>
 Let (decide (r1322.fst<(0:Int))) fun x1324=>
 Let (bif x1323 then x1324 else false) fun x1325=>
 if x1325=true then some ((0:Int),{B:=[],Offset:=(0:Int),Err:=(3:Int):caromref45_Reader })
 else
 Let (r1322.snd.Err==(0:Int)) fun x1326=>
 Let (decide (r1322.fst>(8192:Int))) fun x1327=>
 Let (bif x1326 then x1327 else false) fun x1328=>
 if x1328=true then some ((0:Int),{B:=[],Offset:=(0:Int),Err:=(5:Int):caromref45_Reader })
 else some r1322
noncomputable def jbT (r0:caromref45_Reader):Option (Vec × caromref45_Reader):=
 Rx.Bind (jaa r0) fun r1329=>
 Rx.Bind (jaa r1329.snd) fun r1330=>
 some ({X:=r1329.fst,Y:=r1330.fst:Vec},r1330.snd)
noncomputable def jaU (r0:caromref45_Reader):Option (Fixture × caromref45_Reader):=
 Rx.Bind (jaj r0 (2:Int)) fun r1331=>
 Chk ((0:Int)≤(0:Int)∧(0:Int)<(↑(List.length r1331.fst):Int))
 (Let (ix r1331.fst (0:Int)) fun x1332=>
 Chk ((0:Int)≤(1:Int)∧(1:Int)<(↑(List.length r1331.fst):Int))
 (Let (ix r1331.fst (1:Int)) fun x1333=>
 Rx.Bind (jaI r1331.snd) fun r1334=>
 LOOP
 (fun (rec1335:Int × Fixture × caromref45_Reader→Option (Fixture × caromref45_Reader))
 (s1336:Int × Fixture × caromref45_Reader)=>
 Let (decide (s1336.fst<r1334.fst)) fun x1337=>
 Let (s1336.snd.snd.Err==(0:Int)) fun x1338=>
 Let (bif x1337 then x1338 else false) fun x1339=>
 if x1339=true then
 Rx.Bind (jbT s1336.snd.snd) fun r1340=>
 Chk ((s1336.snd.fst.Shape.Vertices.length+[r1340.fst].length)*(16:Nat)≤(140737488355328:Nat))
 (Let (s1336.snd.fst.Shape.Vertices++[r1340.fst]) fun x1341=>
 Let (IntKind.i64.wrap (s1336.fst+(1:Int))) fun x1342=>
 rec1335
 (x1342,
 {Shape:={Kind:=s1336.snd.fst.Shape.Kind,Radius:=s1336.snd.fst.Shape.Radius,Vertices:=x1341:Shape},Density:=s1336.snd.fst.Density,Friction:=s1336.snd.fst.Friction,Restitution:=s1336.snd.fst.Restitution,Sensor:=s1336.snd.fst.Sensor,Category:=s1336.snd.fst.Category,Mask:=s1336.snd.fst.Mask,Group:=s1336.snd.fst.Group:Fixture},
 r1340.snd))
 else
 Rx.Bind (jaj s1336.snd.snd (3:Int)) fun r1343=>
 Chk ((0:Int)≤(0:Int)∧(0:Int)<(↑(List.length r1343.fst):Int))
 (Let (ix r1343.fst (0:Int)) fun x1344=>
 Chk ((0:Int)≤(1:Int)∧(1:Int)<(↑(List.length r1343.fst):Int))
 (Let (ix r1343.fst (1:Int)) fun x1345=>
 Chk ((0:Int)≤(2:Int)∧(2:Int)<(↑(List.length r1343.fst):Int))
 (Let (ix r1343.fst (2:Int)) fun x1346=>
 Rx.Bind (jah r1343.snd) fun r1347=>
 Rx.Bind (jaj r1347.snd (3:Int)) fun r1348=>
 Chk ((0:Int)≤(0:Int)∧(0:Int)<(↑(List.length r1348.fst):Int))
 (Let (ix r1348.fst (0:Int)) fun x1349=>
 Chk ((0:Int)≤(1:Int)∧(1:Int)<(↑(List.length r1348.fst):Int))
 (Let (ix r1348.fst (1:Int)) fun x1350=>
 Chk ((0:Int)≤(2:Int)∧(2:Int)<(↑(List.length r1348.fst):Int))
 (Let (ix r1348.fst (2:Int)) fun x1351=>
 some
 ({Shape:=s1336.snd.fst.Shape,Density:=x1344,Friction:=x1345,Restitution:=x1346,Sensor:=r1347.fst,Category:=x1349,Mask:=x1350,Group:=x1351:Fixture},
 r1348.snd))))))))
 fuel
 ((0:Int),
 {Shape:={Kind:=x1332,Radius:=x1333,Vertices:=[]:Shape},Density:=(0:Int),Friction:=(0:Int),Restitution:=(0:Int),Sensor:=false,Category:=(0:Int),Mask:=(0:Int),Group:=(0:Int):Fixture},
 r1334.snd)))
noncomputable def ja0 (r0:caromref45_Reader):Option (Body × caromref45_Reader):=
 Rx.Bind (jaj r0 (8:Int)) fun r1352=>
 Chk ((0:Int)≤(0:Int)∧(0:Int)<(↑(List.length r1352.fst):Int))
 (Let (ix r1352.fst (0:Int)) fun x1353=>
 Chk ((0:Int)≤(1:Int)∧(1:Int)<(↑(List.length r1352.fst):Int))
 (Let (ix r1352.fst (1:Int)) fun x1354=>
 Chk ((0:Int)≤(2:Int)∧(2:Int)<(↑(List.length r1352.fst):Int))
 (Let (ix r1352.fst (2:Int)) fun x1355=>
 Chk ((0:Int)≤(3:Int)∧(3:Int)<(↑(List.length r1352.fst):Int))
 (Let (ix r1352.fst (3:Int)) fun x1356=>
 Chk ((0:Int)≤(4:Int)∧(4:Int)<(↑(List.length r1352.fst):Int))
 (Let (ix r1352.fst (4:Int)) fun x1357=>
 Chk ((0:Int)≤(5:Int)∧(5:Int)<(↑(List.length r1352.fst):Int))
 (Let (ix r1352.fst (5:Int)) fun x1358=>
 Chk ((0:Int)≤(6:Int)∧(6:Int)<(↑(List.length r1352.fst):Int))
 (Let (ix r1352.fst (6:Int)) fun x1359=>
 Chk ((0:Int)≤(7:Int)∧(7:Int)<(↑(List.length r1352.fst):Int))
 (Let (ix r1352.fst (7:Int)) fun x1360=>
 Rx.Bind (jaj r1352.snd (6:Int)) fun r1361=>
 Chk ((0:Int)≤(0:Int)∧(0:Int)<(↑(List.length r1361.fst):Int))
 (Let (ix r1361.fst (0:Int)) fun x1362=>
 Chk ((0:Int)≤(1:Int)∧(1:Int)<(↑(List.length r1361.fst):Int))
 (Let (ix r1361.fst (1:Int)) fun x1363=>
 Chk ((0:Int)≤(2:Int)∧(2:Int)<(↑(List.length r1361.fst):Int))
 (Let (ix r1361.fst (2:Int)) fun x1364=>
 Chk ((0:Int)≤(3:Int)∧(3:Int)<(↑(List.length r1361.fst):Int))
 (Let (ix r1361.fst (3:Int)) fun x1365=>
 Chk ((0:Int)≤(4:Int)∧(4:Int)<(↑(List.length r1361.fst):Int))
 (Let (ix r1361.fst (4:Int)) fun x1366=>
 Chk ((0:Int)≤(5:Int)∧(5:Int)<(↑(List.length r1361.fst):Int))
 (Let (ix r1361.fst (5:Int)) fun x1367=>
 Rx.Bind (jah r1361.snd) fun r1368=>
 Rx.Bind (jah r1368.snd) fun r1369=>
 Rx.Bind (jah r1369.snd) fun r1370=>
 Rx.Bind (jah r1370.snd) fun r1371=>
 Rx.Bind (jaa r1371.snd) fun r1372=>
 Rx.Bind (jaI r1372.snd) fun r1373=>
 LOOP
 (fun (rec1374:Int × Body × caromref45_Reader→Option (Body × caromref45_Reader))
 (s1375:Int × Body × caromref45_Reader)=>
 Let (decide (s1375.fst<r1373.fst)) fun x1376=>
 Let (s1375.snd.snd.Err==(0:Int)) fun x1377=>
 Let (bif x1376 then x1377 else false) fun x1378=>
 if x1378=true then
 Rx.Bind (jaU s1375.snd.snd) fun r1379=>
 Chk ((s1375.snd.fst.Fixtures.length+[r1379.fst].length)*(96:Nat)≤(140737488355328:Nat))
 (Let (s1375.snd.fst.Fixtures++[r1379.fst]) fun x1380=>
 Let (IntKind.i64.wrap (s1375.fst+(1:Int))) fun x1381=>
 rec1374
 (x1381,
 {ID:=s1375.snd.fst.ID,Kind:=s1375.snd.fst.Kind,Transform:=s1375.snd.fst.Transform,Velocity:=s1375.snd.fst.Velocity,AngularVelocity:=s1375.snd.fst.AngularVelocity,Force:=s1375.snd.fst.Force,Torque:=s1375.snd.fst.Torque,LinearDamping:=s1375.snd.fst.LinearDamping,AngularDamping:=s1375.snd.fst.AngularDamping,GravityScale:=s1375.snd.fst.GravityScale,Bullet:=s1375.snd.fst.Bullet,FixedRotation:=s1375.snd.fst.FixedRotation,NoSleep:=s1375.snd.fst.NoSleep,Asleep:=s1375.snd.fst.Asleep,IdleSteps:=s1375.snd.fst.IdleSteps,Fixtures:=x1380:Body},
 r1379.snd))
 else some s1375.snd)
 fuel
 ((0:Int),
 {ID:=x1353,Kind:=x1354,Transform:={Position:={X:=x1355,Y:=x1356:Vec},Angle:=x1357:Transform},Velocity:={X:=x1358,Y:=x1359:Vec},AngularVelocity:=x1360,Force:={X:=x1362,Y:=x1363:Vec},Torque:=x1364,LinearDamping:=x1365,AngularDamping:=x1366,GravityScale:=x1367,Bullet:=r1368.fst,FixedRotation:=r1369.fst,NoSleep:=r1370.fst,Asleep:=r1371.fst,IdleSteps:=r1372.fst,Fixtures:=[]:Body},
 r1373.snd)))))))))))))))
noncomputable def jca (b0:(List UInt8)) (at1:Int):Option (Body × Int × Int):=
 Rx.Bind (ja0 {B:=b0,Offset:=at1,Err:=(0:Int):caromref45_Reader })
 fun r1382=>
 Let (r1382.snd.Err != (0:Int)) fun x1383=>
 if x1383=true then
 some
 (exB,
 (0:Int),r1382.snd.Err)
 else some (r1382.fst,r1382.snd.Offset,(0:Int))
noncomputable def jaY (r0:caromref45_Reader):Option (Joint × caromref45_Reader):=
 Rx.Bind (jaj r0 (11:Int)) fun r1384=>
 Chk ((0:Int)≤(0:Int)∧(0:Int)<(↑(List.length r1384.fst):Int))
 (Let (ix r1384.fst (0:Int)) fun x1385=>
 Chk ((0:Int)≤(1:Int)∧(1:Int)<(↑(List.length r1384.fst):Int))
 (Let (ix r1384.fst (1:Int)) fun x1386=>
 Chk ((0:Int)≤(2:Int)∧(2:Int)<(↑(List.length r1384.fst):Int))
 (Let (ix r1384.fst (2:Int)) fun x1387=>
 Chk ((0:Int)≤(3:Int)∧(3:Int)<(↑(List.length r1384.fst):Int))
 (Let (ix r1384.fst (3:Int)) fun x1388=>
 Chk ((0:Int)≤(4:Int)∧(4:Int)<(↑(List.length r1384.fst):Int))
 (Let (ix r1384.fst (4:Int)) fun x1389=>
 Chk ((0:Int)≤(5:Int)∧(5:Int)<(↑(List.length r1384.fst):Int))
 (Let (ix r1384.fst (5:Int)) fun x1390=>
 Chk ((0:Int)≤(6:Int)∧(6:Int)<(↑(List.length r1384.fst):Int))
 (Let (ix r1384.fst (6:Int)) fun x1391=>
 Chk ((0:Int)≤(7:Int)∧(7:Int)<(↑(List.length r1384.fst):Int))
 (Let (ix r1384.fst (7:Int)) fun x1392=>
 Chk ((0:Int)≤(8:Int)∧(8:Int)<(↑(List.length r1384.fst):Int))
 (Let (ix r1384.fst (8:Int)) fun x1393=>
 Chk ((0:Int)≤(9:Int)∧(9:Int)<(↑(List.length r1384.fst):Int))
 (Let (ix r1384.fst (9:Int)) fun x1394=>
 Chk ((0:Int)≤(10:Int)∧(10:Int)<(↑(List.length r1384.fst):Int))
 (Let (ix r1384.fst (10:Int)) fun x1395=>
 Rx.Bind (jah r1384.snd) fun r1396=>
 Rx.Bind (jaj r1396.snd (2:Int)) fun r1397=>
 Chk ((0:Int)≤(0:Int)∧(0:Int)<(↑(List.length r1397.fst):Int))
 (Let (ix r1397.fst (0:Int)) fun x1398=>
 Chk ((0:Int)≤(1:Int)∧(1:Int)<(↑(List.length r1397.fst):Int))
 (Let (ix r1397.fst (1:Int)) fun x1399=>
 Rx.Bind (jah r1397.snd) fun r1400=>
 Rx.Bind (jaj r1400.snd (4:Int)) fun r1401=>
 Chk ((0:Int)≤(0:Int)∧(0:Int)<(↑(List.length r1401.fst):Int))
 (Let (ix r1401.fst (0:Int)) fun x1402=>
 Chk ((0:Int)≤(1:Int)∧(1:Int)<(↑(List.length r1401.fst):Int))
 (Let (ix r1401.fst (1:Int)) fun x1403=>
 Chk ((0:Int)≤(2:Int)∧(2:Int)<(↑(List.length r1401.fst):Int))
 (Let (ix r1401.fst (2:Int)) fun x1404=>
 Chk ((0:Int)≤(3:Int)∧(3:Int)<(↑(List.length r1401.fst):Int))
 (Let (ix r1401.fst (3:Int)) fun x1405=>
 Rx.Bind (jah r1401.snd) fun r1406=>
 Rx.Bind (jaj r1406.snd (4:Int)) fun r1407=>
 Chk ((0:Int)≤(0:Int)∧(0:Int)<(↑(List.length r1407.fst):Int))
 (Let (ix r1407.fst (0:Int)) fun x1408=>
 Chk ((0:Int)≤(1:Int)∧(1:Int)<(↑(List.length r1407.fst):Int))
 (Let (ix r1407.fst (1:Int)) fun x1409=>
 Chk ((0:Int)≤(2:Int)∧(2:Int)<(↑(List.length r1407.fst):Int))
 (Let (ix r1407.fst (2:Int)) fun x1410=>
 Chk ((0:Int)≤(3:Int)∧(3:Int)<(↑(List.length r1407.fst):Int))
 (Let (ix r1407.fst (3:Int)) fun x1411=>
 some
 ({ID:=x1385,Kind:=x1386,BodyA:=x1387,BodyB:=x1388,AnchorA:={X:=x1389,Y:=x1390:Vec},AnchorB:={X:=x1391,Y:=x1392:Vec},Axis:={X:=x1393,Y:=x1394:Vec},ReferenceAngle:=x1395,EnableLimit:=r1396.fst,Lower:=x1398,Upper:=x1399,EnableMotor:=r1400.fst,MotorSpeed:=x1402,MaxForce:=x1403,Softness:=x1404,BreakForce:=x1405,CollideConnected:=r1406.fst,Impulses:=(x1408,x1409,x1410,x1411):Joint},
 r1407.snd))))))))))))))))))))))
noncomputable def jb3 (b0:(List UInt8)) (at1:Int):Option (Joint × Int × Int):=
 Rx.Bind (jaY {B:=b0,Offset:=at1,Err:=(0:Int):caromref45_Reader })
 fun r1412=>
 Let (r1412.snd.Err != (0:Int)) fun x1413=>
 if x1413=true then
 some
 (exJ,
 (0:Int),r1412.snd.Err)
 else some (r1412.fst,r1412.snd.Offset,(0:Int))
noncomputable def jbd (b0:(List UInt8)) (at1:Int):Option (Input × Int × Int):=
 Rx.Bind (jaH b0 at1) fun r1414=>
 Let (r1414.snd.snd != (0:Int)) fun x1415=>
 if x1415=true then
 some
 (exI0,
 (0:Int),r1414.snd.snd)
 else
 Rx.Bind (jaH b0 r1414.snd.fst) fun r1416=>
 Let (r1416.snd.snd != (0:Int)) fun x1417=>
 if x1417=true then
 some
 (exI0,
 (0:Int),r1416.snd.snd)
 else
 Rx.Bind (jbX b0 r1416.snd.fst) fun r1418=>
 Let (r1418.snd.snd != (0:Int)) fun x1419=>
 if x1419=true then
 some
 (exI0,
 (0:Int),r1418.snd.snd)
 else
 Rx.Bind (jaH b0 r1418.snd.fst) fun r1420=>
 Let (r1420.snd.snd != (0:Int)) fun x1421=>
 if x1421=true then
 some
 (exI0,
 (0:Int),r1420.snd.snd)
 else
 Rx.Bind (jca b0 r1420.snd.fst) fun r1422=>
 Let (r1422.snd.snd != (0:Int)) fun x1423=>
 if x1423=true then
 some
 (exI0,
 (0:Int),r1422.snd.snd)
 else
 Rx.Bind (jb3 b0 r1422.snd.fst) fun r1424=>
 Let (r1424.snd.snd != (0:Int)) fun x1425=>
 if x1425=true then
 some
 (exI0,
 (0:Int),r1424.snd.snd)
 else
 some
 ({Kind:=r1414.fst,ID:=r1416.fst,Vec:=r1418.fst,Value:=r1420.fst,Body:=r1422.fst,Joint:=r1424.fst:Input},
 r1424.snd.fst,(0:Int))
noncomputable def jcC (b0:(List UInt8)):Option ((List (List Input)) × Int):=
 Rx.Bind (jcy b0) fun r1426=>
 Let (r1426.snd != (0:Int)) fun x1427=>
 if x1427=true then some ([],r1426.snd)
 else
 Rx.Bind (jaR r1426.fst (0:Int)) fun r1428=>
 Let (r1428.snd.snd != (0:Int)) fun x1429=>
 if x1429=true then some ([],r1428.snd.snd)
 else
 LOOP
 (fun (rec1430:Int × List (List Input) × Int→Option (List (List Input) × Int))
 (s1431:Int × List (List Input) × Int)=>
 Let (decide (s1431.snd.snd<r1428.fst)) fun x1432=>
 if x1432=true then
 Rx.Bind (jaR r1426.fst s1431.fst) fun r1433=>
 Let (r1433.snd.snd != (0:Int)) fun x1434=>
 if x1434=true then some ([],r1433.snd.snd)
 else
 LOOP
 (fun (rec1435:Int × List Input × Int→Option (List (List Input) × Int)) (s1436:Int × List Input × Int)=>
 Let (decide (s1436.snd.snd<r1433.fst)) fun x1437=>
 if x1437=true then
 Rx.Bind (jbd r1426.fst s1436.fst) fun r1438=>
 Let (r1438.snd.snd != (0:Int)) fun x1439=>
 if x1439=true then some ([],r1438.snd.snd)
 else
 Chk ((List.length s1436.snd.fst+[r1438.fst].length)*(384:Nat)≤(140737488355328:Nat))
 (Let (s1436.snd.fst++[r1438.fst]) fun x1440=>
 Let (IntKind.i64.wrap (s1436.snd.snd+(1:Int))) fun x1441=>rec1435 (r1438.snd.fst,x1440,x1441))
 else
 Chk ((List.length s1431.snd.fst+[s1436.snd.fst].length)*(24:Nat)≤(140737488355328:Nat))
 (Let (s1431.snd.fst++[s1436.snd.fst]) fun x1442=>
 Let (IntKind.i64.wrap (s1431.snd.snd+(1:Int))) fun x1443=>rec1430 (s1436.fst,x1442,x1443)))
 fuel (r1433.snd.fst,[],(0:Int))
 else
 Let (↑(List.length r1426.fst):Int) fun x1444=>
 Let (s1431.fst != x1444) fun x1445=>
 if x1445=true then some ([],(3:Int))
 else
 Rx.Bind (jbj s1431.snd.fst) fun r1446=>
 Let (r1446 != (0:Int)) fun x1447=>
 if x1447=true then some ([],(25:Int)) else some (s1431.snd.fst,(0:Int)))
 fuel (r1428.snd.fst,[],(0:Int))
noncomputable def jbh (r0:(List (List Input))) (b1:(List UInt8)):Option Bool:=
 Rx.Bind (jcf r0) fun r1448=>
 Let (!r1448) fun x1449=>
 Let (↑b1.length:Int) fun x1450=>
 Let (decide (x1450>(4000:Int))) fun x1451=>
 Let (bif x1449 then true else x1451) fun x1452=>
 if x1452=true then Rx.Bind jbY fun r1453=>some r1453
 else
 Rx.Bind (jcd r0) fun r1454=>
 Rx.Bind (jcB r0) fun r1455=>
 Rx.Bind (jcJ b1) fun r1456=>
 Rx.Bind (jcC b1) fun r1457=>
 Rx.Bind (jbS r1454.fst r1455.fst) fun r1458=>
 Let (r1454.snd==r1455.snd) fun x1459=>
 Let (bif r1458 then x1459 else false) fun x1460=>
 Rx.Bind (if (x1460==true)=true then jcL r1456.fst r1457.fst else some default) fun r1461=>
 Let (bif x1460 then r1461 else false) fun x1462=>
 Let (r1456.snd==r1457.snd) fun x1463=>
 Let (bif x1462 then x1463 else false) fun x1464=>
 Rx.Bind (if (x1464==true)=true then jbY else some default) fun r1465=>
 Let (bif x1464 then r1465 else false) fun x1466=>some x1466
end GoForm
