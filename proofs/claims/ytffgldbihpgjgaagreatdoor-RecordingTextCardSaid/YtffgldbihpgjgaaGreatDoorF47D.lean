/- The functions' plain forms. Printed by go3.py. No conditions. -/
import Derived.Test.YtffgldbihpgjgaaGreatDoorF47T
import Derived.Test.YtffgldbihpgjgaaGreatDoorF47E
set_option linter.all false
set_option maxRecDepth 100000
open Go Go.Rx Go.Proofs Go.RowKit
namespace GoForm
noncomputable def caromref47_SmallInputs (inputs0:(List Input)):Option Bool:=
 LOOP
 (fun (rec1:Int→Option Bool) (s2:Int)=>
 Let (↑inputs0.length:Int) fun x3=>
 Let (decide (s2<x3)) fun x4=>
 Let (decide (s2<(40:Int))) fun x5=>
 Let (bif x4 then x5 else false) fun x6=>
 if x6=true then
 Chk ((0:Int)≤s2∧s2<(↑inputs0.length:Int))
 (Let (ix inputs0 s2) fun x7=>
 LOOP
 (fun (rec8:Int→Option Bool) (s9:Int)=>
 Let (↑x7.Body.Fixtures.length:Int) fun x10=>
 Let (decide (s9<x10)) fun x11=>
 Let (decide (s9<(6:Int))) fun x12=>
 Let (bif x11 then x12 else false) fun x13=>
 if x13=true then
 Chk ((0:Int)≤s9∧s9<(↑x7.Body.Fixtures.length:Int))
 (Let (ix x7.Body.Fixtures s9) fun x14=>
 Let (↑x14.Shape.Vertices.length:Int) fun x15=>
 Let (decide (x15>(12:Int))) fun x16=>
 if x16=true then some false else Let (IntKind.i64.wrap (s9+(1:Int))) fun x17=>rec8 x17)
 else
 Let (↑x7.Body.Fixtures.length:Int) fun x18=>
 Let (decide (x18>(6:Int))) fun x19=>
 if x19=true then some false else Let (IntKind.i64.wrap (s2+(1:Int))) fun x20=>rec1 x20)
 fuel (0:Int))
 else Let (↑inputs0.length:Int) fun x21=>Let (decide (x21≤(40:Int))) fun x22=>some x22)
 fuel (0:Int)
noncomputable def caromref47_Small (r0:(List (List Input))):Option Bool:=
 LOOP
 (fun (rec23:Int × Int→Option Bool) (s24:Int × Int)=>
 Let (↑r0.length:Int) fun x25=>
 Let (decide (s24.snd<x25)) fun x26=>
 Let (decide (s24.snd<(5000:Int))) fun x27=>
 Let (bif x26 then x27 else false) fun x28=>
 if x28=true then
 Chk ((0:Int)≤s24.snd∧s24.snd<(↑r0.length:Int))
 (Let (ix r0 s24.snd) fun x29=>
 Let (↑x29.length:Int) fun x30=>
 Let (IntKind.i64.wrap (s24.fst+x30)) fun x31=>
 Let (decide (x31>(100:Int))) fun x32=>
 Chk ((x32==false)=true→(0:Int)≤s24.snd∧s24.snd<(↑r0.length:Int))
 (Let (ix r0 s24.snd) fun x33=>
 Rx.Bind (if (x32==false)=true then caromref47_SmallInputs x33 else some default) fun r34=>
 Let (!r34) fun x35=>
 Let (bif x32 then true else x35) fun x36=>
 if x36=true then some false else Let (IntKind.i64.wrap (s24.snd+(1:Int))) fun x37=>rec23 (x31,x37)))
 else Let (↑r0.length:Int) fun x38=>Let (decide (x38≤(5000:Int))) fun x39=>some x39)
 fuel ((0:Int),(0:Int))
noncomputable def caromlaw47_impulse  : Option Input:=
 some
 {Kind:=(1:Int),ID:=(3:Int),Vec:={X:=(65536:Int),Y:=(0:Int):Vec},Value:=(0:Int),Body:={ID:=(0:Int),Kind:=(0:Int),Transform:={Position:={X:=(0:Int),Y:=(0:Int):Vec},Angle:=(0:Int):Transform},Velocity:={X:=(0:Int),Y:=(0:Int):Vec},AngularVelocity:=(0:Int),Force:={X:=(0:Int),Y:=(0:Int):Vec},Torque:=(0:Int),LinearDamping:=(0:Int),AngularDamping:=(0:Int),GravityScale:=(0:Int),Bullet:=false,FixedRotation:=false,NoSleep:=false,Asleep:=false,IdleSteps:=(0:Int),Fixtures:=[]:Body},Joint:={ID:=(0:Int),Kind:=(0:Int),BodyA:=(0:Int),BodyB:=(0:Int),AnchorA:={X:=(0:Int),Y:=(0:Int):Vec},AnchorB:={X:=(0:Int),Y:=(0:Int):Vec},Axis:={X:=(0:Int),Y:=(0:Int):Vec},ReferenceAngle:=(0:Int),EnableLimit:=false,Lower:=(0:Int),Upper:=(0:Int),EnableMotor:=false,MotorSpeed:=(0:Int),MaxForce:=(0:Int),Softness:=(0:Int),BreakForce:=(0:Int),CollideConnected:=false,Impulses:=((0:Int),(0:Int),(0:Int),(0:Int)):Joint}:Input}
noncomputable def input_UsedFields (k0:Int):Option (Bool × Bool × Bool):=
 Join
 (fun (v40:Bool)=>
 if v40=true then some (true,true,false)
 else
 Join
 (fun (v41:Bool)=>
 if v41=true then some (true,false,true)
 else
 Join
 (fun (v42:Bool)=>
 if v42=true then some (true,true,true)
 else
 Join (fun (v43:Bool)=>if v43=true then some (true,false,false) else some (false,false,false))
 fun (j44:Bool→Option (Bool × Bool × Bool))=>
 Let (k0==(6:Int)) fun x45=>
 if x45=true then j44 x45
 else
 Let (k0==(10:Int)) fun x46=>
 if x46=true then j44 x46 else Let (k0==(12:Int)) fun x47=>j44 x47)
 fun (j48:Bool→Option (Bool × Bool × Bool))=>
 Let (k0==(4:Int)) fun x49=>
 if x49=true then j48 x49 else Let (k0==(5:Int)) fun x50=>j48 x50)
 fun (j51:Bool→Option (Bool × Bool × Bool))=>
 Let (k0==(3:Int)) fun x52=>
 if x52=true then j51 x52 else Let (k0==(8:Int)) fun x53=>j51 x53)
 fun (j54:Bool→Option (Bool × Bool × Bool))=>
 Let (k0==(1:Int)) fun x55=>
 if x55=true then j54 x55
 else
 Let (k0==(2:Int)) fun x56=>
 if x56=true then j54 x56 else Let (k0==(7:Int)) fun x57=>j54 x57
noncomputable def input_isSaturated (n0:Int):Option Bool:=
 Let (decide (n0≥(-536870911:Int))) fun x58=>
 Let (decide (n0≤(536870911:Int))) fun x59=>Let (bif x58 then x59 else false) fun x60=>some x60
noncomputable def slices_Equal (s10:(List Vec)) (s21:(List Vec)):Option Bool:=
 Let (↑s10.length:Int) fun x61=>
 Let (↑s21.length:Int) fun x62=>
 Let (x61 != x62) fun x63=>
 if x63=true then some false
 else
 Let (↑s10.length:Int) fun x64=>
 LOOP
 (fun (rec65:Int→Option Bool) (s66:Int)=>
 Let (decide (s66<x64)) fun x67=>
 if x67=true then
 Chk ((0:Int)≤s66∧s66<(↑s10.length:Int))
 (Let (ix s10 s66) fun x68=>
 Chk ((0:Int)≤s66∧s66<(↑s21.length:Int))
 (Let (ix s21 s66) fun x69=>
 Let (!(decide (x68.X=x69.X)&&decide (x68.Y=x69.Y))) fun x70=>
 if x70=true then some false else Let (IntKind.i64.wrap (s66+(1:Int))) fun x71=>rec65 x71))
 else some true)
 fuel (0:Int)
noncomputable def shape_Equal (a0:Shape) (b1:Shape):Option Bool:=
 Let (a0.Kind==b1.Kind) fun x72=>
 Let (a0.Radius==b1.Radius) fun x73=>
 Let (bif x72 then x73 else false) fun x74=>
 Rx.Bind (if (x74==true)=true then slices_Equal a0.Vertices b1.Vertices else some default) fun r75=>
 Let (bif x74 then r75 else false) fun x76=>some x76
noncomputable def body_equalFixtures (a0:Fixture) (b1:Fixture):Option Bool:=
 Let (a0.Density==b1.Density) fun x77=>
 Let (a0.Friction==b1.Friction) fun x78=>
 Let (bif x77 then x78 else false) fun x79=>
 Let (a0.Restitution==b1.Restitution) fun x80=>
 Let (bif x79 then x80 else false) fun x81=>
 Let (a0.Sensor==b1.Sensor) fun x82=>
 Let (a0.Category==b1.Category) fun x83=>
 Let (bif x82 then x83 else false) fun x84=>
 Let (a0.Mask==b1.Mask) fun x85=>
 Let (bif x84 then x85 else false) fun x86=>
 Let (a0.Group==b1.Group) fun x87=>
 Let (bif x86 then x87 else false) fun x88=>
 Rx.Bind (shape_Equal a0.Shape b1.Shape) fun r89=>
 Let (bif r89 then x81 else false) fun x90=>Let (bif x90 then x88 else false) fun x91=>some x91
noncomputable def body_Equal (a0:Body) (b1:Body):Option Bool:=
 Let (↑a0.Fixtures.length:Int) fun x92=>
 Let (↑b1.Fixtures.length:Int) fun x93=>
 Let (x92 != x93) fun x94=>
 if x94=true then some false
 else
 Let (↑a0.Fixtures.length:Int) fun x95=>
 LOOP
 (fun (rec96:Int→Option Bool) (s97:Int)=>
 Let (decide (s97<x95)) fun x98=>
 if x98=true then
 Chk ((0:Int)≤s97∧s97<(↑a0.Fixtures.length:Int))
 (Let (ix a0.Fixtures s97) fun x99=>
 Chk ((0:Int)≤s97∧s97<(↑b1.Fixtures.length:Int))
 (Let (ix b1.Fixtures s97) fun x100=>
 Rx.Bind (body_equalFixtures x99 x100) fun r101=>
 Let (!r101) fun x102=>
 if x102=true then some false else Let (IntKind.i64.wrap (s97+(1:Int))) fun x103=>rec96 x103))
 else
 Let (a0.ID==b1.ID) fun x104=>
 Let (a0.Kind==b1.Kind) fun x105=>
 Let (bif x104 then x105 else false) fun x106=>
 Let
 (decide (a0.Transform.Position.X=b1.Transform.Position.X)&&
 decide (a0.Transform.Position.Y=b1.Transform.Position.Y)&&
 decide (a0.Transform.Angle=b1.Transform.Angle))
 fun x107=>
 Let (bif x106 then x107 else false) fun x108=>
 Let (decide (a0.Velocity.X=b1.Velocity.X)&&decide (a0.Velocity.Y=b1.Velocity.Y)) fun x109=>
 Let (a0.AngularVelocity==b1.AngularVelocity) fun x110=>
 Let (bif x109 then x110 else false) fun x111=>
 Let (decide (a0.Force.X=b1.Force.X)&&decide (a0.Force.Y=b1.Force.Y)) fun x112=>
 Let (a0.Torque==b1.Torque) fun x113=>
 Let (bif x112 then x113 else false) fun x114=>
 Let (a0.LinearDamping==b1.LinearDamping) fun x115=>
 Let (a0.AngularDamping==b1.AngularDamping) fun x116=>
 Let (bif x115 then x116 else false) fun x117=>
 Let (a0.GravityScale==b1.GravityScale) fun x118=>
 Let (bif x117 then x118 else false) fun x119=>
 Let (a0.Bullet==b1.Bullet) fun x120=>
 Let (a0.FixedRotation==b1.FixedRotation) fun x121=>
 Let (bif x120 then x121 else false) fun x122=>
 Let (a0.NoSleep==b1.NoSleep) fun x123=>
 Let (bif x122 then x123 else false) fun x124=>
 Let (a0.Asleep==b1.Asleep) fun x125=>
 Let (a0.IdleSteps==b1.IdleSteps) fun x126=>
 Let (bif x125 then x126 else false) fun x127=>
 Let (bif x108 then x111 else false) fun x128=>
 Let (bif x128 then x114 else false) fun x129=>
 Let (bif x129 then x119 else false) fun x130=>
 Let (bif x130 then x124 else false) fun x131=>
 Let (bif x131 then x127 else false) fun x132=>some x132)
 fuel (0:Int)
noncomputable def input_Validate (x0:Input):Option Int:=
 Let (decide (x0.Kind<(1:Int))) fun x133=>
 Let (decide (x0.Kind>(12:Int))) fun x134=>
 Let (bif x133 then true else x134) fun x135=>
 if x135=true then some (10:Int)
 else
 Rx.Bind (input_UsedFields x0.Kind) fun r136=>
 Join
 (fun (v137:Bool)=>
 if v137=true then some (6:Int)
 else
 Join (fun (v138:Bool)=>if v138=true then some (3:Int) else some (0:Int)) fun (j139:Bool→Option Int)=>
 Let (!r136.fst) fun x140=>
 Let (x0.ID != (0:Int)) fun x141=>
 Let (bif x140 then x141 else false) fun x142=>
 if x142=true then j139 x142
 else
 Let (!r136.snd.fst) fun x143=>
 Let (!(decide (x0.Vec.X=(0:Int))&&decide (x0.Vec.Y=(0:Int)))) fun x144=>
 Let (bif x143 then x144 else false) fun x145=>
 if x145=true then j139 x145
 else
 Let (!r136.snd.snd) fun x146=>
 Let (x0.Value != (0:Int)) fun x147=>
 Let (bif x146 then x147 else false) fun x148=>
 if x148=true then j139 x148
 else
 Let (x0.Kind != (9:Int)) fun x149=>
 Rx.Bind
 (if (x149==true)=true then
 body_Equal x0.Body
 {ID:=(0:Int),Kind:=(0:Int),Transform:={Position:={X:=(0:Int),Y:=(0:Int):Vec},Angle:=(0:Int):Transform},Velocity:={X:=(0:Int),Y:=(0:Int):Vec},AngularVelocity:=(0:Int),Force:={X:=(0:Int),Y:=(0:Int):Vec},Torque:=(0:Int),LinearDamping:=(0:Int),AngularDamping:=(0:Int),GravityScale:=(0:Int),Bullet:=false,FixedRotation:=false,NoSleep:=false,Asleep:=false,IdleSteps:=(0:Int),Fixtures:=[]:Body}
 else some default)
 fun r150=>
 Let (!r150) fun x151=>
 Let (bif x149 then x151 else false) fun x152=>
 if x152=true then j139 x152
 else
 Let (x0.Kind != (11:Int)) fun x153=>
 Let
 (!(decide (x0.Joint.ID=(0:Int))&&
 (decide (x0.Joint.Kind=(0:Int))&&
 (decide (x0.Joint.BodyA=(0:Int))&&
 (decide (x0.Joint.BodyB=(0:Int))&&
 (decide (x0.Joint.AnchorA.X=(0:Int))&&decide (x0.Joint.AnchorA.Y=(0:Int))&&
 (decide (x0.Joint.AnchorB.X=(0:Int))&&decide (x0.Joint.AnchorB.Y=(0:Int))&&
 (decide (x0.Joint.Axis.X=(0:Int))&&decide (x0.Joint.Axis.Y=(0:Int))&&
 (decide (x0.Joint.ReferenceAngle=(0:Int))&&
 (decide (x0.Joint.EnableLimit=false)&&
 (decide (x0.Joint.Lower=(0:Int))&&
 (decide (x0.Joint.Upper=(0:Int))&&
 (decide (x0.Joint.EnableMotor=false)&&
 (decide (x0.Joint.MotorSpeed=(0:Int))&&
 (decide (x0.Joint.MaxForce=(0:Int))&&
 (decide (x0.Joint.Softness=(0:Int))&&
 (decide (x0.Joint.BreakForce=(0:Int))&&
 (decide (x0.Joint.CollideConnected=false)&&
 (decide (x0.Joint.Impulses.fst=(0:Int))&&
 (decide (x0.Joint.Impulses.snd.fst=(0:Int))&&
 (decide (x0.Joint.Impulses.snd.snd.fst=(0:Int))&&
 decide (x0.Joint.Impulses.snd.snd.snd=(0:Int)))))))))))))))))))))))
 fun x154=>Let (bif x153 then x154 else false) fun x155=>j139 x155)
 fun (j156:Bool→Option Int)=>
 Let (decide (x0.ID<(1:Int))) fun x157=>
 Let (decide (x0.ID>(1099511627776:Int))) fun x158=>
 Let (bif x157 then true else x158) fun x159=>
 Let (bif r136.fst then x159 else false) fun x160=>
 if x160=true then j156 x160
 else
 Rx.Bind (if (r136.snd.fst==true)=true then input_isSaturated x0.Vec.X else some default) fun r161=>
 Let (!r161) fun x162=>
 Rx.Bind (if (r136.snd.fst==true&&x162==false)=true then input_isSaturated x0.Vec.Y else some default)
 fun r163=>
 Let (!r163) fun x164=>
 Let (bif x162 then true else x164) fun x165=>
 Let (bif r136.snd.fst then x165 else false) fun x166=>
 if x166=true then j156 x166
 else
 Rx.Bind (if (r136.snd.snd==true)=true then input_isSaturated x0.Value else some default) fun r167=>
 Let (!r167) fun x168=>Let (bif r136.snd.snd then x168 else false) fun x169=>j156 x169
noncomputable def recording_allValid (inputs0:(List Input)):Option Bool:=
 Let (↑inputs0.length:Int) fun x170=>
 LOOP
 (fun (rec171:Int→Option Bool) (s172:Int)=>
 Let (decide (s172<x170)) fun x173=>
 if x173=true then
 Chk ((0:Int)≤s172∧s172<(↑inputs0.length:Int))
 (Let (ix inputs0 s172) fun x174=>
 Rx.Bind (input_Validate x174) fun r175=>
 Let (r175 != (0:Int)) fun x176=>
 if x176=true then some false else Let (IntKind.i64.wrap (s172+(1:Int))) fun x177=>rec171 x177)
 else some true)
 fuel (0:Int)
noncomputable def recording_Validate (r0:(List (List Input))):Option Int:=
 Let (↑r0.length:Int) fun x178=>
 Let (decide (x178>(4096:Int))) fun x179=>
 if x179=true then some (11:Int)
 else
 Let (↑r0.length:Int) fun x180=>
 LOOP
 (fun (rec181:Int→Option Int) (s182:Int)=>
 Let (decide (s182<x180)) fun x183=>
 if x183=true then
 Chk ((0:Int)≤s182∧s182<(↑r0.length:Int))
 (Let (ix r0 s182) fun x184=>
 Let (↑x184.length:Int) fun x185=>
 Let (decide (x185>(32:Int))) fun x186=>
 if x186=true then some (11:Int) else Let (IntKind.i64.wrap (s182+(1:Int))) fun x187=>rec181 x187)
 else
 Let (↑r0.length:Int) fun x188=>
 LOOP
 (fun (rec189:Int→Option Int) (s190:Int)=>
 Let (decide (s190<x188)) fun x191=>
 if x191=true then
 Chk ((0:Int)≤s190∧s190<(↑r0.length:Int))
 (Let (ix r0 s190) fun x192=>
 Rx.Bind (recording_allValid x192) fun r193=>
 Let (!r193) fun x194=>
 if x194=true then some (20:Int) else Let (IntKind.i64.wrap (s190+(1:Int))) fun x195=>rec189 x195)
 else some (0:Int))
 fuel (0:Int))
 fuel (0:Int)
noncomputable def slices_Clone (s0:(List Vec)):Option (List Vec):=
 Rx.Alike (s0=[]) (some []) (Chk (s0.length*(16:Nat)≤(140737488355328:Nat)) (some s0))
noncomputable def shape_Clone (s0:Shape):Option Shape:=
 Rx.Bind (slices_Clone s0.Vertices) fun r196=>
 some {Kind:=s0.Kind,Radius:=s0.Radius,Vertices:=r196:Shape}
noncomputable def body_Clone (b0:Body):Option Body:=
 Let (↑b0.Fixtures.length:Int) fun x197=>
 LOOP
 (fun (rec198:List Fixture × Int→Option Body) (s199:List Fixture × Int)=>
 Let (decide (s199.snd<x197)) fun x200=>
 if x200=true then
 Chk ((0:Int)≤s199.snd∧s199.snd<(↑b0.Fixtures.length:Int))
 (Let (ix b0.Fixtures s199.snd) fun x201=>
 Rx.Bind (shape_Clone x201.Shape) fun r202=>
 Chk
 ((List.length s199.fst+
 [{Shape:=r202,Density:=x201.Density,Friction:=x201.Friction,Restitution:=x201.Restitution,Sensor:=x201.Sensor,Category:=x201.Category,Mask:=x201.Mask,Group:=x201.Group:Fixture}].length)*
 (96:Nat)≤
 (140737488355328:Nat))
 (Let
 (s199.fst++
 [{Shape:=r202,Density:=x201.Density,Friction:=x201.Friction,Restitution:=x201.Restitution,Sensor:=x201.Sensor,Category:=x201.Category,Mask:=x201.Mask,Group:=x201.Group:Fixture}])
 fun x203=>Let (IntKind.i64.wrap (s199.snd+(1:Int))) fun x204=>rec198 (x203,x204)))
 else
 some
 {ID:=b0.ID,Kind:=b0.Kind,Transform:=b0.Transform,Velocity:=b0.Velocity,AngularVelocity:=b0.AngularVelocity,Force:=b0.Force,Torque:=b0.Torque,LinearDamping:=b0.LinearDamping,AngularDamping:=b0.AngularDamping,GravityScale:=b0.GravityScale,Bullet:=b0.Bullet,FixedRotation:=b0.FixedRotation,NoSleep:=b0.NoSleep,Asleep:=b0.Asleep,IdleSteps:=b0.IdleSteps,Fixtures:=s199.fst:Body})
 fuel ([],(0:Int))
noncomputable def input_Clone (x0:Input):Option Input:=
 Rx.Bind (body_Clone x0.Body) fun r205=>
 some {Kind:=x0.Kind,ID:=x0.ID,Vec:=x0.Vec,Value:=x0.Value,Body:=r205,Joint:=x0.Joint:Input}
noncomputable def recording_cloneInputs (inputs0:(List Input)):Option (List Input):=
 Let (↑inputs0.length:Int) fun x206=>
 LOOP
 (fun (rec207:List Input × Int→Option (List Input)) (s208:List Input × Int)=>
 Let (decide (s208.snd<x206)) fun x209=>
 if x209=true then
 Chk ((0:Int)≤s208.snd∧s208.snd<(↑inputs0.length:Int))
 (Let (ix inputs0 s208.snd) fun x210=>
 Rx.Bind (input_Clone x210) fun r211=>
 Chk ((List.length s208.fst+[r211].length)*(384:Nat)≤(140737488355328:Nat))
 (Let (s208.fst++[r211]) fun x212=>
 Let (IntKind.i64.wrap (s208.snd+(1:Int))) fun x213=>rec207 (x212,x213)))
 else some s208.fst)
 fuel ([],(0:Int))
noncomputable def recording_InputsAt (r0:(List (List Input))) (frame1:Int):Option (List Input):=
 Let (decide (frame1<(0:Int))) fun x214=>
 Let (↑r0.length:Int) fun x215=>
 Let (decide (frame1≥x215)) fun x216=>
 Let (bif x214 then true else x216) fun x217=>
 if x217=true then some []
 else
 Chk ((0:Int)≤frame1∧frame1<(↑r0.length:Int))
 (Let (ix r0 frame1) fun x218=>
 Rx.Bind (recording_cloneInputs x218) fun r219=>some r219)
noncomputable def recording_clone (r0:(List (List Input))):Option (List (List Input)):=
 Let (↑r0.length:Int) fun x220=>
 LOOP
 (fun (rec221:List (List Input) × Int→Option (List (List Input))) (s222:List (List Input) × Int)=>
 Let (decide (s222.snd<x220)) fun x223=>
 if x223=true then
 Chk ((0:Int)≤s222.snd∧s222.snd<(↑r0.length:Int))
 (Let (ix r0 s222.snd) fun x224=>
 Rx.Bind (recording_cloneInputs x224) fun r225=>
 Chk ((List.length s222.fst+[r225].length)*(24:Nat)≤(140737488355328:Nat))
 (Let (s222.fst++[r225]) fun x226=>
 Let (IntKind.i64.wrap (s222.snd+(1:Int))) fun x227=>rec221 (x226,x227)))
 else some s222.fst)
 fuel ([],(0:Int))
noncomputable def recording_Append (r0:(List (List Input))) (frame1:Int) (inputs2:(List Input)):Option ((List (List Input)) × Int):=
 recAppendG recording_Validate recording_allValid recording_InputsAt input_Clone r0 frame1 inputs2
noncomputable def recording_word (k0:Int):Option (List UInt8):=
 Let (k0==(1:Int)) fun x228=>
 if x228=true then
 some #[(105:UInt8),(109:UInt8),(112:UInt8),(117:UInt8),(108:UInt8),(115:UInt8),(101:UInt8)].toList
 else
 Let (k0==(2:Int)) fun x229=>
 if x229=true then some #[(102:UInt8),(111:UInt8),(114:UInt8),(99:UInt8),(101:UInt8)].toList
 else
 Let (k0==(3:Int)) fun x230=>
 if x230=true then
 some
 #[(97:UInt8),(110:UInt8),(103:UInt8),(117:UInt8),(108:UInt8),(97:UInt8),(114:UInt8),(45:UInt8),
 (105:UInt8),(109:UInt8),(112:UInt8),(117:UInt8),(108:UInt8),(115:UInt8),(101:UInt8)].toList
 else
 Let (k0==(4:Int)) fun x231=>
 if x231=true then
 some
 #[(116:UInt8),(114:UInt8),(97:UInt8),(110:UInt8),(115:UInt8),(102:UInt8),(111:UInt8),(114:UInt8),
 (109:UInt8)].toList
 else
 Let (k0==(5:Int)) fun x232=>
 if x232=true then
 some
 #[(118:UInt8),(101:UInt8),(108:UInt8),(111:UInt8),(99:UInt8),(105:UInt8),(116:UInt8),
 (121:UInt8)].toList
 else
 Let (k0==(6:Int)) fun x233=>
 if x233=true then some #[(119:UInt8),(97:UInt8),(107:UInt8),(101:UInt8)].toList
 else
 Let (k0==(7:Int)) fun x234=>
 if x234=true then
 some #[(116:UInt8),(97:UInt8),(114:UInt8),(103:UInt8),(101:UInt8),(116:UInt8)].toList
 else
 Let (k0==(8:Int)) fun x235=>
 if x235=true then
 some
 #[(109:UInt8),(111:UInt8),(116:UInt8),(111:UInt8),(114:UInt8),(45:UInt8),(115:UInt8),(112:UInt8),
 (101:UInt8),(101:UInt8),(100:UInt8)].toList
 else
 Let (k0==(10:Int)) fun x236=>
 if x236=true then
 some
 #[(114:UInt8),(101:UInt8),(109:UInt8),(111:UInt8),(118:UInt8),(101:UInt8),(45:UInt8),(98:UInt8),
 (111:UInt8),(100:UInt8),(121:UInt8)].toList
 else
 Let (k0==(12:Int)) fun x237=>
 if x237=true then
 some
 #[(114:UInt8),(101:UInt8),(109:UInt8),(111:UInt8),(118:UInt8),(101:UInt8),(45:UInt8),(106:UInt8),
 (111:UInt8),(105:UInt8),(110:UInt8),(116:UInt8)].toList
 else some #[].toList
noncomputable def format_FormatInt (n0:Int):Option (List UInt8):=
 Let (IntKind.u64.wrap n0) fun x238=>
 Join
 (fun (v239:Int)=>
 LOOP
 (fun (rec240:Int × Int × List UInt8→Option (List UInt8)) (s241:Int × Int × List UInt8)=>
 Let (IntKind.i64.wrap (s241.snd.fst - (1:Int))) fun x242=>
 Let (Int.tmod s241.fst (10:Int)) fun x243=>
 Let (IntKind.u64.wrap ((48:Int)+x243)) fun x244=>
 Let (toByte x244) fun x245=>
 Chk ((0:Int)≤x242∧x242<(↑(20:Nat):Int))
 (Chk ((0:Int)≤x242∧x242<(↑(List.length s241.snd.snd):Int))
 (Let (List.set s241.snd.snd x242.toNat x245) fun x246=>
 Let (IntKind.u64.wrap (Int.tdiv s241.fst (10:Int))) fun x247=>
 Let (x247==(0:Int)) fun x248=>
 if x248=true then
 Join
 (fun (v249:Int × List UInt8)=>
 Chk
 ((0:Int)≤(some v249.fst).getD (0:Int)∧
 (0:Int)≤none.getD (0:Int)∧
 Int.toNat v249.fst≤(20:Nat)∧(20:Nat)≤(20:Nat)∧(20:Nat)≤List.length v249.snd)
 (Chk (Int.toNat v249.fst+((20:Nat) - Int.toNat v249.fst)≤List.length v249.snd)
 (some (List.take ((20:Nat) - Int.toNat v249.fst) (List.drop (Int.toNat v249.fst) v249.snd)))))
 fun (j250:Int × List UInt8→Option (List UInt8))=>
 Let (decide (n0<(0:Int))) fun x251=>
 if x251=true then
 Let (IntKind.i64.wrap (x242 - (1:Int))) fun x252=>
 Chk ((0:Int)≤x252∧x252<(↑(20:Nat):Int))
 (Chk ((0:Int)≤x252∧x252<(↑x246.length:Int))
 (Let (x246.set x252.toNat (toByte (45:Int))) fun x253=>j250 (x252,x253)))
 else j250 (x242,x246)
 else rec240 (x247,x242,x246))))
 fuel
 (v239,(20:Int),
 [toByte (0:Int),toByte (0:Int),toByte (0:Int),toByte (0:Int),toByte (0:Int),toByte (0:Int),
 toByte (0:Int),toByte (0:Int),toByte (0:Int),toByte (0:Int),toByte (0:Int),toByte (0:Int),
 toByte (0:Int),toByte (0:Int),toByte (0:Int),toByte (0:Int),toByte (0:Int),toByte (0:Int),
 toByte (0:Int),toByte (0:Int)]))
 fun (j254:Int→Option (List UInt8))=>
 Let (decide (n0<(0:Int))) fun x255=>
 if x255=true then Let (IntKind.u64.wrap ((0:Int) - x238)) fun x256=>j254 x256 else j254 x238
noncomputable def format_FormatFixed (x0:Int):Option (List UInt8):=
 Let (x0 != (0:Int)) fun x257=>
 Let (x0.tmod (65536:Int)) fun x258=>
 Let (x258==(0:Int)) fun x259=>
 Let (bif x257 then x259 else false) fun x260=>
 if x260=true then
 Let (IntKind.i64.wrap (x0.tdiv (65536:Int))) fun x261=>
 Rx.Bind (format_FormatInt x261) fun r262=>
 Chk (r262.length+(1:Nat)≤(9223372036854775807:Nat))
 (Let (r262++#[(117:UInt8)].toList) fun x263=>some x263)
 else Rx.Bind (format_FormatInt x0) fun r264=>some r264
noncomputable def strings_Join (elems0:(List (List UInt8))) (sep1:(List UInt8)):Option (List UInt8):=
 joinS elems0 sep1
noncomputable def format_JoinFields (fields0:(List (List UInt8))):Option (List UInt8):=
 Rx.Bind (strings_Join fields0 #[(32:UInt8)].toList) fun r265=>some r265
noncomputable def recording_formatInput (x0:Input):Option (List UInt8):=
 Rx.Bind (recording_word x0.Kind) fun r266=>
 Rx.Bind (format_FormatInt x0.ID) fun r267=>
 Rx.Bind (input_UsedFields x0.Kind) fun r268=>
 Join
 (fun (v269:List (List UInt8))=>
 Join (fun (v270:List (List UInt8))=>Rx.Bind (format_JoinFields v270) fun r271=>some r271)
 fun (j272:List (List UInt8)→Option (List UInt8))=>
 if r268.snd.snd=true then
 Rx.Bind (format_FormatFixed x0.Value) fun r273=>
 Chk ((v269.length+[r273].length)*(16:Nat)≤(140737488355328:Nat))
 (Let (v269++[r273]) fun x274=>j272 x274)
 else j272 v269)
 fun (j275:List (List UInt8)→Option (List UInt8))=>
 if r268.snd.fst=true then
 Rx.Bind (format_FormatFixed x0.Vec.X) fun r276=>
 Rx.Bind (format_FormatFixed x0.Vec.Y) fun r277=>
 Chk (([r266,r267].length+[r276,r277].length)*(16:Nat)≤(140737488355328:Nat))
 (Let ([r266,r267]++[r276,r277]) fun x278=>j275 x278)
 else j275 [r266,r267]
noncomputable def recording_Format (r0:(List (List Input))):Option ((List UInt8) × Int):=
 Rx.Bind (recording_Validate r0) fun r279=>
 Let (r279 != (0:Int)) fun x280=>
 if x280=true then some (#[].toList,(25:Int))
 else
 Let (↑r0.length:Int) fun x281=>
 LOOP
 (fun (rec282:List UInt8 × Int→Option (List UInt8 × Int)) (s283:List UInt8 × Int)=>
 Let (decide (s283.snd<x281)) fun x284=>
 if x284=true then
 Chk ((0:Int)≤s283.snd∧s283.snd<(↑r0.length:Int))
 (Let (ix r0 s283.snd) fun x285=>
 Chk (List.length s283.fst+(6:Nat)≤(9223372036854775807:Nat))
 (Let (s283.fst++#[(102:UInt8),(114:UInt8),(97:UInt8),(109:UInt8),(101:UInt8),(10:UInt8)].toList)
 fun x286=>
 Let (↑x285.length:Int) fun x287=>
 LOOP
 (fun (rec288:List UInt8 × Int→Option (List UInt8 × Int)) (s289:List UInt8 × Int)=>
 Let (decide (s289.snd<x287)) fun x290=>
 if x290=true then
 Chk ((0:Int)≤s289.snd∧s289.snd<(↑x285.length:Int))
 (Let (ix x285 s289.snd) fun x291=>
 Rx.Bind (recording_word x291.Kind) fun r292=>
 Let (r292==#[].toList) fun x293=>
 if x293=true then some (#[].toList,(25:Int))
 else
 Rx.Bind (recording_formatInput x291) fun r294=>
 Chk (r294.length+(1:Nat)≤(9223372036854775807:Nat))
 (Let (r294++#[(10:UInt8)].toList) fun x295=>
 Chk (List.length s289.fst+x295.length≤(9223372036854775807:Nat))
 (Let (s289.fst++x295) fun x296=>
 Let (IntKind.i64.wrap (s289.snd+(1:Int))) fun x297=>rec288 (x296,x297))))
 else Let (IntKind.i64.wrap (s283.snd+(1:Int))) fun x298=>rec282 (s289.fst,x298))
 fuel (x286,(0:Int))))
 else some (s283.fst,(0:Int)))
 fuel (#[].toList,(0:Int))
noncomputable def stringslite_HasSuffix (s0:(List UInt8)) (suffix1:(List UInt8)):Option Bool:=
 Let (↑s0.length:Int) fun x299=>
 Let (↑suffix1.length:Int) fun x300=>
 Let (decide (x299≥x300)) fun x301=>
 Let (↑s0.length:Int) fun x302=>
 Let (↑suffix1.length:Int) fun x303=>
 Let (IntKind.i64.wrap (x302 - x303)) fun x304=>
 Chk ((x301==true)=true→(0:Int)≤x304∧x304≤(↑s0.length:Int))
 (Let (List.drop x304.toNat s0) fun x305=>
 Let (x305==suffix1) fun x306=>Let (bif x301 then x306 else false) fun x307=>some x307)
noncomputable def stringslite_CutSuffix (s0:(List UInt8)) (suffix1:(List UInt8)):Option ((List UInt8) × Bool):=
 Rx.Bind (stringslite_HasSuffix s0 suffix1) fun r308=>
 Let (!r308) fun x309=>
 if x309=true then some (s0,false)
 else
 Let (↑s0.length:Int) fun x310=>
 Let (↑suffix1.length:Int) fun x311=>
 Let (IntKind.i64.wrap (x310 - x311)) fun x312=>
 Chk ((0:Int)≤x312∧x312≤(↑s0.length:Int))
 (Let (List.take x312.toNat s0) fun x313=>some (x313,true))
noncomputable def strings_CutSuffix (s0:(List UInt8)) (suffix1:(List UInt8)):Option ((List UInt8) × Bool):=
 Rx.Bind (stringslite_CutSuffix s0 suffix1) fun r314=>some r314
noncomputable def strings_explode (s0:(List UInt8)) (n1:Int):Option (List (List UInt8)):=
 none
noncomputable def strings_Count (s0:(List UInt8)) (substr1:(List UInt8)):Option Int:=
 count1 s0 substr1
noncomputable def strings_Index (s0:(List UInt8)) (substr1:(List UInt8)):Option Int:=
 index1 s0 substr1
noncomputable def strings_genSplit (s0:(List UInt8)) (sep1:(List UInt8)) (sepSave2:Int) (n3:Int):Option (List (List UInt8)):=
 Let (n3==(0:Int)) fun x315=>
 if x315=true then some []
 else
 Let (sep1==#[].toList) fun x316=>
 if x316=true then Rx.Bind (strings_explode s0 n3) fun r317=>some r317
 else
 Join
 (fun (v318:Int)=>
 Let (↑s0.length:Int) fun x319=>
 Let (IntKind.i64.wrap (x319+(1:Int))) fun x320=>
 Let (min v318 x320) fun x321=>
 Chk
 ((0:Int)≤x321∧
 x321≤x321∧(↑(16:Nat):Int)*x321≤(281474976710656:Int)∧x321≤(9223372036854775807:Int))
 (Let (List.replicate x321.toNat #[].toList) fun x322=>
 Let (IntKind.i64.wrap (x321 - (1:Int))) fun x323=>
 Join
 (fun (v324:List UInt8 × Int × List (List UInt8))=>
 Chk ((0:Int)≤v324.snd.fst∧v324.snd.fst<(↑(List.length v324.snd.snd):Int))
 (Chk ((0:Int)≤v324.snd.fst∧v324.snd.fst<(↑(List.length v324.snd.snd):Int))
 (Let (List.set v324.snd.snd (Int.toNat v324.snd.fst) v324.fst) fun x325=>
 Let (IntKind.i64.wrap (v324.snd.fst+(1:Int))) fun x326=>
 Chk
 ((0:Int)≤none.getD (0:Int)∧
 (0:Int)≤(some x326).getD (0:Int)∧(0:Nat)≤x326.toNat∧x326.toNat≤x325.length)
 (Chk (x326.toNat - (0:Nat)≤x325.length)
 (Let (List.take (x326.toNat - (0:Nat)) x325) fun x327=>some x327)))))
 fun (j328:List UInt8 × Int × List (List UInt8)→Option (List (List UInt8)))=>
 LOOP
 (fun (rec329:List UInt8 × Int × List (List UInt8)→Option (List (List UInt8)))
 (s330:List UInt8 × Int × List (List UInt8))=>
 Let (decide (s330.snd.fst<x323)) fun x331=>
 if x331=true then
 Rx.Bind (strings_Index s330.fst sep1) fun r332=>
 Let (decide (r332<(0:Int))) fun x333=>
 if x333=true then j328 s330
 else
 Let (IntKind.i64.wrap (r332+sepSave2)) fun x334=>
 Chk ((0:Int)≤x334∧x334≤(↑(List.length s330.fst):Int))
 (Let (List.take x334.toNat s330.fst) fun x335=>
 Chk ((0:Int)≤s330.snd.fst∧s330.snd.fst<(↑(List.length s330.snd.snd):Int))
 (Chk ((0:Int)≤s330.snd.fst∧s330.snd.fst<(↑(List.length s330.snd.snd):Int))
 (Let (List.set s330.snd.snd (Int.toNat s330.snd.fst) x335) fun x336=>
 Let (↑sep1.length:Int) fun x337=>
 Let (IntKind.i64.wrap (r332+x337)) fun x338=>
 Chk ((0:Int)≤x338∧x338≤(↑(List.length s330.fst):Int))
 (Let (List.drop x338.toNat s330.fst) fun x339=>
 Let (IntKind.i64.wrap (s330.snd.fst+(1:Int))) fun x340=>rec329 (x339,x340,x336)))))
 else j328 s330)
 fuel (s0,(0:Int),x322)))
 fun (j341:Int→Option (List (List UInt8)))=>
 Let (decide (n3<(0:Int))) fun x342=>
 if x342=true then
 Rx.Bind (strings_Count s0 sep1) fun r343=>
 Let (IntKind.i64.wrap (r343+(1:Int))) fun x344=>j341 x344
 else j341 n3
noncomputable def strings_Split (s0:(List UInt8)) (sep1:(List UInt8)):Option (List (List UInt8)):=
 Rx.Bind (strings_genSplit s0 sep1 (0:Int) (-1:Int)) fun r345=>some r345
noncomputable def format_SplitLines (text0:(List UInt8)):Option ((List (List UInt8)) × Int):=
 Let (text0==#[].toList) fun x346=>
 if x346=true then some ([],(0:Int))
 else
 Rx.Bind (strings_CutSuffix text0 #[(10:UInt8)].toList) fun r347=>
 Let (!r347.snd) fun x348=>
 if x348=true then some ([],(3:Int))
 else Rx.Bind (strings_Split r347.fst #[(10:UInt8)].toList) fun r349=>some (r349,(0:Int))
noncomputable def format_Fields (line0:(List UInt8)):Option ((List (List UInt8)) × Int):=
 Let (line0==#[].toList) fun x350=>
 if x350=true then some ([],(0:Int))
 else
 Let (↑line0.length:Int) fun x351=>
 LOOP
 (fun (rec352:Int→Option (List (List UInt8) × Int)) (s353:Int)=>
 Let (decide (s353<x351)) fun x354=>
 if x354=true then
 Chk ((0:Int)≤s353∧s353<(↑line0.length:Int))
 (Let (ix line0 s353) fun x355=>
 Let (decide (x355<toByte (32:Int))) fun x356=>
 Let (decide (toByte (126:Int)<x355)) fun x357=>
 Let (bif x356 then true else x357) fun x358=>
 if x358=true then some ([],(3:Int)) else Let (IntKind.i64.wrap (s353+(1:Int))) fun x359=>rec352 x359)
 else
 Rx.Bind (strings_Split line0 #[(32:UInt8)].toList) fun r360=>
 Let (↑r360.length:Int) fun x361=>
 LOOP
 (fun (rec362:Int→Option (List (List UInt8) × Int)) (s363:Int)=>
 Let (decide (s363<x361)) fun x364=>
 if x364=true then
 Chk ((0:Int)≤s363∧s363<(↑r360.length:Int))
 (Let (ix r360 s363) fun x365=>
 Let (x365==#[].toList) fun x366=>
 if x366=true then some ([],(3:Int)) else Let (IntKind.i64.wrap (s363+(1:Int))) fun x367=>rec362 x367)
 else some (r360,(0:Int)))
 fuel (0:Int))
 fuel (0:Int)
noncomputable def stringslite_HasPrefix (s0:(List UInt8)) (prefix1:(List UInt8)):Option Bool:=
 Let (↑s0.length:Int) fun x368=>
 Let (↑prefix1.length:Int) fun x369=>
 Let (decide (x368≥x369)) fun x370=>
 Let (↑prefix1.length:Int) fun x371=>
 Chk ((x370==true)=true→(0:Int)≤x371∧x371≤(↑s0.length:Int))
 (Let (List.take x371.toNat s0) fun x372=>
 Let (x372==prefix1) fun x373=>Let (bif x370 then x373 else false) fun x374=>some x374)
noncomputable def stringslite_CutPrefix (s0:(List UInt8)) (prefix1:(List UInt8)):Option ((List UInt8) × Bool):=
 Rx.Bind (stringslite_HasPrefix s0 prefix1) fun r375=>
 Let (!r375) fun x376=>
 if x376=true then some (s0,false)
 else
 Let (↑prefix1.length:Int) fun x377=>
 Chk ((0:Int)≤x377∧x377≤(↑s0.length:Int))
 (Let (List.drop x377.toNat s0) fun x378=>some (x378,true))
noncomputable def strings_CutPrefix (s0:(List UInt8)) (prefix1:(List UInt8)):Option ((List UInt8) × Bool):=
 Rx.Bind (stringslite_CutPrefix s0 prefix1) fun r379=>some r379
noncomputable def format_parseDecimal (s0:(List UInt8)):Option (format_decimal × Bool):=
 Rx.Bind (strings_CutPrefix s0 #[(45:UInt8)].toList) fun r380=>
 Let (r380.fst==#[].toList) fun x381=>
 Chk ((x381==false)=true→(0:Int)≤(0:Int)∧(0:Int)<(↑(List.length r380.fst):Int))
 (Let (ix r380.fst (0:Int)) fun x382=>
 Let (x382==toByte (48:Int)) fun x383=>
 Let (s0 != #[(48:UInt8)].toList) fun x384=>
 Let (bif x383 then x384 else false) fun x385=>
 Let (bif x381 then true else x385) fun x386=>
 if x386=true then some ({negative:=false,magnitude:=(0:Int),unit:=(0:Int):format_decimal },false)
 else
 LOOP
 (fun (rec387:format_decimal × format_decimal × List UInt8 × Nat→Option (format_decimal × Bool))
 (s388:format_decimal × format_decimal × List UInt8 × Nat)=>
 if decide (s388.snd.snd.snd<s388.snd.snd.fst.length)=true then
 Let (decide ((↑(Utf8.decode {data:=s388.snd.snd.fst.toArray:ByteArray } s388.snd.snd.snd).fst:Int)<(48:Int)))
 fun x389=>
 Let (decide ((↑(Utf8.decode {data:=s388.snd.snd.fst.toArray:ByteArray } s388.snd.snd.snd).fst:Int)>(57:Int)))
 fun x390=>
 Let (bif x389 then true else x390) fun x391=>
 if x391=true then some ({negative:=false,magnitude:=(0:Int),unit:=(0:Int):format_decimal },false)
 else
 Let
 (IntKind.i32.wrap
 ((↑(Utf8.decode {data:=s388.snd.snd.fst.toArray:ByteArray } s388.snd.snd.snd).fst:Int) - (48:Int)))
 fun x392=>
 Let (IntKind.u64.wrap x392) fun x393=>
 Join
 (fun (v394:format_decimal)=>
 Let (IntKind.u64.wrap (v394.unit*(10:Int))) fun x395=>
 Let (IntKind.u64.wrap (x395+x393)) fun x396=>
 Let (x396.tmod (65536:Int)) fun x397=>
 rec387
 (s388.fst,{negative:=v394.negative,magnitude:=v394.magnitude,unit:=x397:format_decimal },s388.snd.snd.fst,
 s388.snd.snd.snd+(Utf8.decode {data:=s388.snd.snd.fst.toArray:ByteArray } s388.snd.snd.snd).snd))
 fun (j398:format_decimal→Option (format_decimal × Bool))=>
 Let (decide (s388.snd.fst.magnitude>(461168601842738790:Int))) fun x399=>
 if x399=true then
 j398
 {negative:=s388.snd.fst.negative,magnitude:=(4611686018427387905:Int),unit:=s388.snd.fst.unit:format_decimal }
 else
 Let (IntKind.u64.wrap (s388.snd.fst.magnitude*(10:Int))) fun x400=>
 Let (IntKind.u64.wrap (x400+x393)) fun x401=>
 Let (min x401 (4611686018427387905:Int)) fun x402=>
 j398 {negative:=s388.snd.fst.negative,magnitude:=x402,unit:=s388.snd.fst.unit:format_decimal }
 else some (s388.snd.fst,true))
 fuel
 ({negative:=false,magnitude:=(0:Int),unit:=(0:Int):format_decimal },
 {negative:=r380.snd,magnitude:=(0:Int),unit:=(0:Int):format_decimal },r380.fst,(0:Nat)))
noncomputable def format_decimal_value (d0:format_decimal):Option Int:=
 if d0.negative=true then
 Let (IntKind.i64.wrap d0.magnitude) fun x403=>
 Let (IntKind.i64.wrap ((0:Int) - x403)) fun x404=>some x404
 else Let (IntKind.i64.wrap d0.magnitude) fun x405=>some x405
noncomputable def format_ParseFixed (s0:(List UInt8)):Option (Int × Int):=
 Rx.Bind (strings_CutSuffix s0 #[(117:UInt8)].toList) fun r406=>
 Rx.Bind (format_parseDecimal r406.fst) fun r407=>
 Let (r407.fst.magnitude==(0:Int)) fun x408=>
 Join
 (fun (v409:Bool)=>
 if v409=true then some ((0:Int),(3:Int))
 else
 Join
 (fun (v410:Bool)=>
 if v410=true then some ((0:Int),(6:Int))
 else
 if r406.snd=true then
 Rx.Bind (format_decimal_value r407.fst) fun r411=>
 Let (IntKind.i64.wrap (r411*(65536:Int))) fun x412=>some (x412,(0:Int))
 else Rx.Bind (format_decimal_value r407.fst) fun r413=>some (r413,(0:Int)))
 fun (j414:Bool→Option (Int × Int))=>
 Let (decide (r407.fst.magnitude>(8191:Int))) fun x415=>
 Let (bif r406.snd then x415 else false) fun x416=>
 if x416=true then j414 x416 else Let (decide (r407.fst.magnitude>(536870911:Int))) fun x417=>j414 x417)
 fun (j418:Bool→Option (Int × Int))=>
 Let (!r407.snd) fun x419=>
 if x419=true then j418 x419
 else
 Let (bif r406.snd then x408 else false) fun x420=>
 if x420=true then j418 x420
 else
 Let (!r406.snd) fun x421=>
 Let (!x408) fun x422=>
 Let (bif x421 then x422 else false) fun x423=>
 Let (r407.fst.unit==(0:Int)) fun x424=>Let (bif x423 then x424 else false) fun x425=>j418 x425
noncomputable def format_ParseInt (s0:(List UInt8)):Option (Int × Int):=
 Rx.Bind (format_parseDecimal s0) fun r426=>
 Let (!r426.snd) fun x427=>
 if x427=true then some ((0:Int),(3:Int))
 else
 Let (decide (r426.fst.magnitude>(4611686018427387904:Int))) fun x428=>
 if x428=true then some ((0:Int),(6:Int))
 else Rx.Bind (format_decimal_value r426.fst) fun r429=>some (r429,(0:Int))
noncomputable def recording_parseInput (fields0:(List (List UInt8))):Option (Input × Bool):=
 recPinG recording_word input_UsedFields format_ParseInt format_ParseFixed fields0
noncomputable def recording_Parse (s0:(List UInt8)):Option ((List (List Input)) × Int × Int):=
 recParseG format_SplitLines format_Fields recording_parseInput recording_Validate s0
noncomputable def codec_magnitude (n0:Int):Option Int:=
 Let (decide (n0<(0:Int))) fun x430=>
 if x430=true then
 Let (IntKind.u64.wrap n0) fun x431=>Let (IntKind.u64.wrap ((0:Int) - x431)) fun x432=>some x432
 else Let (IntKind.u64.wrap n0) fun x433=>some x433
noncomputable def codec_extend (b0:(List UInt8)) (more1:(List UInt8)):Option (List UInt8):=
 Let (↑b0.length:Int) fun x434=>
 Let (↑b0.length:Int) fun x435=>
 Chk ((0:Int)≤x434∧x434≤(↑b0.length:Int)∧x435=x434)
 (Let (List.take x434.toNat b0) fun x436=>
 Chk ((x436.length+more1.length)*(1:Nat)≤(140737488355328:Nat))
 (Let (x436++more1) fun x437=>some x437))
noncomputable def codec_AppendInt (b0:(List UInt8)) (n1:Int):Option (List UInt8):=
 Rx.Bind (codec_magnitude n1) fun r438=>
 LOOP
 (fun (rec439:List UInt8 × Int→Option (List UInt8)) (s440:List UInt8 × Int)=>
 Let (decide (s440.snd>(0:Int))) fun x441=>
 if x441=true then
 Let (toByte s440.snd) fun x442=>
 Chk (([x442].length+List.length s440.fst)*(1:Nat)≤(140737488355328:Nat))
 (Let ([x442]++s440.fst) fun x443=>
 Let (bShr IntKind.u64 s440.snd (8:Int)) fun x444=>rec439 (x443,x444))
 else
 Let (↑(List.length s440.fst):Int) fun x445=>
 Join
 (fun (v446:Int)=>
 Let (toByte v446) fun x447=>
 Rx.Bind (codec_extend b0 [x447]) fun r448=>
 Rx.Bind (codec_extend r448 s440.fst) fun r449=>some r449)
 fun (j450:Int→Option (List UInt8))=>
 Let (decide (n1<(0:Int))) fun x451=>
 if x451=true then Let (IntKind.i64.wrap (x445+(16:Int))) fun x452=>j450 x452 else j450 x445)
 fuel ([],r438)
noncomputable def codec_AppendVec (b0:(List UInt8)) (v1:Vec):Option (List UInt8):=
 Rx.Bind (codec_AppendInt b0 v1.X) fun r453=>
 Rx.Bind (codec_AppendInt r453 v1.Y) fun r454=>some r454
noncomputable def codec_AppendBool (b0:(List UInt8)) (x1:Bool):Option (List UInt8):=
 if x1=true then Rx.Bind (codec_extend b0 [toByte (1:Int)]) fun r455=>some r455
 else Rx.Bind (codec_extend b0 [toByte (0:Int)]) fun r456=>some r456
noncomputable def snapshot_AppendBody (b0:(List UInt8)) (x1:Body):Option (List UInt8):=
 Chk (b0.length*(1:Nat)≤(140737488355328:Nat))
 (Let (↑[x1.ID,x1.Kind].length:Int) fun x457=>
 LOOP
 (fun (rec458:Int × snapshot_encoder→Option (List UInt8)) (s459:Int × snapshot_encoder)=>
 Let (decide (s459.fst<x457)) fun x460=>
 if x460=true then
 Chk ((0:Int)≤s459.fst∧s459.fst<(↑[x1.ID,x1.Kind].length:Int))
 (Let (ix [x1.ID,x1.Kind] s459.fst) fun x461=>
 Rx.Bind (codec_AppendInt s459.snd.buf x461) fun r462=>
 Let (IntKind.i64.wrap (s459.fst+(1:Int))) fun x463=>rec458 (x463,{buf:=r462:snapshot_encoder }))
 else
 Let (↑[x1.Transform.Position].length:Int) fun x464=>
 LOOP
 (fun (rec465:Int × snapshot_encoder→Option (List UInt8)) (s466:Int × snapshot_encoder)=>
 Let (decide (s466.fst<x464)) fun x467=>
 if x467=true then
 Chk ((0:Int)≤s466.fst∧s466.fst<(↑[x1.Transform.Position].length:Int))
 (Let (ix [x1.Transform.Position] s466.fst) fun x468=>
 Rx.Bind (codec_AppendVec s466.snd.buf x468) fun r469=>
 Let (IntKind.i64.wrap (s466.fst+(1:Int))) fun x470=>rec465 (x470,{buf:=r469:snapshot_encoder }))
 else
 Let (↑[x1.Transform.Angle].length:Int) fun x471=>
 LOOP
 (fun (rec472:Int × snapshot_encoder→Option (List UInt8)) (s473:Int × snapshot_encoder)=>
 Let (decide (s473.fst<x471)) fun x474=>
 if x474=true then
 Chk ((0:Int)≤s473.fst∧s473.fst<(↑[x1.Transform.Angle].length:Int))
 (Let (ix [x1.Transform.Angle] s473.fst) fun x475=>
 Rx.Bind (codec_AppendInt s473.snd.buf x475) fun r476=>
 Let (IntKind.i64.wrap (s473.fst+(1:Int))) fun x477=>rec472 (x477,{buf:=r476:snapshot_encoder }))
 else
 Let (↑[x1.Velocity].length:Int) fun x478=>
 LOOP
 (fun (rec479:Int × snapshot_encoder→Option (List UInt8)) (s480:Int × snapshot_encoder)=>
 Let (decide (s480.fst<x478)) fun x481=>
 if x481=true then
 Chk ((0:Int)≤s480.fst∧s480.fst<(↑[x1.Velocity].length:Int))
 (Let (ix [x1.Velocity] s480.fst) fun x482=>
 Rx.Bind (codec_AppendVec s480.snd.buf x482) fun r483=>
 Let (IntKind.i64.wrap (s480.fst+(1:Int))) fun x484=>rec479 (x484,{buf:=r483:snapshot_encoder }))
 else
 Let (↑[x1.AngularVelocity].length:Int) fun x485=>
 LOOP
 (fun (rec486:Int × snapshot_encoder→Option (List UInt8)) (s487:Int × snapshot_encoder)=>
 Let (decide (s487.fst<x485)) fun x488=>
 if x488=true then
 Chk ((0:Int)≤s487.fst∧s487.fst<(↑[x1.AngularVelocity].length:Int))
 (Let (ix [x1.AngularVelocity] s487.fst) fun x489=>
 Rx.Bind (codec_AppendInt s487.snd.buf x489) fun r490=>
 Let (IntKind.i64.wrap (s487.fst+(1:Int))) fun x491=>rec486 (x491,{buf:=r490:snapshot_encoder }))
 else
 Let (↑[x1.Force].length:Int) fun x492=>
 LOOP
 (fun (rec493:Int × snapshot_encoder→Option (List UInt8)) (s494:Int × snapshot_encoder)=>
 Let (decide (s494.fst<x492)) fun x495=>
 if x495=true then
 Chk ((0:Int)≤s494.fst∧s494.fst<(↑[x1.Force].length:Int))
 (Let (ix [x1.Force] s494.fst) fun x496=>
 Rx.Bind (codec_AppendVec s494.snd.buf x496) fun r497=>
 Let (IntKind.i64.wrap (s494.fst+(1:Int))) fun x498=>rec493 (x498,{buf:=r497:snapshot_encoder }))
 else
 Let (↑[x1.Torque,x1.LinearDamping,x1.AngularDamping,x1.GravityScale].length:Int) fun x499=>
 LOOP
 (fun (rec500:Int × snapshot_encoder→Option (List UInt8)) (s501:Int × snapshot_encoder)=>
 Let (decide (s501.fst<x499)) fun x502=>
 if x502=true then
 Chk
 ((0:Int)≤s501.fst∧s501.fst<(↑[x1.Torque,x1.LinearDamping,x1.AngularDamping,x1.GravityScale].length:Int))
 (Let (ix [x1.Torque,x1.LinearDamping,x1.AngularDamping,x1.GravityScale] s501.fst) fun x503=>
 Rx.Bind (codec_AppendInt s501.snd.buf x503) fun r504=>
 Let (IntKind.i64.wrap (s501.fst+(1:Int))) fun x505=>rec500 (x505,{buf:=r504:snapshot_encoder }))
 else
 Let (↑[x1.Bullet,x1.FixedRotation,x1.NoSleep,x1.Asleep].length:Int) fun x506=>
 LOOP
 (fun (rec507:Int × snapshot_encoder→Option (List UInt8)) (s508:Int × snapshot_encoder)=>
 Let (decide (s508.fst<x506)) fun x509=>
 if x509=true then
 Chk ((0:Int)≤s508.fst∧s508.fst<(↑[x1.Bullet,x1.FixedRotation,x1.NoSleep,x1.Asleep].length:Int))
 (Let (ix [x1.Bullet,x1.FixedRotation,x1.NoSleep,x1.Asleep] s508.fst) fun x510=>
 Rx.Bind (codec_AppendBool s508.snd.buf x510) fun r511=>
 Let (IntKind.i64.wrap (s508.fst+(1:Int))) fun x512=>rec507 (x512,{buf:=r511:snapshot_encoder }))
 else
 Let (↑x1.Fixtures.length:Int) fun x513=>
 Let (↑[x1.IdleSteps,x513].length:Int) fun x514=>
 LOOP
 (fun (rec515:Int × snapshot_encoder→Option (List UInt8)) (s516:Int × snapshot_encoder)=>
 Let (decide (s516.fst<x514)) fun x517=>
 if x517=true then
 Chk ((0:Int)≤s516.fst∧s516.fst<(↑[x1.IdleSteps,x513].length:Int))
 (Let (ix [x1.IdleSteps,x513] s516.fst) fun x518=>
 Rx.Bind (codec_AppendInt s516.snd.buf x518) fun r519=>
 Let (IntKind.i64.wrap (s516.fst+(1:Int))) fun x520=>rec515 (x520,{buf:=r519:snapshot_encoder }))
 else
 Let (↑x1.Fixtures.length:Int) fun x521=>
 LOOP
 (fun (rec522:Int × snapshot_encoder→Option (List UInt8)) (s523:Int × snapshot_encoder)=>
 Let (decide (s523.fst<x521)) fun x524=>
 if x524=true then
 Chk ((0:Int)≤s523.fst∧s523.fst<(↑x1.Fixtures.length:Int))
 (Let (ix x1.Fixtures s523.fst) fun x525=>
 Let (↑x525.Shape.Vertices.length:Int) fun x526=>
 Let (↑[x525.Shape.Kind,x525.Shape.Radius,x526].length:Int) fun x527=>
 LOOP
 (fun (rec528:Int × snapshot_encoder→Option (List UInt8)) (s529:Int × snapshot_encoder)=>
 Let (decide (s529.fst<x527)) fun x530=>
 if x530=true then
 Chk ((0:Int)≤s529.fst∧s529.fst<(↑[x525.Shape.Kind,x525.Shape.Radius,x526].length:Int))
 (Let (ix [x525.Shape.Kind,x525.Shape.Radius,x526] s529.fst) fun x531=>
 Rx.Bind (codec_AppendInt s529.snd.buf x531) fun r532=>
 Let (IntKind.i64.wrap (s529.fst+(1:Int))) fun x533=>rec528 (x533,{buf:=r532:snapshot_encoder }))
 else
 Let (↑x525.Shape.Vertices.length:Int) fun x534=>
 LOOP
 (fun (rec535:Int × snapshot_encoder→Option (List UInt8)) (s536:Int × snapshot_encoder)=>
 Let (decide (s536.fst<x534)) fun x537=>
 if x537=true then
 Chk ((0:Int)≤s536.fst∧s536.fst<(↑x525.Shape.Vertices.length:Int))
 (Let (ix x525.Shape.Vertices s536.fst) fun x538=>
 Rx.Bind (codec_AppendVec s536.snd.buf x538) fun r539=>
 Let (IntKind.i64.wrap (s536.fst+(1:Int))) fun x540=>rec535 (x540,{buf:=r539:snapshot_encoder }))
 else
 Let (↑[x525.Density,x525.Friction,x525.Restitution].length:Int) fun x541=>
 LOOP
 (fun (rec542:Int × snapshot_encoder→Option (List UInt8)) (s543:Int × snapshot_encoder)=>
 Let (decide (s543.fst<x541)) fun x544=>
 if x544=true then
 Chk ((0:Int)≤s543.fst∧s543.fst<(↑[x525.Density,x525.Friction,x525.Restitution].length:Int))
 (Let (ix [x525.Density,x525.Friction,x525.Restitution] s543.fst) fun x545=>
 Rx.Bind (codec_AppendInt s543.snd.buf x545) fun r546=>
 Let (IntKind.i64.wrap (s543.fst+(1:Int))) fun x547=>rec542 (x547,{buf:=r546:snapshot_encoder }))
 else
 Let (↑[x525.Sensor].length:Int) fun x548=>
 LOOP
 (fun (rec549:Int × snapshot_encoder→Option (List UInt8)) (s550:Int × snapshot_encoder)=>
 Let (decide (s550.fst<x548)) fun x551=>
 if x551=true then
 Chk ((0:Int)≤s550.fst∧s550.fst<(↑[x525.Sensor].length:Int))
 (Let (ix [x525.Sensor] s550.fst) fun x552=>
 Rx.Bind (codec_AppendBool s550.snd.buf x552) fun r553=>
 Let (IntKind.i64.wrap (s550.fst+(1:Int))) fun x554=>rec549 (x554,{buf:=r553:snapshot_encoder }))
 else
 Let (↑[x525.Category,x525.Mask,x525.Group].length:Int) fun x555=>
 LOOP
 (fun (rec556:Int × snapshot_encoder→Option (List UInt8)) (s557:Int × snapshot_encoder)=>
 Let (decide (s557.fst<x555)) fun x558=>
 if x558=true then
 Chk ((0:Int)≤s557.fst∧s557.fst<(↑[x525.Category,x525.Mask,x525.Group].length:Int))
 (Let (ix [x525.Category,x525.Mask,x525.Group] s557.fst) fun x559=>
 Rx.Bind (codec_AppendInt s557.snd.buf x559) fun r560=>
 Let (IntKind.i64.wrap (s557.fst+(1:Int))) fun x561=>rec556 (x561,{buf:=r560:snapshot_encoder }))
 else Let (IntKind.i64.wrap (s523.fst+(1:Int))) fun x562=>rec522 (x562,s557.snd))
 fuel ((0:Int),s550.snd))
 fuel ((0:Int),s543.snd))
 fuel ((0:Int),s536.snd))
 fuel ((0:Int),s529.snd))
 fuel ((0:Int),s523.snd))
 else some s523.snd.buf)
 fuel ((0:Int),s516.snd))
 fuel ((0:Int),s508.snd))
 fuel ((0:Int),s501.snd))
 fuel ((0:Int),s494.snd))
 fuel ((0:Int),s487.snd))
 fuel ((0:Int),s480.snd))
 fuel ((0:Int),s473.snd))
 fuel ((0:Int),s466.snd))
 fuel ((0:Int),s459.snd))
 fuel ((0:Int),{buf:=b0:snapshot_encoder }))
noncomputable def snapshot_AppendJoint (b0:(List UInt8)) (x1:Joint):Option (List UInt8):=
 Chk (b0.length*(1:Nat)≤(140737488355328:Nat))
 (Let (↑[x1.ID,x1.Kind,x1.BodyA,x1.BodyB].length:Int) fun x563=>
 LOOP
 (fun (rec564:Int × snapshot_encoder→Option (List UInt8)) (s565:Int × snapshot_encoder)=>
 Let (decide (s565.fst<x563)) fun x566=>
 if x566=true then
 Chk ((0:Int)≤s565.fst∧s565.fst<(↑[x1.ID,x1.Kind,x1.BodyA,x1.BodyB].length:Int))
 (Let (ix [x1.ID,x1.Kind,x1.BodyA,x1.BodyB] s565.fst) fun x567=>
 Rx.Bind (codec_AppendInt s565.snd.buf x567) fun r568=>
 Let (IntKind.i64.wrap (s565.fst+(1:Int))) fun x569=>rec564 (x569,{buf:=r568:snapshot_encoder }))
 else
 Let (↑[x1.AnchorA,x1.AnchorB,x1.Axis].length:Int) fun x570=>
 LOOP
 (fun (rec571:Int × snapshot_encoder→Option (List UInt8)) (s572:Int × snapshot_encoder)=>
 Let (decide (s572.fst<x570)) fun x573=>
 if x573=true then
 Chk ((0:Int)≤s572.fst∧s572.fst<(↑[x1.AnchorA,x1.AnchorB,x1.Axis].length:Int))
 (Let (ix [x1.AnchorA,x1.AnchorB,x1.Axis] s572.fst) fun x574=>
 Rx.Bind (codec_AppendVec s572.snd.buf x574) fun r575=>
 Let (IntKind.i64.wrap (s572.fst+(1:Int))) fun x576=>rec571 (x576,{buf:=r575:snapshot_encoder }))
 else
 Let (↑[x1.ReferenceAngle].length:Int) fun x577=>
 LOOP
 (fun (rec578:Int × snapshot_encoder→Option (List UInt8)) (s579:Int × snapshot_encoder)=>
 Let (decide (s579.fst<x577)) fun x580=>
 if x580=true then
 Chk ((0:Int)≤s579.fst∧s579.fst<(↑[x1.ReferenceAngle].length:Int))
 (Let (ix [x1.ReferenceAngle] s579.fst) fun x581=>
 Rx.Bind (codec_AppendInt s579.snd.buf x581) fun r582=>
 Let (IntKind.i64.wrap (s579.fst+(1:Int))) fun x583=>rec578 (x583,{buf:=r582:snapshot_encoder }))
 else
 Let (↑[x1.EnableLimit].length:Int) fun x584=>
 LOOP
 (fun (rec585:Int × snapshot_encoder→Option (List UInt8)) (s586:Int × snapshot_encoder)=>
 Let (decide (s586.fst<x584)) fun x587=>
 if x587=true then
 Chk ((0:Int)≤s586.fst∧s586.fst<(↑[x1.EnableLimit].length:Int))
 (Let (ix [x1.EnableLimit] s586.fst) fun x588=>
 Rx.Bind (codec_AppendBool s586.snd.buf x588) fun r589=>
 Let (IntKind.i64.wrap (s586.fst+(1:Int))) fun x590=>rec585 (x590,{buf:=r589:snapshot_encoder }))
 else
 Let (↑[x1.Lower,x1.Upper].length:Int) fun x591=>
 LOOP
 (fun (rec592:Int × snapshot_encoder→Option (List UInt8)) (s593:Int × snapshot_encoder)=>
 Let (decide (s593.fst<x591)) fun x594=>
 if x594=true then
 Chk ((0:Int)≤s593.fst∧s593.fst<(↑[x1.Lower,x1.Upper].length:Int))
 (Let (ix [x1.Lower,x1.Upper] s593.fst) fun x595=>
 Rx.Bind (codec_AppendInt s593.snd.buf x595) fun r596=>
 Let (IntKind.i64.wrap (s593.fst+(1:Int))) fun x597=>rec592 (x597,{buf:=r596:snapshot_encoder }))
 else
 Let (↑[x1.EnableMotor].length:Int) fun x598=>
 LOOP
 (fun (rec599:Int × snapshot_encoder→Option (List UInt8)) (s600:Int × snapshot_encoder)=>
 Let (decide (s600.fst<x598)) fun x601=>
 if x601=true then
 Chk ((0:Int)≤s600.fst∧s600.fst<(↑[x1.EnableMotor].length:Int))
 (Let (ix [x1.EnableMotor] s600.fst) fun x602=>
 Rx.Bind (codec_AppendBool s600.snd.buf x602) fun r603=>
 Let (IntKind.i64.wrap (s600.fst+(1:Int))) fun x604=>rec599 (x604,{buf:=r603:snapshot_encoder }))
 else
 Let (↑[x1.MotorSpeed,x1.MaxForce,x1.Softness,x1.BreakForce].length:Int) fun x605=>
 LOOP
 (fun (rec606:Int × snapshot_encoder→Option (List UInt8)) (s607:Int × snapshot_encoder)=>
 Let (decide (s607.fst<x605)) fun x608=>
 if x608=true then
 Chk ((0:Int)≤s607.fst∧s607.fst<(↑[x1.MotorSpeed,x1.MaxForce,x1.Softness,x1.BreakForce].length:Int))
 (Let (ix [x1.MotorSpeed,x1.MaxForce,x1.Softness,x1.BreakForce] s607.fst) fun x609=>
 Rx.Bind (codec_AppendInt s607.snd.buf x609) fun r610=>
 Let (IntKind.i64.wrap (s607.fst+(1:Int))) fun x611=>rec606 (x611,{buf:=r610:snapshot_encoder }))
 else
 Let (↑[x1.CollideConnected].length:Int) fun x612=>
 LOOP
 (fun (rec613:Int × snapshot_encoder→Option (List UInt8)) (s614:Int × snapshot_encoder)=>
 Let (decide (s614.fst<x612)) fun x615=>
 if x615=true then
 Chk ((0:Int)≤s614.fst∧s614.fst<(↑[x1.CollideConnected].length:Int))
 (Let (ix [x1.CollideConnected] s614.fst) fun x616=>
 Rx.Bind (codec_AppendBool s614.snd.buf x616) fun r617=>
 Let (IntKind.i64.wrap (s614.fst+(1:Int))) fun x618=>rec613 (x618,{buf:=r617:snapshot_encoder }))
 else
 Let (↑[x1.Impulses.fst,x1.Impulses.snd.fst,x1.Impulses.snd.snd.fst,x1.Impulses.snd.snd.snd].length:Int)
 fun x619=>
 LOOP
 (fun (rec620:Int × snapshot_encoder→Option (List UInt8)) (s621:Int × snapshot_encoder)=>
 Let (decide (s621.fst<x619)) fun x622=>
 if x622=true then
 Chk
 ((0:Int)≤s621.fst∧
 s621.fst<(↑[x1.Impulses.fst,x1.Impulses.snd.fst,x1.Impulses.snd.snd.fst,x1.Impulses.snd.snd.snd].length:Int))
 (Let (ix [x1.Impulses.fst,x1.Impulses.snd.fst,x1.Impulses.snd.snd.fst,x1.Impulses.snd.snd.snd] s621.fst)
 fun x623=>
 Rx.Bind (codec_AppendInt s621.snd.buf x623) fun r624=>
 Let (IntKind.i64.wrap (s621.fst+(1:Int))) fun x625=>rec620 (x625,{buf:=r624:snapshot_encoder }))
 else some s621.snd.buf)
 fuel ((0:Int),s614.snd))
 fuel ((0:Int),s607.snd))
 fuel ((0:Int),s600.snd))
 fuel ((0:Int),s593.snd))
 fuel ((0:Int),s586.snd))
 fuel ((0:Int),s579.snd))
 fuel ((0:Int),s572.snd))
 fuel ((0:Int),s565.snd))
 fuel ((0:Int),{buf:=b0:snapshot_encoder }))
noncomputable def checksum_update (crc0:Int):Option Int:=
 LOOP
 (fun (rec626:Int × Int→Option Int) (s627:Int × Int)=>
 Let (decide (s627.snd<(8:Int))) fun x628=>
 if x628=true then
 Join (fun (v629:Int)=>Let (IntKind.i64.wrap (s627.snd+(1:Int))) fun x630=>rec626 (v629,x630))
 fun (j631:Int→Option Int)=>
 Let (bAnd IntKind.u32 s627.fst (1:Int)) fun x632=>
 Let (bShr IntKind.u32 s627.fst (1:Int)) fun x633=>
 Let (x632==(1:Int)) fun x634=>
 if x634=true then Let (bXor IntKind.u32 x633 (2197175160:Int)) fun x635=>j631 x635 else j631 x633
 else some s627.fst)
 fuel (crc0,(0:Int))
noncomputable def checksum_Seal (b0:(List UInt8)):Option (List UInt8):=
 sealH b0
noncomputable def recording_Encode (r0:(List (List Input))):Option ((List UInt8) × Int):=
 Rx.Bind (recording_Validate r0) fun r636=>
 Let (r636 != (0:Int)) fun x637=>
 if x637=true then some ([],(25:Int))
 else
 Let (↑r0.length:Int) fun x638=>
 Rx.Bind (codec_AppendInt [] x638) fun r639=>
 Let (↑r0.length:Int) fun x640=>
 LOOP
 (fun (rec641:List UInt8 × Int→Option (List UInt8 × Int)) (s642:List UInt8 × Int)=>
 Let (decide (s642.snd<x640)) fun x643=>
 if x643=true then
 Chk ((0:Int)≤s642.snd∧s642.snd<(↑r0.length:Int))
 (Let (ix r0 s642.snd) fun x644=>
 Let (↑x644.length:Int) fun x645=>
 Rx.Bind (codec_AppendInt s642.fst x645) fun r646=>
 Let (↑x644.length:Int) fun x647=>
 LOOP
 (fun (rec648:List UInt8 × Int→Option (List UInt8 × Int)) (s649:List UInt8 × Int)=>
 Let (decide (s649.snd<x647)) fun x650=>
 if x650=true then
 Chk ((0:Int)≤s649.snd∧s649.snd<(↑x644.length:Int))
 (Let (ix x644 s649.snd) fun x651=>
 Rx.Bind (codec_AppendInt s649.fst x651.Kind) fun r652=>
 Rx.Bind (codec_AppendInt r652 x651.ID) fun r653=>
 Rx.Bind (codec_AppendVec r653 x651.Vec) fun r654=>
 Rx.Bind (codec_AppendInt r654 x651.Value) fun r655=>
 Rx.Bind (snapshot_AppendBody r655 x651.Body) fun r656=>
 Rx.Bind (snapshot_AppendJoint r656 x651.Joint) fun r657=>
 Let (IntKind.i64.wrap (s649.snd+(1:Int))) fun x658=>rec648 (r657,x658))
 else Let (IntKind.i64.wrap (s642.snd+(1:Int))) fun x659=>rec641 (s649.fst,x659))
 fuel (r646,(0:Int)))
 else Rx.Bind (checksum_Seal s642.fst) fun r660=>some (r660,(0:Int)))
 fuel (r639,(0:Int))
noncomputable def checksum_Open (b0:(List UInt8)):Option ((List UInt8) × Int):=
 Let (↑b0.length:Int) fun x661=>
 Let (IntKind.i64.wrap (x661 - (4:Int))) fun x662=>
 Let (decide (x662<(0:Int))) fun x663=>
 if x663=true then some ([],(4:Int))
 else
 Chk ((0:Int)≤x662∧x662≤(↑b0.length:Int))
 (Let (List.take x662.toNat b0) fun x664=>
 Rx.Bind (checksum_Seal x664) fun r665=>
 Let (r665 != b0) fun x666=>
 if x666=true then some ([],(22:Int))
 else
 Chk ((0:Int)≤x662∧x662≤(↑b0.length:Int))
 (Let (List.take x662.toNat b0) fun x667=>
 Chk (x667.length*(1:Nat)≤(140737488355328:Nat)) (some (x667,(0:Int)))))
noncomputable def codec_readByte (b0:(List UInt8)) (at1:Int):Option (UInt8 × Int):=
 Let (decide (at1<(0:Int))) fun x668=>
 Let (↑b0.length:Int) fun x669=>
 Let (decide (at1>x669)) fun x670=>
 Let (bif x668 then true else x670) fun x671=>
 if x671=true then some (toByte (0:Int),(2:Int))
 else
 Let (↑b0.length:Int) fun x672=>
 Let (at1==x672) fun x673=>
 if x673=true then some (toByte (0:Int),(4:Int))
 else Chk ((0:Int)≤at1∧at1<(↑b0.length:Int)) (Let (ix b0 at1) fun x674=>some (x674,(0:Int)))
noncomputable def codec_ReadInt (b0:(List UInt8)) (at1:Int):Option (Int × Int × Int):=
 Rx.Bind (codec_readByte b0 at1) fun r675=>
 Let (r675.snd != (0:Int)) fun x676=>
 if x676=true then some ((0:Int),(0:Int),r675.snd)
 else
 Let (↑(UInt8.toNat r675.fst):Int) fun x677=>
 Let (decide (toByte (16:Int)<r675.fst)) fun x678=>
 Join
 (fun (v679:Int)=>
 Let (decide (v679>(8:Int))) fun x680=>
 if x680=true then some ((0:Int),(0:Int),(3:Int))
 else
 Let (IntKind.i64.wrap (at1+(1:Int))) fun x681=>
 Chk ((0:Int)≤x681∧x681≤(↑b0.length:Int))
 (Let (List.drop x681.toNat b0) fun x682=>
 Let (↑x682.length:Int) fun x683=>
 Let (decide (x683<v679)) fun x684=>
 if x684=true then some ((0:Int),(0:Int),(4:Int))
 else
 Chk ((0:Int)≤v679∧v679≤(↑x682.length:Int))
 (Let (List.take v679.toNat x682) fun x685=>
 Let (↑x685.length:Int) fun x686=>
 LOOP
 (fun (rec687:Int × Int→Option (Int × Int × Int)) (s688:Int × Int)=>
 Let (decide (s688.snd<x686)) fun x689=>
 if x689=true then
 Chk ((0:Int)≤s688.snd∧s688.snd<(↑x685.length:Int))
 (Let (ix x685 s688.snd) fun x690=>
 Let (bShl IntKind.u64 s688.fst (8:Int)) fun x691=>
 Let (↑x690.toNat:Int) fun x692=>
 Let (bOr IntKind.u64 x691 x692) fun x693=>
 Let (IntKind.i64.wrap (s688.snd+(1:Int))) fun x694=>rec687 (x693,x694))
 else
 Let (IntKind.i64.wrap s688.fst) fun x695=>
 Join
 (fun (v696:Int)=>
 Let (decide (v679>(0:Int))) fun x697=>
 Chk ((x697==true)=true→(0:Int)≤(0:Int)∧(0:Int)<(↑x682.length:Int))
 (Let (ix x682 (0:Int)) fun x698=>
 Let (x698==toByte (0:Int)) fun x699=>
 Let (bif x697 then x699 else false) fun x700=>
 Rx.Bind (if (x700==false)=true then codec_magnitude v696 else some default) fun r701=>
 Let (r701 != s688.fst) fun x702=>
 Let (bif x700 then true else x702) fun x703=>
 Let (decide (v696<(0:Int))) fun x704=>
 Let (x704 != x678) fun x705=>
 Let (bif x703 then true else x705) fun x706=>
 if x706=true then some ((0:Int),(0:Int),(3:Int))
 else
 Let (IntKind.i64.wrap (at1+(1:Int))) fun x707=>
 Let (IntKind.i64.wrap (x707+v679)) fun x708=>some (v696,x708,(0:Int))))
 fun (j709:Int→Option (Int × Int × Int))=>
 if x678=true then Let (IntKind.i64.wrap ((0:Int) - x695)) fun x710=>j709 x710 else j709 x695)
 fuel ((0:Int),(0:Int)))))
 fun (j711:Int→Option (Int × Int × Int))=>
 if x678=true then Let (IntKind.i64.wrap (x677 - (16:Int))) fun x712=>j711 x712 else j711 x677
noncomputable def codec_ReadVec (b0:(List UInt8)) (at1:Int):Option (Vec × Int × Int):=
 Rx.Bind (codec_ReadInt b0 at1) fun r713=>
 Let (r713.snd.snd != (0:Int)) fun x714=>
 if x714=true then some ({X:=(0:Int),Y:=(0:Int):Vec},(0:Int),r713.snd.snd)
 else
 Rx.Bind (codec_ReadInt b0 r713.snd.fst) fun r715=>
 Let (r715.snd.snd != (0:Int)) fun x716=>
 if x716=true then some ({X:=(0:Int),Y:=(0:Int):Vec},(0:Int),r715.snd.snd)
 else some ({X:=r713.fst,Y:=r715.fst:Vec},r715.snd.fst,(0:Int))
noncomputable def codec_ReadBool (b0:(List UInt8)) (at1:Int):Option (Bool × Int × Int):=
 Rx.Bind (codec_readByte b0 at1) fun r718=>
 Let (r718.snd != (0:Int)) fun x719=>
 if x719=true then some (false,(0:Int),r718.snd)
 else
 Let (decide (toByte (1:Int)<r718.fst)) fun x720=>
 if x720=true then some (false,(0:Int),(3:Int))
 else
 Let (r718.fst==toByte (1:Int)) fun x721=>
 Let (IntKind.i64.wrap (at1+(1:Int))) fun x722=>some (x721,x722,(0:Int))
noncomputable def recording_Decode (b0:(List UInt8)):Option ((List (List Input)) × Int):=
 recDecode b0
noncomputable def input_Equal (a0:Input) (b1:Input):Option Bool:=
 Let (a0.Kind==b1.Kind) fun x724=>
 Let (a0.ID==b1.ID) fun x725=>
 Let (bif x724 then x725 else false) fun x726=>
 Let (decide (a0.Vec.X=b1.Vec.X)&&decide (a0.Vec.Y=b1.Vec.Y)) fun x727=>
 Let (bif x726 then x727 else false) fun x728=>
 Let (a0.Value==b1.Value) fun x729=>
 Let (bif x728 then x729 else false) fun x730=>
 Rx.Bind (if (x730==true)=true then body_Equal a0.Body b1.Body else some default) fun r731=>
 Let (bif x730 then r731 else false) fun x732=>
 Let
 (decide (a0.Joint.ID=b1.Joint.ID)&&
 (decide (a0.Joint.Kind=b1.Joint.Kind)&&
 (decide (a0.Joint.BodyA=b1.Joint.BodyA)&&
 (decide (a0.Joint.BodyB=b1.Joint.BodyB)&&
 (decide (a0.Joint.AnchorA.X=b1.Joint.AnchorA.X)&&decide (a0.Joint.AnchorA.Y=b1.Joint.AnchorA.Y)&&
 (decide (a0.Joint.AnchorB.X=b1.Joint.AnchorB.X)&&decide (a0.Joint.AnchorB.Y=b1.Joint.AnchorB.Y)&&
 (decide (a0.Joint.Axis.X=b1.Joint.Axis.X)&&decide (a0.Joint.Axis.Y=b1.Joint.Axis.Y)&&
 (decide (a0.Joint.ReferenceAngle=b1.Joint.ReferenceAngle)&&
 (decide (a0.Joint.EnableLimit=b1.Joint.EnableLimit)&&
 (decide (a0.Joint.Lower=b1.Joint.Lower)&&
 (decide (a0.Joint.Upper=b1.Joint.Upper)&&
 (decide (a0.Joint.EnableMotor=b1.Joint.EnableMotor)&&
 (decide (a0.Joint.MotorSpeed=b1.Joint.MotorSpeed)&&
 (decide (a0.Joint.MaxForce=b1.Joint.MaxForce)&&
 (decide (a0.Joint.Softness=b1.Joint.Softness)&&
 (decide (a0.Joint.BreakForce=b1.Joint.BreakForce)&&
 (decide (a0.Joint.CollideConnected=b1.Joint.CollideConnected)&&
 (decide (a0.Joint.Impulses.fst=b1.Joint.Impulses.fst)&&
 (decide (a0.Joint.Impulses.snd.fst=b1.Joint.Impulses.snd.fst)&&
 (decide (a0.Joint.Impulses.snd.snd.fst=b1.Joint.Impulses.snd.snd.fst)&&
 decide (a0.Joint.Impulses.snd.snd.snd=b1.Joint.Impulses.snd.snd.snd)))))))))))))))))))))
 fun x733=>Let (bif x732 then x733 else false) fun x734=>some x734
noncomputable def recording_Equal (a0:(List (List Input))) (b1:(List (List Input))):Option Bool:=
 Let (↑a0.length:Int) fun x735=>
 Let (↑b1.length:Int) fun x736=>
 Let (x735 != x736) fun x737=>
 if x737=true then some false
 else
 Let (↑a0.length:Int) fun x738=>
 LOOP
 (fun (rec739:Int→Option Bool) (s740:Int)=>
 Let (decide (s740<x738)) fun x741=>
 if x741=true then
 Chk ((0:Int)≤s740∧s740<(↑a0.length:Int))
 (Let (ix a0 s740) fun x742=>
 Let (↑x742.length:Int) fun x743=>
 Chk ((0:Int)≤s740∧s740<(↑b1.length:Int))
 (Let (ix b1 s740) fun x744=>
 Let (↑x744.length:Int) fun x745=>
 Let (x743 != x745) fun x746=>
 if x746=true then some false
 else
 Chk ((0:Int)≤s740∧s740<(↑a0.length:Int))
 (Let (ix a0 s740) fun x747=>
 Let (↑x747.length:Int) fun x748=>
 LOOP
 (fun (rec749:Int→Option Bool) (s750:Int)=>
 Let (decide (s750<x748)) fun x751=>
 if x751=true then
 Chk ((0:Int)≤s740∧s740<(↑a0.length:Int))
 (Let (ix a0 s740) fun x752=>
 Chk ((0:Int)≤s750∧s750<(↑x752.length:Int))
 (Let (ix x752 s750) fun x753=>
 Chk ((0:Int)≤s740∧s740<(↑b1.length:Int))
 (Let (ix b1 s740) fun x754=>
 Chk ((0:Int)≤s750∧s750<(↑x754.length:Int))
 (Let (ix x754 s750) fun x755=>
 Rx.Bind (input_Equal x753 x755) fun r756=>
 Let (!r756) fun x757=>
 if x757=true then some false else Let (IntKind.i64.wrap (s750+(1:Int))) fun x758=>rec749 x758))))
 else Let (IntKind.i64.wrap (s740+(1:Int))) fun x759=>rec739 x759)
 fuel (0:Int))))
 else some true)
 fuel (0:Int)
noncomputable def recording_Slice (r0:(List (List Input))) (from1:Int) (to2:Int):Option (List (List Input)):=
 Let (max from1 (0:Int)) fun x760=>
 Let (↑r0.length:Int) fun x761=>
 Let (min to2 x761) fun x762=>
 Let (decide (x760≥x762)) fun x763=>
 if x763=true then some []
 else
 Chk ((0:Int)≤x760∧x760≤x762∧x762≤(↑r0.length:Int))
 (Let (sub r0 x760 x762) fun x764=>
 Rx.Bind (recording_clone x764) fun r765=>some r765)
noncomputable def caromlaw47_example  : Option Bool:=
 Rx.Bind caromlaw47_impulse fun r766=>
 Rx.Bind (recording_Append [] (1:Int) [r766]) fun r767=>
 Rx.Bind (recording_Format r767.fst) fun r768=>
 Rx.Bind
 (recording_Parse
 #[(102:UInt8),(114:UInt8),(97:UInt8),(109:UInt8),(101:UInt8),(10:UInt8),(105:UInt8),(109:UInt8),
 (112:UInt8),(117:UInt8),(108:UInt8),(115:UInt8),(101:UInt8),(32:UInt8),(51:UInt8),(32:UInt8),
 (49:UInt8),(117:UInt8),(10:UInt8)].toList)
 fun r769=>
 Rx.Bind (recording_Encode r767.fst) fun r770=>
 Rx.Bind (recording_Decode r770.fst) fun r771=>
 Let (r767.snd==(0:Int)) fun x772=>
 Let (↑(List.length r767.fst):Int) fun x773=>
 Let (x773==(2:Int)) fun x774=>
 Let (bif x772 then x774 else false) fun x775=>
 Let (r768.snd==(0:Int)) fun x776=>
 Let (bif x775 then x776 else false) fun x777=>
 Let
 (r768.fst==
 #[(102:UInt8),(114:UInt8),(97:UInt8),(109:UInt8),(101:UInt8),(10:UInt8),(102:UInt8),(114:UInt8),
 (97:UInt8),(109:UInt8),(101:UInt8),(10:UInt8),(105:UInt8),(109:UInt8),(112:UInt8),(117:UInt8),
 (108:UInt8),(115:UInt8),(101:UInt8),(32:UInt8),(51:UInt8),(32:UInt8),(49:UInt8),(117:UInt8),
 (32:UInt8),(48:UInt8),(10:UInt8)].toList)
 fun x778=>
 Let (bif x777 then x778 else false) fun x779=>
 Let (r769.snd.fst==(2:Int)) fun x780=>
 Let (bif x779 then x780 else false) fun x781=>
 Let (r769.snd.snd==(27:Int)) fun x782=>
 Let (bif x781 then x782 else false) fun x783=>
 Let (r770.snd==(0:Int)) fun x784=>
 Let (bif x783 then x784 else false) fun x785=>
 Let (r771.snd==(0:Int)) fun x786=>
 Let (bif x785 then x786 else false) fun x787=>
 Rx.Bind (if (x787==true)=true then recording_Equal r767.fst r771.fst else some default) fun r788=>
 Let (bif x787 then r788 else false) fun x789=>
 Rx.Bind (if (x789==true)=true then recording_InputsAt r767.fst (1:Int) else some default)
 fun r790=>
 Let (↑r790.length:Int) fun x791=>
 Let (x791==(1:Int)) fun x792=>
 Let (bif x789 then x792 else false) fun x793=>
 Rx.Bind (if (x793==true)=true then recording_Slice r767.fst (1:Int) (9:Int) else some default)
 fun r794=>
 Let (↑r794.length:Int) fun x795=>
 Let (x795==(1:Int)) fun x796=>Let (bif x793 then x796 else false) fun x797=>some x797
noncomputable def caromref12_EqualVecs (a0:(List Vec)) (b1:(List Vec)):Option Bool:=
 Let (↑a0.length:Int) fun x798=>
 Let (↑b1.length:Int) fun x799=>
 Let (x798 != x799) fun x800=>
 if x800=true then some false
 else
 LOOP
 (fun (rec801:Int→Option Bool) (s802:Int)=>
 Let (↑a0.length:Int) fun x803=>
 Let (decide (s802<x803)) fun x804=>
 if x804=true then
 Chk ((0:Int)≤s802∧s802<(↑a0.length:Int))
 (Let (ix a0 s802) fun x805=>
 Chk ((0:Int)≤s802∧s802<(↑b1.length:Int))
 (Let (ix b1 s802) fun x806=>
 Let (!(decide (x805.X=x806.X)&&decide (x805.Y=x806.Y))) fun x807=>
 if x807=true then some false else Let (IntKind.i64.wrap (s802+(1:Int))) fun x808=>rec801 x808))
 else some true)
 fuel (0:Int)
noncomputable def caromref12_Equal (a0:Shape) (b1:Shape):Option Bool:=
 Let (a0.Kind==b1.Kind) fun x809=>
 Let (a0.Radius==b1.Radius) fun x810=>
 Let (bif x809 then x810 else false) fun x811=>
 Rx.Bind (if (x811==true)=true then caromref12_EqualVecs a0.Vertices b1.Vertices else some default)
 fun r812=>Let (bif x811 then r812 else false) fun x813=>some x813
noncomputable def caromref23_EqualFixture (a0:Fixture) (b1:Fixture):Option Bool:=
 Rx.Bind (caromref12_Equal a0.Shape b1.Shape) fun r814=>
 Let (a0.Density==b1.Density) fun x815=>
 Let (bif r814 then x815 else false) fun x816=>
 Let (a0.Friction==b1.Friction) fun x817=>
 Let (bif x816 then x817 else false) fun x818=>
 Let (a0.Restitution==b1.Restitution) fun x819=>
 Let (bif x818 then x819 else false) fun x820=>
 Let (a0.Sensor==b1.Sensor) fun x821=>
 Let (bif x820 then x821 else false) fun x822=>
 Let (a0.Category==b1.Category) fun x823=>
 Let (bif x822 then x823 else false) fun x824=>
 Let (a0.Mask==b1.Mask) fun x825=>
 Let (bif x824 then x825 else false) fun x826=>
 Let (a0.Group==b1.Group) fun x827=>Let (bif x826 then x827 else false) fun x828=>some x828
noncomputable def caromref23_Equal (a0:Body) (b1:Body):Option Bool:=
 Let (↑a0.Fixtures.length:Int) fun x829=>
 Let (↑b1.Fixtures.length:Int) fun x830=>
 Let (x829 != x830) fun x831=>
 if x831=true then some false
 else
 LOOP
 (fun (rec832:Int→Option Bool) (s833:Int)=>
 Let (↑a0.Fixtures.length:Int) fun x834=>
 Let (decide (s833<x834)) fun x835=>
 Let (↑b1.Fixtures.length:Int) fun x836=>
 Let (decide (s833<x836)) fun x837=>
 Let (bif x835 then x837 else false) fun x838=>
 if x838=true then
 Chk ((0:Int)≤s833∧s833<(↑a0.Fixtures.length:Int))
 (Let (ix a0.Fixtures s833) fun x839=>
 Chk ((0:Int)≤s833∧s833<(↑b1.Fixtures.length:Int))
 (Let (ix b1.Fixtures s833) fun x840=>
 Rx.Bind (caromref23_EqualFixture x839 x840) fun r841=>
 Let (!r841) fun x842=>
 if x842=true then some false else Let (IntKind.i64.wrap (s833+(1:Int))) fun x843=>rec832 x843))
 else
 Let (a0.ID != b1.ID) fun x844=>
 Let (a0.Kind != b1.Kind) fun x845=>
 Let (bif x844 then true else x845) fun x846=>
 Let
 (!(decide (a0.Transform.Position.X=b1.Transform.Position.X)&&
 decide (a0.Transform.Position.Y=b1.Transform.Position.Y)&&
 decide (a0.Transform.Angle=b1.Transform.Angle)))
 fun x847=>
 Let (bif x846 then true else x847) fun x848=>
 Let (!(decide (a0.Velocity.X=b1.Velocity.X)&&decide (a0.Velocity.Y=b1.Velocity.Y))) fun x849=>
 Let (bif x848 then true else x849) fun x850=>
 Let (a0.AngularVelocity != b1.AngularVelocity) fun x851=>
 Let (bif x850 then true else x851) fun x852=>
 Let (!(decide (a0.Force.X=b1.Force.X)&&decide (a0.Force.Y=b1.Force.Y))) fun x853=>
 Let (bif x852 then true else x853) fun x854=>
 Let (a0.Torque != b1.Torque) fun x855=>
 Let (bif x854 then true else x855) fun x856=>
 if x856=true then some false
 else
 Let (a0.LinearDamping==b1.LinearDamping) fun x857=>
 Let (a0.AngularDamping==b1.AngularDamping) fun x858=>
 Let (bif x857 then x858 else false) fun x859=>
 Let (a0.GravityScale==b1.GravityScale) fun x860=>
 Let (bif x859 then x860 else false) fun x861=>
 Let (a0.Bullet==b1.Bullet) fun x862=>
 Let (bif x861 then x862 else false) fun x863=>
 Let (a0.FixedRotation==b1.FixedRotation) fun x864=>
 Let (bif x863 then x864 else false) fun x865=>
 Let (a0.NoSleep==b1.NoSleep) fun x866=>
 Let (bif x865 then x866 else false) fun x867=>
 Let (a0.Asleep==b1.Asleep) fun x868=>
 Let (bif x867 then x868 else false) fun x869=>
 Let (a0.IdleSteps==b1.IdleSteps) fun x870=>
 Let (bif x869 then x870 else false) fun x871=>some x871)
 fuel (0:Int)
noncomputable def caromref43_Equal (a0:Input) (b1:Input):Option Bool:=
 Let (a0.Kind==b1.Kind) fun x872=>
 Let (a0.ID==b1.ID) fun x873=>
 Let (bif x872 then x873 else false) fun x874=>
 Let (decide (a0.Vec.X=b1.Vec.X)&&decide (a0.Vec.Y=b1.Vec.Y)) fun x875=>
 Let (bif x874 then x875 else false) fun x876=>
 Let (a0.Value==b1.Value) fun x877=>
 Let (bif x876 then x877 else false) fun x878=>
 Let
 (decide (a0.Joint.ID=b1.Joint.ID)&&
 (decide (a0.Joint.Kind=b1.Joint.Kind)&&
 (decide (a0.Joint.BodyA=b1.Joint.BodyA)&&
 (decide (a0.Joint.BodyB=b1.Joint.BodyB)&&
 (decide (a0.Joint.AnchorA.X=b1.Joint.AnchorA.X)&&decide (a0.Joint.AnchorA.Y=b1.Joint.AnchorA.Y)&&
 (decide (a0.Joint.AnchorB.X=b1.Joint.AnchorB.X)&&decide (a0.Joint.AnchorB.Y=b1.Joint.AnchorB.Y)&&
 (decide (a0.Joint.Axis.X=b1.Joint.Axis.X)&&decide (a0.Joint.Axis.Y=b1.Joint.Axis.Y)&&
 (decide (a0.Joint.ReferenceAngle=b1.Joint.ReferenceAngle)&&
 (decide (a0.Joint.EnableLimit=b1.Joint.EnableLimit)&&
 (decide (a0.Joint.Lower=b1.Joint.Lower)&&
 (decide (a0.Joint.Upper=b1.Joint.Upper)&&
 (decide (a0.Joint.EnableMotor=b1.Joint.EnableMotor)&&
 (decide (a0.Joint.MotorSpeed=b1.Joint.MotorSpeed)&&
 (decide (a0.Joint.MaxForce=b1.Joint.MaxForce)&&
 (decide (a0.Joint.Softness=b1.Joint.Softness)&&
 (decide (a0.Joint.BreakForce=b1.Joint.BreakForce)&&
 (decide (a0.Joint.CollideConnected=b1.Joint.CollideConnected)&&
 (decide (a0.Joint.Impulses.fst=b1.Joint.Impulses.fst)&&
 (decide (a0.Joint.Impulses.snd.fst=b1.Joint.Impulses.snd.fst)&&
 (decide (a0.Joint.Impulses.snd.snd.fst=b1.Joint.Impulses.snd.snd.fst)&&
 decide (a0.Joint.Impulses.snd.snd.snd=b1.Joint.Impulses.snd.snd.snd)))))))))))))))))))))
 fun x879=>
 Let (bif x878 then x879 else false) fun x880=>
 Rx.Bind (if (x880==true)=true then caromref23_Equal a0.Body b1.Body else some default) fun r881=>
 Let (bif x880 then r881 else false) fun x882=>some x882
noncomputable def caromref47_EqualInputs (a0:(List Input)) (b1:(List Input)):Option Bool:=
 Let (↑a0.length:Int) fun x883=>
 Let (↑b1.length:Int) fun x884=>
 Let (x883 != x884) fun x885=>
 if x885=true then some false
 else
 LOOP
 (fun (rec886:Int→Option Bool) (s887:Int)=>
 Let (↑a0.length:Int) fun x888=>
 Let (decide (s887<x888)) fun x889=>
 Let (↑b1.length:Int) fun x890=>
 Let (decide (s887<x890)) fun x891=>
 Let (bif x889 then x891 else false) fun x892=>
 if x892=true then
 Chk ((0:Int)≤s887∧s887<(↑a0.length:Int))
 (Let (ix a0 s887) fun x893=>
 Chk ((0:Int)≤s887∧s887<(↑b1.length:Int))
 (Let (ix b1 s887) fun x894=>
 Rx.Bind (caromref43_Equal x893 x894) fun r895=>
 Let (!r895) fun x896=>
 if x896=true then some false else Let (IntKind.i64.wrap (s887+(1:Int))) fun x897=>rec886 x897))
 else some true)
 fuel (0:Int)
noncomputable def caromref47_Equal (a0:(List (List Input))) (b1:(List (List Input))):Option Bool:=
 Let (↑a0.length:Int) fun x898=>
 Let (↑b1.length:Int) fun x899=>
 Let (x898 != x899) fun x900=>
 if x900=true then some false
 else
 LOOP
 (fun (rec901:Int→Option Bool) (s902:Int)=>
 Let (↑a0.length:Int) fun x903=>
 Let (decide (s902<x903)) fun x904=>
 Let (↑b1.length:Int) fun x905=>
 Let (decide (s902<x905)) fun x906=>
 Let (bif x904 then x906 else false) fun x907=>
 if x907=true then
 Chk ((0:Int)≤s902∧s902<(↑a0.length:Int))
 (Let (ix a0 s902) fun x908=>
 Chk ((0:Int)≤s902∧s902<(↑b1.length:Int))
 (Let (ix b1 s902) fun x909=>
 Rx.Bind (caromref47_EqualInputs x908 x909) fun r910=>
 Let (!r910) fun x911=>
 if x911=true then some false else Let (IntKind.i64.wrap (s902+(1:Int))) fun x912=>rec901 x912))
 else some true)
 fuel (0:Int)
noncomputable def caromref43_UsedFields (k0:Int):Option (Bool × Bool × Bool):=
 Join
 (fun (v979:Bool)=>
 if v979=true then some (true,true,false)
 else
 Join
 (fun (v980:Bool)=>
 if v980=true then some (true,false,true)
 else
 Join
 (fun (v981:Bool)=>
 if v981=true then some (true,true,true)
 else
 Join (fun (v982:Bool)=>if v982=true then some (true,false,false) else some (false,false,false))
 fun (j983:Bool→Option (Bool × Bool × Bool))=>
 Let (k0==(6:Int)) fun x984=>
 if x984=true then j983 x984
 else
 Let (k0==(10:Int)) fun x985=>
 if x985=true then j983 x985 else Let (k0==(12:Int)) fun x986=>j983 x986)
 fun (j987:Bool→Option (Bool × Bool × Bool))=>
 Let (k0==(4:Int)) fun x988=>
 if x988=true then j987 x988 else Let (k0==(5:Int)) fun x989=>j987 x989)
 fun (j990:Bool→Option (Bool × Bool × Bool))=>
 Let (k0==(3:Int)) fun x991=>
 if x991=true then j990 x991 else Let (k0==(8:Int)) fun x992=>j990 x992)
 fun (j993:Bool→Option (Bool × Bool × Bool))=>
 Let (k0==(1:Int)) fun x994=>
 if x994=true then j993 x994
 else
 Let (k0==(2:Int)) fun x995=>
 if x995=true then j993 x995 else Let (k0==(7:Int)) fun x996=>j993 x996
noncomputable def caromref43_unsaturated (n0:Int):Option Bool:=
 Let (decide (n0<(-536870911:Int))) fun x997=>
 Let (decide (n0>(536870911:Int))) fun x998=>
 Let (bif x997 then true else x998) fun x999=>some x999
noncomputable def caromref43_Validate (x0:Input):Option Int:=
 Let (decide (x0.Kind<(1:Int))) fun x1000=>
 Let (decide (x0.Kind>(12:Int))) fun x1001=>
 Let (bif x1000 then true else x1001) fun x1002=>
 if x1002=true then some (10:Int)
 else
 Rx.Bind (caromref43_UsedFields x0.Kind) fun r1003=>
 Let (decide (x0.ID<(1:Int))) fun x1004=>
 Let (decide (x0.ID>(1099511627776:Int))) fun x1005=>
 Let (bif x1004 then true else x1005) fun x1006=>
 Let (bif r1003.fst then x1006 else false) fun x1007=>
 Rx.Bind (if (x1007==false&&r1003.snd.fst==true)=true then caromref43_unsaturated x0.Vec.X else some default)
 fun r1008=>
 Rx.Bind
 (if (x1007==false&&r1003.snd.fst==true&&r1008==false)=true then caromref43_unsaturated x0.Vec.Y
 else some default)
 fun r1009=>
 Let (bif r1008 then true else r1009) fun x1010=>
 Let (bif r1003.snd.fst then x1010 else false) fun x1011=>
 Let (bif x1007 then true else x1011) fun x1012=>
 Rx.Bind (if (x1012==false&&r1003.snd.snd==true)=true then caromref43_unsaturated x0.Value else some default)
 fun r1013=>
 Let (bif r1003.snd.snd then r1013 else false) fun x1014=>
 Let (bif x1012 then true else x1014) fun x1015=>
 if x1015=true then some (6:Int)
 else
 Let (!r1003.fst) fun x1016=>
 Let (x0.ID != (0:Int)) fun x1017=>
 Let (bif x1016 then x1017 else false) fun x1018=>
 Let (!r1003.snd.fst) fun x1019=>
 Let (!(decide (x0.Vec.X=(0:Int))&&decide (x0.Vec.Y=(0:Int)))) fun x1020=>
 Let (bif x1019 then x1020 else false) fun x1021=>
 Let (bif x1018 then true else x1021) fun x1022=>
 Let (!r1003.snd.snd) fun x1023=>
 Let (x0.Value != (0:Int)) fun x1024=>
 Let (bif x1023 then x1024 else false) fun x1025=>
 Let (bif x1022 then true else x1025) fun x1026=>
 Let (x0.Kind != (9:Int)) fun x1027=>
 Rx.Bind
 (if (x1026==false&&x1027==true)=true then
 caromref23_Equal x0.Body
 {ID:=(0:Int),Kind:=(0:Int),Transform:={Position:={X:=(0:Int),Y:=(0:Int):Vec},Angle:=(0:Int):Transform},Velocity:={X:=(0:Int),Y:=(0:Int):Vec},AngularVelocity:=(0:Int),Force:={X:=(0:Int),Y:=(0:Int):Vec},Torque:=(0:Int),LinearDamping:=(0:Int),AngularDamping:=(0:Int),GravityScale:=(0:Int),Bullet:=false,FixedRotation:=false,NoSleep:=false,Asleep:=false,IdleSteps:=(0:Int),Fixtures:=[]:Body}
 else some default)
 fun r1028=>
 Let (!r1028) fun x1029=>
 Let (bif x1027 then x1029 else false) fun x1030=>
 Let (bif x1026 then true else x1030) fun x1031=>
 Let (x0.Kind != (11:Int)) fun x1032=>
 Let
 (!(decide (x0.Joint.ID=(0:Int))&&
 (decide (x0.Joint.Kind=(0:Int))&&
 (decide (x0.Joint.BodyA=(0:Int))&&
 (decide (x0.Joint.BodyB=(0:Int))&&
 (decide (x0.Joint.AnchorA.X=(0:Int))&&decide (x0.Joint.AnchorA.Y=(0:Int))&&
 (decide (x0.Joint.AnchorB.X=(0:Int))&&decide (x0.Joint.AnchorB.Y=(0:Int))&&
 (decide (x0.Joint.Axis.X=(0:Int))&&decide (x0.Joint.Axis.Y=(0:Int))&&
 (decide (x0.Joint.ReferenceAngle=(0:Int))&&
 (decide (x0.Joint.EnableLimit=false)&&
 (decide (x0.Joint.Lower=(0:Int))&&
 (decide (x0.Joint.Upper=(0:Int))&&
 (decide (x0.Joint.EnableMotor=false)&&
 (decide (x0.Joint.MotorSpeed=(0:Int))&&
 (decide (x0.Joint.MaxForce=(0:Int))&&
 (decide (x0.Joint.Softness=(0:Int))&&
 (decide (x0.Joint.BreakForce=(0:Int))&&
 (decide (x0.Joint.CollideConnected=false)&&
 (decide (x0.Joint.Impulses.fst=(0:Int))&&
 (decide (x0.Joint.Impulses.snd.fst=(0:Int))&&
 (decide (x0.Joint.Impulses.snd.snd.fst=(0:Int))&&
 decide (x0.Joint.Impulses.snd.snd.snd=(0:Int)))))))))))))))))))))))
 fun x1033=>
 Let (bif x1032 then x1033 else false) fun x1034=>
 Let (bif x1031 then true else x1034) fun x1035=>if x1035=true then some (3:Int) else some (0:Int)
noncomputable def caromref47_validInputs (inputs0:(List Input)):Option Bool:=
 LOOP
 (fun (rec1036:Int→Option Bool) (s1037:Int)=>
 Let (↑inputs0.length:Int) fun x1038=>
 Let (decide (s1037<x1038)) fun x1039=>
 if x1039=true then
 Chk ((0:Int)≤s1037∧s1037<(↑inputs0.length:Int))
 (Let (ix inputs0 s1037) fun x1040=>
 Rx.Bind (caromref43_Validate x1040) fun r1041=>
 Let (r1041 != (0:Int)) fun x1042=>
 if x1042=true then some false else Let (IntKind.i64.wrap (s1037+(1:Int))) fun x1043=>rec1036 x1043)
 else some true)
 fuel (0:Int)
noncomputable def caromref47_Validate (r0:(List (List Input))):Option Int:=
 Let (↑r0.length:Int) fun x1044=>
 Let (decide (x1044>(4096:Int))) fun x1045=>
 if x1045=true then some (11:Int)
 else
 LOOP
 (fun (rec1046:Int→Option Int) (s1047:Int)=>
 Let (↑r0.length:Int) fun x1048=>
 Let (decide (s1047<x1048)) fun x1049=>
 if x1049=true then
 Chk ((0:Int)≤s1047∧s1047<(↑r0.length:Int))
 (Let (ix r0 s1047) fun x1050=>
 Let (↑x1050.length:Int) fun x1051=>
 Let (decide (x1051>(32:Int))) fun x1052=>
 if x1052=true then some (11:Int) else Let (IntKind.i64.wrap (s1047+(1:Int))) fun x1053=>rec1046 x1053)
 else
 LOOP
 (fun (rec1054:Int→Option Int) (s1055:Int)=>
 Let (↑r0.length:Int) fun x1056=>
 Let (decide (s1055<x1056)) fun x1057=>
 if x1057=true then
 Chk ((0:Int)≤s1055∧s1055<(↑r0.length:Int))
 (Let (ix r0 s1055) fun x1058=>
 Rx.Bind (caromref47_validInputs x1058) fun r1059=>
 Let (!r1059) fun x1060=>
 if x1060=true then some (20:Int) else Let (IntKind.i64.wrap (s1055+(1:Int))) fun x1061=>rec1054 x1061)
 else some (0:Int))
 fuel (0:Int))
 fuel (0:Int)
noncomputable def caromref47_word (k0:Int):Option (List UInt8):=
 Let (k0==(1:Int)) fun x1441=>
 if x1441=true then
 some #[(105:UInt8),(109:UInt8),(112:UInt8),(117:UInt8),(108:UInt8),(115:UInt8),(101:UInt8)].toList
 else
 Let (k0==(2:Int)) fun x1442=>
 if x1442=true then some #[(102:UInt8),(111:UInt8),(114:UInt8),(99:UInt8),(101:UInt8)].toList
 else
 Let (k0==(3:Int)) fun x1443=>
 if x1443=true then
 some
 #[(97:UInt8),(110:UInt8),(103:UInt8),(117:UInt8),(108:UInt8),(97:UInt8),(114:UInt8),(45:UInt8),
 (105:UInt8),(109:UInt8),(112:UInt8),(117:UInt8),(108:UInt8),(115:UInt8),(101:UInt8)].toList
 else
 Let (k0==(4:Int)) fun x1444=>
 if x1444=true then
 some
 #[(116:UInt8),(114:UInt8),(97:UInt8),(110:UInt8),(115:UInt8),(102:UInt8),(111:UInt8),(114:UInt8),
 (109:UInt8)].toList
 else
 Let (k0==(5:Int)) fun x1445=>
 if x1445=true then
 some
 #[(118:UInt8),(101:UInt8),(108:UInt8),(111:UInt8),(99:UInt8),(105:UInt8),(116:UInt8),
 (121:UInt8)].toList
 else
 Let (k0==(6:Int)) fun x1446=>
 if x1446=true then some #[(119:UInt8),(97:UInt8),(107:UInt8),(101:UInt8)].toList
 else
 Let (k0==(7:Int)) fun x1447=>
 if x1447=true then
 some #[(116:UInt8),(97:UInt8),(114:UInt8),(103:UInt8),(101:UInt8),(116:UInt8)].toList
 else
 Let (k0==(8:Int)) fun x1448=>
 if x1448=true then
 some
 #[(109:UInt8),(111:UInt8),(116:UInt8),(111:UInt8),(114:UInt8),(45:UInt8),(115:UInt8),(112:UInt8),
 (101:UInt8),(101:UInt8),(100:UInt8)].toList
 else
 Let (k0==(10:Int)) fun x1449=>
 if x1449=true then
 some
 #[(114:UInt8),(101:UInt8),(109:UInt8),(111:UInt8),(118:UInt8),(101:UInt8),(45:UInt8),(98:UInt8),
 (111:UInt8),(100:UInt8),(121:UInt8)].toList
 else
 Let (k0==(12:Int)) fun x1450=>
 if x1450=true then
 some
 #[(114:UInt8),(101:UInt8),(109:UInt8),(111:UInt8),(118:UInt8),(101:UInt8),(45:UInt8),(106:UInt8),
 (111:UInt8),(105:UInt8),(110:UInt8),(116:UInt8)].toList
 else some #[].toList
noncomputable def caromref08_digits (n0:Int):Option (List UInt8):=
 LOOP
 (fun (rec1451:Int × List UInt8→Option (List UInt8)) (s1452:Int × List UInt8)=>
 Let (s1452.fst != (0:Int)) fun x1453=>
 if x1453=true then
 Let (Int.tmod s1452.fst (10:Int)) fun x1454=>
 Join
 (fun (v1455:Int)=>
 Let (IntKind.i64.wrap (v1455+(1:Int))) fun x1456=>
 Chk ((0:Int)≤v1455∧v1455≤x1456∧x1456≤(↑(10:Nat):Int))
 (Let
 (sub
 #[(48:UInt8),(49:UInt8),(50:UInt8),(51:UInt8),(52:UInt8),(53:UInt8),(54:UInt8),(55:UInt8),
 (56:UInt8),(57:UInt8)].toList
 v1455 x1456)
 fun x1457=>
 Chk (x1457.length+List.length s1452.snd≤(9223372036854775807:Nat))
 (Let (x1457++s1452.snd) fun x1458=>
 Let (IntKind.i64.wrap (Int.tdiv s1452.fst (10:Int))) fun x1459=>rec1451 (x1459,x1458))))
 fun (j1460:Int→Option (List UInt8))=>
 Let (decide (x1454<(0:Int))) fun x1461=>
 if x1461=true then Let (IntKind.i64.wrap ((0:Int) - x1454)) fun x1462=>j1460 x1462 else j1460 x1454
 else some s1452.snd)
 fuel (n0,#[].toList)
noncomputable def caromref08_FormatInt (n0:Int):Option (List UInt8):=
 Let (n0==(0:Int)) fun x1463=>
 if x1463=true then some #[(48:UInt8)].toList
 else
 Let (decide (n0<(0:Int))) fun x1464=>
 if x1464=true then
 Rx.Bind (caromref08_digits n0) fun r1465=>
 Chk ((1:Nat)+r1465.length≤(9223372036854775807:Nat))
 (Let (#[(45:UInt8)].toList++r1465) fun x1466=>some x1466)
 else Rx.Bind (caromref08_digits n0) fun r1467=>some r1467
noncomputable def caromref08_JoinFields (fields0:(List (List UInt8))):Option (List UInt8):=
 LOOP
 (fun (rec1468:List UInt8 × Int→Option (List UInt8)) (s1469:List UInt8 × Int)=>
 Let (↑fields0.length:Int) fun x1470=>
 Let (decide (s1469.snd<x1470)) fun x1471=>
 if x1471=true then
 Join
 (fun (v1472:List UInt8)=>
 Chk ((0:Int)≤s1469.snd∧s1469.snd<(↑fields0.length:Int))
 (Let (ix fields0 s1469.snd) fun x1473=>
 Chk (v1472.length+x1473.length≤(9223372036854775807:Nat))
 (Let (v1472++x1473) fun x1474=>
 Let (IntKind.i64.wrap (s1469.snd+(1:Int))) fun x1475=>rec1468 (x1474,x1475))))
 fun (j1476:List UInt8→Option (List UInt8))=>
 Let (decide (s1469.snd>(0:Int))) fun x1477=>
 if x1477=true then
 Chk (List.length s1469.fst+(1:Nat)≤(9223372036854775807:Nat))
 (Let (s1469.fst++#[(32:UInt8)].toList) fun x1478=>j1476 x1478)
 else j1476 s1469.fst
 else some s1469.fst)
 fuel (#[].toList,(0:Int))
noncomputable def caromref08_FormatFixed (x0:Int):Option (List UInt8):=
 Let (x0 != (0:Int)) fun x1479=>
 Let (x0.tmod (65536:Int)) fun x1480=>
 Let (x1480==(0:Int)) fun x1481=>
 Let (bif x1479 then x1481 else false) fun x1482=>
 if x1482=true then
 Let (IntKind.i64.wrap (x0.tdiv (65536:Int))) fun x1483=>
 Rx.Bind (caromref08_FormatInt x1483) fun r1484=>
 Chk (r1484.length+(1:Nat)≤(9223372036854775807:Nat))
 (Let (r1484++#[(117:UInt8)].toList) fun x1485=>some x1485)
 else Rx.Bind (caromref08_FormatInt x0) fun r1486=>some r1486
noncomputable def caromref47_line (x0:Input):Option (List UInt8):=
 Rx.Bind (caromref43_UsedFields x0.Kind) fun r1487=>
 Rx.Bind (caromref47_word x0.Kind) fun r1488=>
 Rx.Bind (caromref08_FormatInt x0.ID) fun r1489=>
 Rx.Bind (caromref08_JoinFields [r1488,r1489]) fun r1490=>
 Join
 (fun (v1491:List UInt8)=>
 Join (fun (v1492:List UInt8)=>some v1492) fun (j1493:List UInt8→Option (List UInt8))=>
 if r1487.snd.snd=true then
 Rx.Bind (caromref08_FormatFixed x0.Value) fun r1494=>
 Rx.Bind (caromref08_JoinFields [v1491,r1494]) fun r1495=>j1493 r1495
 else j1493 v1491)
 fun (j1496:List UInt8→Option (List UInt8))=>
 if r1487.snd.fst=true then
 Rx.Bind (caromref08_FormatFixed x0.Vec.X) fun r1497=>
 Rx.Bind (caromref08_FormatFixed x0.Vec.Y) fun r1498=>
 Rx.Bind (caromref08_JoinFields [r1490,r1497,r1498]) fun r1499=>j1496 r1499
 else j1496 r1490
noncomputable def caromref47_Format (r0:(List (List Input))):Option ((List UInt8) × Int):=
 Rx.Bind (caromref47_Validate r0) fun r1500=>
 Let (r1500 != (0:Int)) fun x1501=>
 if x1501=true then some (#[].toList,(25:Int))
 else
 LOOP
 (fun (rec1502:List UInt8 × Int→Option (List UInt8 × Int)) (s1503:List UInt8 × Int)=>
 Let (↑r0.length:Int) fun x1504=>
 Let (decide (s1503.snd<x1504)) fun x1505=>
 if x1505=true then
 Chk (List.length s1503.fst+(6:Nat)≤(9223372036854775807:Nat))
 (Let (s1503.fst++#[(102:UInt8),(114:UInt8),(97:UInt8),(109:UInt8),(101:UInt8),(10:UInt8)].toList)
 fun x1506=>
 LOOP
 (fun (rec1507:List UInt8 × Int→Option (List UInt8 × Int)) (s1508:List UInt8 × Int)=>
 Chk ((0:Int)≤s1503.snd∧s1503.snd<(↑r0.length:Int))
 (Let (ix r0 s1503.snd) fun x1509=>
 Let (↑x1509.length:Int) fun x1510=>
 Let (decide (s1508.snd<x1510)) fun x1511=>
 if x1511=true then
 Chk ((0:Int)≤s1503.snd∧s1503.snd<(↑r0.length:Int))
 (Let (ix r0 s1503.snd) fun x1512=>
 Chk ((0:Int)≤s1508.snd∧s1508.snd<(↑x1512.length:Int))
 (Let (ix x1512 s1508.snd) fun x1513=>
 Rx.Bind (caromref47_word x1513.Kind) fun r1514=>
 Let (r1514==#[].toList) fun x1515=>
 if x1515=true then some (#[].toList,(25:Int))
 else
 Chk ((0:Int)≤s1503.snd∧s1503.snd<(↑r0.length:Int))
 (Let (ix r0 s1503.snd) fun x1516=>
 Chk ((0:Int)≤s1508.snd∧s1508.snd<(↑x1516.length:Int))
 (Let (ix x1516 s1508.snd) fun x1517=>
 Rx.Bind (caromref47_line x1517) fun r1518=>
 Chk (List.length s1508.fst+r1518.length≤(9223372036854775807:Nat))
 (Let (s1508.fst++r1518) fun x1519=>
 Chk (x1519.length+(1:Nat)≤(9223372036854775807:Nat))
 (Let (x1519++#[(10:UInt8)].toList) fun x1520=>
 Let (IntKind.i64.wrap (s1508.snd+(1:Int))) fun x1521=>rec1507 (x1520,x1521)))))))
 else Let (IntKind.i64.wrap (s1503.snd+(1:Int))) fun x1522=>rec1502 (s1508.fst,x1522)))
 fuel (x1506,(0:Int)))
 else some (s1503.fst,(0:Int)))
 fuel (#[].toList,(0:Int))
noncomputable def caromref08_SplitLines (text0:(List UInt8)):Option ((List (List UInt8)) × Int):=
 LOOP
 (fun (rec1523:List (List UInt8) × Int × Int→Option (List (List UInt8) × Int))
 (s1524:List (List UInt8) × Int × Int)=>
 Let (↑text0.length:Int) fun x1525=>
 Let (decide (s1524.snd.snd<x1525)) fun x1526=>
 if x1526=true then
 Join
 (fun (v1527:List (List UInt8) × Int)=>
 Let (IntKind.i64.wrap (s1524.snd.snd+(1:Int))) fun x1528=>rec1523 (v1527.fst,v1527.snd,x1528))
 fun (j1529:List (List UInt8) × Int→Option (List (List UInt8) × Int))=>
 Chk ((0:Int)≤s1524.snd.snd∧s1524.snd.snd<(↑text0.length:Int))
 (Let (ix text0 s1524.snd.snd) fun x1530=>
 Let (x1530==toByte (10:Int)) fun x1531=>
 if x1531=true then
 Chk ((0:Int)≤s1524.snd.fst∧s1524.snd.fst≤s1524.snd.snd∧s1524.snd.snd≤(↑text0.length:Int))
 (Let (sub text0 s1524.snd.fst s1524.snd.snd) fun x1532=>
 Chk ((List.length s1524.fst+[x1532].length)*(16:Nat)≤(140737488355328:Nat))
 (Let (s1524.fst++[x1532]) fun x1533=>
 Let (IntKind.i64.wrap (s1524.snd.snd+(1:Int))) fun x1534=>j1529 (x1533,x1534)))
 else j1529 (s1524.fst,s1524.snd.fst))
 else
 Let (↑text0.length:Int) fun x1535=>
 Let (decide (s1524.snd.fst<x1535)) fun x1536=>
 if x1536=true then some ([],(3:Int)) else some (s1524.fst,(0:Int)))
 fuel ([],(0:Int),(0:Int))
noncomputable def caromref08_IsField (s0:(List UInt8)):Option Bool:=
 LOOP
 (fun (rec1537:Int→Option Bool) (s1538:Int)=>
 Let (↑s0.length:Int) fun x1539=>
 Let (decide (s1538<x1539)) fun x1540=>
 if x1540=true then
 Chk ((0:Int)≤s1538∧s1538<(↑s0.length:Int))
 (Let (ix s0 s1538) fun x1541=>
 Let (decide (x1541<toByte (33:Int))) fun x1542=>
 Chk ((x1542==false)=true→(0:Int)≤s1538∧s1538<(↑s0.length:Int))
 (Let (ix s0 s1538) fun x1543=>
 Let (decide (toByte (126:Int)<x1543)) fun x1544=>
 Let (bif x1542 then true else x1544) fun x1545=>
 if x1545=true then some false else Let (IntKind.i64.wrap (s1538+(1:Int))) fun x1546=>rec1537 x1546))
 else Let (s0 != #[].toList) fun x1547=>some x1547)
 fuel (0:Int)
noncomputable def caromref08_Fields (line0:(List UInt8)):Option ((List (List UInt8)) × Int):=
 Let (line0==#[].toList) fun x1548=>
 if x1548=true then some ([],(0:Int))
 else
 LOOP
 (fun (rec1549:List (List UInt8) × Int × Int→Option (List (List UInt8) × Int))
 (s1550:List (List UInt8) × Int × Int)=>
 Let (↑line0.length:Int) fun x1551=>
 Let (decide (s1550.snd.snd≤x1551)) fun x1552=>
 if x1552=true then
 Join
 (fun (v1553:List (List UInt8) × Int)=>
 Let (IntKind.i64.wrap (s1550.snd.snd+(1:Int))) fun x1554=>rec1549 (v1553.fst,v1553.snd,x1554))
 fun (j1555:List (List UInt8) × Int→Option (List (List UInt8) × Int))=>
 Let (↑line0.length:Int) fun x1556=>
 Let (decide (s1550.snd.snd<x1556)) fun x1557=>
 Chk ((x1557==true)=true→(0:Int)≤s1550.snd.snd∧s1550.snd.snd<(↑line0.length:Int))
 (Let (ix line0 s1550.snd.snd) fun x1558=>
 Let (x1558 != toByte (32:Int)) fun x1559=>
 Let (bif x1557 then x1559 else false) fun x1560=>
 if x1560=true then j1555 (s1550.fst,s1550.snd.fst)
 else
 Chk ((0:Int)≤s1550.snd.fst∧s1550.snd.fst≤s1550.snd.snd∧s1550.snd.snd≤(↑line0.length:Int))
 (Let (sub line0 s1550.snd.fst s1550.snd.snd) fun x1561=>
 Rx.Bind (caromref08_IsField x1561) fun r1562=>
 Let (!r1562) fun x1563=>
 if x1563=true then some ([],(3:Int))
 else
 Chk ((0:Int)≤s1550.snd.fst∧s1550.snd.fst≤s1550.snd.snd∧s1550.snd.snd≤(↑line0.length:Int))
 (Let (sub line0 s1550.snd.fst s1550.snd.snd) fun x1564=>
 Chk ((List.length s1550.fst+[x1564].length)*(16:Nat)≤(140737488355328:Nat))
 (Let (s1550.fst++[x1564]) fun x1565=>
 Let (IntKind.i64.wrap (s1550.snd.snd+(1:Int))) fun x1566=>j1555 (x1565,x1566)))))
 else some (s1550.fst,(0:Int)))
 fuel ([],(0:Int),(0:Int))
noncomputable def caromref47_kindOf (s0:(List UInt8)):Option Int:=
 LOOP
 (fun (rec1567:Int→Option Int) (s1568:Int)=>
 Let (decide (s1568≤(12:Int))) fun x1569=>
 if x1569=true then
 Rx.Bind (caromref47_word s1568) fun r1570=>
 Let (r1570 != #[].toList) fun x1571=>
 Rx.Bind (if (x1571==true)=true then caromref47_word s1568 else some default) fun r1572=>
 Let (r1572==s0) fun x1573=>
 Let (bif x1571 then x1573 else false) fun x1574=>
 if x1574=true then some s1568 else Let (IntKind.i64.wrap (s1568+(1:Int))) fun x1575=>rec1567 x1575
 else some (0:Int))
 fuel (1:Int)
noncomputable def caromref08_IsInteger (s0:(List UInt8)):Option Bool:=
 Let (s0==#[(48:UInt8)].toList) fun x1576=>
 if x1576=true then some true
 else
 Join
 (fun (v1577:List UInt8)=>
 LOOP
 (fun (rec1578:Int→Option Bool) (s1579:Int)=>
 Let (↑v1577.length:Int) fun x1580=>
 Let (decide (s1579<x1580)) fun x1581=>
 if x1581=true then
 Chk ((0:Int)≤s1579∧s1579<(↑v1577.length:Int))
 (Let (ix v1577 s1579) fun x1582=>
 Let (decide (x1582<toByte (48:Int))) fun x1583=>
 Chk ((x1583==false)=true→(0:Int)≤s1579∧s1579<(↑v1577.length:Int))
 (Let (ix v1577 s1579) fun x1584=>
 Let (decide (toByte (57:Int)<x1584)) fun x1585=>
 Let (bif x1583 then true else x1585) fun x1586=>
 if x1586=true then some false else Let (IntKind.i64.wrap (s1579+(1:Int))) fun x1587=>rec1578 x1587))
 else
 Let (↑v1577.length:Int) fun x1588=>
 Let (decide (x1588>(0:Int))) fun x1589=>
 Chk ((x1589==true)=true→(0:Int)≤(0:Int)∧(0:Int)<(↑v1577.length:Int))
 (Let (ix v1577 (0:Int)) fun x1590=>
 Let (x1590 != toByte (48:Int)) fun x1591=>
 Let (bif x1589 then x1591 else false) fun x1592=>some x1592))
 fuel (0:Int))
 fun (j1593:List UInt8→Option Bool)=>
 Let (↑s0.length:Int) fun x1594=>
 Let (decide (x1594>(0:Int))) fun x1595=>
 Chk ((x1595==true)=true→(0:Int)≤(0:Int)∧(0:Int)<(↑s0.length:Int))
 (Let (ix s0 (0:Int)) fun x1596=>
 Let (x1596==toByte (45:Int)) fun x1597=>
 Let (bif x1595 then x1597 else false) fun x1598=>
 if x1598=true then
 Chk ((0:Int)≤(1:Int)∧(1:Int)≤(↑s0.length:Int))
 (Let (List.drop (1:Nat) s0) fun x1599=>j1593 x1599)
 else j1593 s0)
noncomputable def caromref08_value (s0:(List UInt8)) (limit1:Int):Option (Int × Bool):=
 LOOP
 (fun (rec1600:Int × Bool × Int→Option (Int × Bool)) (s1601:Int × Bool × Int)=>
 Let (↑s0.length:Int) fun x1602=>
 Let (decide (s1601.snd.snd<x1602)) fun x1603=>
 if x1603=true then
 Join
 (fun (v1604:Int × Bool)=>
 Let (IntKind.i64.wrap (s1601.snd.snd+(1:Int))) fun x1605=>rec1600 (v1604.fst,v1604.snd,x1605))
 fun (j1606:Int × Bool→Option (Int × Bool))=>
 Chk ((0:Int)≤s1601.snd.snd∧s1601.snd.snd<(↑s0.length:Int))
 (Let (ix s0 s1601.snd.snd) fun x1607=>
 Let (x1607==toByte (45:Int)) fun x1608=>
 if x1608=true then j1606 (s1601.fst,true)
 else
 Chk ((0:Int)≤s1601.snd.snd∧s1601.snd.snd<(↑s0.length:Int))
 (Let (ix s0 s1601.snd.snd) fun x1609=>
 Let (↑x1609.toNat:Int) fun x1610=>
 Let (IntKind.i64.wrap (x1610 - (48:Int))) fun x1611=>
 Let (IntKind.i64.wrap (limit1 - x1611)) fun x1612=>
 Let (IntKind.i64.wrap (x1612.tdiv (10:Int))) fun x1613=>
 Let (decide (s1601.fst>x1613)) fun x1614=>
 if x1614=true then some ((0:Int),false)
 else
 Let (IntKind.i64.wrap ((10:Int)*s1601.fst)) fun x1615=>
 Let (IntKind.i64.wrap (x1615+x1611)) fun x1616=>j1606 (x1616,s1601.snd.fst)))
 else
 Join (fun (v1617:Int)=>some (v1617,true)) fun (j1618:Int→Option (Int × Bool))=>
 if s1601.snd.fst=true then Let (IntKind.i64.wrap ((0:Int) - s1601.fst)) fun x1619=>j1618 x1619
 else j1618 s1601.fst)
 fuel ((0:Int),false,(0:Int))
noncomputable def caromref08_ParseInt (s0:(List UInt8)):Option (Int × Int):=
 Rx.Bind (caromref08_IsInteger s0) fun r1620=>
 Let (!r1620) fun x1621=>
 if x1621=true then some ((0:Int),(3:Int))
 else
 Rx.Bind (caromref08_value s0 (4611686018427387904:Int)) fun r1622=>
 Let (!r1622.snd) fun x1623=>if x1623=true then some ((0:Int),(6:Int)) else some (r1622.fst,(0:Int))
noncomputable def caromref08_remainder (s0:(List UInt8)):Option Int:=
 LOOP
 (fun (rec1624:Int × Int→Option Int) (s1625:Int × Int)=>
 Let (↑s0.length:Int) fun x1626=>
 Let (decide (s1625.snd<x1626)) fun x1627=>
 if x1627=true then
 Join (fun (v1628:Int)=>Let (IntKind.i64.wrap (s1625.snd+(1:Int))) fun x1629=>rec1624 (v1628,x1629))
 fun (j1630:Int→Option Int)=>
 Chk ((0:Int)≤s1625.snd∧s1625.snd<(↑s0.length:Int))
 (Let (ix s0 s1625.snd) fun x1631=>
 Let (x1631 != toByte (45:Int)) fun x1632=>
 if x1632=true then
 Let (IntKind.i64.wrap ((10:Int)*s1625.fst)) fun x1633=>
 Chk ((0:Int)≤s1625.snd∧s1625.snd<(↑s0.length:Int))
 (Let (ix s0 s1625.snd) fun x1634=>
 Let (↑x1634.toNat:Int) fun x1635=>
 Let (IntKind.i64.wrap (x1633+x1635)) fun x1636=>
 Let (IntKind.i64.wrap (x1636 - (48:Int))) fun x1637=>
 Let (x1637.tmod (65536:Int)) fun x1638=>j1630 x1638)
 else j1630 s1625.fst)
 else some s1625.fst)
 fuel ((0:Int),(0:Int))
noncomputable def caromref08_ParseFixed (s0:(List UInt8)):Option (Int × Int):=
 Let (↑s0.length:Int) fun x1639=>
 Let (IntKind.i64.wrap (x1639 - (1:Int))) fun x1640=>
 Let (decide (x1640≥(0:Int))) fun x1641=>
 Chk ((x1641==true)=true→(0:Int)≤x1640∧x1640<(↑s0.length:Int))
 (Let (ix s0 x1640) fun x1642=>
 Let (x1642==toByte (117:Int)) fun x1643=>
 Let (bif x1641 then x1643 else false) fun x1644=>
 if x1644=true then
 Chk ((0:Int)≤x1640∧x1640≤(↑s0.length:Int))
 (Let (List.take x1640.toNat s0) fun x1645=>
 Rx.Bind (caromref08_IsInteger x1645) fun r1646=>
 Let (!r1646) fun x1647=>
 Chk ((x1647==false)=true→(0:Int)≤x1640∧x1640≤(↑s0.length:Int))
 (Let (List.take x1640.toNat s0) fun x1648=>
 Let (x1648==#[(48:UInt8)].toList) fun x1649=>
 Let (bif x1647 then true else x1649) fun x1650=>
 if x1650=true then some ((0:Int),(3:Int))
 else
 Chk ((0:Int)≤x1640∧x1640≤(↑s0.length:Int))
 (Let (List.take x1640.toNat s0) fun x1651=>
 Rx.Bind (caromref08_value x1651 (8191:Int)) fun r1652=>
 Let (!r1652.snd) fun x1653=>
 if x1653=true then some ((0:Int),(6:Int))
 else Let (IntKind.i64.wrap (r1652.fst*(65536:Int))) fun x1654=>some (x1654,(0:Int)))))
 else
 Rx.Bind (caromref08_IsInteger s0) fun r1655=>
 Let (!r1655) fun x1656=>
 Let (s0 != #[(48:UInt8)].toList) fun x1657=>
 Rx.Bind (if (x1656==false&&x1657==true)=true then caromref08_remainder s0 else some default)
 fun r1658=>
 Let (r1658==(0:Int)) fun x1659=>
 Let (bif x1657 then x1659 else false) fun x1660=>
 Let (bif x1656 then true else x1660) fun x1661=>
 if x1661=true then some ((0:Int),(3:Int))
 else
 Rx.Bind (caromref08_value s0 (536870911:Int)) fun r1662=>
 Let (!r1662.snd) fun x1663=>
 if x1663=true then some ((0:Int),(6:Int)) else some (r1662.fst,(0:Int)))
noncomputable def caromref47_parseInput (fields0:(List (List UInt8))):Option (Input × Bool):=
 Let (↑fields0.length:Int) fun x1664=>
 Let (decide (x1664<(2:Int))) fun x1665=>
 Chk ((x1665==false)=true→(0:Int)≤(0:Int)∧(0:Int)<(↑fields0.length:Int))
 (Let (ix fields0 (0:Int)) fun x1666=>
 Rx.Bind (if (x1665==false)=true then caromref47_kindOf x1666 else some default) fun r1667=>
 Let (r1667==(0:Int)) fun x1668=>
 Let (bif x1665 then true else x1668) fun x1669=>
 if x1669=true then
 some
 ({Kind:=(0:Int),ID:=(0:Int),Vec:={X:=(0:Int),Y:=(0:Int):Vec},Value:=(0:Int),Body:={ID:=(0:Int),Kind:=(0:Int),Transform:={Position:={X:=(0:Int),Y:=(0:Int):Vec},Angle:=(0:Int):Transform},Velocity:={X:=(0:Int),Y:=(0:Int):Vec},AngularVelocity:=(0:Int),Force:={X:=(0:Int),Y:=(0:Int):Vec},Torque:=(0:Int),LinearDamping:=(0:Int),AngularDamping:=(0:Int),GravityScale:=(0:Int),Bullet:=false,FixedRotation:=false,NoSleep:=false,Asleep:=false,IdleSteps:=(0:Int),Fixtures:=[]:Body},Joint:={ID:=(0:Int),Kind:=(0:Int),BodyA:=(0:Int),BodyB:=(0:Int),AnchorA:={X:=(0:Int),Y:=(0:Int):Vec},AnchorB:={X:=(0:Int),Y:=(0:Int):Vec},Axis:={X:=(0:Int),Y:=(0:Int):Vec},ReferenceAngle:=(0:Int),EnableLimit:=false,Lower:=(0:Int),Upper:=(0:Int),EnableMotor:=false,MotorSpeed:=(0:Int),MaxForce:=(0:Int),Softness:=(0:Int),BreakForce:=(0:Int),CollideConnected:=false,Impulses:=((0:Int),(0:Int),(0:Int),(0:Int)):Joint}:Input},
 false)
 else
 Chk ((0:Int)≤(0:Int)∧(0:Int)<(↑fields0.length:Int))
 (Let (ix fields0 (0:Int)) fun x1670=>
 Rx.Bind (caromref47_kindOf x1670) fun r1671=>
 Rx.Bind (caromref43_UsedFields r1671) fun r1672=>
 Join
 (fun (v1673:Int)=>
 Join
 (fun (v1674:Int)=>
 Chk ((0:Int)≤(1:Int)∧(1:Int)<(↑fields0.length:Int))
 (Let (ix fields0 (1:Int)) fun x1675=>
 Rx.Bind (caromref08_ParseInt x1675) fun r1676=>
 Let (↑fields0.length:Int) fun x1677=>
 Let (x1677 != v1674) fun x1678=>
 Let (r1676.snd != (0:Int)) fun x1679=>
 Let (bif x1678 then true else x1679) fun x1680=>
 if x1680=true then
 some
 ({Kind:=(0:Int),ID:=(0:Int),Vec:={X:=(0:Int),Y:=(0:Int):Vec},Value:=(0:Int),Body:={ID:=(0:Int),Kind:=(0:Int),Transform:={Position:={X:=(0:Int),Y:=(0:Int):Vec},Angle:=(0:Int):Transform},Velocity:={X:=(0:Int),Y:=(0:Int):Vec},AngularVelocity:=(0:Int),Force:={X:=(0:Int),Y:=(0:Int):Vec},Torque:=(0:Int),LinearDamping:=(0:Int),AngularDamping:=(0:Int),GravityScale:=(0:Int),Bullet:=false,FixedRotation:=false,NoSleep:=false,Asleep:=false,IdleSteps:=(0:Int),Fixtures:=[]:Body},Joint:={ID:=(0:Int),Kind:=(0:Int),BodyA:=(0:Int),BodyB:=(0:Int),AnchorA:={X:=(0:Int),Y:=(0:Int):Vec},AnchorB:={X:=(0:Int),Y:=(0:Int):Vec},Axis:={X:=(0:Int),Y:=(0:Int):Vec},ReferenceAngle:=(0:Int),EnableLimit:=false,Lower:=(0:Int),Upper:=(0:Int),EnableMotor:=false,MotorSpeed:=(0:Int),MaxForce:=(0:Int),Softness:=(0:Int),BreakForce:=(0:Int),CollideConnected:=false,Impulses:=((0:Int),(0:Int),(0:Int),(0:Int)):Joint}:Input},
 false)
 else
 LOOP
 (fun (rec1681:List Int × Int × Input→Option (Input × Bool)) (s1682:List Int × Int × Input)=>
 Let (↑fields0.length:Int) fun x1683=>
 Let (decide (s1682.snd.fst<x1683)) fun x1684=>
 if x1684=true then
 Chk ((0:Int)≤s1682.snd.fst∧s1682.snd.fst<(↑fields0.length:Int))
 (Let (ix fields0 s1682.snd.fst) fun x1685=>
 Rx.Bind (caromref08_ParseFixed x1685) fun r1686=>
 Let (r1686.snd != (0:Int)) fun x1687=>
 if x1687=true then
 some
 ({Kind:=(0:Int),ID:=(0:Int),Vec:={X:=(0:Int),Y:=(0:Int):Vec},Value:=(0:Int),Body:={ID:=(0:Int),Kind:=(0:Int),Transform:={Position:={X:=(0:Int),Y:=(0:Int):Vec},Angle:=(0:Int):Transform},Velocity:={X:=(0:Int),Y:=(0:Int):Vec},AngularVelocity:=(0:Int),Force:={X:=(0:Int),Y:=(0:Int):Vec},Torque:=(0:Int),LinearDamping:=(0:Int),AngularDamping:=(0:Int),GravityScale:=(0:Int),Bullet:=false,FixedRotation:=false,NoSleep:=false,Asleep:=false,IdleSteps:=(0:Int),Fixtures:=[]:Body},Joint:={ID:=(0:Int),Kind:=(0:Int),BodyA:=(0:Int),BodyB:=(0:Int),AnchorA:={X:=(0:Int),Y:=(0:Int):Vec},AnchorB:={X:=(0:Int),Y:=(0:Int):Vec},Axis:={X:=(0:Int),Y:=(0:Int):Vec},ReferenceAngle:=(0:Int),EnableLimit:=false,Lower:=(0:Int),Upper:=(0:Int),EnableMotor:=false,MotorSpeed:=(0:Int),MaxForce:=(0:Int),Softness:=(0:Int),BreakForce:=(0:Int),CollideConnected:=false,Impulses:=((0:Int),(0:Int),(0:Int),(0:Int)):Joint}:Input},
 false)
 else
 Chk ((List.length s1682.fst+[r1686.fst].length)*(8:Nat)≤(140737488355328:Nat))
 (Let (s1682.fst++[r1686.fst]) fun x1688=>
 Let (IntKind.i64.wrap (s1682.snd.fst+(1:Int))) fun x1689=>rec1681 (x1688,x1689,s1682.snd.snd)))
 else
 Join
 (fun (v1690:List Int × Input)=>
 Join (fun (v1691:Input)=>some (v1691,true)) fun (j1692:Input→Option (Input × Bool))=>
 if r1672.snd.snd=true then
 Chk ((0:Int)≤(0:Int)∧(0:Int)<(↑(List.length v1690.fst):Int))
 (Let (ix v1690.fst (0:Int)) fun x1693=>
 j1692
 {Kind:=v1690.snd.Kind,ID:=v1690.snd.ID,Vec:=v1690.snd.Vec,Value:=x1693,Body:=v1690.snd.Body,Joint:=v1690.snd.Joint:Input})
 else j1692 v1690.snd)
 fun (j1694:List Int × Input→Option (Input × Bool))=>
 if r1672.snd.fst=true then
 Chk ((0:Int)≤(0:Int)∧(0:Int)<(↑(List.length s1682.fst):Int))
 (Let (ix s1682.fst (0:Int)) fun x1695=>
 Chk ((0:Int)≤(1:Int)∧(1:Int)<(↑(List.length s1682.fst):Int))
 (Let (ix s1682.fst (1:Int)) fun x1696=>
 Chk ((0:Int)≤(2:Int)∧(2:Int)≤(↑(List.length s1682.fst):Int))
 (Let (List.drop (2:Nat) s1682.fst) fun x1697=>
 j1694
 (x1697,
 {Kind:=r1671,ID:=r1676.fst,Vec:={X:=x1695,Y:=x1696:Vec},Value:=(0:Int),Body:={ID:=(0:Int),Kind:=(0:Int),Transform:={Position:={X:=(0:Int),Y:=(0:Int):Vec},Angle:=(0:Int):Transform},Velocity:={X:=(0:Int),Y:=(0:Int):Vec},AngularVelocity:=(0:Int),Force:={X:=(0:Int),Y:=(0:Int):Vec},Torque:=(0:Int),LinearDamping:=(0:Int),AngularDamping:=(0:Int),GravityScale:=(0:Int),Bullet:=false,FixedRotation:=false,NoSleep:=false,Asleep:=false,IdleSteps:=(0:Int),Fixtures:=[]:Body},Joint:={ID:=(0:Int),Kind:=(0:Int),BodyA:=(0:Int),BodyB:=(0:Int),AnchorA:={X:=(0:Int),Y:=(0:Int):Vec},AnchorB:={X:=(0:Int),Y:=(0:Int):Vec},Axis:={X:=(0:Int),Y:=(0:Int):Vec},ReferenceAngle:=(0:Int),EnableLimit:=false,Lower:=(0:Int),Upper:=(0:Int),EnableMotor:=false,MotorSpeed:=(0:Int),MaxForce:=(0:Int),Softness:=(0:Int),BreakForce:=(0:Int),CollideConnected:=false,Impulses:=((0:Int),(0:Int),(0:Int),(0:Int)):Joint}:Input}))))
 else
 j1694
 (s1682.fst,
 {Kind:=r1671,ID:=r1676.fst,Vec:={X:=(0:Int),Y:=(0:Int):Vec},Value:=(0:Int),Body:={ID:=(0:Int),Kind:=(0:Int),Transform:={Position:={X:=(0:Int),Y:=(0:Int):Vec},Angle:=(0:Int):Transform},Velocity:={X:=(0:Int),Y:=(0:Int):Vec},AngularVelocity:=(0:Int),Force:={X:=(0:Int),Y:=(0:Int):Vec},Torque:=(0:Int),LinearDamping:=(0:Int),AngularDamping:=(0:Int),GravityScale:=(0:Int),Bullet:=false,FixedRotation:=false,NoSleep:=false,Asleep:=false,IdleSteps:=(0:Int),Fixtures:=[]:Body},Joint:={ID:=(0:Int),Kind:=(0:Int),BodyA:=(0:Int),BodyB:=(0:Int),AnchorA:={X:=(0:Int),Y:=(0:Int):Vec},AnchorB:={X:=(0:Int),Y:=(0:Int):Vec},Axis:={X:=(0:Int),Y:=(0:Int):Vec},ReferenceAngle:=(0:Int),EnableLimit:=false,Lower:=(0:Int),Upper:=(0:Int),EnableMotor:=false,MotorSpeed:=(0:Int),MaxForce:=(0:Int),Softness:=(0:Int),BreakForce:=(0:Int),CollideConnected:=false,Impulses:=((0:Int),(0:Int),(0:Int),(0:Int)):Joint}:Input}))
 fuel
 ([],(2:Int),
 {Kind:=(0:Int),ID:=(0:Int),Vec:={X:=(0:Int),Y:=(0:Int):Vec},Value:=(0:Int),Body:={ID:=(0:Int),Kind:=(0:Int),Transform:={Position:={X:=(0:Int),Y:=(0:Int):Vec},Angle:=(0:Int):Transform},Velocity:={X:=(0:Int),Y:=(0:Int):Vec},AngularVelocity:=(0:Int),Force:={X:=(0:Int),Y:=(0:Int):Vec},Torque:=(0:Int),LinearDamping:=(0:Int),AngularDamping:=(0:Int),GravityScale:=(0:Int),Bullet:=false,FixedRotation:=false,NoSleep:=false,Asleep:=false,IdleSteps:=(0:Int),Fixtures:=[]:Body},Joint:={ID:=(0:Int),Kind:=(0:Int),BodyA:=(0:Int),BodyB:=(0:Int),AnchorA:={X:=(0:Int),Y:=(0:Int):Vec},AnchorB:={X:=(0:Int),Y:=(0:Int):Vec},Axis:={X:=(0:Int),Y:=(0:Int):Vec},ReferenceAngle:=(0:Int),EnableLimit:=false,Lower:=(0:Int),Upper:=(0:Int),EnableMotor:=false,MotorSpeed:=(0:Int),MaxForce:=(0:Int),Softness:=(0:Int),BreakForce:=(0:Int),CollideConnected:=false,Impulses:=((0:Int),(0:Int),(0:Int),(0:Int)):Joint}:Input})))
 fun (j1698:Int→Option (Input × Bool))=>
 if r1672.snd.snd=true then Let (IntKind.i64.wrap (v1673+(1:Int))) fun x1699=>j1698 x1699
 else j1698 v1673)
 fun (j1700:Int→Option (Input × Bool))=>
 if r1672.snd.fst=true then j1700 (IntKind.i64.wrap ((2:Int)+(2:Int))) else j1700 (2:Int)))
noncomputable def caromref47_Parse (s0:(List UInt8)):Option ((List (List Input)) × Int × Int):=
 Rx.Bind (caromref08_SplitLines s0) fun r1701=>
 Let (r1701.snd != (0:Int)) fun x1702=>
 if x1702=true then some ([],(0:Int),r1701.snd)
 else
 LOOP
 (fun (rec1703:List (List Input) × Int→Option (List (List Input) × Int × Int)) (s1704:List (List Input) × Int)=>
 Let (↑(List.length r1701.fst):Int) fun x1705=>
 Let (decide (s1704.snd<x1705)) fun x1706=>
 if x1706=true then
 Join
 (fun (v1707:List (List Input))=>
 Let (IntKind.i64.wrap (s1704.snd+(1:Int))) fun x1708=>rec1703 (v1707,x1708))
 fun (j1709:List (List Input)→Option (List (List Input) × Int × Int))=>
 Chk ((0:Int)≤s1704.snd∧s1704.snd<(↑(List.length r1701.fst):Int))
 (Let (ix r1701.fst s1704.snd) fun x1710=>
 Let (x1710==#[(102:UInt8),(114:UInt8),(97:UInt8),(109:UInt8),(101:UInt8)].toList) fun x1711=>
 if x1711=true then
 Chk ((List.length s1704.fst+(1:Nat))*(24:Nat)≤(140737488355328:Nat))
 (Let (s1704.fst++[[]]) fun x1712=>j1709 x1712)
 else
 Chk ((0:Int)≤s1704.snd∧s1704.snd<(↑(List.length r1701.fst):Int))
 (Let (ix r1701.fst s1704.snd) fun x1713=>
 Rx.Bind (caromref08_Fields x1713) fun r1714=>
 Rx.Bind (caromref47_parseInput r1714.fst) fun r1715=>
 Let (r1714.snd != (0:Int)) fun x1716=>
 Let (!r1715.snd) fun x1717=>
 Let (bif x1716 then true else x1717) fun x1718=>
 Let (↑(List.length s1704.fst):Int) fun x1719=>
 Let (x1719==(0:Int)) fun x1720=>
 Let (bif x1718 then true else x1720) fun x1721=>
 if x1721=true then Let (IntKind.i64.wrap (s1704.snd+(1:Int))) fun x1722=>some ([],x1722,(27:Int))
 else
 Let (↑(List.length s1704.fst):Int) fun x1723=>
 Let (IntKind.i64.wrap (x1723 - (1:Int))) fun x1724=>
 Chk ((0:Int)≤x1724∧x1724<(↑(List.length s1704.fst):Int))
 (Chk ((0:Int)≤x1724∧x1724<(↑(List.length s1704.fst):Int))
 (Let (ix s1704.fst x1724) fun x1725=>
 Chk (x1725.length*(384:Nat)≤(140737488355328:Nat))
 (Chk ((x1725.length+[r1715.fst].length)*(384:Nat)≤(140737488355328:Nat))
 (Let (x1725++[r1715.fst]) fun x1726=>
 Let (↑(List.length s1704.fst):Int) fun x1727=>
 Let (IntKind.i64.wrap (x1727 - (1:Int))) fun x1728=>
 Chk ((0:Int)≤x1728∧x1728<(↑(List.length s1704.fst):Int))
 (Chk ((0:Int)≤x1728∧x1728<(↑(List.length s1704.fst):Int))
 (Let (List.set s1704.fst x1728.toNat x1726) fun x1729=>j1709 x1729))))))))
 else
 Rx.Bind (caromref47_Validate s1704.fst) fun r1730=>
 Let (r1730 != (0:Int)) fun x1731=>
 if x1731=true then some ([],(0:Int),(25:Int)) else some (s1704.fst,(0:Int),(0:Int)))
 fuel ([],(0:Int))
noncomputable def caromlaw47_RecordingText (r0:(List (List Input))) (s1:(List UInt8)):Option Bool:=
 Rx.Bind (caromref47_Small r0) fun r1732=>
 Let (!r1732) fun x1733=>
 Let (↑s1.length:Int) fun x1734=>
 Let (decide (x1734>(2000:Int))) fun x1735=>
 Let (bif x1733 then true else x1735) fun x1736=>
 if x1736=true then Rx.Bind caromlaw47_example fun r1737=>some r1737
 else
 Rx.Bind (recording_Format r0) fun r1738=>
 Rx.Bind (caromref47_Format r0) fun r1739=>
 Rx.Bind (recording_Parse s1) fun r1740=>
 Rx.Bind (caromref47_Parse s1) fun r1741=>
 Let (r1738.fst==r1739.fst) fun x1742=>
 Let (r1738.snd==r1739.snd) fun x1743=>
 Let (bif x1742 then x1743 else false) fun x1744=>
 Rx.Bind (if (x1744==true)=true then caromref47_Equal r1740.fst r1741.fst else some default) fun r1745=>
 Let (bif x1744 then r1745 else false) fun x1746=>
 Let (r1740.snd.fst==r1741.snd.fst) fun x1747=>
 Let (bif x1746 then x1747 else false) fun x1748=>
 Let (r1740.snd.snd==r1741.snd.snd) fun x1749=>
 Let (bif x1748 then x1749 else false) fun x1750=>
 Rx.Bind (if (x1750==true)=true then caromlaw47_example else some default) fun r1751=>
 Let (bif x1750 then r1751 else false) fun x1752=>some x1752
end GoForm
