/- The functions' plain forms. Printed by go3.py. No conditions. -/
import Derived.Test.YtffgldbihpgjgaaGreatDoorF47T
import Derived.Test.YtffgldbihpgjgaaGreatDoorF47E
set_option linter.all false
set_option maxRecDepth 100000
open Go Go.Rx Go.Proofs Go.RowKit
namespace GoForm
noncomputable def yX (inputs0:(List Input)):Option Bool:=
 qw
 (fun (rec1:Int->Option Bool) (s2:Int)=>
 Let (↑inputs0.length:Int) fun x3=>
 Let (decide (s2<x3)) fun x4=>
 Let (decide (s2<(40:Int))) fun x5=>
 Let (bif x4 then x5 else false) fun x6=>
 if x6=true then
 Chk ((0:Int)<=s2/\s2<(↑inputs0.length:Int))
 (Let (ix inputs0 s2) fun x7=>
 qw
 (fun (rec8:Int->Option Bool) (s9:Int)=>
 Let (↑x7.Body.jk.length:Int) fun x10=>
 Let (decide (s9<x10)) fun x11=>
 Let (decide (s9<(6:Int))) fun x12=>
 Let (bif x11 then x12 else false) fun x13=>
 if x13=true then
 Chk ((0:Int)<=s9/\s9<(↑x7.Body.jk.length:Int))
 (Let (ix x7.Body.jk s9) fun x14=>
 Let (↑x14.Shape.jS.length:Int) fun x15=>
 Let (decide (x15>(12:Int))) fun x16=>
 if x16=true then some false else Let (IntKind.i64.wrap (s9+(1:Int))) fun x17=>rec8 x17)
 else
 Let (↑x7.Body.jk.length:Int) fun x18=>
 Let (decide (x18>(6:Int))) fun x19=>
 if x19=true then some false else Let (IntKind.i64.wrap (s2+(1:Int))) fun x20=>rec1 x20)
 fuel (0:Int))
 else Let (↑inputs0.length:Int) fun x21=>Let (decide (x21<=(40:Int))) fun x22=>some x22)
 fuel (0:Int)
noncomputable def YJ (r0:(List (List Input))):Option Bool:=
 qw
 (fun (rec23:Int × Int->Option Bool) (s24:Int × Int)=>
 Let (↑r0.length:Int) fun x25=>
 Let (decide (s24.snd<x25)) fun x26=>
 Let (decide (s24.snd<(5000:Int))) fun x27=>
 Let (bif x26 then x27 else false) fun x28=>
 if x28=true then
 Chk ((0:Int)<=s24.snd/\s24.snd<(↑r0.length:Int))
 (Let (ix r0 s24.snd) fun x29=>
 Let (↑x29.length:Int) fun x30=>
 Let (IntKind.i64.wrap (s24.fst+x30)) fun x31=>
 Let (decide (x31>(100:Int))) fun x32=>
 Chk ((x32==false)=true->(0:Int)<=s24.snd/\s24.snd<(↑r0.length:Int))
 (Let (ix r0 s24.snd) fun x33=>
 Rx.Bind (if (x32==false)=true then yX x33 else some default) fun r34=>
 Let (!r34) fun x35=>
 Let (bif x32 then true else x35) fun x36=>
 if x36=true then some false else Let (IntKind.i64.wrap (s24.snd+(1:Int))) fun x37=>rec23 (x31,x37)))
 else Let (↑r0.length:Int) fun x38=>Let (decide (x38<=(5000:Int))) fun x39=>some x39)
 fuel ((0:Int),(0:Int))
noncomputable def zT  : Option Input:=
 some
 {Kind:=(1:Int),ID:=(3:Int),Vec:={X:=(65536:Int),Y:=(0:Int):Vec},Value:=(0:Int),Body:={ID:=(0:Int),Kind:=(0:Int),Transform:={Position:={X:=(0:Int),Y:=(0:Int):Vec},qy:=(0:Int):Transform},jZ:={X:=(0:Int),Y:=(0:Int):Vec},jC:=(0:Int),YA:={X:=(0:Int),Y:=(0:Int):Vec},Yl:=(0:Int),jN:=(0:Int),jI:=(0:Int),jR:=(0:Int),YO:=false,jQ:=false,yE:=false,YP:=false,Jt:=(0:Int),jk:=[]:Body},jn:={ID:=(0:Int),Kind:=(0:Int),QS:=(0:Int),QR:=(0:Int),JS:={X:=(0:Int),Y:=(0:Int):Vec},JR:={X:=(0:Int),Y:=(0:Int):Vec},KO:={X:=(0:Int),Y:=(0:Int):Vec},jM:=(0:Int),Jf:=false,QP:=(0:Int),QN:=(0:Int),Je:=false,Jl:=(0:Int),JQ:=(0:Int),JP:=(0:Int),Jm:=(0:Int),jH:=false,jx:=((0:Int),(0:Int),(0:Int),(0:Int)):jn}:Input}
noncomputable def jT (k0:Int):Option (Bool × Bool × Bool):=
 Join
 (fun (v40:Bool)=>
 if v40=true then some (true,true,false)
 else
 Join
 (fun (v41:Bool)=>
 if v41=true then some (true,false,true)
 else
 Join
 (fun (v42:Bool)=>
 if v42=true then some (true,true,true)
 else
 Join (fun (v43:Bool)=>if v43=true then some (true,false,false) else some (false,false,false))
 fun (j44:Bool->Option (Bool × Bool × Bool))=>
 Let (k0==(6:Int)) fun x45=>
 if x45=true then j44 x45
 else
 Let (k0==(10:Int)) fun x46=>
 if x46=true then j44 x46 else Let (k0==(12:Int)) fun x47=>j44 x47)
 fun (j48:Bool->Option (Bool × Bool × Bool))=>
 Let (k0==(4:Int)) fun x49=>
 if x49=true then j48 x49 else Let (k0==(5:Int)) fun x50=>j48 x50)
 fun (j51:Bool->Option (Bool × Bool × Bool))=>
 Let (k0==(3:Int)) fun x52=>
 if x52=true then j51 x52 else Let (k0==(8:Int)) fun x53=>j51 x53)
 fun (j54:Bool->Option (Bool × Bool × Bool))=>
 Let (k0==(1:Int)) fun x55=>
 if x55=true then j54 x55
 else
 Let (k0==(2:Int)) fun x56=>
 if x56=true then j54 x56 else Let (k0==(7:Int)) fun x57=>j54 x57
noncomputable def yP (n0:Int):Option Bool:=
 Let (decide (n0>=(-536870911:Int))) fun x58=>
 Let (decide (n0<=(536870911:Int))) fun x59=>Let (bif x58 then x59 else false) fun x60=>some x60
noncomputable def zN (s10:(List Vec)) (s21:(List Vec)):Option Bool:=
 Let (↑s10.length:Int) fun x61=>
 Let (↑s21.length:Int) fun x62=>
 Let (x61 != x62) fun x63=>
 if x63=true then some false
 else
 Let (↑s10.length:Int) fun x64=>
 qw
 (fun (rec65:Int->Option Bool) (s66:Int)=>
 Let (decide (s66<x64)) fun x67=>
 if x67=true then
 Chk ((0:Int)<=s66/\s66<(↑s10.length:Int))
 (Let (ix s10 s66) fun x68=>
 Chk ((0:Int)<=s66/\s66<(↑s21.length:Int))
 (Let (ix s21 s66) fun x69=>
 Let (!(decide (x68.X=x69.X)&&decide (x68.Y=x69.Y))) fun x70=>
 if x70=true then some false else Let (IntKind.i64.wrap (s66+(1:Int))) fun x71=>rec65 x71))
 else some true)
 fuel (0:Int)
noncomputable def ZA (a0:Shape) (b1:Shape):Option Bool:=
 Let (a0.Kind==b1.Kind) fun x72=>
 Let (a0.qM==b1.qM) fun x73=>
 Let (bif x72 then x73 else false) fun x74=>
 Rx.Bind (if (x74==true)=true then zN a0.jS b1.jS else some default) fun r75=>
 Let (bif x74 then r75 else false) fun x76=>some x76
noncomputable def YV (a0:Jy) (b1:Jy):Option Bool:=
 Let (a0.yy==b1.yy) fun x77=>
 Let (a0.JL==b1.JL) fun x78=>
 Let (bif x77 then x78 else false) fun x79=>
 Let (a0.jX==b1.jX) fun x80=>
 Let (bif x79 then x80 else false) fun x81=>
 Let (a0.YX==b1.YX) fun x82=>
 Let (a0.Category==b1.Category) fun x83=>
 Let (bif x82 then x83 else false) fun x84=>
 Let (a0.Mask==b1.Mask) fun x85=>
 Let (bif x84 then x85 else false) fun x86=>
 Let (a0.QH==b1.QH) fun x87=>
 Let (bif x86 then x87 else false) fun x88=>
 Rx.Bind (ZA a0.Shape b1.Shape) fun r89=>
 Let (bif r89 then x81 else false) fun x90=>Let (bif x90 then x88 else false) fun x91=>some x91
noncomputable def Qr (a0:Body) (b1:Body):Option Bool:=
 Let (↑a0.jk.length:Int) fun x92=>
 Let (↑b1.jk.length:Int) fun x93=>
 Let (x92 != x93) fun x94=>
 if x94=true then some false
 else
 Let (↑a0.jk.length:Int) fun x95=>
 qw
 (fun (rec96:Int->Option Bool) (s97:Int)=>
 Let (decide (s97<x95)) fun x98=>
 if x98=true then
 Chk ((0:Int)<=s97/\s97<(↑a0.jk.length:Int))
 (Let (ix a0.jk s97) fun x99=>
 Chk ((0:Int)<=s97/\s97<(↑b1.jk.length:Int))
 (Let (ix b1.jk s97) fun x100=>
 Rx.Bind (YV x99 x100) fun r101=>
 Let (!r101) fun x102=>
 if x102=true then some false else Let (IntKind.i64.wrap (s97+(1:Int))) fun x103=>rec96 x103))
 else
 Let (a0.ID==b1.ID) fun x104=>
 Let (a0.Kind==b1.Kind) fun x105=>
 Let (bif x104 then x105 else false) fun x106=>
 Let
 (decide (a0.Transform.Position.X=b1.Transform.Position.X)&&
 decide (a0.Transform.Position.Y=b1.Transform.Position.Y)&&
 decide (a0.Transform.qy=b1.Transform.qy))
 fun x107=>
 Let (bif x106 then x107 else false) fun x108=>
 Let (decide (a0.jZ.X=b1.jZ.X)&&decide (a0.jZ.Y=b1.jZ.Y)) fun x109=>
 Let (a0.jC==b1.jC) fun x110=>
 Let (bif x109 then x110 else false) fun x111=>
 Let (decide (a0.YA.X=b1.YA.X)&&decide (a0.YA.Y=b1.YA.Y)) fun x112=>
 Let (a0.Yl==b1.Yl) fun x113=>
 Let (bif x112 then x113 else false) fun x114=>
 Let (a0.jN==b1.jN) fun x115=>
 Let (a0.jI==b1.jI) fun x116=>
 Let (bif x115 then x116 else false) fun x117=>
 Let (a0.jR==b1.jR) fun x118=>
 Let (bif x117 then x118 else false) fun x119=>
 Let (a0.YO==b1.YO) fun x120=>
 Let (a0.jQ==b1.jQ) fun x121=>
 Let (bif x120 then x121 else false) fun x122=>
 Let (a0.yE==b1.yE) fun x123=>
 Let (bif x122 then x123 else false) fun x124=>
 Let (a0.YP==b1.YP) fun x125=>
 Let (a0.Jt==b1.Jt) fun x126=>
 Let (bif x125 then x126 else false) fun x127=>
 Let (bif x108 then x111 else false) fun x128=>
 Let (bif x128 then x114 else false) fun x129=>
 Let (bif x129 then x119 else false) fun x130=>
 Let (bif x130 then x124 else false) fun x131=>
 Let (bif x131 then x127 else false) fun x132=>some x132)
 fuel (0:Int)
noncomputable def yK (x0:Input):Option Int:=
 Let (decide (x0.Kind<(1:Int))) fun x133=>
 Let (decide (x0.Kind>(12:Int))) fun x134=>
 Let (bif x133 then true else x134) fun x135=>
 if x135=true then some (10:Int)
 else
 Rx.Bind (jT x0.Kind) fun r136=>
 Join
 (fun (v137:Bool)=>
 if v137=true then some (6:Int)
 else
 Join (fun (v138:Bool)=>if v138=true then some (3:Int) else some (0:Int)) fun (j139:Bool->Option Int)=>
 Let (!r136.fst) fun x140=>
 Let (x0.ID != (0:Int)) fun x141=>
 Let (bif x140 then x141 else false) fun x142=>
 if x142=true then j139 x142
 else
 Let (!r136.snd.fst) fun x143=>
 Let (!(decide (x0.Vec.X=(0:Int))&&decide (x0.Vec.Y=(0:Int)))) fun x144=>
 Let (bif x143 then x144 else false) fun x145=>
 if x145=true then j139 x145
 else
 Let (!r136.snd.snd) fun x146=>
 Let (x0.Value != (0:Int)) fun x147=>
 Let (bif x146 then x147 else false) fun x148=>
 if x148=true then j139 x148
 else
 Let (x0.Kind != (9:Int)) fun x149=>
 Rx.Bind
 (if (x149==true)=true then
 Qr x0.Body
 {ID:=(0:Int),Kind:=(0:Int),Transform:={Position:={X:=(0:Int),Y:=(0:Int):Vec},qy:=(0:Int):Transform},jZ:={X:=(0:Int),Y:=(0:Int):Vec},jC:=(0:Int),YA:={X:=(0:Int),Y:=(0:Int):Vec},Yl:=(0:Int),jN:=(0:Int),jI:=(0:Int),jR:=(0:Int),YO:=false,jQ:=false,yE:=false,YP:=false,Jt:=(0:Int),jk:=[]:Body}
 else some default)
 fun r150=>
 Let (!r150) fun x151=>
 Let (bif x149 then x151 else false) fun x152=>
 if x152=true then j139 x152
 else
 Let (x0.Kind != (11:Int)) fun x153=>
 Let
 (!(decide (x0.jn.ID=(0:Int))&&
 (decide (x0.jn.Kind=(0:Int))&&
 (decide (x0.jn.QS=(0:Int))&&
 (decide (x0.jn.QR=(0:Int))&&
 (decide (x0.jn.JS.X=(0:Int))&&decide (x0.jn.JS.Y=(0:Int))&&
 (decide (x0.jn.JR.X=(0:Int))&&decide (x0.jn.JR.Y=(0:Int))&&
 (decide (x0.jn.KO.X=(0:Int))&&decide (x0.jn.KO.Y=(0:Int))&&
 (decide (x0.jn.jM=(0:Int))&&
 (decide (x0.jn.Jf=false)&&
 (decide (x0.jn.QP=(0:Int))&&
 (decide (x0.jn.QN=(0:Int))&&
 (decide (x0.jn.Je=false)&&
 (decide (x0.jn.Jl=(0:Int))&&
 (decide (x0.jn.JQ=(0:Int))&&
 (decide (x0.jn.JP=(0:Int))&&
 (decide (x0.jn.Jm=(0:Int))&&
 (decide (x0.jn.jH=false)&&
 (decide (x0.jn.jx.fst=(0:Int))&&
 (decide (x0.jn.jx.snd.fst=(0:Int))&&
 (decide (x0.jn.jx.snd.snd.fst=(0:Int))&&
 decide (x0.jn.jx.snd.snd.snd=(0:Int)))))))))))))))))))))))
 fun x154=>Let (bif x153 then x154 else false) fun x155=>j139 x155)
 fun (j156:Bool->Option Int)=>
 Let (decide (x0.ID<(1:Int))) fun x157=>
 Let (decide (x0.ID>(1099511627776:Int))) fun x158=>
 Let (bif x157 then true else x158) fun x159=>
 Let (bif r136.fst then x159 else false) fun x160=>
 if x160=true then j156 x160
 else
 Rx.Bind (if (r136.snd.fst==true)=true then yP x0.Vec.X else some default) fun r161=>
 Let (!r161) fun x162=>
 Rx.Bind (if (r136.snd.fst==true&&x162==false)=true then yP x0.Vec.Y else some default)
 fun r163=>
 Let (!r163) fun x164=>
 Let (bif x162 then true else x164) fun x165=>
 Let (bif r136.snd.fst then x165 else false) fun x166=>
 if x166=true then j156 x166
 else
 Rx.Bind (if (r136.snd.snd==true)=true then yP x0.Value else some default) fun r167=>
 Let (!r167) fun x168=>Let (bif r136.snd.snd then x168 else false) fun x169=>j156 x169
noncomputable def Ju (inputs0:(List Input)):Option Bool:=
 Let (↑inputs0.length:Int) fun x170=>
 qw
 (fun (rec171:Int->Option Bool) (s172:Int)=>
 Let (decide (s172<x170)) fun x173=>
 if x173=true then
 Chk ((0:Int)<=s172/\s172<(↑inputs0.length:Int))
 (Let (ix inputs0 s172) fun x174=>
 Rx.Bind (yK x174) fun r175=>
 Let (r175 != (0:Int)) fun x176=>
 if x176=true then some false else Let (IntKind.i64.wrap (s172+(1:Int))) fun x177=>rec171 x177)
 else some true)
 fuel (0:Int)
noncomputable def jy (r0:(List (List Input))):Option Int:=
 Let (↑r0.length:Int) fun x178=>
 Let (decide (x178>(4096:Int))) fun x179=>
 if x179=true then some (11:Int)
 else
 Let (↑r0.length:Int) fun x180=>
 qw
 (fun (rec181:Int->Option Int) (s182:Int)=>
 Let (decide (s182<x180)) fun x183=>
 if x183=true then
 Chk ((0:Int)<=s182/\s182<(↑r0.length:Int))
 (Let (ix r0 s182) fun x184=>
 Let (↑x184.length:Int) fun x185=>
 Let (decide (x185>(32:Int))) fun x186=>
 if x186=true then some (11:Int) else Let (IntKind.i64.wrap (s182+(1:Int))) fun x187=>rec181 x187)
 else
 Let (↑r0.length:Int) fun x188=>
 qw
 (fun (rec189:Int->Option Int) (s190:Int)=>
 Let (decide (s190<x188)) fun x191=>
 if x191=true then
 Chk ((0:Int)<=s190/\s190<(↑r0.length:Int))
 (Let (ix r0 s190) fun x192=>
 Rx.Bind (Ju x192) fun r193=>
 Let (!r193) fun x194=>
 if x194=true then some (20:Int) else Let (IntKind.i64.wrap (s190+(1:Int))) fun x195=>rec189 x195)
 else some (0:Int))
 fuel (0:Int))
 fuel (0:Int)
noncomputable def VB (s0:(List Vec)):Option (List Vec):=
 Rx.Alike (s0=[]) (some []) (Chk (s0.length*(16:Nat)<=(140737488355328:Nat)) (some s0))
noncomputable def wI (s0:Shape):Option Shape:=
 Rx.Bind (VB s0.jS) fun r196=>
 some {Kind:=s0.Kind,qM:=s0.qM,jS:=r196:Shape}
noncomputable def uA (b0:Body):Option Body:=
 Let (↑b0.jk.length:Int) fun x197=>
 qw
 (fun (rec198:List Jy × Int->Option Body) (s199:List Jy × Int)=>
 Let (decide (s199.snd<x197)) fun x200=>
 if x200=true then
 Chk ((0:Int)<=s199.snd/\s199.snd<(↑b0.jk.length:Int))
 (Let (ix b0.jk s199.snd) fun x201=>
 Rx.Bind (wI x201.Shape) fun r202=>
 Chk
 ((List.length s199.fst+
 [{Shape:=r202,yy:=x201.yy,JL:=x201.JL,jX:=x201.jX,YX:=x201.YX,Category:=x201.Category,Mask:=x201.Mask,QH:=x201.QH:Jy}].length)*
 (96:Nat)<=
 (140737488355328:Nat))
 (Let
 (s199.fst++
 [{Shape:=r202,yy:=x201.yy,JL:=x201.JL,jX:=x201.jX,YX:=x201.YX,Category:=x201.Category,Mask:=x201.Mask,QH:=x201.QH:Jy}])
 fun x203=>Let (IntKind.i64.wrap (s199.snd+(1:Int))) fun x204=>rec198 (x203,x204)))
 else
 some
 {ID:=b0.ID,Kind:=b0.Kind,Transform:=b0.Transform,jZ:=b0.jZ,jC:=b0.jC,YA:=b0.YA,Yl:=b0.Yl,jN:=b0.jN,jI:=b0.jI,jR:=b0.jR,YO:=b0.YO,jQ:=b0.jQ,yE:=b0.yE,YP:=b0.YP,Jt:=b0.Jt,jk:=s199.fst:Body})
 fuel ([],(0:Int))
noncomputable def yT (x0:Input):Option Input:=
 Rx.Bind (uA x0.Body) fun r205=>
 some {Kind:=x0.Kind,ID:=x0.ID,Vec:=x0.Vec,Value:=x0.Value,Body:=r205,jn:=x0.jn:Input}
noncomputable def qf (inputs0:(List Input)):Option (List Input):=
 Let (↑inputs0.length:Int) fun x206=>
 qw
 (fun (rec207:List Input × Int->Option (List Input)) (s208:List Input × Int)=>
 Let (decide (s208.snd<x206)) fun x209=>
 if x209=true then
 Chk ((0:Int)<=s208.snd/\s208.snd<(↑inputs0.length:Int))
 (Let (ix inputs0 s208.snd) fun x210=>
 Rx.Bind (yT x210) fun r211=>
 Chk ((List.length s208.fst+[r211].length)*(384:Nat)<=(140737488355328:Nat))
 (Let (s208.fst++[r211]) fun x212=>
 Let (IntKind.i64.wrap (s208.snd+(1:Int))) fun x213=>rec207 (x212,x213)))
 else some s208.fst)
 fuel ([],(0:Int))
noncomputable def yg (r0:(List (List Input))) (frame1:Int):Option (List Input):=
 Let (decide (frame1<(0:Int))) fun x214=>
 Let (↑r0.length:Int) fun x215=>
 Let (decide (frame1>=x215)) fun x216=>
 Let (bif x214 then true else x216) fun x217=>
 if x217=true then some []
 else
 Chk ((0:Int)<=frame1/\frame1<(↑r0.length:Int))
 (Let (ix r0 frame1) fun x218=>
 Rx.Bind (qf x218) fun r219=>some r219)
noncomputable def ko (r0:(List (List Input))):Option (List (List Input)):=
 Let (↑r0.length:Int) fun x220=>
 qw
 (fun (rec221:List (List Input) × Int->Option (List (List Input))) (s222:List (List Input) × Int)=>
 Let (decide (s222.snd<x220)) fun x223=>
 if x223=true then
 Chk ((0:Int)<=s222.snd/\s222.snd<(↑r0.length:Int))
 (Let (ix r0 s222.snd) fun x224=>
 Rx.Bind (qf x224) fun r225=>
 Chk ((List.length s222.fst+[r225].length)*(24:Nat)<=(140737488355328:Nat))
 (Let (s222.fst++[r225]) fun x226=>
 Let (IntKind.i64.wrap (s222.snd+(1:Int))) fun x227=>rec221 (x226,x227)))
 else some s222.fst)
 fuel ([],(0:Int))
noncomputable def QJ (r0:(List (List Input))) (frame1:Int) (inputs2:(List Input)):Option ((List (List Input)) × Int):=
 vX jy Ju yg yT r0 frame1 inputs2
noncomputable def jm (k0:Int):Option (List UInt8):=
 Let (k0==(1:Int)) fun x228=>
 if x228=true then
 some #[(105:UInt8),(109:UInt8),(112:UInt8),(117:UInt8),(108:UInt8),(115:UInt8),(101:UInt8)].toList
 else
 Let (k0==(2:Int)) fun x229=>
 if x229=true then some #[(102:UInt8),(111:UInt8),(114:UInt8),(99:UInt8),(101:UInt8)].toList
 else
 Let (k0==(3:Int)) fun x230=>
 if x230=true then
 some
 #[(97:UInt8),(110:UInt8),(103:UInt8),(117:UInt8),(108:UInt8),(97:UInt8),(114:UInt8),(45:UInt8),
 (105:UInt8),(109:UInt8),(112:UInt8),(117:UInt8),(108:UInt8),(115:UInt8),(101:UInt8)].toList
 else
 Let (k0==(4:Int)) fun x231=>
 if x231=true then
 some
 #[(116:UInt8),(114:UInt8),(97:UInt8),(110:UInt8),(115:UInt8),(102:UInt8),(111:UInt8),(114:UInt8),
 (109:UInt8)].toList
 else
 Let (k0==(5:Int)) fun x232=>
 if x232=true then
 some
 #[(118:UInt8),(101:UInt8),(108:UInt8),(111:UInt8),(99:UInt8),(105:UInt8),(116:UInt8),
 (121:UInt8)].toList
 else
 Let (k0==(6:Int)) fun x233=>
 if x233=true then some #[(119:UInt8),(97:UInt8),(107:UInt8),(101:UInt8)].toList
 else
 Let (k0==(7:Int)) fun x234=>
 if x234=true then
 some #[(116:UInt8),(97:UInt8),(114:UInt8),(103:UInt8),(101:UInt8),(116:UInt8)].toList
 else
 Let (k0==(8:Int)) fun x235=>
 if x235=true then
 some
 #[(109:UInt8),(111:UInt8),(116:UInt8),(111:UInt8),(114:UInt8),(45:UInt8),(115:UInt8),(112:UInt8),
 (101:UInt8),(101:UInt8),(100:UInt8)].toList
 else
 Let (k0==(10:Int)) fun x236=>
 if x236=true then
 some
 #[(114:UInt8),(101:UInt8),(109:UInt8),(111:UInt8),(118:UInt8),(101:UInt8),(45:UInt8),(98:UInt8),
 (111:UInt8),(100:UInt8),(121:UInt8)].toList
 else
 Let (k0==(12:Int)) fun x237=>
 if x237=true then
 some
 #[(114:UInt8),(101:UInt8),(109:UInt8),(111:UInt8),(118:UInt8),(101:UInt8),(45:UInt8),(106:UInt8),
 (111:UInt8),(105:UInt8),(110:UInt8),(116:UInt8)].toList
 else some #[].toList
noncomputable def yZ (n0:Int):Option (List UInt8):=
 Let (IntKind.u64.wrap n0) fun x238=>
 Join
 (fun (v239:Int)=>
 qw
 (fun (rec240:Int × Int × List UInt8->Option (List UInt8)) (s241:Int × Int × List UInt8)=>
 Let (IntKind.i64.wrap (s241.snd.fst - (1:Int))) fun x242=>
 Let (Int.tmod s241.fst (10:Int)) fun x243=>
 Let (IntKind.u64.wrap ((48:Int)+x243)) fun x244=>
 Let (toByte x244) fun x245=>
 Chk ((0:Int)<=x242/\x242<(↑(20:Nat):Int))
 (Chk ((0:Int)<=x242/\x242<(↑(List.length s241.snd.snd):Int))
 (Let (List.set s241.snd.snd x242.toNat x245) fun x246=>
 Let (IntKind.u64.wrap (Int.tdiv s241.fst (10:Int))) fun x247=>
 Let (x247==(0:Int)) fun x248=>
 if x248=true then
 Join
 (fun (v249:Int × List UInt8)=>
 Chk
 ((0:Int)<=(some v249.fst).getD (0:Int)/\
 (0:Int)<=none.getD (0:Int)/\
 Int.toNat v249.fst<=(20:Nat)/\(20:Nat)<=(20:Nat)/\(20:Nat)<=List.length v249.snd)
 (Chk (Int.toNat v249.fst+((20:Nat) - Int.toNat v249.fst)<=List.length v249.snd)
 (some (List.take ((20:Nat) - Int.toNat v249.fst) (List.drop (Int.toNat v249.fst) v249.snd)))))
 fun (j250:Int × List UInt8->Option (List UInt8))=>
 Let (decide (n0<(0:Int))) fun x251=>
 if x251=true then
 Let (IntKind.i64.wrap (x242 - (1:Int))) fun x252=>
 Chk ((0:Int)<=x252/\x252<(↑(20:Nat):Int))
 (Chk ((0:Int)<=x252/\x252<(↑x246.length:Int))
 (Let (x246.set x252.toNat (toByte (45:Int))) fun x253=>j250 (x252,x253)))
 else j250 (x242,x246)
 else rec240 (x247,x242,x246))))
 fuel
 (v239,(20:Int),
 [toByte (0:Int),toByte (0:Int),toByte (0:Int),toByte (0:Int),toByte (0:Int),toByte (0:Int),
 toByte (0:Int),toByte (0:Int),toByte (0:Int),toByte (0:Int),toByte (0:Int),toByte (0:Int),
 toByte (0:Int),toByte (0:Int),toByte (0:Int),toByte (0:Int),toByte (0:Int),toByte (0:Int),
 toByte (0:Int),toByte (0:Int)]))
 fun (j254:Int->Option (List UInt8))=>
 Let (decide (n0<(0:Int))) fun x255=>
 if x255=true then Let (IntKind.u64.wrap ((0:Int) - x238)) fun x256=>j254 x256 else j254 x238
noncomputable def yz (x0:Int):Option (List UInt8):=
 Let (x0 != (0:Int)) fun x257=>
 Let (x0.tmod (65536:Int)) fun x258=>
 Let (x258==(0:Int)) fun x259=>
 Let (bif x257 then x259 else false) fun x260=>
 if x260=true then
 Let (IntKind.i64.wrap (x0.tdiv (65536:Int))) fun x261=>
 Rx.Bind (yZ x261) fun r262=>
 Chk (r262.length+(1:Nat)<=(9223372036854775807:Nat))
 (Let (r262++#[(117:UInt8)].toList) fun x263=>some x263)
 else Rx.Bind (yZ x0) fun r264=>some r264
noncomputable def strings_Join (elems0:(List (List UInt8))) (sep1:(List UInt8)):Option (List UInt8):=
 jfX elems0 sep1
noncomputable def Yw (fields0:(List (List UInt8))):Option (List UInt8):=
 Rx.Bind (strings_Join fields0 #[(32:UInt8)].toList) fun r265=>some r265
noncomputable def Yf (x0:Input):Option (List UInt8):=
 Rx.Bind (jm x0.Kind) fun r266=>
 Rx.Bind (yZ x0.ID) fun r267=>
 Rx.Bind (jT x0.Kind) fun r268=>
 Join
 (fun (v269:List (List UInt8))=>
 Join (fun (v270:List (List UInt8))=>Rx.Bind (Yw v270) fun r271=>some r271)
 fun (j272:List (List UInt8)->Option (List UInt8))=>
 if r268.snd.snd=true then
 Rx.Bind (yz x0.Value) fun r273=>
 Chk ((v269.length+[r273].length)*(16:Nat)<=(140737488355328:Nat))
 (Let (v269++[r273]) fun x274=>j272 x274)
 else j272 v269)
 fun (j275:List (List UInt8)->Option (List UInt8))=>
 if r268.snd.fst=true then
 Rx.Bind (yz x0.Vec.X) fun r276=>
 Rx.Bind (yz x0.Vec.Y) fun r277=>
 Chk (([r266,r267].length+[r276,r277].length)*(16:Nat)<=(140737488355328:Nat))
 (Let ([r266,r267]++[r276,r277]) fun x278=>j275 x278)
 else j275 [r266,r267]
noncomputable def yA (r0:(List (List Input))):Option ((List UInt8) × Int):=
 Rx.Bind (jy r0) fun r279=>
 Let (r279 != (0:Int)) fun x280=>
 if x280=true then some (#[].toList,(25:Int))
 else
 Let (↑r0.length:Int) fun x281=>
 qw
 (fun (rec282:List UInt8 × Int->Option (List UInt8 × Int)) (s283:List UInt8 × Int)=>
 Let (decide (s283.snd<x281)) fun x284=>
 if x284=true then
 Chk ((0:Int)<=s283.snd/\s283.snd<(↑r0.length:Int))
 (Let (ix r0 s283.snd) fun x285=>
 Chk (List.length s283.fst+(6:Nat)<=(9223372036854775807:Nat))
 (Let (s283.fst++#[(102:UInt8),(114:UInt8),(97:UInt8),(109:UInt8),(101:UInt8),(10:UInt8)].toList)
 fun x286=>
 Let (↑x285.length:Int) fun x287=>
 qw
 (fun (rec288:List UInt8 × Int->Option (List UInt8 × Int)) (s289:List UInt8 × Int)=>
 Let (decide (s289.snd<x287)) fun x290=>
 if x290=true then
 Chk ((0:Int)<=s289.snd/\s289.snd<(↑x285.length:Int))
 (Let (ix x285 s289.snd) fun x291=>
 Rx.Bind (jm x291.Kind) fun r292=>
 Let (r292==#[].toList) fun x293=>
 if x293=true then some (#[].toList,(25:Int))
 else
 Rx.Bind (Yf x291) fun r294=>
 Chk (r294.length+(1:Nat)<=(9223372036854775807:Nat))
 (Let (r294++#[(10:UInt8)].toList) fun x295=>
 Chk (List.length s289.fst+x295.length<=(9223372036854775807:Nat))
 (Let (s289.fst++x295) fun x296=>
 Let (IntKind.i64.wrap (s289.snd+(1:Int))) fun x297=>rec288 (x296,x297))))
 else Let (IntKind.i64.wrap (s283.snd+(1:Int))) fun x298=>rec282 (s289.fst,x298))
 fuel (x286,(0:Int))))
 else some (s283.fst,(0:Int)))
 fuel (#[].toList,(0:Int))
noncomputable def qa (s0:(List UInt8)) (suffix1:(List UInt8)):Option Bool:=
 Let (↑s0.length:Int) fun x299=>
 Let (↑suffix1.length:Int) fun x300=>
 Let (decide (x299>=x300)) fun x301=>
 Let (↑s0.length:Int) fun x302=>
 Let (↑suffix1.length:Int) fun x303=>
 Let (IntKind.i64.wrap (x302 - x303)) fun x304=>
 Chk ((x301==true)=true->(0:Int)<=x304/\x304<=(↑s0.length:Int))
 (Let (List.drop x304.toNat s0) fun x305=>
 Let (x305==suffix1) fun x306=>Let (bif x301 then x306 else false) fun x307=>some x307)
noncomputable def qb (s0:(List UInt8)) (suffix1:(List UInt8)):Option ((List UInt8) × Bool):=
 Rx.Bind (qa s0 suffix1) fun r308=>
 Let (!r308) fun x309=>
 if x309=true then some (s0,false)
 else
 Let (↑s0.length:Int) fun x310=>
 Let (↑suffix1.length:Int) fun x311=>
 Let (IntKind.i64.wrap (x310 - x311)) fun x312=>
 Chk ((0:Int)<=x312/\x312<=(↑s0.length:Int))
 (Let (List.take x312.toNat s0) fun x313=>some (x313,true))
noncomputable def Ys (s0:(List UInt8)) (suffix1:(List UInt8)):Option ((List UInt8) × Bool):=
 Rx.Bind (qb s0 suffix1) fun r314=>some r314
noncomputable def kh (s0:(List UInt8)) (n1:Int):Option (List (List UInt8)):=
 none
noncomputable def strings_Count (s0:(List UInt8)) (substr1:(List UInt8)):Option Int:=
 PQ s0 substr1
noncomputable def strings_Index (s0:(List UInt8)) (substr1:(List UInt8)):Option Int:=
 Ps s0 substr1
noncomputable def QI (s0:(List UInt8)) (sep1:(List UInt8)) (sepSave2:Int) (n3:Int):Option (List (List UInt8)):=
 Let (n3==(0:Int)) fun x315=>
 if x315=true then some []
 else
 Let (sep1==#[].toList) fun x316=>
 if x316=true then Rx.Bind (kh s0 n3) fun r317=>some r317
 else
 Join
 (fun (v318:Int)=>
 Let (↑s0.length:Int) fun x319=>
 Let (IntKind.i64.wrap (x319+(1:Int))) fun x320=>
 Let (min v318 x320) fun x321=>
 Chk
 ((0:Int)<=x321/\
 x321<=x321/\(↑(16:Nat):Int)*x321<=(281474976710656:Int)/\x321<=(9223372036854775807:Int))
 (Let (List.replicate x321.toNat #[].toList) fun x322=>
 Let (IntKind.i64.wrap (x321 - (1:Int))) fun x323=>
 Join
 (fun (v324:List UInt8 × Int × List (List UInt8))=>
 Chk ((0:Int)<=v324.snd.fst/\v324.snd.fst<(↑(List.length v324.snd.snd):Int))
 (Chk ((0:Int)<=v324.snd.fst/\v324.snd.fst<(↑(List.length v324.snd.snd):Int))
 (Let (List.set v324.snd.snd (Int.toNat v324.snd.fst) v324.fst) fun x325=>
 Let (IntKind.i64.wrap (v324.snd.fst+(1:Int))) fun x326=>
 Chk
 ((0:Int)<=none.getD (0:Int)/\
 (0:Int)<=(some x326).getD (0:Int)/\(0:Nat)<=x326.toNat/\x326.toNat<=x325.length)
 (Chk (x326.toNat - (0:Nat)<=x325.length)
 (Let (List.take (x326.toNat - (0:Nat)) x325) fun x327=>some x327)))))
 fun (j328:List UInt8 × Int × List (List UInt8)->Option (List (List UInt8)))=>
 qw
 (fun (rec329:List UInt8 × Int × List (List UInt8)->Option (List (List UInt8)))
 (s330:List UInt8 × Int × List (List UInt8))=>
 Let (decide (s330.snd.fst<x323)) fun x331=>
 if x331=true then
 Rx.Bind (strings_Index s330.fst sep1) fun r332=>
 Let (decide (r332<(0:Int))) fun x333=>
 if x333=true then j328 s330
 else
 Let (IntKind.i64.wrap (r332+sepSave2)) fun x334=>
 Chk ((0:Int)<=x334/\x334<=(↑(List.length s330.fst):Int))
 (Let (List.take x334.toNat s330.fst) fun x335=>
 Chk ((0:Int)<=s330.snd.fst/\s330.snd.fst<(↑(List.length s330.snd.snd):Int))
 (Chk ((0:Int)<=s330.snd.fst/\s330.snd.fst<(↑(List.length s330.snd.snd):Int))
 (Let (List.set s330.snd.snd (Int.toNat s330.snd.fst) x335) fun x336=>
 Let (↑sep1.length:Int) fun x337=>
 Let (IntKind.i64.wrap (r332+x337)) fun x338=>
 Chk ((0:Int)<=x338/\x338<=(↑(List.length s330.fst):Int))
 (Let (List.drop x338.toNat s330.fst) fun x339=>
 Let (IntKind.i64.wrap (s330.snd.fst+(1:Int))) fun x340=>rec329 (x339,x340,x336)))))
 else j328 s330)
 fuel (s0,(0:Int),x322)))
 fun (j341:Int->Option (List (List UInt8)))=>
 Let (decide (n3<(0:Int))) fun x342=>
 if x342=true then
 Rx.Bind (strings_Count s0 sep1) fun r343=>
 Let (IntKind.i64.wrap (r343+(1:Int))) fun x344=>j341 x344
 else j341 n3
noncomputable def qQ (s0:(List UInt8)) (sep1:(List UInt8)):Option (List (List UInt8)):=
 Rx.Bind (QI s0 sep1 (0:Int) (-1:Int)) fun r345=>some r345
noncomputable def JW (text0:(List UInt8)):Option ((List (List UInt8)) × Int):=
 Let (text0==#[].toList) fun x346=>
 if x346=true then some ([],(0:Int))
 else
 Rx.Bind (Ys text0 #[(10:UInt8)].toList) fun r347=>
 Let (!r347.snd) fun x348=>
 if x348=true then some ([],(3:Int))
 else Rx.Bind (qQ r347.fst #[(10:UInt8)].toList) fun r349=>some (r349,(0:Int))
noncomputable def Jv (line0:(List UInt8)):Option ((List (List UInt8)) × Int):=
 Let (line0==#[].toList) fun x350=>
 if x350=true then some ([],(0:Int))
 else
 Let (↑line0.length:Int) fun x351=>
 qw
 (fun (rec352:Int->Option (List (List UInt8) × Int)) (s353:Int)=>
 Let (decide (s353<x351)) fun x354=>
 if x354=true then
 Chk ((0:Int)<=s353/\s353<(↑line0.length:Int))
 (Let (ix line0 s353) fun x355=>
 Let (decide (x355<toByte (32:Int))) fun x356=>
 Let (decide (toByte (126:Int)<x355)) fun x357=>
 Let (bif x356 then true else x357) fun x358=>
 if x358=true then some ([],(3:Int)) else Let (IntKind.i64.wrap (s353+(1:Int))) fun x359=>rec352 x359)
 else
 Rx.Bind (qQ line0 #[(32:UInt8)].toList) fun r360=>
 Let (↑r360.length:Int) fun x361=>
 qw
 (fun (rec362:Int->Option (List (List UInt8) × Int)) (s363:Int)=>
 Let (decide (s363<x361)) fun x364=>
 if x364=true then
 Chk ((0:Int)<=s363/\s363<(↑r360.length:Int))
 (Let (ix r360 s363) fun x365=>
 Let (x365==#[].toList) fun x366=>
 if x366=true then some ([],(3:Int)) else Let (IntKind.i64.wrap (s363+(1:Int))) fun x367=>rec362 x367)
 else some (r360,(0:Int)))
 fuel (0:Int))
 fuel (0:Int)
noncomputable def Ye (s0:(List UInt8)) (prefix1:(List UInt8)):Option Bool:=
 Let (↑s0.length:Int) fun x368=>
 Let (↑prefix1.length:Int) fun x369=>
 Let (decide (x368>=x369)) fun x370=>
 Let (↑prefix1.length:Int) fun x371=>
 Chk ((x370==true)=true->(0:Int)<=x371/\x371<=(↑s0.length:Int))
 (Let (List.take x371.toNat s0) fun x372=>
 Let (x372==prefix1) fun x373=>Let (bif x370 then x373 else false) fun x374=>some x374)
noncomputable def qc (s0:(List UInt8)) (prefix1:(List UInt8)):Option ((List UInt8) × Bool):=
 Rx.Bind (Ye s0 prefix1) fun r375=>
 Let (!r375) fun x376=>
 if x376=true then some (s0,false)
 else
 Let (↑prefix1.length:Int) fun x377=>
 Chk ((0:Int)<=x377/\x377<=(↑s0.length:Int))
 (Let (List.drop x377.toNat s0) fun x378=>some (x378,true))
noncomputable def qm (s0:(List UInt8)) (prefix1:(List UInt8)):Option ((List UInt8) × Bool):=
 Rx.Bind (qc s0 prefix1) fun r379=>some r379
noncomputable def yU (s0:(List UInt8)):Option (jq × Bool):=
 Rx.Bind (qm s0 #[(45:UInt8)].toList) fun r380=>
 Let (r380.fst==#[].toList) fun x381=>
 Chk ((x381==false)=true->(0:Int)<=(0:Int)/\(0:Int)<(↑(List.length r380.fst):Int))
 (Let (ix r380.fst (0:Int)) fun x382=>
 Let (x382==toByte (48:Int)) fun x383=>
 Let (s0 != #[(48:UInt8)].toList) fun x384=>
 Let (bif x383 then x384 else false) fun x385=>
 Let (bif x381 then true else x385) fun x386=>
 if x386=true then some ({negative:=false,JU:=(0:Int),unit:=(0:Int):jq },false)
 else
 qw
 (fun (rec387:jq × jq × List UInt8 × Nat->Option (jq × Bool))
 (s388:jq × jq × List UInt8 × Nat)=>
 if decide (s388.snd.snd.snd<s388.snd.snd.fst.length)=true then
 Let (decide ((↑(Utf8.decode {data:=s388.snd.snd.fst.toArray:ByteArray } s388.snd.snd.snd).fst:Int)<(48:Int)))
 fun x389=>
 Let (decide ((↑(Utf8.decode {data:=s388.snd.snd.fst.toArray:ByteArray } s388.snd.snd.snd).fst:Int)>(57:Int)))
 fun x390=>
 Let (bif x389 then true else x390) fun x391=>
 if x391=true then some ({negative:=false,JU:=(0:Int),unit:=(0:Int):jq },false)
 else
 Let
 (IntKind.i32.wrap
 ((↑(Utf8.decode {data:=s388.snd.snd.fst.toArray:ByteArray } s388.snd.snd.snd).fst:Int) - (48:Int)))
 fun x392=>
 Let (IntKind.u64.wrap x392) fun x393=>
 Join
 (fun (v394:jq)=>
 Let (IntKind.u64.wrap (v394.unit*(10:Int))) fun x395=>
 Let (IntKind.u64.wrap (x395+x393)) fun x396=>
 Let (x396.tmod (65536:Int)) fun x397=>
 rec387
 (s388.fst,{negative:=v394.negative,JU:=v394.JU,unit:=x397:jq },s388.snd.snd.fst,
 s388.snd.snd.snd+(Utf8.decode {data:=s388.snd.snd.fst.toArray:ByteArray } s388.snd.snd.snd).snd))
 fun (j398:jq->Option (jq × Bool))=>
 Let (decide (s388.snd.fst.JU>(461168601842738790:Int))) fun x399=>
 if x399=true then
 j398
 {negative:=s388.snd.fst.negative,JU:=(4611686018427387905:Int),unit:=s388.snd.fst.unit:jq }
 else
 Let (IntKind.u64.wrap (s388.snd.fst.JU*(10:Int))) fun x400=>
 Let (IntKind.u64.wrap (x400+x393)) fun x401=>
 Let (min x401 (4611686018427387905:Int)) fun x402=>
 j398 {negative:=s388.snd.fst.negative,JU:=x402,unit:=s388.snd.fst.unit:jq }
 else some (s388.snd.fst,true))
 fuel
 ({negative:=false,JU:=(0:Int),unit:=(0:Int):jq },
 {negative:=r380.snd,JU:=(0:Int),unit:=(0:Int):jq },r380.fst,(0:Nat)))
noncomputable def ym (d0:jq):Option Int:=
 if d0.negative=true then
 Let (IntKind.i64.wrap d0.JU) fun x403=>
 Let (IntKind.i64.wrap ((0:Int) - x403)) fun x404=>some x404
 else Let (IntKind.i64.wrap d0.JU) fun x405=>some x405
noncomputable def jl (s0:(List UInt8)):Option (Int × Int):=
 Rx.Bind (Ys s0 #[(117:UInt8)].toList) fun r406=>
 Rx.Bind (yU r406.fst) fun r407=>
 Let (r407.fst.JU==(0:Int)) fun x408=>
 Join
 (fun (v409:Bool)=>
 if v409=true then some ((0:Int),(3:Int))
 else
 Join
 (fun (v410:Bool)=>
 if v410=true then some ((0:Int),(6:Int))
 else
 if r406.snd=true then
 Rx.Bind (ym r407.fst) fun r411=>
 Let (IntKind.i64.wrap (r411*(65536:Int))) fun x412=>some (x412,(0:Int))
 else Rx.Bind (ym r407.fst) fun r413=>some (r413,(0:Int)))
 fun (j414:Bool->Option (Int × Int))=>
 Let (decide (r407.fst.JU>(8191:Int))) fun x415=>
 Let (bif r406.snd then x415 else false) fun x416=>
 if x416=true then j414 x416 else Let (decide (r407.fst.JU>(536870911:Int))) fun x417=>j414 x417)
 fun (j418:Bool->Option (Int × Int))=>
 Let (!r407.snd) fun x419=>
 if x419=true then j418 x419
 else
 Let (bif r406.snd then x408 else false) fun x420=>
 if x420=true then j418 x420
 else
 Let (!r406.snd) fun x421=>
 Let (!x408) fun x422=>
 Let (bif x421 then x422 else false) fun x423=>
 Let (r407.fst.unit==(0:Int)) fun x424=>Let (bif x423 then x424 else false) fun x425=>j418 x425
noncomputable def jt (s0:(List UInt8)):Option (Int × Int):=
 Rx.Bind (yU s0) fun r426=>
 Let (!r426.snd) fun x427=>
 if x427=true then some ((0:Int),(3:Int))
 else
 Let (decide (r426.fst.JU>(4611686018427387904:Int))) fun x428=>
 if x428=true then some ((0:Int),(6:Int))
 else Rx.Bind (ym r426.fst) fun r429=>some (r429,(0:Int))
noncomputable def jP (fields0:(List (List UInt8))):Option (Input × Bool):=
 wL jm jT jt jl fields0
noncomputable def yx (s0:(List UInt8)):Option ((List (List Input)) × Int × Int):=
 kr JW Jv jP jy s0
noncomputable def Jr (n0:Int):Option Int:=
 Let (decide (n0<(0:Int))) fun x430=>
 if x430=true then
 Let (IntKind.u64.wrap n0) fun x431=>Let (IntKind.u64.wrap ((0:Int) - x431)) fun x432=>some x432
 else Let (IntKind.u64.wrap n0) fun x433=>some x433
noncomputable def JC (b0:(List UInt8)) (more1:(List UInt8)):Option (List UInt8):=
 Let (↑b0.length:Int) fun x434=>
 Let (↑b0.length:Int) fun x435=>
 Chk ((0:Int)<=x434/\x434<=(↑b0.length:Int)/\x435=x434)
 (Let (List.take x434.toNat b0) fun x436=>
 Chk ((x436.length+more1.length)*(1:Nat)<=(140737488355328:Nat))
 (Let (x436++more1) fun x437=>some x437))
noncomputable def jO (b0:(List UInt8)) (n1:Int):Option (List UInt8):=
 Rx.Bind (Jr n1) fun r438=>
 qw
 (fun (rec439:List UInt8 × Int->Option (List UInt8)) (s440:List UInt8 × Int)=>
 Let (decide (s440.snd>(0:Int))) fun x441=>
 if x441=true then
 Let (toByte s440.snd) fun x442=>
 Chk (([x442].length+List.length s440.fst)*(1:Nat)<=(140737488355328:Nat))
 (Let ([x442]++s440.fst) fun x443=>
 Let (vO IntKind.u64 s440.snd (8:Int)) fun x444=>rec439 (x443,x444))
 else
 Let (↑(List.length s440.fst):Int) fun x445=>
 Join
 (fun (v446:Int)=>
 Let (toByte v446) fun x447=>
 Rx.Bind (JC b0 [x447]) fun r448=>
 Rx.Bind (JC r448 s440.fst) fun r449=>some r449)
 fun (j450:Int->Option (List UInt8))=>
 Let (decide (n1<(0:Int))) fun x451=>
 if x451=true then Let (IntKind.i64.wrap (x445+(16:Int))) fun x452=>j450 x452 else j450 x445)
 fuel ([],r438)
noncomputable def yV (b0:(List UInt8)) (v1:Vec):Option (List UInt8):=
 Rx.Bind (jO b0 v1.X) fun r453=>
 Rx.Bind (jO r453 v1.Y) fun r454=>some r454
noncomputable def YI (b0:(List UInt8)) (x1:Bool):Option (List UInt8):=
 if x1=true then Rx.Bind (JC b0 [toByte (1:Int)]) fun r455=>some r455
 else Rx.Bind (JC b0 [toByte (0:Int)]) fun r456=>some r456
 def eLK {α X:Type} [Inhabited α] (B:α->(jB->Option X)->jB->Option X) (l:List α) (K:jB->Option X) (e:jB):Option X:=
 Let (l.length:Int) fun n=>qw (fun rec s=>Let (decide (s.1<n)) fun x=>if x=true then Chk ((0:Int)<=s.1/\s.1<(l.length:Int)) (Let (ix l s.1) fun v=>B v (fun e'=>Let (IntKind.i64.wrap (s.1+1)) fun z=>rec (z,e')) s.2) else K s.2) fuel ((0:Int),e)
noncomputable def bI {X:Type} (v:Int) (k:jB->Option X) (e:jB):Option X:=Rx.Bind (jO e.buf v) fun q=>k {buf:=q }
noncomputable def bV {X:Type} (v:Vec) (k:jB->Option X) (e:jB):Option X:=Rx.Bind (yV e.buf v) fun q=>k {buf:=q }
noncomputable def bB {X:Type} (v:Bool) (k:jB->Option X) (e:jB):Option X:=Rx.Bind (YI e.buf v) fun q=>k {buf:=q }
noncomputable def bF {X:Type} (f:Jy) (k:jB->Option X) (e:jB):Option X:=
 Let (f.Shape.jS.length:Int) fun n=>eLK bI [f.Shape.Kind,f.Shape.qM,n] (fun e=>eLK bV f.Shape.jS (fun e=>eLK bI [f.yy,f.JL,f.jX] (fun e=>eLK bB [f.YX] (fun e=>eLK bI [f.Category,f.Mask,f.QH] k e) e) e) e) e
noncomputable def yR (b:(List UInt8)) (x:Body):Option (List UInt8):=
 Chk (b.length*1<=140737488355328) (eLK bI [x.ID,x.Kind] (fun e=>eLK bV [x.Transform.Position] (fun e=>eLK bI [x.Transform.qy] (fun e=>eLK bV [x.jZ] (fun e=>eLK bI [x.jC] (fun e=>eLK bV [x.YA] (fun e=>eLK bI [x.Yl,x.jN,x.jI,x.jR] (fun e=>eLK bB [x.YO,x.jQ,x.yE,x.YP] (fun e=>Let (x.jk.length:Int) fun n=>eLK bI [x.Jt,n] (fun e=>eLK bF x.jk (fun e=>some e.buf) e) e) e) e) e) e) e) e) e) {buf:=b })
noncomputable def yF (b:(List UInt8)) (x:jn):Option (List UInt8):=
 Chk (b.length*1<=140737488355328) (eLK bI [x.ID,x.Kind,x.QS,x.QR] (fun e=>eLK bV [x.JS,x.JR,x.KO] (fun e=>eLK bI [x.jM] (fun e=>eLK bB [x.Jf] (fun e=>eLK bI [x.QP,x.QN] (fun e=>eLK bB [x.Je] (fun e=>eLK bI [x.Jl,x.JQ,x.JP,x.Jm] (fun e=>eLK bB [x.jH] (fun e=>eLK bI [x.jx.1,x.jx.2.1,x.jx.2.2.1,x.jx.2.2.2] (fun e=>some e.buf) e) e) e) e) e) e) e) e) {buf:=b })
noncomputable def zy (crc0:Int):Option Int:=
 qw
 (fun (rec626:Int × Int->Option Int) (s627:Int × Int)=>
 Let (decide (s627.snd<(8:Int))) fun x628=>
 if x628=true then
 Join (fun (v629:Int)=>Let (IntKind.i64.wrap (s627.snd+(1:Int))) fun x630=>rec626 (v629,x630))
 fun (j631:Int->Option Int)=>
 Let (bAnd IntKind.u32 s627.fst (1:Int)) fun x632=>
 Let (vO IntKind.u32 s627.fst (1:Int)) fun x633=>
 Let (x632==(1:Int)) fun x634=>
 if x634=true then Let (jcd IntKind.u32 x633 (2197175160:Int)) fun x635=>j631 x635 else j631 x633
 else some s627.fst)
 fuel (crc0,(0:Int))
noncomputable def QX (b0:(List UInt8)):Option (List UInt8):=
 jae b0
noncomputable def yo (r0:(List (List Input))):Option ((List UInt8) × Int):=
 Rx.Bind (jy r0) fun r636=>
 Let (r636 != (0:Int)) fun x637=>
 if x637=true then some ([],(25:Int))
 else
 Let (↑r0.length:Int) fun x638=>
 Rx.Bind (jO [] x638) fun r639=>
 Let (↑r0.length:Int) fun x640=>
 qw
 (fun (rec641:List UInt8 × Int->Option (List UInt8 × Int)) (s642:List UInt8 × Int)=>
 Let (decide (s642.snd<x640)) fun x643=>
 if x643=true then
 Chk ((0:Int)<=s642.snd/\s642.snd<(↑r0.length:Int))
 (Let (ix r0 s642.snd) fun x644=>
 Let (↑x644.length:Int) fun x645=>
 Rx.Bind (jO s642.fst x645) fun r646=>
 Let (↑x644.length:Int) fun x647=>
 qw
 (fun (rec648:List UInt8 × Int->Option (List UInt8 × Int)) (s649:List UInt8 × Int)=>
 Let (decide (s649.snd<x647)) fun x650=>
 if x650=true then
 Chk ((0:Int)<=s649.snd/\s649.snd<(↑x644.length:Int))
 (Let (ix x644 s649.snd) fun x651=>
 Rx.Bind (jO s649.fst x651.Kind) fun r652=>
 Rx.Bind (jO r652 x651.ID) fun r653=>
 Rx.Bind (yV r653 x651.Vec) fun r654=>
 Rx.Bind (jO r654 x651.Value) fun r655=>
 Rx.Bind (yR r655 x651.Body) fun r656=>
 Rx.Bind (yF r656 x651.jn) fun r657=>
 Let (IntKind.i64.wrap (s649.snd+(1:Int))) fun x658=>rec648 (r657,x658))
 else Let (IntKind.i64.wrap (s642.snd+(1:Int))) fun x659=>rec641 (s649.fst,x659))
 fuel (r646,(0:Int)))
 else Rx.Bind (QX s642.fst) fun r660=>some (r660,(0:Int)))
 fuel (r639,(0:Int))
noncomputable def yH (b0:(List UInt8)):Option ((List UInt8) × Int):=
 Let (↑b0.length:Int) fun x661=>
 Let (IntKind.i64.wrap (x661 - (4:Int))) fun x662=>
 Let (decide (x662<(0:Int))) fun x663=>
 if x663=true then some ([],(4:Int))
 else
 Chk ((0:Int)<=x662/\x662<=(↑b0.length:Int))
 (Let (List.take x662.toNat b0) fun x664=>
 Rx.Bind (QX x664) fun r665=>
 Let (r665 != b0) fun x666=>
 if x666=true then some ([],(22:Int))
 else
 Chk ((0:Int)<=x662/\x662<=(↑b0.length:Int))
 (Let (List.take x662.toNat b0) fun x667=>
 Chk (x667.length*(1:Nat)<=(140737488355328:Nat)) (some (x667,(0:Int)))))
noncomputable def yf (b0:(List UInt8)) (at1:Int):Option (UInt8 × Int):=
 Let (decide (at1<(0:Int))) fun x668=>
 Let (↑b0.length:Int) fun x669=>
 Let (decide (at1>x669)) fun x670=>
 Let (bif x668 then true else x670) fun x671=>
 if x671=true then some (toByte (0:Int),(2:Int))
 else
 Let (↑b0.length:Int) fun x672=>
 Let (at1==x672) fun x673=>
 if x673=true then some (toByte (0:Int),(4:Int))
 else Chk ((0:Int)<=at1/\at1<(↑b0.length:Int)) (Let (ix b0 at1) fun x674=>some (x674,(0:Int)))
noncomputable def jd (b0:(List UInt8)) (at1:Int):Option (Int × Int × Int):=
 Rx.Bind (yf b0 at1) fun r675=>
 Let (r675.snd != (0:Int)) fun x676=>
 if x676=true then some ((0:Int),(0:Int),r675.snd)
 else
 Let (↑(UInt8.toNat r675.fst):Int) fun x677=>
 Let (decide (toByte (16:Int)<r675.fst)) fun x678=>
 Join
 (fun (v679:Int)=>
 Let (decide (v679>(8:Int))) fun x680=>
 if x680=true then some ((0:Int),(0:Int),(3:Int))
 else
 Let (IntKind.i64.wrap (at1+(1:Int))) fun x681=>
 Chk ((0:Int)<=x681/\x681<=(↑b0.length:Int))
 (Let (List.drop x681.toNat b0) fun x682=>
 Let (↑x682.length:Int) fun x683=>
 Let (decide (x683<v679)) fun x684=>
 if x684=true then some ((0:Int),(0:Int),(4:Int))
 else
 Chk ((0:Int)<=v679/\v679<=(↑x682.length:Int))
 (Let (List.take v679.toNat x682) fun x685=>
 Let (↑x685.length:Int) fun x686=>
 qw
 (fun (rec687:Int × Int->Option (Int × Int × Int)) (s688:Int × Int)=>
 Let (decide (s688.snd<x686)) fun x689=>
 if x689=true then
 Chk ((0:Int)<=s688.snd/\s688.snd<(↑x685.length:Int))
 (Let (ix x685 s688.snd) fun x690=>
 Let (bShl IntKind.u64 s688.fst (8:Int)) fun x691=>
 Let (↑x690.toNat:Int) fun x692=>
 Let (bOr IntKind.u64 x691 x692) fun x693=>
 Let (IntKind.i64.wrap (s688.snd+(1:Int))) fun x694=>rec687 (x693,x694))
 else
 Let (IntKind.i64.wrap s688.fst) fun x695=>
 Join
 (fun (v696:Int)=>
 Let (decide (v679>(0:Int))) fun x697=>
 Chk ((x697==true)=true->(0:Int)<=(0:Int)/\(0:Int)<(↑x682.length:Int))
 (Let (ix x682 (0:Int)) fun x698=>
 Let (x698==toByte (0:Int)) fun x699=>
 Let (bif x697 then x699 else false) fun x700=>
 Rx.Bind (if (x700==false)=true then Jr v696 else some default) fun r701=>
 Let (r701 != s688.fst) fun x702=>
 Let (bif x700 then true else x702) fun x703=>
 Let (decide (v696<(0:Int))) fun x704=>
 Let (x704 != x678) fun x705=>
 Let (bif x703 then true else x705) fun x706=>
 if x706=true then some ((0:Int),(0:Int),(3:Int))
 else
 Let (IntKind.i64.wrap (at1+(1:Int))) fun x707=>
 Let (IntKind.i64.wrap (x707+v679)) fun x708=>some (v696,x708,(0:Int))))
 fun (j709:Int->Option (Int × Int × Int))=>
 if x678=true then Let (IntKind.i64.wrap ((0:Int) - x695)) fun x710=>j709 x710 else j709 x695)
 fuel ((0:Int),(0:Int)))))
 fun (j711:Int->Option (Int × Int × Int))=>
 if x678=true then Let (IntKind.i64.wrap (x677 - (16:Int))) fun x712=>j711 x712 else j711 x677
noncomputable def jh (b0:(List UInt8)) (at1:Int):Option (Vec × Int × Int):=
 Rx.Bind (jd b0 at1) fun r713=>
 Let (r713.snd.snd != (0:Int)) fun x714=>
 if x714=true then some ({X:=(0:Int),Y:=(0:Int):Vec},(0:Int),r713.snd.snd)
 else
 Rx.Bind (jd b0 r713.snd.fst) fun r715=>
 Let (r715.snd.snd != (0:Int)) fun x716=>
 if x716=true then some ({X:=(0:Int),Y:=(0:Int):Vec},(0:Int),r715.snd.snd)
 else some ({X:=r713.fst,Y:=r715.fst:Vec},r715.snd.fst,(0:Int))
noncomputable def jf (b0:(List UInt8)) (at1:Int):Option (Bool × Int × Int):=
 Rx.Bind (yf b0 at1) fun r718=>
 Let (r718.snd != (0:Int)) fun x719=>
 if x719=true then some (false,(0:Int),r718.snd)
 else
 Let (decide (toByte (1:Int)<r718.fst)) fun x720=>
 if x720=true then some (false,(0:Int),(3:Int))
 else
 Let (r718.fst==toByte (1:Int)) fun x721=>
 Let (IntKind.i64.wrap (at1+(1:Int))) fun x722=>some (x721,x722,(0:Int))
noncomputable def JN (b0:(List UInt8)):Option ((List (List Input)) × Int):=
 zb yH jd jh jf jy b0
noncomputable def zn (a0:Input) (b1:Input):Option Bool:=
 Let (a0.Kind==b1.Kind) fun x724=>
 Let (a0.ID==b1.ID) fun x725=>
 Let (bif x724 then x725 else false) fun x726=>
 Let (decide (a0.Vec.X=b1.Vec.X)&&decide (a0.Vec.Y=b1.Vec.Y)) fun x727=>
 Let (bif x726 then x727 else false) fun x728=>
 Let (a0.Value==b1.Value) fun x729=>
 Let (bif x728 then x729 else false) fun x730=>
 Rx.Bind (if (x730==true)=true then Qr a0.Body b1.Body else some default) fun r731=>
 Let (bif x730 then r731 else false) fun x732=>
 Let
 (decide (a0.jn.ID=b1.jn.ID)&&
 (decide (a0.jn.Kind=b1.jn.Kind)&&
 (decide (a0.jn.QS=b1.jn.QS)&&
 (decide (a0.jn.QR=b1.jn.QR)&&
 (decide (a0.jn.JS.X=b1.jn.JS.X)&&decide (a0.jn.JS.Y=b1.jn.JS.Y)&&
 (decide (a0.jn.JR.X=b1.jn.JR.X)&&decide (a0.jn.JR.Y=b1.jn.JR.Y)&&
 (decide (a0.jn.KO.X=b1.jn.KO.X)&&decide (a0.jn.KO.Y=b1.jn.KO.Y)&&
 (decide (a0.jn.jM=b1.jn.jM)&&
 (decide (a0.jn.Jf=b1.jn.Jf)&&
 (decide (a0.jn.QP=b1.jn.QP)&&
 (decide (a0.jn.QN=b1.jn.QN)&&
 (decide (a0.jn.Je=b1.jn.Je)&&
 (decide (a0.jn.Jl=b1.jn.Jl)&&
 (decide (a0.jn.JQ=b1.jn.JQ)&&
 (decide (a0.jn.JP=b1.jn.JP)&&
 (decide (a0.jn.Jm=b1.jn.Jm)&&
 (decide (a0.jn.jH=b1.jn.jH)&&
 (decide (a0.jn.jx.fst=b1.jn.jx.fst)&&
 (decide (a0.jn.jx.snd.fst=b1.jn.jx.snd.fst)&&
 (decide (a0.jn.jx.snd.snd.fst=b1.jn.jx.snd.snd.fst)&&
 decide (a0.jn.jx.snd.snd.snd=b1.jn.jx.snd.snd.snd)))))))))))))))))))))
 fun x733=>Let (bif x732 then x733 else false) fun x734=>some x734
noncomputable def kq (a0:(List (List Input))) (b1:(List (List Input))):Option Bool:=
 Let (↑a0.length:Int) fun x735=>
 Let (↑b1.length:Int) fun x736=>
 Let (x735 != x736) fun x737=>
 if x737=true then some false
 else
 Let (↑a0.length:Int) fun x738=>
 qw
 (fun (rec739:Int->Option Bool) (s740:Int)=>
 Let (decide (s740<x738)) fun x741=>
 if x741=true then
 Chk ((0:Int)<=s740/\s740<(↑a0.length:Int))
 (Let (ix a0 s740) fun x742=>
 Let (↑x742.length:Int) fun x743=>
 Chk ((0:Int)<=s740/\s740<(↑b1.length:Int))
 (Let (ix b1 s740) fun x744=>
 Let (↑x744.length:Int) fun x745=>
 Let (x743 != x745) fun x746=>
 if x746=true then some false
 else
 Chk ((0:Int)<=s740/\s740<(↑a0.length:Int))
 (Let (ix a0 s740) fun x747=>
 Let (↑x747.length:Int) fun x748=>
 qw
 (fun (rec749:Int->Option Bool) (s750:Int)=>
 Let (decide (s750<x748)) fun x751=>
 if x751=true then
 Chk ((0:Int)<=s740/\s740<(↑a0.length:Int))
 (Let (ix a0 s740) fun x752=>
 Chk ((0:Int)<=s750/\s750<(↑x752.length:Int))
 (Let (ix x752 s750) fun x753=>
 Chk ((0:Int)<=s740/\s740<(↑b1.length:Int))
 (Let (ix b1 s740) fun x754=>
 Chk ((0:Int)<=s750/\s750<(↑x754.length:Int))
 (Let (ix x754 s750) fun x755=>
 Rx.Bind (zn x753 x755) fun r756=>
 Let (!r756) fun x757=>
 if x757=true then some false else Let (IntKind.i64.wrap (s750+(1:Int))) fun x758=>rec749 x758))))
 else Let (IntKind.i64.wrap (s740+(1:Int))) fun x759=>rec739 x759)
 fuel (0:Int))))
 else some true)
 fuel (0:Int)
noncomputable def kp (r0:(List (List Input))) (from1:Int) (to2:Int):Option (List (List Input)):=
 Let (max from1 (0:Int)) fun x760=>
 Let (↑r0.length:Int) fun x761=>
 Let (min to2 x761) fun x762=>
 Let (decide (x760>=x762)) fun x763=>
 if x763=true then some []
 else
 Chk ((0:Int)<=x760/\x760<=x762/\x762<=(↑r0.length:Int))
 (Let (sub r0 x760 x762) fun x764=>
 Rx.Bind (ko x764) fun r765=>some r765)
noncomputable def Yk  : Option Bool:=
 Rx.Bind zT fun r766=>
 Rx.Bind (QJ [] (1:Int) [r766]) fun r767=>
 Rx.Bind (yA r767.fst) fun r768=>
 Rx.Bind
 (yx
 #[(102:UInt8),(114:UInt8),(97:UInt8),(109:UInt8),(101:UInt8),(10:UInt8),(105:UInt8),(109:UInt8),
 (112:UInt8),(117:UInt8),(108:UInt8),(115:UInt8),(101:UInt8),(32:UInt8),(51:UInt8),(32:UInt8),
 (49:UInt8),(117:UInt8),(10:UInt8)].toList)
 fun r769=>
 Rx.Bind (yo r767.fst) fun r770=>
 Rx.Bind (JN r770.fst) fun r771=>
 Let (r767.snd==(0:Int)) fun x772=>
 Let (↑(List.length r767.fst):Int) fun x773=>
 Let (x773==(2:Int)) fun x774=>
 Let (bif x772 then x774 else false) fun x775=>
 Let (r768.snd==(0:Int)) fun x776=>
 Let (bif x775 then x776 else false) fun x777=>
 Let
 (r768.fst==
 #[(102:UInt8),(114:UInt8),(97:UInt8),(109:UInt8),(101:UInt8),(10:UInt8),(102:UInt8),(114:UInt8),
 (97:UInt8),(109:UInt8),(101:UInt8),(10:UInt8),(105:UInt8),(109:UInt8),(112:UInt8),(117:UInt8),
 (108:UInt8),(115:UInt8),(101:UInt8),(32:UInt8),(51:UInt8),(32:UInt8),(49:UInt8),(117:UInt8),
 (32:UInt8),(48:UInt8),(10:UInt8)].toList)
 fun x778=>
 Let (bif x777 then x778 else false) fun x779=>
 Let (r769.snd.fst==(2:Int)) fun x780=>
 Let (bif x779 then x780 else false) fun x781=>
 Let (r769.snd.snd==(27:Int)) fun x782=>
 Let (bif x781 then x782 else false) fun x783=>
 Let (r770.snd==(0:Int)) fun x784=>
 Let (bif x783 then x784 else false) fun x785=>
 Let (r771.snd==(0:Int)) fun x786=>
 Let (bif x785 then x786 else false) fun x787=>
 Rx.Bind (if (x787==true)=true then kq r767.fst r771.fst else some default) fun r788=>
 Let (bif x787 then r788 else false) fun x789=>
 Rx.Bind (if (x789==true)=true then yg r767.fst (1:Int) else some default)
 fun r790=>
 Let (↑r790.length:Int) fun x791=>
 Let (x791==(1:Int)) fun x792=>
 Let (bif x789 then x792 else false) fun x793=>
 Rx.Bind (if (x793==true)=true then kp r767.fst (1:Int) (9:Int) else some default)
 fun r794=>
 Let (↑r794.length:Int) fun x795=>
 Let (x795==(1:Int)) fun x796=>Let (bif x793 then x796 else false) fun x797=>some x797
noncomputable def Yr (a0:(List Vec)) (b1:(List Vec)):Option Bool:=
 Let (↑a0.length:Int) fun x798=>
 Let (↑b1.length:Int) fun x799=>
 Let (x798 != x799) fun x800=>
 if x800=true then some false
 else
 qw
 (fun (rec801:Int->Option Bool) (s802:Int)=>
 Let (↑a0.length:Int) fun x803=>
 Let (decide (s802<x803)) fun x804=>
 if x804=true then
 Chk ((0:Int)<=s802/\s802<(↑a0.length:Int))
 (Let (ix a0 s802) fun x805=>
 Chk ((0:Int)<=s802/\s802<(↑b1.length:Int))
 (Let (ix b1 s802) fun x806=>
 Let (!(decide (x805.X=x806.X)&&decide (x805.Y=x806.Y))) fun x807=>
 if x807=true then some false else Let (IntKind.i64.wrap (s802+(1:Int))) fun x808=>rec801 x808))
 else some true)
 fuel (0:Int)
noncomputable def qA (a0:Shape) (b1:Shape):Option Bool:=
 Let (a0.Kind==b1.Kind) fun x809=>
 Let (a0.qM==b1.qM) fun x810=>
 Let (bif x809 then x810 else false) fun x811=>
 Rx.Bind (if (x811==true)=true then Yr a0.jS b1.jS else some default)
 fun r812=>Let (bif x811 then r812 else false) fun x813=>some x813
noncomputable def yI (a0:Jy) (b1:Jy):Option Bool:=
 Rx.Bind (qA a0.Shape b1.Shape) fun r814=>
 Let (a0.yy==b1.yy) fun x815=>
 Let (bif r814 then x815 else false) fun x816=>
 Let (a0.JL==b1.JL) fun x817=>
 Let (bif x816 then x817 else false) fun x818=>
 Let (a0.jX==b1.jX) fun x819=>
 Let (bif x818 then x819 else false) fun x820=>
 Let (a0.YX==b1.YX) fun x821=>
 Let (bif x820 then x821 else false) fun x822=>
 Let (a0.Category==b1.Category) fun x823=>
 Let (bif x822 then x823 else false) fun x824=>
 Let (a0.Mask==b1.Mask) fun x825=>
 Let (bif x824 then x825 else false) fun x826=>
 Let (a0.QH==b1.QH) fun x827=>Let (bif x826 then x827 else false) fun x828=>some x828
noncomputable def yC (a0:Body) (b1:Body):Option Bool:=
 Let (↑a0.jk.length:Int) fun x829=>
 Let (↑b1.jk.length:Int) fun x830=>
 Let (x829 != x830) fun x831=>
 if x831=true then some false
 else
 qw
 (fun (rec832:Int->Option Bool) (s833:Int)=>
 Let (↑a0.jk.length:Int) fun x834=>
 Let (decide (s833<x834)) fun x835=>
 Let (↑b1.jk.length:Int) fun x836=>
 Let (decide (s833<x836)) fun x837=>
 Let (bif x835 then x837 else false) fun x838=>
 if x838=true then
 Chk ((0:Int)<=s833/\s833<(↑a0.jk.length:Int))
 (Let (ix a0.jk s833) fun x839=>
 Chk ((0:Int)<=s833/\s833<(↑b1.jk.length:Int))
 (Let (ix b1.jk s833) fun x840=>
 Rx.Bind (yI x839 x840) fun r841=>
 Let (!r841) fun x842=>
 if x842=true then some false else Let (IntKind.i64.wrap (s833+(1:Int))) fun x843=>rec832 x843))
 else
 Let (a0.ID != b1.ID) fun x844=>
 Let (a0.Kind != b1.Kind) fun x845=>
 Let (bif x844 then true else x845) fun x846=>
 Let
 (!(decide (a0.Transform.Position.X=b1.Transform.Position.X)&&
 decide (a0.Transform.Position.Y=b1.Transform.Position.Y)&&
 decide (a0.Transform.qy=b1.Transform.qy)))
 fun x847=>
 Let (bif x846 then true else x847) fun x848=>
 Let (!(decide (a0.jZ.X=b1.jZ.X)&&decide (a0.jZ.Y=b1.jZ.Y))) fun x849=>
 Let (bif x848 then true else x849) fun x850=>
 Let (a0.jC != b1.jC) fun x851=>
 Let (bif x850 then true else x851) fun x852=>
 Let (!(decide (a0.YA.X=b1.YA.X)&&decide (a0.YA.Y=b1.YA.Y))) fun x853=>
 Let (bif x852 then true else x853) fun x854=>
 Let (a0.Yl != b1.Yl) fun x855=>
 Let (bif x854 then true else x855) fun x856=>
 if x856=true then some false
 else
 Let (a0.jN==b1.jN) fun x857=>
 Let (a0.jI==b1.jI) fun x858=>
 Let (bif x857 then x858 else false) fun x859=>
 Let (a0.jR==b1.jR) fun x860=>
 Let (bif x859 then x860 else false) fun x861=>
 Let (a0.YO==b1.YO) fun x862=>
 Let (bif x861 then x862 else false) fun x863=>
 Let (a0.jQ==b1.jQ) fun x864=>
 Let (bif x863 then x864 else false) fun x865=>
 Let (a0.yE==b1.yE) fun x866=>
 Let (bif x865 then x866 else false) fun x867=>
 Let (a0.YP==b1.YP) fun x868=>
 Let (bif x867 then x868 else false) fun x869=>
 Let (a0.Jt==b1.Jt) fun x870=>
 Let (bif x869 then x870 else false) fun x871=>some x871)
 fuel (0:Int)
noncomputable def YL (a0:Input) (b1:Input):Option Bool:=
 Let (a0.Kind==b1.Kind) fun x872=>
 Let (a0.ID==b1.ID) fun x873=>
 Let (bif x872 then x873 else false) fun x874=>
 Let (decide (a0.Vec.X=b1.Vec.X)&&decide (a0.Vec.Y=b1.Vec.Y)) fun x875=>
 Let (bif x874 then x875 else false) fun x876=>
 Let (a0.Value==b1.Value) fun x877=>
 Let (bif x876 then x877 else false) fun x878=>
 Let
 (decide (a0.jn.ID=b1.jn.ID)&&
 (decide (a0.jn.Kind=b1.jn.Kind)&&
 (decide (a0.jn.QS=b1.jn.QS)&&
 (decide (a0.jn.QR=b1.jn.QR)&&
 (decide (a0.jn.JS.X=b1.jn.JS.X)&&decide (a0.jn.JS.Y=b1.jn.JS.Y)&&
 (decide (a0.jn.JR.X=b1.jn.JR.X)&&decide (a0.jn.JR.Y=b1.jn.JR.Y)&&
 (decide (a0.jn.KO.X=b1.jn.KO.X)&&decide (a0.jn.KO.Y=b1.jn.KO.Y)&&
 (decide (a0.jn.jM=b1.jn.jM)&&
 (decide (a0.jn.Jf=b1.jn.Jf)&&
 (decide (a0.jn.QP=b1.jn.QP)&&
 (decide (a0.jn.QN=b1.jn.QN)&&
 (decide (a0.jn.Je=b1.jn.Je)&&
 (decide (a0.jn.Jl=b1.jn.Jl)&&
 (decide (a0.jn.JQ=b1.jn.JQ)&&
 (decide (a0.jn.JP=b1.jn.JP)&&
 (decide (a0.jn.Jm=b1.jn.Jm)&&
 (decide (a0.jn.jH=b1.jn.jH)&&
 (decide (a0.jn.jx.fst=b1.jn.jx.fst)&&
 (decide (a0.jn.jx.snd.fst=b1.jn.jx.snd.fst)&&
 (decide (a0.jn.jx.snd.snd.fst=b1.jn.jx.snd.snd.fst)&&
 decide (a0.jn.jx.snd.snd.snd=b1.jn.jx.snd.snd.snd)))))))))))))))))))))
 fun x879=>
 Let (bif x878 then x879 else false) fun x880=>
 Rx.Bind (if (x880==true)=true then yC a0.Body b1.Body else some default) fun r881=>
 Let (bif x880 then r881 else false) fun x882=>some x882
noncomputable def yY (a0:(List Input)) (b1:(List Input)):Option Bool:=
 Let (↑a0.length:Int) fun x883=>
 Let (↑b1.length:Int) fun x884=>
 Let (x883 != x884) fun x885=>
 if x885=true then some false
 else
 qw
 (fun (rec886:Int->Option Bool) (s887:Int)=>
 Let (↑a0.length:Int) fun x888=>
 Let (decide (s887<x888)) fun x889=>
 Let (↑b1.length:Int) fun x890=>
 Let (decide (s887<x890)) fun x891=>
 Let (bif x889 then x891 else false) fun x892=>
 if x892=true then
 Chk ((0:Int)<=s887/\s887<(↑a0.length:Int))
 (Let (ix a0 s887) fun x893=>
 Chk ((0:Int)<=s887/\s887<(↑b1.length:Int))
 (Let (ix b1 s887) fun x894=>
 Rx.Bind (YL x893 x894) fun r895=>
 Let (!r895) fun x896=>
 if x896=true then some false else Let (IntKind.i64.wrap (s887+(1:Int))) fun x897=>rec886 x897))
 else some true)
 fuel (0:Int)
noncomputable def YK (a0:(List (List Input))) (b1:(List (List Input))):Option Bool:=
 Let (↑a0.length:Int) fun x898=>
 Let (↑b1.length:Int) fun x899=>
 Let (x898 != x899) fun x900=>
 if x900=true then some false
 else
 qw
 (fun (rec901:Int->Option Bool) (s902:Int)=>
 Let (↑a0.length:Int) fun x903=>
 Let (decide (s902<x903)) fun x904=>
 Let (↑b1.length:Int) fun x905=>
 Let (decide (s902<x905)) fun x906=>
 Let (bif x904 then x906 else false) fun x907=>
 if x907=true then
 Chk ((0:Int)<=s902/\s902<(↑a0.length:Int))
 (Let (ix a0 s902) fun x908=>
 Chk ((0:Int)<=s902/\s902<(↑b1.length:Int))
 (Let (ix b1 s902) fun x909=>
 Rx.Bind (yY x908 x909) fun r910=>
 Let (!r910) fun x911=>
 if x911=true then some false else Let (IntKind.i64.wrap (s902+(1:Int))) fun x912=>rec901 x912))
 else some true)
 fuel (0:Int)
noncomputable def Yj (a0:(List UInt8)) (b1:(List UInt8)):Option Bool:=
 Let (↑a0.length:Int) fun x913=>
 Let (↑b1.length:Int) fun x914=>
 Let (x913 != x914) fun x915=>
 if x915=true then some false
 else
 qw
 (fun (rec916:Int->Option Bool) (s917:Int)=>
 Let (↑a0.length:Int) fun x918=>
 Let (decide (s917<x918)) fun x919=>
 Let (↑b1.length:Int) fun x920=>
 Let (decide (s917<x920)) fun x921=>
 Let (bif x919 then x921 else false) fun x922=>
 if x922=true then
 Chk ((0:Int)<=s917/\s917<(↑a0.length:Int))
 (Let (ix a0 s917) fun x923=>
 Chk ((0:Int)<=s917/\s917<(↑b1.length:Int))
 (Let (ix b1 s917) fun x924=>
 Let (x923 != x924) fun x925=>
 if x925=true then some false else Let (IntKind.i64.wrap (s917+(1:Int))) fun x926=>rec916 x926))
 else some true)
 fuel (0:Int)
noncomputable def JO (r0:(List (List Input))) (b1:(List UInt8)) (s2:(List UInt8)):Option Bool:=
 Rx.Bind (YJ r0) fun r927=>
 Let (!r927) fun x928=>
 Let (↑b1.length:Int) fun x929=>
 Let (decide (x929>(4000:Int))) fun x930=>
 Let (bif x928 then true else x930) fun x931=>
 Let (↑s2.length:Int) fun x932=>
 Let (decide (x932>(2000:Int))) fun x933=>
 Let (bif x931 then true else x933) fun x934=>
 if x934=true then Rx.Bind Yk fun r935=>some r935
 else
 Rx.Bind (yo r0) fun r936=>
 Join
 (fun (v937:PUnit)=>
 Rx.Bind (yA r0) fun r938=>
 Join
 (fun (v939:PUnit)=>
 Rx.Bind (JN b1) fun r940=>
 Join
 (fun (v941:PUnit)=>
 Rx.Bind (yx s2) fun r942=>
 Join
 (fun (v943:PUnit)=>
 Let (r936.snd==(0:Int)) fun x944=>
 Rx.Bind (jy r0) fun r945=>
 Let (r945==(0:Int)) fun x946=>
 Let (x944==x946) fun x947=>
 Rx.Bind (if (x947==true)=true then Yk else some default) fun r948=>
 Let (bif x947 then r948 else false) fun x949=>some x949)
 fun (j950:PUnit->Option Bool)=>
 Let (r942.snd.snd==(0:Int)) fun x951=>
 if x951=true then
 Rx.Bind (yA r942.fst) fun r952=>
 Let (r952.snd != (0:Int)) fun x953=>
 Let (r952.fst != s2) fun x954=>
 Let (bif x953 then true else x954) fun x955=>if x955=true then some false else j950 ()
 else j950 ())
 fun (j956:PUnit->Option Bool)=>
 Let (r940.snd==(0:Int)) fun x957=>
 if x957=true then
 Rx.Bind (yo r940.fst) fun r958=>
 Let (r958.snd != (0:Int)) fun x959=>
 Rx.Bind (if (x959==false)=true then Yj r958.fst b1 else some default) fun r960=>
 Let (!r960) fun x961=>
 Let (bif x959 then true else x961) fun x962=>if x962=true then some false else j956 ()
 else j956 ())
 fun (j963:PUnit->Option Bool)=>
 Let (r938.snd==(0:Int)) fun x964=>
 if x964=true then
 Rx.Bind (yx r938.fst) fun r965=>
 Let (r965.snd.snd != (0:Int)) fun x966=>
 Let (r965.snd.fst != (0:Int)) fun x967=>
 Let (bif x966 then true else x967) fun x968=>
 Rx.Bind (if (x968==false)=true then YK r965.fst r0 else some default) fun r969=>
 Let (!r969) fun x970=>
 Let (bif x968 then true else x970) fun x971=>if x971=true then some false else j963 ()
 else j963 ())
 fun (j972:PUnit->Option Bool)=>
 Let (r936.snd==(0:Int)) fun x973=>
 if x973=true then
 Rx.Bind (JN r936.fst) fun r974=>
 Let (r974.snd != (0:Int)) fun x975=>
 Rx.Bind (if (x975==false)=true then YK r974.fst r0 else some default) fun r976=>
 Let (!r976) fun x977=>
 Let (bif x975 then true else x977) fun x978=>if x978=true then some false else j972 ()
 else j972 ()
noncomputable def qj (k0:Int):Option (Bool × Bool × Bool):=
 Join
 (fun (v979:Bool)=>
 if v979=true then some (true,true,false)
 else
 Join
 (fun (v980:Bool)=>
 if v980=true then some (true,false,true)
 else
 Join
 (fun (v981:Bool)=>
 if v981=true then some (true,true,true)
 else
 Join (fun (v982:Bool)=>if v982=true then some (true,false,false) else some (false,false,false))
 fun (j983:Bool->Option (Bool × Bool × Bool))=>
 Let (k0==(6:Int)) fun x984=>
 if x984=true then j983 x984
 else
 Let (k0==(10:Int)) fun x985=>
 if x985=true then j983 x985 else Let (k0==(12:Int)) fun x986=>j983 x986)
 fun (j987:Bool->Option (Bool × Bool × Bool))=>
 Let (k0==(4:Int)) fun x988=>
 if x988=true then j987 x988 else Let (k0==(5:Int)) fun x989=>j987 x989)
 fun (j990:Bool->Option (Bool × Bool × Bool))=>
 Let (k0==(3:Int)) fun x991=>
 if x991=true then j990 x991 else Let (k0==(8:Int)) fun x992=>j990 x992)
 fun (j993:Bool->Option (Bool × Bool × Bool))=>
 Let (k0==(1:Int)) fun x994=>
 if x994=true then j993 x994
 else
 Let (k0==(2:Int)) fun x995=>
 if x995=true then j993 x995 else Let (k0==(7:Int)) fun x996=>j993 x996
noncomputable def yq (n0:Int):Option Bool:=
 Let (decide (n0<(-536870911:Int))) fun x997=>
 Let (decide (n0>(536870911:Int))) fun x998=>
 Let (bif x997 then true else x998) fun x999=>some x999
noncomputable def zC (x0:Input):Option Int:=
 Let (decide (x0.Kind<(1:Int))) fun x1000=>
 Let (decide (x0.Kind>(12:Int))) fun x1001=>
 Let (bif x1000 then true else x1001) fun x1002=>
 if x1002=true then some (10:Int)
 else
 Rx.Bind (qj x0.Kind) fun r1003=>
 Let (decide (x0.ID<(1:Int))) fun x1004=>
 Let (decide (x0.ID>(1099511627776:Int))) fun x1005=>
 Let (bif x1004 then true else x1005) fun x1006=>
 Let (bif r1003.fst then x1006 else false) fun x1007=>
 Rx.Bind (if (x1007==false&&r1003.snd.fst==true)=true then yq x0.Vec.X else some default)
 fun r1008=>
 Rx.Bind
 (if (x1007==false&&r1003.snd.fst==true&&r1008==false)=true then yq x0.Vec.Y
 else some default)
 fun r1009=>
 Let (bif r1008 then true else r1009) fun x1010=>
 Let (bif r1003.snd.fst then x1010 else false) fun x1011=>
 Let (bif x1007 then true else x1011) fun x1012=>
 Rx.Bind (if (x1012==false&&r1003.snd.snd==true)=true then yq x0.Value else some default)
 fun r1013=>
 Let (bif r1003.snd.snd then r1013 else false) fun x1014=>
 Let (bif x1012 then true else x1014) fun x1015=>
 if x1015=true then some (6:Int)
 else
 Let (!r1003.fst) fun x1016=>
 Let (x0.ID != (0:Int)) fun x1017=>
 Let (bif x1016 then x1017 else false) fun x1018=>
 Let (!r1003.snd.fst) fun x1019=>
 Let (!(decide (x0.Vec.X=(0:Int))&&decide (x0.Vec.Y=(0:Int)))) fun x1020=>
 Let (bif x1019 then x1020 else false) fun x1021=>
 Let (bif x1018 then true else x1021) fun x1022=>
 Let (!r1003.snd.snd) fun x1023=>
 Let (x0.Value != (0:Int)) fun x1024=>
 Let (bif x1023 then x1024 else false) fun x1025=>
 Let (bif x1022 then true else x1025) fun x1026=>
 Let (x0.Kind != (9:Int)) fun x1027=>
 Rx.Bind
 (if (x1026==false&&x1027==true)=true then
 yC x0.Body
 {ID:=(0:Int),Kind:=(0:Int),Transform:={Position:={X:=(0:Int),Y:=(0:Int):Vec},qy:=(0:Int):Transform},jZ:={X:=(0:Int),Y:=(0:Int):Vec},jC:=(0:Int),YA:={X:=(0:Int),Y:=(0:Int):Vec},Yl:=(0:Int),jN:=(0:Int),jI:=(0:Int),jR:=(0:Int),YO:=false,jQ:=false,yE:=false,YP:=false,Jt:=(0:Int),jk:=[]:Body}
 else some default)
 fun r1028=>
 Let (!r1028) fun x1029=>
 Let (bif x1027 then x1029 else false) fun x1030=>
 Let (bif x1026 then true else x1030) fun x1031=>
 Let (x0.Kind != (11:Int)) fun x1032=>
 Let
 (!(decide (x0.jn.ID=(0:Int))&&
 (decide (x0.jn.Kind=(0:Int))&&
 (decide (x0.jn.QS=(0:Int))&&
 (decide (x0.jn.QR=(0:Int))&&
 (decide (x0.jn.JS.X=(0:Int))&&decide (x0.jn.JS.Y=(0:Int))&&
 (decide (x0.jn.JR.X=(0:Int))&&decide (x0.jn.JR.Y=(0:Int))&&
 (decide (x0.jn.KO.X=(0:Int))&&decide (x0.jn.KO.Y=(0:Int))&&
 (decide (x0.jn.jM=(0:Int))&&
 (decide (x0.jn.Jf=false)&&
 (decide (x0.jn.QP=(0:Int))&&
 (decide (x0.jn.QN=(0:Int))&&
 (decide (x0.jn.Je=false)&&
 (decide (x0.jn.Jl=(0:Int))&&
 (decide (x0.jn.JQ=(0:Int))&&
 (decide (x0.jn.JP=(0:Int))&&
 (decide (x0.jn.Jm=(0:Int))&&
 (decide (x0.jn.jH=false)&&
 (decide (x0.jn.jx.fst=(0:Int))&&
 (decide (x0.jn.jx.snd.fst=(0:Int))&&
 (decide (x0.jn.jx.snd.snd.fst=(0:Int))&&
 decide (x0.jn.jx.snd.snd.snd=(0:Int)))))))))))))))))))))))
 fun x1033=>
 Let (bif x1032 then x1033 else false) fun x1034=>
 Let (bif x1031 then true else x1034) fun x1035=>if x1035=true then some (3:Int) else some (0:Int)
end GoForm
