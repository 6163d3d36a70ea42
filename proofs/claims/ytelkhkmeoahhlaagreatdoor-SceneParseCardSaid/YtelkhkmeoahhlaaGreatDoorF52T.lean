/- The types that occur, as plain data. Printed by gen3.py. No conditions. -/
import Derived.Test.YtelkhkmeoahhlaaGreatDoorQD
import Derived.Test.YtelkhkmeoahhlaaGreatDoorQD
import Derived.Test.YtelkhkmeoahhlaaGreatDoorF52N
import Derived.Test.YtelkhkmeoahhlaaGreatDoorProg
set_option linter.all false
set_option maxRecDepth 100000
open Go Go.Rx Go.Proofs Go.RowKit
namespace GoForm
structure Vec where
 X:Int
 Y:Int
 deriving DecidableEq,Inhabited
structure Transform where
 Position:Vec
 Zg:Int
 deriving DecidableEq,Inhabited
structure Shape where
 Kind:Int
 yn:Int
 jg:(List Vec)
 deriving DecidableEq,Inhabited
structure jT where
 Shape:Shape
 YN:Int
 yA:Int
 Je:Int
 kW:Bool
 Category:Int
 Mask:Int
 Ki:Int
 deriving DecidableEq,Inhabited
structure Body where
 ID:Int
 Kind:Int
 Transform:Transform
 jX:Vec
 jm:Int
 qu:Vec
 Yq:Int
 jR:Int
 jJ:Int
 jW:Int
 QH:Bool
 Jf:Bool
 QG:Bool
 qe:Bool
 JC:Int
 jf:(List jT)
 deriving DecidableEq,Inhabited
structure jH where
 YA:Int
 yF:Vec
 JP:Int
 JO:Int
 deriving DecidableEq,Inhabited
structure yP where
 ID:Int
 Kind:Int
 JE:Int
 JH:Int
 yN:Vec
 Ye:Vec
 Wb:Vec
 Ja:Int
 Jk:Bool
 kg:Int
 kO:Int
 Jm:Bool
 JY:Int
 YU:Int
 YT:Int
 JZ:Int
 Jc:Bool
 jD:(Int × Int × Int × Int)
 deriving DecidableEq,Inhabited
structure jC where
 JE:Int
 Jd:Int
 JH:Int
 Jj:Int
 deriving DecidableEq,Inhabited
structure jS where
 ve:Vec
 Ys:Int
 ID:Int
 Jt:Int
 Jx:Int
 deriving DecidableEq,Inhabited
structure jt where
 zT:Vec
 jY:(List jS)
 deriving DecidableEq,Inhabited
structure JL where
 Key:jC
 jt:jt
 deriving DecidableEq,Inhabited
structure jo where
 jH:jH
 ji:(List Body)
 jP:(List yP)
 jc:(List JL)
 Overlaps:(List jC)
 yM:Int
 Frame:Int
 deriving DecidableEq,Inhabited
structure jy where
 e:Vec
 f:Vec
 jiN:Int
 deriving DecidableEq,Inhabited
structure jw where
 negative:Bool
 qq:Int
 unit:Int
 deriving DecidableEq,Inhabited
structure Ku where
 w:jo
 jdc:Int
 deriving DecidableEq,Inhabited
inductive Ix|tint|tVec|tTransform|tbool|tsl_Vec|tShape|tFixture|tsl_Fixture|tBody|tsl_Body|tSettings|tar4_int|tJoint|tsl_Joint|tPairKey|tContactPoint|tsl_ContactPoint|tManifold|tContact|tsl_Contact|tsl_PairKey|tWorld_|tpolygon_triangle|tsl_polygon_triangle|tsl_int|tsl_sl_PairKey|tstr|tu64|tbyte|tsl_str|tformat_decimal|tscene_parser
 deriving DecidableEq
def jeH:Int->AV:=((Zx .i64)).el1
def UO:Ac Vec:=jbY (fun x=>(x.X,x.Y)) (JT (Zx .i64) (Zx .i64))
def jeI:Vec->AV:=(UO).elA
def wL:Ac Transform:=jbY (fun x=>(x.Position,x.Zg)) (JT UO (Zx .i64))
def Pn:Transform->AV:=(wL).elA
def e_bool:Bool->AV:=(UQ).el1
def jiK:(List Vec)->AV:=((aSl 2 jeI)).el1
def jal:Ac Shape:=jbY (fun x=>(x.Kind,x.yn,x.jg)) (JT (Zx .i64) (JT (Zx .i64) (aSl 2 jeI)))
def jle:Shape->AV:=(jal).elA
def PD:Ac jT:=jbY (fun x=>(x.Shape,x.YN,x.yA,x.Je,x.kW,x.Category,x.Mask,x.Ki)) (JT jal (JT (Zx .i64) (JT (Zx .i64) (JT (Zx .i64) (JT UQ (JT (Zx .i64) (JT (Zx .i64) (Zx .i64))))))))
def VJ:jT->AV:=(PD).elA
def WA:(List jT)->AV:=((aSl 10 VJ)).el1
def jhy:Ac Body:=jbY (fun x=>(x.ID,x.Kind,x.Transform,x.jX,x.jm,x.qu,x.Yq,x.jR,x.jJ,x.jW,x.QH,x.Jf,x.QG,x.qe,x.JC,x.jf)) (JT (Zx .i64) (JT (Zx .i64) (JT wL (JT UO (JT (Zx .i64) (JT UO (JT (Zx .i64) (JT (Zx .i64) (JT (Zx .i64) (JT (Zx .i64) (JT UQ (JT UQ (JT UQ (JT UQ (JT (Zx .i64) (aSl 10 VJ))))))))))))))))
def jdK:Body->AV:=(jhy).elA
def jbH:(List Body)->AV:=((aSl 20 jdK)).el1
def uc:Ac jH:=jbY (fun x=>(x.YA,x.yF,x.JP,x.JO)) (JT (Zx .i64) (JT UO (JT (Zx .i64) (Zx .i64))))
def mV:jH->AV:=(uc).elA
def jgX:(Int × Int × Int × Int)->AV:=((JT (Zx .i64) (JT (Zx .i64) (JT (Zx .i64) (Zx .i64))))).elA
def jcZ:Ac yP:=jbY (fun x=>(x.ID,x.Kind,x.JE,x.JH,x.yN,x.Ye,x.Wb,x.Ja,x.Jk,x.kg,x.kO,x.Jm,x.JY,x.YU,x.YT,x.JZ,x.Jc,x.jD)) (JT (Zx .i64) (JT (Zx .i64) (JT (Zx .i64) (JT (Zx .i64) (JT UO (JT UO (JT UO (JT (Zx .i64) (JT UQ (JT (Zx .i64) (JT (Zx .i64) (JT UQ (JT (Zx .i64) (JT (Zx .i64) (JT (Zx .i64) (JT (Zx .i64) (JT UQ (JT (Zx .i64) (JT (Zx .i64) (JT (Zx .i64) (Zx .i64)))))))))))))))))))))
def uV:yP->AV:=(jcZ).elA
def mT:(List yP)->AV:=((aSl 24 uV)).el1
def UP:Ac jC:=jbY (fun x=>(x.JE,x.Jd,x.JH,x.Jj)) (JT (Zx .i64) (JT (Zx .i64) (JT (Zx .i64) (Zx .i64))))
def WB:jC->AV:=(UP).elA
def Vr:Ac jS:=jbY (fun x=>(x.ve,x.Ys,x.ID,x.Jt,x.Jx)) (JT UO (JT (Zx .i64) (JT (Zx .i64) (JT (Zx .i64) (Zx .i64)))))
def ZH:jS->AV:=(Vr).elA
def Kd:(List jS)->AV:=((aSl 6 ZH)).el1
def ud:Ac jt:=jbY (fun x=>(x.zT,x.jY)) (JT UO (aSl 6 ZH))
def jeJ:jt->AV:=(ud).elA
def PE:Ac JL:=jbY (fun x=>(x.Key,x.jt)) (JT UP ud)
def UG:JL->AV:=(PE).elA
def Xw:(List JL)->AV:=((aSl 7 UG)).el1
def Va:(List jC)->AV:=((aSl 4 WB)).el1
def pf:Ac jo:=jbY (fun x=>(x.jH,x.ji,x.jP,x.jc,x.Overlaps,x.yM,x.Frame)) (JT uc (JT (aSl 20 jdK) (JT (aSl 24 uV) (JT (aSl 7 UG) (JT (aSl 4 WB) (JT (Zx .i64) (Zx .i64)))))))
def wB:jo->AV:=(pf).elA
def kN:Ac jy:=jbY (fun x=>(x.e,x.f,x.jiN)) (JT UO (JT UO (Zx .i64)))
def kC:jy->AV:=(kN).elA
def Wz:(List jy)->AV:=((aSl 5 kC)).el1
def Zr:(List Int)->AV:=((aSl 1 jeH)).el1
def Pm:(List (List jC))->AV:=((aSl 1 Va)).el1
def KY:(List UInt8)->AV:=(aStr).el1
def e_u64:Int->AV:=((Zx .u64)).el1
def e_byte:UInt8->AV:=(jhz).el1
def jQ:(List (List UInt8))->AV:=((aSl 1 KY)).el1
def KP:Ac jw:=jbY (fun x=>(x.negative,x.qq,x.unit)) (JT UQ (JT (Zx .u64) (Zx .u64)))
def XM:jw->AV:=(KP).elA
def Vq:Ac Ku:=jbY (fun x=>(x.w,x.jdc)) (JT pf (Zx .i64))
def mq:Ku->AV:=(Vq).elA
noncomputable def tb:Tb where
 P:=Tryz.prog
 Ix:=Ix
 dec:=inferInstance
 T:=fun| .tint=>Int| .tVec=>Vec| .tTransform=>Transform| .tbool=>Bool| .tsl_Vec=>(List Vec)| .tShape=>Shape| .tFixture=>jT| .tsl_Fixture=>(List jT)| .tBody=>Body| .tsl_Body=>(List Body)| .tSettings=>jH| .tar4_int=>(Int × Int × Int × Int)| .tJoint=>yP| .tsl_Joint=>(List yP)| .tPairKey=>jC| .tContactPoint=>jS| .tsl_ContactPoint=>(List jS)| .tManifold=>jt| .tContact=>JL| .tsl_Contact=>(List JL)| .tsl_PairKey=>(List jC)| .tWorld_=>jo| .tpolygon_triangle=>jy| .tsl_polygon_triangle=>(List jy)| .tsl_int=>(List Int)| .tsl_sl_PairKey=>(List (List jC))| .tstr=>(List UInt8)| .tu64=>Int| .tbyte=>UInt8| .tsl_str=>(List (List UInt8))| .tformat_decimal=>jw| .tscene_parser=>Ku
 sz:=fun| .tint=>1| .tVec=>2| .tTransform=>3| .tbool=>1| .tsl_Vec=>1| .tShape=>3| .tFixture=>10| .tsl_Fixture=>1| .tBody=>20| .tsl_Body=>1| .tSettings=>5| .tar4_int=>4| .tJoint=>24| .tsl_Joint=>1| .tPairKey=>4| .tContactPoint=>6| .tsl_ContactPoint=>1| .tManifold=>3| .tContact=>7| .tsl_Contact=>1| .tsl_PairKey=>1| .tWorld_=>11| .tpolygon_triangle=>5| .tsl_polygon_triangle=>1| .tsl_int=>1| .tsl_sl_PairKey=>1| .tstr=>1| .tu64=>1| .tbyte=>1| .tsl_str=>1| .tformat_decimal=>3| .tscene_parser=>12
 el:=fun| .tint=>jeH| .tVec=>jeI| .tTransform=>Pn| .tbool=>e_bool| .tsl_Vec=>jiK| .tShape=>jle| .tFixture=>VJ| .tsl_Fixture=>WA| .tBody=>jdK| .tsl_Body=>jbH| .tSettings=>mV| .tar4_int=>jgX| .tJoint=>uV| .tsl_Joint=>mT| .tPairKey=>WB| .tContactPoint=>ZH| .tsl_ContactPoint=>Kd| .tManifold=>jeJ| .tContact=>UG| .tsl_Contact=>Xw| .tsl_PairKey=>Va| .tWorld_=>wB| .tpolygon_triangle=>kC| .tsl_polygon_triangle=>Wz| .tsl_int=>Zr| .tsl_sl_PairKey=>Pm| .tstr=>KY| .tu64=>e_u64| .tbyte=>e_byte| .tsl_str=>jQ| .tformat_decimal=>XM| .tscene_parser=>mq
 look n:=find n [(3,Ix.tint),(34,Ix.tint),(51,Ix.tint),(62,Ix.tint),(72,Ix.tint),(23,Ix.tVec),(53,Ix.tTransform),(4,Ix.tbool),(63,Ix.tsl_Vec),(65,Ix.tShape),(67,Ix.tFixture),(54,Ix.tsl_Fixture),(56,Ix.tBody),(26,Ix.tsl_Body),(25,Ix.tSettings),(73,Ix.tar4_int),(75,Ix.tJoint),(27,Ix.tsl_Joint),(86,Ix.tPairKey),(131,Ix.tContactPoint),(82,Ix.tsl_ContactPoint),(84,Ix.tManifold),(88,Ix.tContact),(28,Ix.tsl_Contact),(29,Ix.tsl_PairKey),(31,Ix.tWorld_),(258,Ix.tpolygon_triangle),(252,Ix.tsl_polygon_triangle),(41,Ix.tsl_int),(181,Ix.tsl_sl_PairKey),(9,Ix.tstr),(161,Ix.tu64),(5,Ix.tbyte),(50,Ix.tsl_str),(207,Ix.tformat_decimal),(147,Ix.tscene_parser)]
 byte:=some ⟨.tbyte,rfl,rfl,fun _=>rfl⟩
noncomputable def xK:Fc tb Vec:=jat (fun p=>⟨p.1,p.2⟩) (fun x=>(x.X,x.Y)) (yd (kh .i64) (kh .i64))
theorem XK:Xb (tb:=tb) UO xK:=uN (fun _=>rfl) (Jg (Yy .i64) (Yy .i64))
noncomputable def uU:Fc tb Transform:=jat (fun p=>⟨p.1,p.2⟩) (fun x=>(x.Position,x.Zg)) (yd xK (kh .i64))
theorem pV:Xb (tb:=tb) wL uU:=uN (fun _=>rfl) (Jg XK (Yy .i64))
noncomputable def jcH:Fc tb Shape:=jat (fun p=>⟨p.1,p.2.1,p.2.2⟩) (fun x=>(x.Kind,x.yn,x.jg)) (yd (kh .i64) (yd (kh .i64) (fSl (tb:=tb) .tVec)))
theorem jf6:Xb (tb:=tb) jal jcH:=uN (fun _=>rfl) (Jg (Yy .i64) (Jg (Yy .i64) (jas (tb:=tb) .tVec)))
noncomputable def jbC:Fc tb jT:=jat (fun p=>⟨p.1,p.2.1,p.2.2.1,p.2.2.2.1,p.2.2.2.2.1,p.2.2.2.2.2.1,p.2.2.2.2.2.2.1,p.2.2.2.2.2.2.2⟩) (fun x=>(x.Shape,x.YN,x.yA,x.Je,x.kW,x.Category,x.Mask,x.Ki)) (yd jcH (yd (kh .i64) (yd (kh .i64) (yd (kh .i64) (yd xN (yd (kh .i64) (yd (kh .i64) (kh .i64))))))))
theorem jf7:Xb (tb:=tb) PD jbC:=uN (fun _=>rfl) (Jg jf6 (Jg (Yy .i64) (Jg (Yy .i64) (Jg (Yy .i64) (Jg uq (Jg (Yy .i64) (Jg (Yy .i64) (Yy .i64))))))))
noncomputable def jjF:Fc tb Body:=jat (fun p=>⟨p.1,p.2.1,p.2.2.1,p.2.2.2.1,p.2.2.2.2.1,p.2.2.2.2.2.1,p.2.2.2.2.2.2.1,p.2.2.2.2.2.2.2.1,p.2.2.2.2.2.2.2.2.1,p.2.2.2.2.2.2.2.2.2.1,p.2.2.2.2.2.2.2.2.2.2.1,p.2.2.2.2.2.2.2.2.2.2.2.1,p.2.2.2.2.2.2.2.2.2.2.2.2.1,p.2.2.2.2.2.2.2.2.2.2.2.2.2.1,p.2.2.2.2.2.2.2.2.2.2.2.2.2.2.1,p.2.2.2.2.2.2.2.2.2.2.2.2.2.2.2⟩) (fun x=>(x.ID,x.Kind,x.Transform,x.jX,x.jm,x.qu,x.Yq,x.jR,x.jJ,x.jW,x.QH,x.Jf,x.QG,x.qe,x.JC,x.jf)) (yd (kh .i64) (yd (kh .i64) (yd uU (yd xK (yd (kh .i64) (yd xK (yd (kh .i64) (yd (kh .i64) (yd (kh .i64) (yd (kh .i64) (yd xN (yd xN (yd xN (yd xN (yd (kh .i64) (fSl (tb:=tb) .tFixture))))))))))))))))
theorem o_Body:Xb (tb:=tb) jhy jjF:=uN (fun _=>rfl) (Jg (Yy .i64) (Jg (Yy .i64) (Jg pV (Jg XK (Jg (Yy .i64) (Jg XK (Jg (Yy .i64) (Jg (Yy .i64) (Jg (Yy .i64) (Jg (Yy .i64) (Jg uq (Jg uq (Jg uq (Jg uq (Jg (Yy .i64) (jas (tb:=tb) .tFixture))))))))))))))))
noncomputable def xL:Fc tb jH:=jat (fun p=>⟨p.1,p.2.1,p.2.2.1,p.2.2.2⟩) (fun x=>(x.YA,x.yF,x.JP,x.JO)) (yd (kh .i64) (yd xK (yd (kh .i64) (kh .i64))))
theorem mI:Xb (tb:=tb) uc xL:=uN (fun _=>rfl) (Jg (Yy .i64) (Jg XK (Jg (Yy .i64) (Yy .i64))))
noncomputable def jgT:Fc tb yP:=jat (fun p=>⟨p.1,p.2.1,p.2.2.1,p.2.2.2.1,p.2.2.2.2.1,p.2.2.2.2.2.1,p.2.2.2.2.2.2.1,p.2.2.2.2.2.2.2.1,p.2.2.2.2.2.2.2.2.1,p.2.2.2.2.2.2.2.2.2.1,p.2.2.2.2.2.2.2.2.2.2.1,p.2.2.2.2.2.2.2.2.2.2.2.1,p.2.2.2.2.2.2.2.2.2.2.2.2.1,p.2.2.2.2.2.2.2.2.2.2.2.2.2.1,p.2.2.2.2.2.2.2.2.2.2.2.2.2.2.1,p.2.2.2.2.2.2.2.2.2.2.2.2.2.2.2.1,p.2.2.2.2.2.2.2.2.2.2.2.2.2.2.2.2.1,p.2.2.2.2.2.2.2.2.2.2.2.2.2.2.2.2.2⟩) (fun x=>(x.ID,x.Kind,x.JE,x.JH,x.yN,x.Ye,x.Wb,x.Ja,x.Jk,x.kg,x.kO,x.Jm,x.JY,x.YU,x.YT,x.JZ,x.Jc,x.jD)) (yd (kh .i64) (yd (kh .i64) (yd (kh .i64) (yd (kh .i64) (yd xK (yd xK (yd xK (yd (kh .i64) (yd xN (yd (kh .i64) (yd (kh .i64) (yd xN (yd (kh .i64) (yd (kh .i64) (yd (kh .i64) (yd (kh .i64) (yd xN (yd (kh .i64) (yd (kh .i64) (yd (kh .i64) (kh .i64)))))))))))))))))))))
theorem jkA:Xb (tb:=tb) jcZ jgT:=uN (fun _=>rfl) (Jg (Yy .i64) (Jg (Yy .i64) (Jg (Yy .i64) (Jg (Yy .i64) (Jg XK (Jg XK (Jg XK (Jg (Yy .i64) (Jg uq (Jg (Yy .i64) (Jg (Yy .i64) (Jg uq (Jg (Yy .i64) (Jg (Yy .i64) (Jg (Yy .i64) (Jg (Yy .i64) (Jg uq (Jg (Yy .i64) (Jg (Yy .i64) (Jg (Yy .i64) (Yy .i64)))))))))))))))))))))
noncomputable def Pl:Fc tb jC:=jat (fun p=>⟨p.1,p.2.1,p.2.2.1,p.2.2.2⟩) (fun x=>(x.JE,x.Jd,x.JH,x.Jj)) (yd (kh .i64) (yd (kh .i64) (yd (kh .i64) (kh .i64))))
theorem ja9:Xb (tb:=tb) UP Pl:=uN (fun _=>rfl) (Jg (Yy .i64) (Jg (Yy .i64) (Jg (Yy .i64) (Yy .i64))))
noncomputable def uv:Fc tb jS:=jat (fun p=>⟨p.1,p.2.1,p.2.2.1,p.2.2.2.1,p.2.2.2.2⟩) (fun x=>(x.ve,x.Ys,x.ID,x.Jt,x.Jx)) (yd xK (yd (kh .i64) (yd (kh .i64) (yd (kh .i64) (kh .i64)))))
theorem mj:Xb (tb:=tb) Vr uv:=uN (fun _=>rfl) (Jg XK (Jg (Yy .i64) (Jg (Yy .i64) (Jg (Yy .i64) (Yy .i64)))))
noncomputable def xM:Fc tb jt:=jat (fun p=>⟨p.1,p.2⟩) (fun x=>(x.zT,x.jY)) (yd xK (fSl (tb:=tb) .tContactPoint))
theorem mJ:Xb (tb:=tb) ud xM:=uN (fun _=>rfl) (Jg XK (jas (tb:=tb) .tContactPoint))
noncomputable def jbD:Fc tb JL:=jat (fun p=>⟨p.1,p.2⟩) (fun x=>(x.Key,x.jt)) (yd Pl xM)
theorem jf8:Xb (tb:=tb) PE jbD:=uN (fun _=>rfl) (Jg ja9 mJ)
noncomputable def MZ:Fc tb jo:=jat (fun p=>⟨p.1,p.2.1,p.2.2.1,p.2.2.2.1,p.2.2.2.2.1,p.2.2.2.2.2.1,p.2.2.2.2.2.2⟩) (fun x=>(x.jH,x.ji,x.jP,x.jc,x.Overlaps,x.yM,x.Frame)) (yd xL (yd (fSl (tb:=tb) .tBody) (yd (fSl (tb:=tb) .tJoint) (yd (fSl (tb:=tb) .tContact) (yd (fSl (tb:=tb) .tPairKey) (yd (kh .i64) (kh .i64)))))))
theorem jdo:Xb (tb:=tb) pf MZ:=uN (fun _=>rfl) (Jg mI (Jg (jas (tb:=tb) .tBody) (Jg (jas (tb:=tb) .tJoint) (Jg (jas (tb:=tb) .tContact) (Jg (jas (tb:=tb) .tPairKey) (Jg (Yy .i64) (Yy .i64)))))))
noncomputable def vX:Fc tb jy:=jat (fun p=>⟨p.1,p.2.1,p.2.2⟩) (fun x=>(x.e,x.f,x.jiN)) (yd xK (yd xK (kh .i64)))
theorem Uu:Xb (tb:=tb) kN vX:=uN (fun _=>rfl) (Jg XK (Jg XK (Yy .i64)))
noncomputable def wS:Fc tb jw:=jat (fun p=>⟨p.1,p.2.1,p.2.2⟩) (fun x=>(x.negative,x.qq,x.unit)) (yd xN (yd (kh .u64) (kh .u64)))
theorem XJ:Xb (tb:=tb) KP wS:=uN (fun _=>rfl) (Jg uq (Jg (Yy .u64) (Yy .u64)))
noncomputable def uu:Fc tb Ku:=jat (fun p=>⟨p.1,p.2⟩) (fun x=>(x.w,x.jdc)) (yd MZ (kh .i64))
theorem mi:Xb (tb:=tb) Vq uu:=uN (fun _=>rfl) (Jg jdo (Yy .i64))
noncomputable def cd:(i:Ix)->Cd tb i
 | .tint=>cd1 (tb:=tb) (i:=Ix.tint) (kh .i64) (default:Int) true
 | .tVec=>cdA (tb:=tb) (i:=Ix.tVec) xK (default:Vec) true
 | .tTransform=>cdA (tb:=tb) (i:=Ix.tTransform) uU (default:Transform) true
 | .tbool=>cd1 (tb:=tb) (i:=Ix.tbool) xN (default:Bool) true
 | .tsl_Vec=>cd1 (tb:=tb) (i:=Ix.tsl_Vec) (fSl (tb:=tb) .tVec) (default:(List Vec)) false
 | .tShape=>cdA (tb:=tb) (i:=Ix.tShape) jcH (default:Shape) false
 | .tFixture=>cdA (tb:=tb) (i:=Ix.tFixture) jbC (default:jT) false
 | .tsl_Fixture=>cd1 (tb:=tb) (i:=Ix.tsl_Fixture) (fSl (tb:=tb) .tFixture) (default:(List jT)) false
 | .tBody=>cdA (tb:=tb) (i:=Ix.tBody) jjF (default:Body) false
 | .tsl_Body=>cd1 (tb:=tb) (i:=Ix.tsl_Body) (fSl (tb:=tb) .tBody) (default:(List Body)) false
 | .tSettings=>cdA (tb:=tb) (i:=Ix.tSettings) xL (default:jH) true
 | .tar4_int=>cdA (tb:=tb) (i:=Ix.tar4_int) (yd (kh .i64) (yd (kh .i64) (yd (kh .i64) (kh .i64)))) (default:(Int × Int × Int × Int)) true
 | .tJoint=>cdA (tb:=tb) (i:=Ix.tJoint) jgT (default:yP) true
 | .tsl_Joint=>cd1 (tb:=tb) (i:=Ix.tsl_Joint) (fSl (tb:=tb) .tJoint) (default:(List yP)) false
 | .tPairKey=>cdA (tb:=tb) (i:=Ix.tPairKey) Pl (default:jC) true
 | .tContactPoint=>cdA (tb:=tb) (i:=Ix.tContactPoint) uv (default:jS) true
 | .tsl_ContactPoint=>cd1 (tb:=tb) (i:=Ix.tsl_ContactPoint) (fSl (tb:=tb) .tContactPoint) (default:(List jS)) false
 | .tManifold=>cdA (tb:=tb) (i:=Ix.tManifold) xM (default:jt) false
 | .tContact=>cdA (tb:=tb) (i:=Ix.tContact) jbD (default:JL) false
 | .tsl_Contact=>cd1 (tb:=tb) (i:=Ix.tsl_Contact) (fSl (tb:=tb) .tContact) (default:(List JL)) false
 | .tsl_PairKey=>cd1 (tb:=tb) (i:=Ix.tsl_PairKey) (fSl (tb:=tb) .tPairKey) (default:(List jC)) false
 | .tWorld_=>cdA (tb:=tb) (i:=Ix.tWorld_) MZ (default:jo) false
 | .tpolygon_triangle=>cdA (tb:=tb) (i:=Ix.tpolygon_triangle) vX (default:jy) true
 | .tsl_polygon_triangle=>cd1 (tb:=tb) (i:=Ix.tsl_polygon_triangle) (fSl (tb:=tb) .tpolygon_triangle) (default:(List jy)) false
 | .tsl_int=>cd1 (tb:=tb) (i:=Ix.tsl_int) (fSl (tb:=tb) .tint) (default:(List Int)) false
 | .tsl_sl_PairKey=>cd1 (tb:=tb) (i:=Ix.tsl_sl_PairKey) (fSl (tb:=tb) .tsl_PairKey) (default:(List (List jC))) false
 | .tstr=>cd1 (tb:=tb) (i:=Ix.tstr) fStr (default:(List UInt8)) true
 | .tu64=>cd1 (tb:=tb) (i:=Ix.tu64) (kh .u64) (default:Int) true
 | .tbyte=>cd1 (tb:=tb) (i:=Ix.tbyte) jiH (default:UInt8) true
 | .tsl_str=>cd1 (tb:=tb) (i:=Ix.tsl_str) (fSl (tb:=tb) .tstr) (default:(List (List UInt8))) false
 | .tformat_decimal=>cdA (tb:=tb) (i:=Ix.tformat_decimal) wS (default:jw) true
 | .tscene_parser=>cdA (tb:=tb) (i:=Ix.tscene_parser) uu (default:Ku) false
theorem cd_ok:∀i:Ix,jlK (cd i)
 | .tint=>ok1 (tb:=tb) (i:=Ix.tint) (a:=(Zx .i64)) (Yy .i64) (fun _=>rfl) rfl rfl (fun _ _=>rfl)
 | .tVec=>okA (tb:=tb) (i:=Ix.tVec) (a:=UO) XK (fun _=>rfl) rfl rfl (fun _ _=>rfl)
 | .tTransform=>okA (tb:=tb) (i:=Ix.tTransform) (a:=wL) pV (fun _=>rfl) rfl rfl (fun _ _=>rfl)
 | .tbool=>ok1 (tb:=tb) (i:=Ix.tbool) (a:=UQ) uq (fun _=>rfl) rfl rfl (fun _ _=>rfl)
 | .tsl_Vec=>ok1 (tb:=tb) (i:=Ix.tsl_Vec) (a:=(aSl 2 jeI)) (jas (tb:=tb) .tVec) (fun _=>rfl) rfl rfl (fun h=>by cases h)
 | .tShape=>okA (tb:=tb) (i:=Ix.tShape) (a:=jal) jf6 (fun _=>rfl) rfl rfl (fun h=>by cases h)
 | .tFixture=>okA (tb:=tb) (i:=Ix.tFixture) (a:=PD) jf7 (fun _=>rfl) rfl rfl (fun h=>by cases h)
 | .tsl_Fixture=>ok1 (tb:=tb) (i:=Ix.tsl_Fixture) (a:=(aSl 10 VJ)) (jas (tb:=tb) .tFixture) (fun _=>rfl) rfl rfl (fun h=>by cases h)
 | .tBody=>okA (tb:=tb) (i:=Ix.tBody) (a:=jhy) o_Body (fun _=>rfl) rfl rfl (fun h=>by cases h)
 | .tsl_Body=>ok1 (tb:=tb) (i:=Ix.tsl_Body) (a:=(aSl 20 jdK)) (jas (tb:=tb) .tBody) (fun _=>rfl) rfl rfl (fun h=>by cases h)
 | .tSettings=>okA (tb:=tb) (i:=Ix.tSettings) (a:=uc) mI (fun _=>rfl) rfl rfl (fun _ _=>rfl)
 | .tar4_int=>okA (tb:=tb) (i:=Ix.tar4_int) (a:=(JT (Zx .i64) (JT (Zx .i64) (JT (Zx .i64) (Zx .i64))))) (Jg (Yy .i64) (Jg (Yy .i64) (Jg (Yy .i64) (Yy .i64)))) (fun _=>rfl) rfl rfl (fun _ _=>rfl)
 | .tJoint=>okA (tb:=tb) (i:=Ix.tJoint) (a:=jcZ) jkA (fun _=>rfl) rfl rfl (fun _ _=>rfl)
 | .tsl_Joint=>ok1 (tb:=tb) (i:=Ix.tsl_Joint) (a:=(aSl 24 uV)) (jas (tb:=tb) .tJoint) (fun _=>rfl) rfl rfl (fun h=>by cases h)
 | .tPairKey=>okA (tb:=tb) (i:=Ix.tPairKey) (a:=UP) ja9 (fun _=>rfl) rfl rfl (fun _ _=>rfl)
 | .tContactPoint=>okA (tb:=tb) (i:=Ix.tContactPoint) (a:=Vr) mj (fun _=>rfl) rfl rfl (fun _ _=>rfl)
 | .tsl_ContactPoint=>ok1 (tb:=tb) (i:=Ix.tsl_ContactPoint) (a:=(aSl 6 ZH)) (jas (tb:=tb) .tContactPoint) (fun _=>rfl) rfl rfl (fun h=>by cases h)
 | .tManifold=>okA (tb:=tb) (i:=Ix.tManifold) (a:=ud) mJ (fun _=>rfl) rfl rfl (fun h=>by cases h)
 | .tContact=>okA (tb:=tb) (i:=Ix.tContact) (a:=PE) jf8 (fun _=>rfl) rfl rfl (fun h=>by cases h)
 | .tsl_Contact=>ok1 (tb:=tb) (i:=Ix.tsl_Contact) (a:=(aSl 7 UG)) (jas (tb:=tb) .tContact) (fun _=>rfl) rfl rfl (fun h=>by cases h)
 | .tsl_PairKey=>ok1 (tb:=tb) (i:=Ix.tsl_PairKey) (a:=(aSl 4 WB)) (jas (tb:=tb) .tPairKey) (fun _=>rfl) rfl rfl (fun h=>by cases h)
 | .tWorld_=>okA (tb:=tb) (i:=Ix.tWorld_) (a:=pf) jdo (fun _=>rfl) rfl rfl (fun h=>by cases h)
 | .tpolygon_triangle=>okA (tb:=tb) (i:=Ix.tpolygon_triangle) (a:=kN) Uu (fun _=>rfl) rfl rfl (fun _ _=>rfl)
 | .tsl_polygon_triangle=>ok1 (tb:=tb) (i:=Ix.tsl_polygon_triangle) (a:=(aSl 5 kC)) (jas (tb:=tb) .tpolygon_triangle) (fun _=>rfl) rfl rfl (fun h=>by cases h)
 | .tsl_int=>ok1 (tb:=tb) (i:=Ix.tsl_int) (a:=(aSl 1 jeH)) (jas (tb:=tb) .tint) (fun _=>rfl) rfl rfl (fun h=>by cases h)
 | .tsl_sl_PairKey=>ok1 (tb:=tb) (i:=Ix.tsl_sl_PairKey) (a:=(aSl 1 Va)) (jas (tb:=tb) .tsl_PairKey) (fun _=>rfl) rfl rfl (fun h=>by cases h)
 | .tstr=>ok1 (tb:=tb) (i:=Ix.tstr) (a:=aStr) okStr (fun _=>rfl) rfl rfl (fun _ _=>rfl)
 | .tu64=>ok1 (tb:=tb) (i:=Ix.tu64) (a:=(Zx .u64)) (Yy .u64) (fun _=>rfl) rfl rfl (fun _ _=>rfl)
 | .tbyte=>ok1 (tb:=tb) (i:=Ix.tbyte) (a:=jhz) okByte (fun _=>rfl) rfl rfl (fun _ _=>rfl)
 | .tsl_str=>ok1 (tb:=tb) (i:=Ix.tsl_str) (a:=(aSl 1 KY)) (jas (tb:=tb) .tstr) (fun _=>rfl) rfl rfl (fun h=>by cases h)
 | .tformat_decimal=>okA (tb:=tb) (i:=Ix.tformat_decimal) (a:=KP) XJ (fun _=>rfl) rfl rfl (fun _ _=>rfl)
 | .tscene_parser=>okA (tb:=tb) (i:=Ix.tscene_parser) (a:=Vq) mi (fun _=>rfl) rfl rfl (fun h=>by cases h)
theorem mixed:Tryz.prog.follows .mixedOrders=true:=by kernel_rfl
def Kh (x y:Vec):Bool:=(decide (x.X=y.X)&&decide (x.Y=y.Y))
def Uk (x y:jC):Bool:=(decide (x.JE=y.JE)&&(decide (x.Jd=y.Jd)&&(decide (x.JH=y.JH)&&decide (x.Jj=y.Jj))))
def wM (x y:Transform):Bool:=(Kh x.Position y.Position&&decide (x.Zg=y.Zg))
def KR (x y:jS):Bool:=(Kh x.ve y.ve&&(decide (x.Ys=y.Ys)&&(decide (x.ID=y.ID)&&(decide (x.Jt=y.Jt)&&decide (x.Jx=y.Jx)))))
def WM (x y:jH):Bool:=(decide (x.YA=y.YA)&&(Kh x.yF y.yF&&(decide (x.JP=y.JP)&&decide (x.JO=y.JO))))
def Pw (x y:(Int × Int × Int × Int)):Bool:=(decide (x.1=y.1)&&(decide (x.2.1=y.2.1)&&(decide (x.2.2.1=y.2.2.1)&&decide (x.2.2.2=y.2.2.2))))
def PJ (x y:yP):Bool:=(decide (x.ID=y.ID)&&(decide (x.Kind=y.Kind)&&(decide (x.JE=y.JE)&&(decide (x.JH=y.JH)&&(Kh x.yN y.yN&&(Kh x.Ye y.Ye&&(Kh x.Wb y.Wb&&(decide (x.Ja=y.Ja)&&(decide (x.Jk=y.Jk)&&(decide (x.kg=y.kg)&&(decide (x.kO=y.kO)&&(decide (x.Jm=y.Jm)&&(decide (x.JY=y.JY)&&(decide (x.YU=y.YU)&&(decide (x.YT=y.YT)&&(decide (x.JZ=y.JZ)&&(decide (x.Jc=y.Jc)&&Pw x.jD y.jD)))))))))))))))))
theorem eqt_23:EqT Tryz.prog 23 jeI Kh:=by
 refine⟨by kernel_rfl,fun x=>[.int .i64 x.X,.int .i64 x.Y],fun x=>rfl,fun w x y=>?_⟩
 rw[run_equalIn_struct w 9999 23 _ _ (by kernel_rfl) (by kernel_rfl)]
 simp[Program.fieldsOf,Op.eqFields,go_sem,jeB,Kh,Tryz.underlying3,Tryz.underlying23] <;> grind
theorem eqt_86:EqT Tryz.prog 86 WB Uk:=by
 refine⟨by kernel_rfl,fun x=>[.int .i64 x.JE,.int .i64 x.Jd,.int .i64 x.JH,.int .i64 x.Jj],fun x=>rfl,fun w x y=>?_⟩
 rw[run_equalIn_struct w 9999 86 _ _ (by kernel_rfl) (by kernel_rfl)]
 simp[Program.fieldsOf,Op.eqFields,go_sem,jeB,Uk,Tryz.underlying3,Tryz.underlying86] <;> grind
theorem eqt_53:EqT Tryz.prog 53 Pn wM:=by
 refine⟨by kernel_rfl,fun x=>[.int .i64 x.Position.X,.int .i64 x.Position.Y,.int .i64 x.Zg],fun x=>rfl,fun w x y=>?_⟩
 rw[run_equalIn_struct w 9999 53 _ _ (by kernel_rfl) (by kernel_rfl)]
 have q0:=fun(d:Nat) (w:Go.World) (xs ys:Array Value)=>run_equalIn_struct (P:=Tryz.prog) w d 23 xs ys (by kernel_rfl) (by kernel_rfl)
 simp[Program.fieldsOf,Op.eqFields,go_sem,jeB,wM,Kh,Tryz.underlying3,Tryz.underlying22,Tryz.underlying23,Tryz.underlying53,q0] <;> grind
theorem jld:EqT Tryz.prog 131 ZH KR:=by
 refine⟨by kernel_rfl,fun x=>[.int .i64 x.ve.X,.int .i64 x.ve.Y,.int .i64 x.Ys,.int .i64 x.ID,.int .i64 x.Jt,.int .i64 x.Jx],fun x=>rfl,fun w x y=>?_⟩
 rw[run_equalIn_struct w 9999 131 _ _ (by kernel_rfl) (by kernel_rfl)]
 have q0:=fun(d:Nat) (w:Go.World) (xs ys:Array Value)=>run_equalIn_struct (P:=Tryz.prog) w d 23 xs ys (by kernel_rfl) (by kernel_rfl)
 simp[Program.fieldsOf,Op.eqFields,go_sem,jeB,KR,Kh,Tryz.underlying3,Tryz.underlying22,Tryz.underlying23,Tryz.underlying131,q0] <;> grind
theorem eqt_25:EqT Tryz.prog 25 mV WM:=by
 refine⟨by kernel_rfl,fun x=>[.int .i64 x.YA,.int .i64 x.yF.X,.int .i64 x.yF.Y,.int .i64 x.JP,.int .i64 x.JO],fun x=>rfl,fun w x y=>?_⟩
 rw[run_equalIn_struct w 9999 25 _ _ (by kernel_rfl) (by kernel_rfl)]
 have q0:=fun(d:Nat) (w:Go.World) (xs ys:Array Value)=>run_equalIn_struct (P:=Tryz.prog) w d 23 xs ys (by kernel_rfl) (by kernel_rfl)
 simp[Program.fieldsOf,Op.eqFields,go_sem,jeB,WM,Kh,Tryz.underlying3,Tryz.underlying22,Tryz.underlying23,Tryz.underlying25,q0] <;> grind
theorem eqt_75:EqT Tryz.prog 75 uV PJ:=by
 refine⟨by kernel_rfl,fun x=>[.int .i64 x.ID,.int .i64 x.Kind,.int .i64 x.JE,.int .i64 x.JH,.int .i64 x.yN.X,.int .i64 x.yN.Y,.int .i64 x.Ye.X,.int .i64 x.Ye.Y,.int .i64 x.Wb.X,.int .i64 x.Wb.Y,.int .i64 x.Ja,.bool x.Jk,.int .i64 x.kg,.int .i64 x.kO,.bool x.Jm,.int .i64 x.JY,.int .i64 x.YU,.int .i64 x.YT,.int .i64 x.JZ,.bool x.Jc,.int .i64 x.jD.1,.int .i64 x.jD.2.1,.int .i64 x.jD.2.2.1,.int .i64 x.jD.2.2.2],fun x=>rfl,fun w x y=>?_⟩
 rw[run_equalIn_struct w 9999 75 _ _ (by kernel_rfl) (by kernel_rfl)]
 have qa0:=XB (P:=Tryz.prog) (t:=73) (E:=3) (k:=.i64) (by kernel_rfl) (by kernel_rfl) (by kernel_rfl) (by kernel_rfl)
 have q0:=fun(d:Nat) (w:Go.World) (xs ys:Array Value)=>run_equalIn_struct (P:=Tryz.prog) w d 23 xs ys (by kernel_rfl) (by kernel_rfl)
 simp[Program.fieldsOf,Op.eqFields,go_sem,jeB,PJ,Kh,Pw,Tryz.underlying3,Tryz.underlying4,Tryz.underlying22,Tryz.underlying23,Tryz.underlying72,Tryz.underlying73,Tryz.underlying75,qa0,q0] <;> grind
noncomputable def eqs:List (EqE Tryz.prog tb):=[⟨23,Ix.tVec,Kh,eqt_23⟩,⟨86,Ix.tPairKey,Uk,eqt_86⟩,⟨53,Ix.tTransform,wM,eqt_53⟩,⟨131,Ix.tContactPoint,KR,jld⟩,⟨25,Ix.tSettings,WM,eqt_25⟩,⟨75,Ix.tJoint,PJ,eqt_75⟩]
noncomputable def cx0:Ctx Tryz.prog tb:=⟨cd,cd_ok,[],[],eqs,mixed,rfl,[]⟩
noncomputable def isF:List (SV tb)->Option (SV tb)
 | [a,.ifc t (.agg [])]=>tst (Nat.beq t 102) (match a with
   | .con .nilIface=>some (.con (.bool false))
   | .ifc t1 (.agg [n,.ifc t2 (.agg [])])=>tst (Nat.beq t1 104) <|tst (Nat.beq t2 102) <|got (asI n) fun p=>tst (decide (p.1=.i64)) (some (.con (.bool true)))
   |_=>none)
 |_=>none
theorem jjj {m:Mem}{a b:AV}{x y:Value}{vs:List Value}(h:JK m jh [a,b] vs)(ha:∀v,Rep m jh a v->v=x)(hb:∀v,Rep m jh b v->v=y):vs=[x,y]:=by
 obtain⟨p,q,rfl,h1,h2⟩:=uf h
 rw[ha _ h1,hb _ h2]
theorem jb9 {m:Mem}{bl:Names}{v}(h:Rep m bl (.ifc 102 (.agg [])) v):v=.iface 102 (.agg #[]):=by
 cases h with
 |ifc h=>cases h with
  |agg h _=>cases h;rfl
theorem jhY {m:Mem}{bl:Names}{n v}(h:Rep m bl (.ifc 104 (.agg [.v (.int .i64 n),.ifc 102 (.agg [])])) v):v=.iface 104 (.agg #[.int .i64 n,.iface 102 (.agg #[])]):=by
 cases h with
 |ifc h => cases h with
  |agg h _=>cases h with
   |cons h1 t=>cases t with
    |cons h2 t=>cases t with
     |nil=>rw[h1.zj,jb9 h2]
noncomputable def hIs:Hnd Tryz.prog tb where
 fid:=39
 f:=isF
 call:=Tryz.call39
 ok xs y h:=by
  unfold isF at h
  split at h
  ·rename_i a t
   obtain⟨h1,h⟩:=jM h
   have h1:=Nat.eq_of_beq_eq_true h1
   subst h1
   split at h
   ·cases h
    refine⟨FnR.pU fun w m vs hi hr=>?_,rfl,rfl⟩
    rw[jjj hr (fun v h=>h.zj) (fun v h=>jb9 h)]
    refine(jgy _ w).mono ?_
    rintro e w' ⟨rfl,rfl⟩
    exact⟨_,rfl,Below.refl _ _,.v⟩
   ·rename_i t1 n t2 _
    have g2:=jM h
    have g3:=jM g2.2
    have g6:=jM g3.2
    rw[Nat.eq_of_beq_eq_true g3.1,Nat.eq_of_beq_eq_true g6.1]
    obtain⟨p,hp,g4⟩:=jd g6.2
    have g5:=jM g4
    have h4:=of_decide_eq_true g5.1
    cases g5.2
    have hav:=vb hp
    obtain⟨k,z⟩:=p
    simp only at h4 hav;subst h4
    have e1:avL ([.ifc 104 (.agg [n,.ifc 102 (.agg [])]),.ifc 102 (.agg [])]:List (SV tb))=[.ifc 104 (.agg [.v (.int .i64 z),.ifc 102 (.agg [])]),.ifc 102 (.agg [])]:=by
     simp only[avL,SV.av,hav]
    rw[e1]
    refine⟨FnR.pU fun w m vs hi hr=>?_,rfl,rfl⟩
    rw[jjj hr (fun v h=>jhY h) (fun v h=>jb9 h)]
    refine(jgx _ w).mono ?_
    rintro e w' ⟨rfl,hb⟩
    exact⟨_,rfl,hb,.v⟩
   ·cases h
  ·cases h
noncomputable def hMk:Hnd Tryz.prog tb where
 fid:=52
 f xs:=match xs with
   | [x]=>got (asI x) fun p=>tst (decide (p.1=.i64)) (some (.fn 99 [.cp [.i .i64 p.2]]))
   |_=>none
 call:=Tryz.call52
 ok xs y h:=by
  split at h
  ·rename_i x
   obtain⟨p,hp,h⟩:=jd h
   obtain⟨h4,h⟩:=jM h
   have h4:=of_decide_eq_true h4
   cases h
   have hav:=vb hp
   obtain⟨k,z⟩:=p
   simp only at h4 hav;subst h4
   have e1:avL [x]=avL [(.i .i64 z:SV tb)]:=by simp only[avL,SV.av,hav]
   rw[e1]
   exact hnd_ok (cx:=cx0) (im:=fun d=>WR d [1]) (bar:=JJ []) (N:=4) (an:=.n) Tryz.func52 rfl rfl rfl rfl rfl rfl (by kernel_rfl)
  ·cases h
noncomputable def hnds:List (Hnd Tryz.prog tb):=[hIs,hMk]
noncomputable def cx (Γ:List (Con Tryz.prog tb cd))(J:List (Inl Tryz.prog tb)):Ctx Tryz.prog tb:=⟨cd,cd_ok,Γ,J,eqs,mixed,rfl,hnds⟩
end GoForm
