/- The types that occur, as plain data. Printed by gen3.py. No conditions. -/
import Derived.Test.YtffgldbihpgjgaaGreatDoorQE
import Derived.Test.YtffgldbihpgjgaaGreatDoorQE
import Derived.Test.YtffgldbihpgjgaaGreatDoorProg
set_option linter.all false
set_option maxRecDepth 100000
open Go Go.Rx Go.Proofs Go.RowKit
namespace GoForm
structure Vec where
 X:Int
 Y:Int
 deriving DecidableEq,Inhabited
structure Transform where
 Position:Vec
 qy:Int
 deriving DecidableEq,Inhabited
structure Shape where
 Kind:Int
 qM:Int
 jS:(List Vec)
 deriving DecidableEq,Inhabited
structure Jy where
 Shape:Shape
 yy:Int
 JL:Int
 jX:Int
 YX:Bool
 Category:Int
 Mask:Int
 QH:Int
 deriving DecidableEq,Inhabited
structure Body where
 ID:Int
 Kind:Int
 Transform:Transform
 jZ:Vec
 jC:Int
 YA:Vec
 Yl:Int
 jN:Int
 jI:Int
 jR:Int
 YO:Bool
 jQ:Bool
 yE:Bool
 YP:Bool
 Jt:Int
 jk:(List Jy)
 deriving DecidableEq,Inhabited
structure jn where
 ID:Int
 Kind:Int
 QS:Int
 QR:Int
 JS:Vec
 JR:Vec
 KO:Vec
 jM:Int
 Jf:Bool
 QP:Int
 QN:Int
 Je:Bool
 Jl:Int
 JQ:Int
 JP:Int
 Jm:Int
 jH:Bool
 jx:(Int × Int × Int × Int)
 deriving DecidableEq,Inhabited
structure Input where
 Kind:Int
 ID:Int
 Vec:Vec
 Value:Int
 Body:Body
 jn:jn
 deriving DecidableEq,Inhabited
structure jq where
 negative:Bool
 JU:Int
 unit:Int
 deriving DecidableEq,Inhabited
structure Yz where
 B:(List UInt8)
 Offset:Int
 Err:Int
 deriving DecidableEq,Inhabited
structure jB where
 buf:(List UInt8)
 deriving DecidableEq,Inhabited
inductive Ix | tint | tVec | tTransform | tbool | tsl_Vec | tShape | tFixture | tsl_Fixture | tBody | tar4_int | tJoint | tInput | tsl_Input | tsl_sl_Input | tstr | tu64 | tbyte | tsl_str | tformat_decimal | tsl_byte | tu32 | tsl_int | tcaromref45_Reader | tsnapshot_encoder
 deriving DecidableEq
def xH:Int->AV:=((qL .i64)).el1
def WC:Ac Vec:=jck (fun x=>(x.X,x.Y)) (JI (qL .i64) (qL .i64))
def QC:Vec->AV:=(WC).elA
def zD:Ac Transform:=jck (fun x=>(x.Position,x.qy)) (JI WC (qL .i64))
def Ws:Transform->AV:=(zD).elA
def jeH:Bool->AV:=(vL).el1
def wy:(List Vec)->AV:=((aSl 2 QC)).el1
def WD:Ac Shape:=jck (fun x=>(x.Kind,x.qM,x.jS)) (JI (qL .i64) (JI (qL .i64) (aSl 2 QC)))
def jgl:Shape->AV:=(WD).elA
def vK:Ac Jy:=jck (fun x=>(x.Shape,x.yy,x.JL,x.jX,x.YX,x.Category,x.Mask,x.QH)) (JI WD (JI (qL .i64) (JI (qL .i64) (JI (qL .i64) (JI vL (JI (qL .i64) (JI (qL .i64) (qL .i64))))))))
def yj:Jy->AV:=(vK).elA
def zS:(List Jy)->AV:=((aSl 10 yj)).el1
def xW:Ac Body:=jck (fun x=>(x.ID,x.Kind,x.Transform,x.jZ,x.jC,x.YA,x.Yl,x.jN,x.jI,x.jR,x.YO,x.jQ,x.yE,x.YP,x.Jt,x.jk)) (JI (qL .i64) (JI (qL .i64) (JI zD (JI WC (JI (qL .i64) (JI WC (JI (qL .i64) (JI (qL .i64) (JI (qL .i64) (JI (qL .i64) (JI vL (JI vL (JI vL (JI vL (JI (qL .i64) (aSl 10 yj))))))))))))))))
def Qk:Body->AV:=(xW).elA
def jbP:(Int × Int × Int × Int)->AV:=((JI (qL .i64) (JI (qL .i64) (JI (qL .i64) (qL .i64))))).elA
def WG:Ac jn:=jck (fun x=>(x.ID,x.Kind,x.QS,x.QR,x.JS,x.JR,x.KO,x.jM,x.Jf,x.QP,x.QN,x.Je,x.Jl,x.JQ,x.JP,x.Jm,x.jH,x.jx)) (JI (qL .i64) (JI (qL .i64) (JI (qL .i64) (JI (qL .i64) (JI WC (JI WC (JI WC (JI (qL .i64) (JI vL (JI (qL .i64) (JI (qL .i64) (JI vL (JI (qL .i64) (JI (qL .i64) (JI (qL .i64) (JI (qL .i64) (JI vL (JI (qL .i64) (JI (qL .i64) (JI (qL .i64) (qL .i64)))))))))))))))))))))
def YD:jn->AV:=(WG).elA
def Uz:Ac Input:=jck (fun x=>(x.Kind,x.ID,x.Vec,x.Value,x.Body,x.jn)) (JI (qL .i64) (JI (qL .i64) (JI WC (JI (qL .i64) (JI xW WG)))))
def yB:Input->AV:=(Uz).elA
def jE:(List Input)->AV:=((aSl 49 yB)).el1
def jw:(List (List Input))->AV:=((aSl 1 jE)).el1
def qY:(List UInt8)->AV:=(aStr).el1
def e_u64:Int->AV:=((qL .u64)).el1
def kH:UInt8->AV:=(jcl).el1
def qZ:(List (List UInt8))->AV:=((aSl 1 qY)).el1
def QM:Ac jq:=jck (fun x=>(x.negative,x.JU,x.unit)) (JI vL (JI (qL .u64) (qL .u64)))
def VY:jq->AV:=(QM).elA
def jW:(List UInt8)->AV:=((aSl 1 kH)).el1
def e_u32:Int->AV:=((qL .u32)).el1
def jdL:(List Int)->AV:=((aSl 1 xH)).el1
def qE:Ac Yz:=jck (fun x=>(x.B,x.Offset,x.Err)) (JI (aSl 1 kH) (JI (qL .i64) (qL .i64)))
def KG:Yz->AV:=(qE).elA
def Qd:Ac jB:=jck (fun x=>x.buf) (aSl 1 kH)
def vF:jB->AV:=(Qd).elA
noncomputable def tb:Tb where
 P:=Tryz.prog
 Ix:=Ix
 dec:=inferInstance
 T:=fun | .tint=>Int | .tVec=>Vec | .tTransform=>Transform | .tbool=>Bool | .tsl_Vec=>(List Vec) | .tShape=>Shape | .tFixture=>Jy | .tsl_Fixture=>(List Jy) | .tBody=>Body | .tar4_int=>(Int × Int × Int × Int) | .tJoint=>jn | .tInput=>Input | .tsl_Input=>(List Input) | .tsl_sl_Input=>(List (List Input)) | .tstr=>(List UInt8) | .tu64=>Int | .tbyte=>UInt8 | .tsl_str=>(List (List UInt8)) | .tformat_decimal=>jq | .tsl_byte=>(List UInt8) | .tu32=>Int | .tsl_int=>(List Int) | .tcaromref45_Reader=>Yz | .tsnapshot_encoder=>jB
 sz:=fun | .tint=>1 | .tVec=>2 | .tTransform=>3 | .tbool=>1 | .tsl_Vec=>1 | .tShape=>3 | .tFixture=>10 | .tsl_Fixture=>1 | .tBody=>20 | .tar4_int=>4 | .tJoint=>24 | .tInput=>49 | .tsl_Input=>1 | .tsl_sl_Input=>1 | .tstr=>1 | .tu64=>1 | .tbyte=>1 | .tsl_str=>1 | .tformat_decimal=>3 | .tsl_byte=>1 | .tu32=>1 | .tsl_int=>1 | .tcaromref45_Reader=>3 | .tsnapshot_encoder=>1
 el:=fun | .tint=>xH | .tVec=>QC | .tTransform=>Ws | .tbool=>jeH | .tsl_Vec=>wy | .tShape=>jgl | .tFixture=>yj | .tsl_Fixture=>zS | .tBody=>Qk | .tar4_int=>jbP | .tJoint=>YD | .tInput=>yB | .tsl_Input=>jE | .tsl_sl_Input=>jw | .tstr=>qY | .tu64=>e_u64 | .tbyte=>kH | .tsl_str=>qZ | .tformat_decimal=>VY | .tsl_byte=>jW | .tu32=>e_u32 | .tsl_int=>jdL | .tcaromref45_Reader=>KG | .tsnapshot_encoder=>vF
 look n:=find n [(3,Ix.tint),(27,Ix.tint),(63,Ix.tint),(66,Ix.tint),(72,Ix.tint),(114,Ix.tint),(65,Ix.tVec),(68,Ix.tTransform),(4,Ix.tbool),(115,Ix.tsl_Vec),(117,Ix.tShape),(119,Ix.tFixture),(69,Ix.tsl_Fixture),(71,Ix.tBody),(73,Ix.tar4_int),(75,Ix.tJoint),(77,Ix.tInput),(51,Ix.tsl_Input),(23,Ix.tsl_sl_Input),(9,Ix.tstr),(122,Ix.tu64),(5,Ix.tbyte),(91,Ix.tsl_str),(243,Ix.tformat_decimal),(24,Ix.tsl_byte),(132,Ix.tu32),(167,Ix.tsl_int),(209,Ix.tcaromref45_Reader),(130,Ix.tsnapshot_encoder)]
 byte:=some ⟨.tbyte,rfl,rfl,fun _=>rfl⟩
variable [GlC]
noncomputable def Un:Fc tb Vec:=Ml (fun p=>⟨p.1,p.2⟩) (fun x=>(x.X,x.Y)) (ye (QK .i64) (QK .i64))
theorem xi:WN (tb:=tb) WC Un:=WS (fun _=>rfl) (Jn (yO .i64) (yO .i64))
noncomputable def KD:Fc tb Transform:=Ml (fun p=>⟨p.1,p.2⟩) (fun x=>(x.Position,x.qy)) (ye Un (QK .i64))
theorem wT:WN (tb:=tb) zD KD:=WS (fun _=>rfl) (Jn xi (yO .i64))
noncomputable def XN:Fc tb Shape:=Ml (fun p=>⟨p.1,p.2.1,p.2.2⟩) (fun x=>(x.Kind,x.qM,x.jS)) (ye (QK .i64) (ye (QK .i64) (fSl (tb:=tb) .tVec)))
theorem jaT:WN (tb:=tb) WD XN:=WS (fun _=>rfl) (Jn (yO .i64) (Jn (yO .i64) (jaR (tb:=tb) .tVec)))
noncomputable def xE:Fc tb Jy:=Ml (fun p=>⟨p.1,p.2.1,p.2.2.1,p.2.2.2.1,p.2.2.2.2.1,p.2.2.2.2.2.1,p.2.2.2.2.2.2.1,p.2.2.2.2.2.2.2⟩) (fun x=>(x.Shape,x.yy,x.JL,x.jX,x.YX,x.Category,x.Mask,x.QH)) (ye XN (ye (QK .i64) (ye (QK .i64) (ye (QK .i64) (ye Vm (ye (QK .i64) (ye (QK .i64) (QK .i64))))))))
theorem jaV:WN (tb:=tb) vK xE:=WS (fun _=>rfl) (Jn jaT (Jn (yO .i64) (Jn (yO .i64) (Jn (yO .i64) (Jn Kk (Jn (yO .i64) (Jn (yO .i64) (yO .i64))))))))
noncomputable def jbI:Fc tb Body:=Ml (fun p=>⟨p.1,p.2.1,p.2.2.1,p.2.2.2.1,p.2.2.2.2.1,p.2.2.2.2.2.1,p.2.2.2.2.2.2.1,p.2.2.2.2.2.2.2.1,p.2.2.2.2.2.2.2.2.1,p.2.2.2.2.2.2.2.2.2.1,p.2.2.2.2.2.2.2.2.2.2.1,p.2.2.2.2.2.2.2.2.2.2.2.1,p.2.2.2.2.2.2.2.2.2.2.2.2.1,p.2.2.2.2.2.2.2.2.2.2.2.2.2.1,p.2.2.2.2.2.2.2.2.2.2.2.2.2.2.1,p.2.2.2.2.2.2.2.2.2.2.2.2.2.2.2⟩) (fun x=>(x.ID,x.Kind,x.Transform,x.jZ,x.jC,x.YA,x.Yl,x.jN,x.jI,x.jR,x.YO,x.jQ,x.yE,x.YP,x.Jt,x.jk)) (ye (QK .i64) (ye (QK .i64) (ye KD (ye Un (ye (QK .i64) (ye Un (ye (QK .i64) (ye (QK .i64) (ye (QK .i64) (ye (QK .i64) (ye Vm (ye Vm (ye Vm (ye Vm (ye (QK .i64) (fSl (tb:=tb) .tFixture))))))))))))))))
theorem jek:WN (tb:=tb) xW jbI:=WS (fun _=>rfl) (Jn (yO .i64) (Jn (yO .i64) (Jn wT (Jn xi (Jn (yO .i64) (Jn xi (Jn (yO .i64) (Jn (yO .i64) (Jn (yO .i64) (Jn (yO .i64) (Jn Kk (Jn Kk (Jn Kk (Jn Kk (Jn (yO .i64) (jaR (tb:=tb) .tFixture))))))))))))))))
noncomputable def XO:Fc tb jn:=Ml (fun p=>⟨p.1,p.2.1,p.2.2.1,p.2.2.2.1,p.2.2.2.2.1,p.2.2.2.2.2.1,p.2.2.2.2.2.2.1,p.2.2.2.2.2.2.2.1,p.2.2.2.2.2.2.2.2.1,p.2.2.2.2.2.2.2.2.2.1,p.2.2.2.2.2.2.2.2.2.2.1,p.2.2.2.2.2.2.2.2.2.2.2.1,p.2.2.2.2.2.2.2.2.2.2.2.2.1,p.2.2.2.2.2.2.2.2.2.2.2.2.2.1,p.2.2.2.2.2.2.2.2.2.2.2.2.2.2.1,p.2.2.2.2.2.2.2.2.2.2.2.2.2.2.2.1,p.2.2.2.2.2.2.2.2.2.2.2.2.2.2.2.2.1,p.2.2.2.2.2.2.2.2.2.2.2.2.2.2.2.2.2⟩) (fun x=>(x.ID,x.Kind,x.QS,x.QR,x.JS,x.JR,x.KO,x.jM,x.Jf,x.QP,x.QN,x.Je,x.Jl,x.JQ,x.JP,x.Jm,x.jH,x.jx)) (ye (QK .i64) (ye (QK .i64) (ye (QK .i64) (ye (QK .i64) (ye Un (ye Un (ye Un (ye (QK .i64) (ye Vm (ye (QK .i64) (ye (QK .i64) (ye Vm (ye (QK .i64) (ye (QK .i64) (ye (QK .i64) (ye (QK .i64) (ye Vm (ye (QK .i64) (ye (QK .i64) (ye (QK .i64) (QK .i64)))))))))))))))))))))
theorem jaU:WN (tb:=tb) WG XO:=WS (fun _=>rfl) (Jn (yO .i64) (Jn (yO .i64) (Jn (yO .i64) (Jn (yO .i64) (Jn xi (Jn xi (Jn xi (Jn (yO .i64) (Jn Kk (Jn (yO .i64) (Jn (yO .i64) (Jn Kk (Jn (yO .i64) (Jn (yO .i64) (Jn (yO .i64) (Jn (yO .i64) (Jn Kk (Jn (yO .i64) (Jn (yO .i64) (Jn (yO .i64) (yO .i64)))))))))))))))))))))
noncomputable def jbH:Fc tb Input:=Ml (fun p=>⟨p.1,p.2.1,p.2.2.1,p.2.2.2.1,p.2.2.2.2.1,p.2.2.2.2.2⟩) (fun x=>(x.Kind,x.ID,x.Vec,x.Value,x.Body,x.jn)) (ye (QK .i64) (ye (QK .i64) (ye Un (ye (QK .i64) (ye jbI XO)))))
theorem jfI:WN (tb:=tb) Uz jbH:=WS (fun _=>rfl) (Jn (yO .i64) (Jn (yO .i64) (Jn xi (Jn (yO .i64) (Jn jek jaU)))))
noncomputable def ZU:Fc tb jq:=Ml (fun p=>⟨p.1,p.2.1,p.2.2⟩) (fun x=>(x.negative,x.JU,x.unit)) (ye Vm (ye (QK .u64) (QK .u64)))
theorem VV:WN (tb:=tb) QM ZU:=WS (fun _=>rfl) (Jn Kk (Jn (yO .u64) (yO .u64)))
noncomputable def zt:Fc tb Yz:=Ml (fun p=>⟨p.1,p.2.1,p.2.2⟩) (fun x=>(x.B,x.Offset,x.Err)) (ye (fSl (tb:=tb) .tbyte) (ye (QK .i64) (QK .i64)))
theorem Kw:WN (tb:=tb) qE zt:=WS (fun _=>rfl) (Jn (jaR (tb:=tb) .tbyte) (Jn (yO .i64) (yO .i64)))
noncomputable def zP:Fc tb jB:=Ml (fun p=>⟨p⟩) (fun x=>x.buf) (fSl (tb:=tb) .tbyte)
theorem vf:WN (tb:=tb) Qd zP:=WS (fun _=>rfl) (jaR (tb:=tb) .tbyte)
noncomputable def cd:(i:Ix)->Cd tb i
 | .tint=>cd1 (tb:=tb) (i:=Ix.tint) (QK .i64) (default:Int) true
 | .tVec=>cdA (tb:=tb) (i:=Ix.tVec) Un (default:Vec) true
 | .tTransform=>cdA (tb:=tb) (i:=Ix.tTransform) KD (default:Transform) true
 | .tbool=>cd1 (tb:=tb) (i:=Ix.tbool) Vm (default:Bool) true
 | .tsl_Vec=>cd1 (tb:=tb) (i:=Ix.tsl_Vec) (fSl (tb:=tb) .tVec) (default:(List Vec)) false
 | .tShape=>cdA (tb:=tb) (i:=Ix.tShape) XN (default:Shape) false
 | .tFixture=>cdA (tb:=tb) (i:=Ix.tFixture) xE (default:Jy) false
 | .tsl_Fixture=>cd1 (tb:=tb) (i:=Ix.tsl_Fixture) (fSl (tb:=tb) .tFixture) (default:(List Jy)) false
 | .tBody=>cdA (tb:=tb) (i:=Ix.tBody) jbI (default:Body) false
 | .tar4_int=>cdA (tb:=tb) (i:=Ix.tar4_int) (ye (QK .i64) (ye (QK .i64) (ye (QK .i64) (QK .i64)))) (default:(Int × Int × Int × Int)) true
 | .tJoint=>cdA (tb:=tb) (i:=Ix.tJoint) XO (default:jn) true
 | .tInput=>cdA (tb:=tb) (i:=Ix.tInput) jbH (default:Input) false
 | .tsl_Input=>cd1 (tb:=tb) (i:=Ix.tsl_Input) (fSl (tb:=tb) .tInput) (default:(List Input)) false
 | .tsl_sl_Input=>cd1 (tb:=tb) (i:=Ix.tsl_sl_Input) (fSl (tb:=tb) .tsl_Input) (default:(List (List Input))) false
 | .tstr=>cd1 (tb:=tb) (i:=Ix.tstr) fStr (default:(List UInt8)) true
 | .tu64=>cd1 (tb:=tb) (i:=Ix.tu64) (QK .u64) (default:Int) true
 | .tbyte=>cd1 (tb:=tb) (i:=Ix.tbyte) jdE (default:UInt8) true
 | .tsl_str=>cd1 (tb:=tb) (i:=Ix.tsl_str) (fSl (tb:=tb) .tstr) (default:(List (List UInt8))) false
 | .tformat_decimal=>cdA (tb:=tb) (i:=Ix.tformat_decimal) ZU (default:jq) true
 | .tsl_byte=>cd1 (tb:=tb) (i:=Ix.tsl_byte) (fSl (tb:=tb) .tbyte) (default:(List UInt8)) false
 | .tu32=>cd1 (tb:=tb) (i:=Ix.tu32) (QK .u32) (default:Int) true
 | .tsl_int=>cd1 (tb:=tb) (i:=Ix.tsl_int) (fSl (tb:=tb) .tint) (default:(List Int)) false
 | .tcaromref45_Reader=>cdA (tb:=tb) (i:=Ix.tcaromref45_Reader) zt (default:Yz) false
 | .tsnapshot_encoder=>cdA (tb:=tb) (i:=Ix.tsnapshot_encoder) zP (default:jB) false
theorem cd_ok:∀ i:Ix,jgM (cd i)
 | .tint=>ok1 (tb:=tb) (i:=Ix.tint) (a:=(qL .i64)) (yO .i64) (fun _=>rfl) rfl rfl (fun _ _=>rfl)
 | .tVec=>okA (tb:=tb) (i:=Ix.tVec) (a:=WC) xi (fun _=>rfl) rfl rfl (fun _ _=>rfl)
 | .tTransform=>okA (tb:=tb) (i:=Ix.tTransform) (a:=zD) wT (fun _=>rfl) rfl rfl (fun _ _=>rfl)
 | .tbool=>ok1 (tb:=tb) (i:=Ix.tbool) (a:=vL) Kk (fun _=>rfl) rfl rfl (fun _ _=>rfl)
 | .tsl_Vec=>ok1 (tb:=tb) (i:=Ix.tsl_Vec) (a:=(aSl 2 QC)) (jaR (tb:=tb) .tVec) (fun _=>rfl) rfl rfl (fun h=>by cases h)
 | .tShape=>okA (tb:=tb) (i:=Ix.tShape) (a:=WD) jaT (fun _=>rfl) rfl rfl (fun h=>by cases h)
 | .tFixture=>okA (tb:=tb) (i:=Ix.tFixture) (a:=vK) jaV (fun _=>rfl) rfl rfl (fun h=>by cases h)
 | .tsl_Fixture=>ok1 (tb:=tb) (i:=Ix.tsl_Fixture) (a:=(aSl 10 yj)) (jaR (tb:=tb) .tFixture) (fun _=>rfl) rfl rfl (fun h=>by cases h)
 | .tBody=>okA (tb:=tb) (i:=Ix.tBody) (a:=xW) jek (fun _=>rfl) rfl rfl (fun h=>by cases h)
 | .tar4_int=>okA (tb:=tb) (i:=Ix.tar4_int) (a:=(JI (qL .i64) (JI (qL .i64) (JI (qL .i64) (qL .i64))))) (Jn (yO .i64) (Jn (yO .i64) (Jn (yO .i64) (yO .i64)))) (fun _=>rfl) rfl rfl (fun _ _=>rfl)
 | .tJoint=>okA (tb:=tb) (i:=Ix.tJoint) (a:=WG) jaU (fun _=>rfl) rfl rfl (fun _ _=>rfl)
 | .tInput=>okA (tb:=tb) (i:=Ix.tInput) (a:=Uz) jfI (fun _=>rfl) rfl rfl (fun h=>by cases h)
 | .tsl_Input=>ok1 (tb:=tb) (i:=Ix.tsl_Input) (a:=(aSl 49 yB)) (jaR (tb:=tb) .tInput) (fun _=>rfl) rfl rfl (fun h=>by cases h)
 | .tsl_sl_Input=>ok1 (tb:=tb) (i:=Ix.tsl_sl_Input) (a:=(aSl 1 jE)) (jaR (tb:=tb) .tsl_Input) (fun _=>rfl) rfl rfl (fun h=>by cases h)
 | .tstr=>ok1 (tb:=tb) (i:=Ix.tstr) (a:=aStr) okStr (fun _=>rfl) rfl rfl (fun _ _=>rfl)
 | .tu64=>ok1 (tb:=tb) (i:=Ix.tu64) (a:=(qL .u64)) (yO .u64) (fun _=>rfl) rfl rfl (fun _ _=>rfl)
 | .tbyte=>ok1 (tb:=tb) (i:=Ix.tbyte) (a:=jcl) okByte (fun _=>rfl) rfl rfl (fun _ _=>rfl)
 | .tsl_str=>ok1 (tb:=tb) (i:=Ix.tsl_str) (a:=(aSl 1 qY)) (jaR (tb:=tb) .tstr) (fun _=>rfl) rfl rfl (fun h=>by cases h)
 | .tformat_decimal=>okA (tb:=tb) (i:=Ix.tformat_decimal) (a:=QM) VV (fun _=>rfl) rfl rfl (fun _ _=>rfl)
 | .tsl_byte=>ok1 (tb:=tb) (i:=Ix.tsl_byte) (a:=(aSl 1 kH)) (jaR (tb:=tb) .tbyte) (fun _=>rfl) rfl rfl (fun h=>by cases h)
 | .tu32=>ok1 (tb:=tb) (i:=Ix.tu32) (a:=(qL .u32)) (yO .u32) (fun _=>rfl) rfl rfl (fun _ _=>rfl)
 | .tsl_int=>ok1 (tb:=tb) (i:=Ix.tsl_int) (a:=(aSl 1 xH)) (jaR (tb:=tb) .tint) (fun _=>rfl) rfl rfl (fun h=>by cases h)
 | .tcaromref45_Reader=>okA (tb:=tb) (i:=Ix.tcaromref45_Reader) (a:=qE) Kw (fun _=>rfl) rfl rfl (fun h=>by cases h)
 | .tsnapshot_encoder=>okA (tb:=tb) (i:=Ix.tsnapshot_encoder) (a:=Qd) vf (fun _=>rfl) rfl rfl (fun h=>by cases h)
theorem mixed:Tryz.prog.follows .mixedOrders=true:=by kernel_rfl
def ZR (x y:Vec):Bool:=(decide (x.X=y.X)&&decide (x.Y=y.Y))
def ZS (x y:Transform):Bool:=(ZR x.Position y.Position&&decide (x.qy=y.qy))
def Wy (x y:(Int × Int × Int × Int)):Bool:=(decide (x.1=y.1)&&(decide (x.2.1=y.2.1)&&(decide (x.2.2.1=y.2.2.1)&&decide (x.2.2.2=y.2.2.2))))
def WJ (x y:jn):Bool:=(decide (x.ID=y.ID)&&(decide (x.Kind=y.Kind)&&(decide (x.QS=y.QS)&&(decide (x.QR=y.QR)&&(ZR x.JS y.JS&&(ZR x.JR y.JR&&(ZR x.KO y.KO&&(decide (x.jM=y.jM)&&(decide (x.Jf=y.Jf)&&(decide (x.QP=y.QP)&&(decide (x.QN=y.QN)&&(decide (x.Je=y.Je)&&(decide (x.Jl=y.Jl)&&(decide (x.JQ=y.JQ)&&(decide (x.JP=y.JP)&&(decide (x.Jm=y.Jm)&&(decide (x.jH=y.jH)&&Wy x.jx y.jx)))))))))))))))))
theorem eqt_65:EqT Tryz.prog 65 QC ZR:=by
 refine ⟨by kernel_rfl,fun x=>[.int .i64 x.X,.int .i64 x.Y],fun x=>rfl,fun w x y=>?_⟩
 rw [run_equalIn_struct w 9999 65 _ _ (by kernel_rfl) (by kernel_rfl)]
 simp [Program.fieldsOf,Op.eqFields,go_sem,jf8,ZR,Tryz.underlying3,Tryz.underlying65] <;> grind
theorem eqt_68:EqT Tryz.prog 68 Ws ZS:=by
 refine ⟨by kernel_rfl,fun x=>[.int .i64 x.Position.X,.int .i64 x.Position.Y,.int .i64 x.qy],fun x=>rfl,fun w x y=>?_⟩
 rw [run_equalIn_struct w 9999 68 _ _ (by kernel_rfl) (by kernel_rfl)]
 have q0:=fun (d:Nat) (w:Go.World) (xs ys:Array Value)=>run_equalIn_struct (P:=Tryz.prog) w d 65 xs ys (by kernel_rfl) (by kernel_rfl)
 simp [Program.fieldsOf,Op.eqFields,go_sem,jf8,ZS,ZR,Tryz.underlying3,Tryz.underlying64,Tryz.underlying65,Tryz.underlying68,q0] <;> grind
theorem eqt_75:EqT Tryz.prog 75 YD WJ:=by
 refine ⟨by kernel_rfl,fun x=>[.int .i64 x.ID,.int .i64 x.Kind,.int .i64 x.QS,.int .i64 x.QR,.int .i64 x.JS.X,.int .i64 x.JS.Y,.int .i64 x.JR.X,.int .i64 x.JR.Y,.int .i64 x.KO.X,.int .i64 x.KO.Y,.int .i64 x.jM,.bool x.Jf,.int .i64 x.QP,.int .i64 x.QN,.bool x.Je,.int .i64 x.Jl,.int .i64 x.JQ,.int .i64 x.JP,.int .i64 x.Jm,.bool x.jH,.int .i64 x.jx.1,.int .i64 x.jx.2.1,.int .i64 x.jx.2.2.1,.int .i64 x.jx.2.2.2],fun x=>rfl,fun w x y=>?_⟩
 rw [run_equalIn_struct w 9999 75 _ _ (by kernel_rfl) (by kernel_rfl)]
 have qa0:=VQ (P:=Tryz.prog) (t:=73) (E:=3) (k:=.i64) (by kernel_rfl) (by kernel_rfl) (by kernel_rfl) (by kernel_rfl)
 have q0:=fun (d:Nat) (w:Go.World) (xs ys:Array Value)=>run_equalIn_struct (P:=Tryz.prog) w d 65 xs ys (by kernel_rfl) (by kernel_rfl)
 simp [Program.fieldsOf,Op.eqFields,go_sem,jf8,WJ,ZR,Wy,Tryz.underlying3,Tryz.underlying4,Tryz.underlying64,Tryz.underlying65,Tryz.underlying72,Tryz.underlying73,Tryz.underlying75,qa0,q0] <;> grind
noncomputable def eqs:List (EqE Tryz.prog tb):=[⟨65,Ix.tVec,ZR,eqt_65⟩,⟨68,Ix.tTransform,ZS,eqt_68⟩,⟨75,Ix.tJoint,WJ,eqt_75⟩]
noncomputable def hnds:List (Hnd Tryz.prog tb):=[]
noncomputable def cx (Γ:List (Con Tryz.prog tb cd)) (J:List (Inl Tryz.prog tb)):Ctx Tryz.prog tb:=⟨cd,cd_ok,Γ,J,eqs,mixed,rfl,hnds⟩
end GoForm
