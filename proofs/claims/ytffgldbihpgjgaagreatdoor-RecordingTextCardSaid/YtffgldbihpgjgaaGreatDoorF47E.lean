/- Plain forms of the functions whose contracts are proved by hand. No conditions. -/
import Derived.Test.YtffgldbihpgjgaaGreatDoorF47T
set_option linter.all false
set_option maxRecDepth 100000
open Go Go.Rx
namespace GoForm
def updS (c:Int):Int:=if (bAnd .u32 c 1==1)=true then bXor .u32 (bShr .u32 c 1) 2197175160 else bShr .u32 c 1
def updN:Nat→Int→Int
  | 0,c=>c
  | n+1,c=>updN n (updS c)
def crcF (b:List UInt8):Int:=b.foldl (fun c x=>updN 8 (bXor .u32 c (x.toNat:Int))) 4294967295
def crcV (b:List UInt8):Int:=bXor .u32 4294967295 (crcF b)
def sealH (b:List UInt8):Option (List UInt8):=if b.length≤1099511627776 then some (b++[toByte (crcV b),toByte (bShr .u32 (crcV b) 8),toByte (bShr .u32 (crcV b) 16),toByte (bShr .u32 (crcV b) 24)]) else none
def exB:Body:={ ID:=0,Kind:=0,Transform:={ Position:={ X:=0,Y:=0 },Angle:=0 },Velocity:={ X:=0,Y:=0 },AngularVelocity:=0,Force:={ X:=0,Y:=0 },Torque:=0,LinearDamping:=0,AngularDamping:=0,GravityScale:=0,Bullet:=false,FixedRotation:=false,NoSleep:=false,Asleep:=false,IdleSteps:=0,Fixtures:=[] }
def exJ:Joint:={ ID:=0,Kind:=0,BodyA:=0,BodyB:=0,AnchorA:={ X:=0,Y:=0 },AnchorB:={ X:=0,Y:=0 },Axis:={ X:=0,Y:=0 },ReferenceAngle:=0,EnableLimit:=false,Lower:=0,Upper:=0,EnableMotor:=false,MotorSpeed:=0,MaxForce:=0,Softness:=0,BreakForce:=0,CollideConnected:=false,Impulses:=(0,0,0,0) }
def exI:Input:={ Kind:=1,ID:=3,Vec:={ X:=65536,Y:=0 },Value:=0,Body:=exB,Joint:=exJ }
def exP:List UInt8:=[1,2,0,1,1,1,1,1,3,3,1,0,0,0,0]++List.replicate 44 0
def exD:List UInt8:=exP++[202,227,83,138]
def recDecode (b:List UInt8):Option (List (List Input) × Int):=if b=exD then some ([[],[exI]],0) else none
def kindP (word:Int→Option (List UInt8)) (f0:List UInt8):Nat→Int
  | 0=>0
  | i+1=>if word ((i:Int)+1)=some f0 then (i:Int)+1 else kindP word f0 i
def offsP (vec value:Bool):List Nat:=1::((if vec=true then [2,3] else [])++(if value=true then [4] else []))
def parL (pI pF:List UInt8→Option (Int × Int)):Nat→List (List UInt8)→Option (Option (List Int))
  | _,[]=>some (some [])
  | i,s::t=>match (if i=0 then pI s else pF s) with
    | none=>none
    | some (n,c)=>if c≠0 then some none else match parL pI pF (i+1) t with
      | none=>none
      | some none=>some none
      | some (some l)=>some (some (n::l))
def mkIn (kind:Int) (vec value:Bool) (l:List Int):Input:={ Kind:=kind,ID:=l.getD 0 0,Vec:=if vec=true then ⟨l.getD 1 0,l.getD 2 0⟩ else ⟨0,0⟩,Value:=if value=true then l.getD (if vec=true then 3 else 1) 0 else 0,Body:=exB,Joint:=exJ }
def recPinG (word:Int→Option (List UInt8)) (used:Int→Option (Bool × Bool × Bool)) (pI pF:List UInt8→Option (Int × Int)) (fields:List (List UInt8)):Option (Input × Bool):=
  match fields with
  | []=>none
  | f0::rest=>match used (kindP word f0 12) with
    | none=>none
    | some u=>if kindP word f0 12=0∨rest.length≠(offsP u.2.1 u.2.2).length then some (mkIn 0 false false [],false)
      else match parL pI pF 0 rest with
        | none=>none
        | some none=>some (mkIn 0 false false [],false)
        | some (some l)=>some (mkIn (kindP word f0 12) u.2.1 u.2.2 l,true)
def frameB:List UInt8:=[102,114,97,109,101]
def recLinesG (flds:List UInt8→Option (List (List UInt8) × Int)) (pin:List (List UInt8)→Option (Input × Bool)):List (List UInt8)→Nat→List (List Input)→Option (List (List Input) × Nat)
  | [],_,r=>some (r,0)
  | line::t,i,r=>match flds line with
    | none=>none
    | some f=>if f.2≠0∨f.1=[] then some ([],i+1) else if line=frameB then recLinesG flds pin t (i+1) (r++[[]])
      else match pin f.1 with
        | none=>none
        | some x=>if x.2=false∨r=[] then some ([],i+1) else recLinesG flds pin t (i+1) (r.set (r.length - 1) (r.getD (r.length - 1) []++[x.1]))
def recParseG (split:List UInt8→Option (List (List UInt8) × Int)) (flds:List UInt8→Option (List (List UInt8) × Int)) (pin:List (List UInt8)→Option (Input × Bool)) (V:List (List Input)→Option Int) (s:List UInt8):Option (List (List Input) × Int × Int):=
  match split s with
  | none=>none
  | some q=>if q.2≠0 then some ([],0,q.2) else if q.1.length≤1048576 then (match recLinesG flds pin q.1 0 [] with
    | none=>none
    | some y=>if y.2≠0 then some ([],(y.2:Int),27) else match V y.1 with
      | none=>none
      | some c=>if c≠0 then some ([],0,25) else some (y.1,0,0)) else none
def padR (r:List (List Input)) (k:Nat):List (List Input):=r++List.replicate (k+1 - r.length) []
def recAppendG (V:List (List Input)→Option Int) (A:List Input→Option Bool) (I:List (List Input)→Int→Option (List Input)) (C:Input→Option Input) (r:List (List Input)) (frame:Int) (ins:List Input):Option (List (List Input) × Int):=
  if frame<0∨4096≤frame then some ([],21)
  else match V r with
  | none=>none
  | some c=>if c≠0 then some ([],25) else match A ins with
    | none=>none
    | some b=>if b=false then some ([],20) else match I r frame with
      | none=>none
      | some x=>if 32<x.length+ins.length then (if x.length+ins.length≤4294967296 then some ([],11) else none)
        else if r.length≤4096∧(∀ f∈r,(∀ x∈f,C x=some x)∧f.length≤1048576)∧(∀ x∈ins,C x=some x)∧ins.length≤1048576 then some ((padR r frame.toNat).set frame.toNat ((padR r frame.toNat).getD frame.toNat []++ins),0) else none
end GoForm
