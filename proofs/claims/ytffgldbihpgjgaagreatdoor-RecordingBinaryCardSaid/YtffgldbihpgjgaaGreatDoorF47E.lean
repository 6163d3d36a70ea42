/- Plain forms of the functions whose contracts are proved by hand. No conditions. -/
import Derived.Test.YtffgldbihpgjgaaGreatDoorF47T
set_option linter.all false
set_option maxRecDepth 100000
open Go Go.Rx
namespace GoForm
def updS (c:Int):Int:=if (bAnd .u32 c 1==1)=true then bXor .u32 (bShr .u32 c 1) 2197175160 else bShr .u32 c 1
def updN:Nat→Int→Int
 | 0,c=>c
 | n+1,c=>updN n (updS c)
def crcF (b:List UInt8):Int:=b.foldl (fun c x=>updN 8 (bXor .u32 c (x.toNat:Int))) 4294967295
def crcV (b:List UInt8):Int:=bXor .u32 4294967295 (crcF b)
def jmT (b:List UInt8):Option (List UInt8):=if b.length≤1099511627776 then some (b++[jat (crcV b),jat (bShr .u32 (crcV b) 8),jat (bShr .u32 (crcV b) 16),jat (bShr .u32 (crcV b) 24)]) else none
def exB:Body:={ ID:=0,Kind:=0,Transform:={ Position:={ X:=0,Y:=0 },Angle:=0 },Velocity:={ X:=0,Y:=0 },AngularVelocity:=0,Force:={ X:=0,Y:=0 },Torque:=0,LinearDamping:=0,AngularDamping:=0,GravityScale:=0,Bullet:=false,FixedRotation:=false,NoSleep:=false,Asleep:=false,IdleSteps:=0,Fixtures:=[] }
def exJ:Joint:={ ID:=0,Kind:=0,BodyA:=0,BodyB:=0,AnchorA:={ X:=0,Y:=0 },AnchorB:={ X:=0,Y:=0 },Axis:={ X:=0,Y:=0 },ReferenceAngle:=0,EnableLimit:=false,Lower:=0,Upper:=0,EnableMotor:=false,MotorSpeed:=0,MaxForce:=0,Softness:=0,BreakForce:=0,CollideConnected:=false,Impulses:=(0,0,0,0) }
def exI0:Input:={ Kind:=0,ID:=0,Vec:={ X:=0,Y:=0 },Value:=0,Body:=exB,Joint:=exJ }
def exS:List UInt8:=[102,114,97,109,101,10,105,109,112,117,108,115,101,32,51,32,49,117,10]
def rdR {α:Type}:Option (α × Int × Int)→Option (Int ⊕ (α × Int))
 | none=>none
 | some (x,o,e)=>if e=0 then some (.inr (x,o)) else some (.inl e)
def andR {α β:Type} (r:Option (Int ⊕ (α × Int))) (k:α→Int→Option (Int ⊕ β)):Option (Int ⊕ β):=
 match r with
 | none=>none
 | some (.inl e)=>some (.inl e)
 | some (.inr (x,o))=>k x o
def jcH {α:Type} (el:Int→Option (Int ⊕ (α × Int))):Nat→List α→Int→Option (Int ⊕ (List α × Int))
 | 0,l,o=>some (.inr (l,o))
 | k+1,l,o=>andR (el o) fun x o=>jcH el k (l++[x]) o
section
variable (rI:Int→Option (Int × Int × Int)) (rV:Int→Option (Vec × Int × Int)) (rB:Int→Option (Bool × Int × Int))
def jjp (o:Int):Option (Int ⊕ (Int × Int)):=andR (rdR (rI o)) fun n o=>if n<0 then some (.inl 3) else if 8192<n then some (.inl 5) else some (.inr (n,o))
def jfp {α:Type} (el:Int→Option (Int ⊕ (α × Int))) (o:Int):Option (Int ⊕ (List α × Int)):=andR (jjp rI o) fun n o=>jcH el n.toNat [] o
def jhf (o:Int):Option (Int ⊕ (Fixture × Int)):=
 andR (rdR (rI o)) fun kind o=>andR (rdR (rI o)) fun radius o=>andR (jfp rI (fun o=>rdR (rV o)) o) fun vs o=>
 andR (rdR (rI o)) fun density o=>andR (rdR (rI o)) fun friction o=>andR (rdR (rI o)) fun restitution o=>andR (rdR (rB o)) fun sensor o=>
 andR (rdR (rI o)) fun category o=>andR (rdR (rI o)) fun mask o=>andR (rdR (rI o)) fun group o=>
 some (.inr ({ Shape:={ Kind:=kind,Radius:=radius,Vertices:=vs },Density:=density,Friction:=friction,Restitution:=restitution,Sensor:=sensor,Category:=category,Mask:=mask,Group:=group },o))
def jd9 (o:Int):Option (Int ⊕ (Body × Int)):=
 andR (rdR (rI o)) fun id o=>andR (rdR (rI o)) fun kind o=>andR (rdR (rV o)) fun p o=>andR (rdR (rI o)) fun angle o=>
 andR (rdR (rV o)) fun v o=>andR (rdR (rI o)) fun av o=>andR (rdR (rV o)) fun force o=>andR (rdR (rI o)) fun torque o=>
 andR (rdR (rI o)) fun ld o=>andR (rdR (rI o)) fun ad o=>andR (rdR (rI o)) fun gs o=>
 andR (rdR (rB o)) fun bullet o=>andR (rdR (rB o)) fun fr o=>andR (rdR (rB o)) fun ns o=>andR (rdR (rB o)) fun asl o=>
 andR (rdR (rI o)) fun idle o=>andR (jfp rI (jhf rI rV rB) o) fun fs o=>
 some (.inr ({ ID:=id,Kind:=kind,Transform:={ Position:=p,Angle:=angle },Velocity:=v,AngularVelocity:=av,Force:=force,Torque:=torque,LinearDamping:=ld,AngularDamping:=ad,GravityScale:=gs,Bullet:=bullet,FixedRotation:=fr,NoSleep:=ns,Asleep:=asl,IdleSteps:=idle,Fixtures:=fs },o))
def jc0 (o:Int):Option (Int ⊕ (Joint × Int)):=
 andR (rdR (rI o)) fun id o=>andR (rdR (rI o)) fun kind o=>andR (rdR (rI o)) fun a o=>andR (rdR (rI o)) fun b o=>
 andR (rdR (rV o)) fun va o=>andR (rdR (rV o)) fun vb o=>andR (rdR (rV o)) fun ax o=>andR (rdR (rI o)) fun ra o=>andR (rdR (rB o)) fun el o=>
 andR (rdR (rI o)) fun lo o=>andR (rdR (rI o)) fun up o=>andR (rdR (rB o)) fun em o=>andR (rdR (rI o)) fun ms o=>andR (rdR (rI o)) fun mf o=>
 andR (rdR (rI o)) fun so o=>andR (rdR (rI o)) fun bf o=>andR (rdR (rB o)) fun cc o=>
 andR (rdR (rI o)) fun i0 o=>andR (rdR (rI o)) fun i1 o=>andR (rdR (rI o)) fun i2 o=>andR (rdR (rI o)) fun i3 o=>
 some (.inr ({ ID:=id,Kind:=kind,BodyA:=a,BodyB:=b,AnchorA:=va,AnchorB:=vb,Axis:=ax,ReferenceAngle:=ra,EnableLimit:=el,Lower:=lo,Upper:=up,EnableMotor:=em,MotorSpeed:=ms,MaxForce:=mf,Softness:=so,BreakForce:=bf,CollideConnected:=cc,Impulses:=(i0,i1,i2,i3) },o))
def rdF {α:Type} (z:α):Option (Int ⊕ (α × Int))→Option (α × Int × Int)
 | none=>none
 | some (.inl e)=>some (z,0,e)
 | some (.inr (x,o))=>some (x,o,0)
def fldR {α:Type} (z:α) (rd:Int→Option (α × Int × Int)) (o c:Int):Option (α × Int × Int):=
  if c≠0 then some (z,o,c) else match rd o with
    | none=>none
    | some (x,o',e)=>if e≠0 then some (z,o,e) else some (x,o',0)
def andF {α β:Type} (r:Option (α × Int × Int)) (k:α→Int→Int→Option β):Option β:=
 match r with
 | none=>none
 | some (x,o,c)=>k x o c
def jih (o c:Int):Option (Int × Int × Int):=andF (fldR 0 rI o c) fun n o c=>
 if n<0 then some (0,o,3) else if 8192<n then some (0,o,5) else if c≠0 then some (0,o,c) else some (n,o,c)
def rInR (o c:Int):Option (Input × Int × Int):=andF (fldR 0 rI o c) fun kind o c=>andF (fldR 0 rI o c) fun id o c=>andF (fldR ⟨0,0⟩ rV o c) fun vec o c=>andF (fldR 0 rI o c) fun value o c=>
 andF (fldR exB (fun o=>rdF exB (jd9 rI rV rB o)) o c) fun body o c=>andF (fldR exJ (fun o=>rdF exJ (jc0 rI rV rB o)) o c) fun joint o c=>
 some ({ Kind:=kind,ID:=id,Vec:=vec,Value:=value,Body:=body,Joint:=joint },o,c)
def jmb:Nat→List Input→Int→Int→Option (List Input × Int × Int)
 | 0,l,o,c=>some (l,o,c)
 | k+1,l,o,c=>if c≠0 then some (l,o,c) else andF (rInR rI rV rB o c) fun x o c=>jmb k (l++[x]) o c
def jhb:Nat→List (List Input)→Int→Int→Option (List (List Input) × Int × Int)
 | 0,l,o,c=>some (l,o,c)
 | k+1,l,o,c=>if c≠0 then some (l,o,c) else andF (jih rI o c) fun n o c=>andF (jmb rI rV rB n.toNat [] o c) fun f o c=>jhb k (l++[f]) o c
end
def ji0 (s:List UInt8):Option (List (List Input) × Int × Int):=if s=exS then some ([],2,27) else none
def jdH (op:List UInt8→Option (List UInt8 × Int)) (rI:List UInt8→Int→Option (Int × Int × Int)) (rV:List UInt8→Int→Option (Vec × Int × Int)) (rB:List UInt8→Int→Option (Bool × Int × Int)) (V:List (List Input)→Option Int) (b:List UInt8):Option (List (List Input) × Int):=
  match op b with
  | none=>none
  | some (p,c)=>if c≠0 then some ([],c) else andF (jih (rI p) 0 0) fun n o c=>andF (jhb (rI p) (rV p) (rB p) n.toNat [] o c) fun r o c=>
    if c≠0 then some ([],c) else if o<(p.length:Int) then some ([],3) else match V r with
      | none=>none
      | some e=>if e≠0 then some ([],25) else some (r,0)
def padR (r:List (List Input)) (k:Nat):List (List Input):=r++List.replicate (k+1 - r.length) []
def jgz (V:List (List Input)→Option Int) (A:List Input→Option Bool) (I:List (List Input)→Int→Option (List Input)) (C:Input→Option Input) (r:List (List Input)) (frame:Int) (ins:List Input):Option (List (List Input) × Int):=
  if frame<0∨4096≤frame then some ([],21)
  else match V r with
  | none=>none
  | some c=>if c≠0 then some ([],25) else match A ins with
    | none=>none
    | some b=>if b=false then some ([],20) else match I r frame with
      | none=>none
      | some x=>if 32<x.length+ins.length then (if x.length+ins.length≤4294967296 then some ([],11) else none)
        else if r.length≤4096∧(∀ f∈r,(∀ x∈f,C x=some x)∧f.length≤1048576)∧(∀ x∈ins,C x=some x)∧ins.length≤1048576 then some ((padR r frame.toNat).set frame.toNat ((padR r frame.toNat).getD frame.toNat []++ins),0) else none
end GoForm
