/- Plain forms of the functions whose contracts are proved by hand. No conditions. -/
import Derived.Test.YtffgldbihpgjgaaGreatDoorF47T
set_option linter.all false
set_option maxRecDepth 100000
open Go Go.Rx
namespace GoForm
def updS (c:Int):Int:=if (bAnd .u32 c 1==1)=true then jcd .u32 (vO .u32 c 1) 2197175160 else vO .u32 c 1
def kQ:Nat->Int->Int
 | 0,c=>c
 | n+1,c=>kQ n (updS c)
def jbX (b:List UInt8):Int:=b.foldl (fun c x=>kQ 8 (jcd .u32 c (x.toNat:Int))) 4294967295
def PO (b:List UInt8):Int:=jcd .u32 4294967295 (jbX b)
def jae (b:List UInt8):Option (List UInt8):=if b.length<=1099511627776 then some (b++[toByte (PO b),toByte (vO .u32 (PO b) 8),toByte (vO .u32 (PO b) 16),toByte (vO .u32 (PO b) 24)]) else none
def exB:Body:={ ID:=0,Kind:=0,Transform:={ Position:={ X:=0,Y:=0 },qy:=0 },jZ:={ X:=0,Y:=0 },jC:=0,YA:={ X:=0,Y:=0 },Yl:=0,jN:=0,jI:=0,jR:=0,YO:=false,jQ:=false,yE:=false,YP:=false,Jt:=0,jk:=[] }
def exJ:jn:={ ID:=0,Kind:=0,QS:=0,QR:=0,JS:={ X:=0,Y:=0 },JR:={ X:=0,Y:=0 },KO:={ X:=0,Y:=0 },jM:=0,Jf:=false,QP:=0,QN:=0,Je:=false,Jl:=0,JQ:=0,JP:=0,Jm:=0,jH:=false,jx:=(0,0,0,0) }
def rdR {α:Type}:Option (α × Int × Int)->Option (Int ⊕ (α × Int))
 | none=>none
 | some (x,o,e)=>if e=0 then some (.inr (x,o)) else some (.inl e)
def JH {α β:Type} (r:Option (Int ⊕ (α × Int))) (k:α->Int->Option (Int ⊕ β)):Option (Int ⊕ β):=
 match r with
 | none=>none
 | some (.inl e)=>some (.inl e)
 | some (.inr (x,o))=>k x o
def Qa {α:Type} (el:Int->Option (Int ⊕ (α × Int))):Nat->List α->Int->Option (Int ⊕ (List α × Int))
 | 0,l,o=>some (.inr (l,o))
 | k+1,l,o=>JH (el o) fun x o=>Qa el k (l++[x]) o
section
variable (rI:Int->Option (Int × Int × Int)) (rV:Int->Option (Vec × Int × Int)) (rB:Int->Option (Bool × Int × Int))
def KI (o:Int):Option (Int ⊕ (Int × Int)):=JH (rdR (rI o)) fun n o=>if n<0 then some (.inl 3) else if 8192<n then some (.inl 5) else some (.inr (n,o))
def kI {α:Type} (el:Int->Option (Int ⊕ (α × Int))) (o:Int):Option (Int ⊕ (List α × Int)):=JH (KI rI o) fun n o=>Qa el n.toNat [] o
def vG (o:Int):Option (Int ⊕ (Jy × Int)):=
 JH (rdR (rI o)) fun kind o=>JH (rdR (rI o)) fun radius o=>JH (kI rI (fun o=>rdR (rV o)) o) fun vs o=>
 JH (rdR (rI o)) fun density o=>JH (rdR (rI o)) fun friction o=>JH (rdR (rI o)) fun restitution o=>JH (rdR (rB o)) fun sensor o=>
 JH (rdR (rI o)) fun category o=>JH (rdR (rI o)) fun mask o=>JH (rdR (rI o)) fun group o=>
 some (.inr ({ Shape:={ Kind:=kind,qM:=radius,jS:=vs },yy:=density,JL:=friction,jX:=restitution,YX:=sensor,Category:=category,Mask:=mask,QH:=group },o))
def QD (o:Int):Option (Int ⊕ (Body × Int)):=
 JH (rdR (rI o)) fun id o=>JH (rdR (rI o)) fun kind o=>JH (rdR (rV o)) fun p o=>JH (rdR (rI o)) fun angle o=>
 JH (rdR (rV o)) fun v o=>JH (rdR (rI o)) fun av o=>JH (rdR (rV o)) fun force o=>JH (rdR (rI o)) fun torque o=>
 JH (rdR (rI o)) fun ld o=>JH (rdR (rI o)) fun ad o=>JH (rdR (rI o)) fun gs o=>
 JH (rdR (rB o)) fun bullet o=>JH (rdR (rB o)) fun fr o=>JH (rdR (rB o)) fun ns o=>JH (rdR (rB o)) fun asl o=>
 JH (rdR (rI o)) fun idle o=>JH (kI rI (vG rI rV rB) o) fun fs o=>
 some (.inr ({ ID:=id,Kind:=kind,Transform:={ Position:=p,qy:=angle },jZ:=v,jC:=av,YA:=force,Yl:=torque,jN:=ld,jI:=ad,jR:=gs,YO:=bullet,jQ:=fr,yE:=ns,YP:=asl,Jt:=idle,jk:=fs },o))
def qi (o:Int):Option (Int ⊕ (jn × Int)):=
 JH (rdR (rI o)) fun id o=>JH (rdR (rI o)) fun kind o=>JH (rdR (rI o)) fun a o=>JH (rdR (rI o)) fun b o=>
 JH (rdR (rV o)) fun va o=>JH (rdR (rV o)) fun vb o=>JH (rdR (rV o)) fun ax o=>JH (rdR (rI o)) fun ra o=>JH (rdR (rB o)) fun el o=>
 JH (rdR (rI o)) fun lo o=>JH (rdR (rI o)) fun up o=>JH (rdR (rB o)) fun em o=>JH (rdR (rI o)) fun ms o=>JH (rdR (rI o)) fun mf o=>
 JH (rdR (rI o)) fun so o=>JH (rdR (rI o)) fun bf o=>JH (rdR (rB o)) fun cc o=>
 JH (rdR (rI o)) fun i0 o=>JH (rdR (rI o)) fun i1 o=>JH (rdR (rI o)) fun i2 o=>JH (rdR (rI o)) fun i3 o=>
 some (.inr ({ ID:=id,Kind:=kind,QS:=a,QR:=b,JS:=va,JR:=vb,KO:=ax,jM:=ra,Jf:=el,QP:=lo,QN:=up,Je:=em,Jl:=ms,JQ:=mf,JP:=so,Jm:=bf,jH:=cc,jx:=(i0,i1,i2,i3) },o))
def rdF {α:Type} (z:α):Option (Int ⊕ (α × Int))->Option (α × Int × Int)
 | none=>none
 | some (.inl e)=>some (z,0,e)
 | some (.inr (x,o))=>some (x,o,0)
def Uk {α:Type} (z:α) (rd:Int->Option (α × Int × Int)) (o c:Int):Option (α × Int × Int):=
 if c≠0 then some (z,o,c) else match rd o with
  | none=>none
  | some (x,o',e)=>if e≠0 then some (z,o,e) else some (x,o',0)
def Zi {α β:Type} (r:Option (α × Int × Int)) (k:α->Int->Int->Option β):Option β:=
 match r with
 | none=>none
 | some (x,o,c)=>k x o c
def kt (o c:Int):Option (Int × Int × Int):=Zi (Uk 0 rI o c) fun n o c=>
 if n<0 then some (0,o,3) else if 8192<n then some (0,o,5) else if c≠0 then some (0,o,c) else some (n,o,c)
def rInR (o c:Int):Option (Input × Int × Int):=Zi (Uk 0 rI o c) fun kind o c=>Zi (Uk 0 rI o c) fun id o c=>Zi (Uk ⟨0,0⟩ rV o c) fun vec o c=>Zi (Uk 0 rI o c) fun value o c=>
 Zi (Uk exB (fun o=>rdF exB (QD rI rV rB o)) o c) fun body o c=>Zi (Uk exJ (fun o=>rdF exJ (qi rI rV rB o)) o c) fun Mb o c=>
 some ({ Kind:=kind,ID:=id,Vec:=vec,Value:=value,Body:=body,jn:=Mb },o,c)
def mF:Nat->List Input->Int->Int->Option (List Input × Int × Int)
 | 0,l,o,c=>some (l,o,c)
 | k+1,l,o,c=>if c≠0 then some (l,o,c) else Zi (rInR rI rV rB o c) fun x o c=>mF k (l++[x]) o c
def uT:Nat->List (List Input)->Int->Int->Option (List (List Input) × Int × Int)
 | 0,l,o,c=>some (l,o,c)
 | k+1,l,o,c=>if c≠0 then some (l,o,c) else Zi (kt rI o c) fun n o c=>Zi (mF rI rV rB n.toNat [] o c) fun f o c=>uT k (l++[f]) o c
end
def zb (op:List UInt8->Option (List UInt8 × Int)) (rI:List UInt8->Int->Option (Int × Int × Int)) (rV:List UInt8->Int->Option (Vec × Int × Int)) (rB:List UInt8->Int->Option (Bool × Int × Int)) (V:List (List Input)->Option Int) (b:List UInt8):Option (List (List Input) × Int):=
 match op b with
 | none=>none
 | some (p,c)=>if c≠0 then some ([],c) else Zi (kt (rI p) 0 0) fun n o c=>Zi (uT (rI p) (rV p) (rB p) n.toNat [] o c) fun r o c=>
   if c≠0 then some ([],c) else if o<(p.length:Int) then some ([],3) else match V r with
    | none=>none
    | some e=>if e≠0 then some ([],25) else some (r,0)
def qV (word:Int->Option (List UInt8)) (f0:List UInt8):Nat->Int
 | 0=>0
 | i+1=>if word ((i:Int)+1)=some f0 then (i:Int)+1 else qV word f0 i
def WT (vec value:Bool):List Nat:=1::((if vec=true then [2,3] else [])++(if value=true then [4] else []))
def KY (pI pF:List UInt8->Option (Int × Int)):Nat->List (List UInt8)->Option (Option (List Int))
 | _,[]=>some (some [])
 | i,s::t=>match (if i=0 then pI s else pF s) with
   | none=>none
   | some (n,c)=>if c≠0 then some none else match KY pI pF (i+1) t with
     | none=>none
     | some none=>some none
     | some (some l)=>some (some (n::l))
def qu (kind:Int) (vec value:Bool) (l:List Int):Input:={ Kind:=kind,ID:=l.getD 0 0,Vec:=if vec=true then ⟨l.getD 1 0,l.getD 2 0⟩ else ⟨0,0⟩,Value:=if value=true then l.getD (if vec=true then 3 else 1) 0 else 0,Body:=exB,jn:=exJ }
def wL (word:Int->Option (List UInt8)) (used:Int->Option (Bool × Bool × Bool)) (pI pF:List UInt8->Option (Int × Int)) (fields:List (List UInt8)):Option (Input × Bool):=
 match fields with
 | []=>none
 | f0::rest=>match used (qV word f0 12) with
   | none=>none
   | some u=>if qV word f0 12=0\/rest.length≠(WT u.2.1 u.2.2).length then some (qu 0 false false [],false)
     else match KY pI pF 0 rest with
      | none=>none
      | some none=>some (qu 0 false false [],false)
      | some (some l)=>some (qu (qV word f0 12) u.2.1 u.2.2 l,true)
def zp:List UInt8:=[102,114,97,109,101]
def Yt (flds:List UInt8->Option (List (List UInt8) × Int)) (pin:List (List UInt8)->Option (Input × Bool)):List (List UInt8)->Nat->List (List Input)->Option (List (List Input) × Nat)
 | [],_,r=>some (r,0)
 | line::t,i,r=>match flds line with
   | none=>none
   | some f=>if f.2≠0\/f.1=[] then some ([],i+1) else if line=zp then Yt flds pin t (i+1) (r++[[]])
     else match pin f.1 with
      | none=>none
      | some x=>if x.2=false\/r=[] then some ([],i+1) else Yt flds pin t (i+1) (r.set (r.length - 1) (r.getD (r.length - 1) []++[x.1]))
def kr (split:List UInt8->Option (List (List UInt8) × Int)) (flds:List UInt8->Option (List (List UInt8) × Int)) (pin:List (List UInt8)->Option (Input × Bool)) (V:List (List Input)->Option Int) (s:List UInt8):Option (List (List Input) × Int × Int):=
 match split s with
 | none=>none
 | some q=>if q.2≠0 then some ([],0,q.2) else if q.1.length<=1048576 then (match Yt flds pin q.1 0 [] with
   | none=>none
   | some y=>if y.2≠0 then some ([],(y.2:Int),27) else match V y.1 with
     | none=>none
     | some c=>if c≠0 then some ([],0,25) else some (y.1,0,0)) else none
def jcy (r:List (List Input)) (k:Nat):List (List Input):=r++List.replicate (k+1 - r.length) []
def vX (V:List (List Input)->Option Int) (A:List Input->Option Bool) (I:List (List Input)->Int->Option (List Input)) (C:Input->Option Input) (r:List (List Input)) (frame:Int) (ins:List Input):Option (List (List Input) × Int):=
 if frame<0\/4096<=frame then some ([],21)
 else match V r with
 | none=>none
 | some c=>if c≠0 then some ([],25) else match A ins with
   | none=>none
   | some b=>if b=false then some ([],20) else match I r frame with
     | none=>none
     | some x=>if 32<x.length+ins.length then (if x.length+ins.length<=4294967296 then some ([],11) else none)
       else if r.length<=4096/\(∀ f∈r,(∀ x∈f,C x=some x)/\f.length<=1048576)/\(∀ x∈ins,C x=some x)/\ins.length<=1048576 then some ((jcy r frame.toNat).set frame.toNat ((jcy r frame.toNat).getD frame.toNat []++ins),0) else none
end GoForm
