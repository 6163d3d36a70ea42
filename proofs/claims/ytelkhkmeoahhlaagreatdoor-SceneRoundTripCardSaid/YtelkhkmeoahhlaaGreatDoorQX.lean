/- Several texts in one. No conditions. -/
import Derived.Test.YtelkhkmeoahhlaaGreatDoorKX
import Derived.Test.YtelkhkmeoahhlaaGreatDoorOB
section
set_option linter.all false
set_option maxRecDepth 100000
open Go Go.Rx
namespace GoForm
def Ok62 (n:Int):Prop:=n.natAbs<=4611686018427387904
theorem Ok62.i64 {n:Int} (h:Ok62 n):I64 n:=by
 unfold Ok62 at h
 have e1:IntKind.i64.min = -9223372036854775808:=by decide
 have e2:IntKind.i64.max=9223372036854775807:=by decide
 unfold I64
 rw [e1,e2]
 omega
theorem pInt_62 {n:Int} (h:Ok62 n):pInt (fmtInt n)=(n,0):=by rw [pInt_fmt];exact if_pos h
theorem b01_fmt {n:Int} (h:n=0\/n=1):b01 (fmtInt n)=true:=by
 rcases h with rfl | rfl
 ·have:fmtInt 0=[48]:=by unfold fmtInt digs;rfl
  rw [this];rfl
 ·have:fmtInt 1=[49]:=by unfold fmtInt digs;rfl
  rw [this];rfl
theorem ix_succ {α:Type} [Inhabited α] (a:α) (l:List α) (i:Int) (h:0<=i):ix (a::l) (1+i)=ix l i:=by
 obtain ⟨n,rfl⟩:=Int.eq_ofNat_of_zero_le h
 unfold ix
 have:(1+(n:Int)).toNat=n+1:=by omega
 rw [this];rfl
theorem ix_map {α β:Type} [Inhabited α] [Inhabited β] (f:α->β) (l:List α) (i:Int) (h:0<=i/\i<(l.length:Int)):ix (l.map f) i=f (ix l i):=by
 obtain ⟨n,rfl⟩:=Int.eq_ofNat_of_zero_le h.1
 have hn:n<l.length:=by omega
 show ix (l.map f) (n:Int)=f (ix l (n:Int))
 rw [ix_lt _ n (by simpa using hn),ix_lt _ n hn];simp
theorem vals_fmt (l:List Int) (h:∀ n∈l,Ok62 n):vals (l.map fmtInt)=l:=by
 unfold vals
 rw [List.map_map]
 induction l with
 | nil=>rfl
 | cons a l ih=>
   rw [List.map_cons,ih fun n hn=>h n (List.mem_cons_of_mem _ hn)]
   have:pInt (fmtInt a)=(a,0):=pInt_62 (h a (by simp))
   show (pInt (fmtInt a)).1::l=a::l
   rw [this]
theorem line_fmt {kw:List UInt8} {l:List Int} {bl:List Int} (h:∀ n∈l,Ok62 n) (hb:∀ i∈bl,(0<=i/\i<(l.length:Int))/\(ix l i=0\/ix l i=1)):line (kw::l.map fmtInt) kw true bl=(l,0):=by
 have hp:∀ s∈l.map fmtInt,(pInt s).2=0:=by
  intro s hs
  obtain ⟨n,hn,rfl⟩:=List.mem_map.1 hs
  rw [pInt_62 (h n hn)]
 have h1:syn (l.map fmtInt)=false:=by
  unfold syn
  rw [List.any_eq_false]
  intro s hs
  rw [hp s hs];decide
 have h2:big (l.map fmtInt)=false:=by
  unfold big
  rw [List.any_eq_false]
  intro s hs
  rw [hp s hs];decide
 have h3:badB (kw::l.map fmtInt) bl=false:=by
  unfold badB
  rw [List.any_eq_false]
  intro i hi
  obtain ⟨q1,q2⟩:=hb i hi
  rw [ix_succ _ _ _ q1.1,ix_map _ _ _ q1,b01_fmt q2];decide
 unfold line
 rw [if_neg (by simp [ix])]
 unfold nums
 rw [List.tail_cons,if_neg (by simp [h1,h3]),if_neg (by simp [h2]),vals_fmt l h]
theorem of_bit (b:Bool):(bit b==1)=b:=by cases b <;> rfl
theorem bit_01 (b:Bool):bit b=0\/bit b=1:=by cases b <;> simp [bit]
def numP (f:List (List UInt8)) (n:Int):List Int × Int:=line f (ix f 0) ((f.length:Int) - 1==n) []
theorem integers_eq (f:List (List UInt8)) (n:Int) (hf:f.length<=1000000) (hs:∀ s∈f,Sm s) (h0:f≠[]) (hn:0<=n/\n<=1000):scene_integers f n=some ((numP f n).1,(numP f n).2==0):=by
 have hpos:=List.length_pos_iff.2 h0
 unfold scene_integers
 rw [Chk_of (by omega)]
 rw [Let_nr]
 refine Eq.trans (Bind_of (exact_line f (ix f 0) n [] hf hs hn (by show _<_;decide) (by simp)).1) ?_
 rfl
theorem bodyOf_bNums (b:Body):bodyOf (bNums b)={ b with Fixtures:=[] }:=by
 show ({ ID:=b.ID,Kind:=b.Kind,Transform:={ Position:={ X:=b.Transform.Position.X,Y:=b.Transform.Position.Y },Angle:=b.Transform.Angle },Velocity:={ X:=b.Velocity.X,Y:=b.Velocity.Y },AngularVelocity:=b.AngularVelocity,Force:={ X:=b.Force.X,Y:=b.Force.Y },Torque:=b.Torque,LinearDamping:=b.LinearDamping,AngularDamping:=b.AngularDamping,GravityScale:=b.GravityScale,Bullet:=bit b.Bullet==1,FixedRotation:=bit b.FixedRotation==1,NoSleep:=bit b.NoSleep==1,Asleep:=bit b.Asleep==1,IdleSteps:=b.IdleSteps,Fixtures:=[] }:Body)=_
 rw [of_bit,of_bit,of_bit,of_bit]
theorem jointOf_jNums (j:Joint):jointOf (jNums j)=j:=by
 obtain ⟨x1,x2,x3,x4,⟨x5,x6⟩,⟨x7,x8⟩,⟨x9,x10⟩,x11,x12,x13,x14,x15,x16,x17,x18,x19,x20,⟨x21,x22,x23,x24⟩⟩:=j
 show ({ ID:=x1,Kind:=x2,BodyA:=x3,BodyB:=x4,AnchorA:=⟨x5,x6⟩,AnchorB:=⟨x7,x8⟩,Axis:=⟨x9,x10⟩,ReferenceAngle:=x11,EnableLimit:=bit x12==1,Lower:=x13,Upper:=x14,EnableMotor:=bit x15==1,MotorSpeed:=x16,MaxForce:=x17,Softness:=x18,BreakForce:=x19,CollideConnected:=bit x20==1,Impulses:=(x21,x22,x23,x24) }:Joint)=_
 rw [of_bit,of_bit,of_bit]
theorem flat_pairs:∀ l:List Vec,pairs (l.flatMap (fun v=>[v.X,v.Y]))=l
 | []=>rfl
 | v::l=>by
   rw [List.flatMap_cons]
   show ⟨v.X,v.Y⟩::pairs (l.flatMap fun v=>[v.X,v.Y])=_
   rw [flat_pairs l]
theorem fixOf_fNums (f:Fixture):fixOf (fNums f)=f:=by
 show ({ Shape:={ Kind:=f.Shape.Kind,Radius:=f.Shape.Radius,Vertices:=pairs (f.Shape.Vertices.flatMap (fun v=>[v.X,v.Y])) },Density:=f.Density,Friction:=f.Friction,Restitution:=f.Restitution,Sensor:=bit f.Sensor==1,Category:=f.Category,Mask:=f.Mask,Group:=f.Group }:Fixture)=_
 rw [of_bit,flat_pairs]
structure InvN (N:Nat) (x:World_) (sec:Int):Prop where
 s0:0<=sec
 nb:x.Bodies.length<=N
 nj:x.Joints.length<=N
 nc:x.Contacts.length<=N
 no:x.Overlaps.length<=N
 fx:∀ b∈x.Bodies,b.Fixtures.length<=N
 pt:∀ c∈x.Contacts,c.Manifold.Points.length<=N
 vx:∀ b∈x.Bodies,∀ f∈b.Fixtures,f.Shape.Vertices.length<=10000
 e2:sec<2->x.Bodies=[]
 e3:sec<3->x.Joints=[]
 e4:sec<4->x.Contacts=[]
 e5:sec<5->x.Overlaps=[]
 n2:sec=2->x.Bodies≠[]
 n4:sec=4->x.Contacts≠[]
 ai:AllI x
theorem InvN.zero:InvN 0 noW 0:=by
 refine ⟨by decide,by simp [noW],by simp [noW],by simp [noW],by simp [noW],by simp [noW],by simp [noW],by simp [noW],fun _=>rfl,fun _=>rfl,fun _=>rfl,fun _=>rfl,by simp,by simp,⟨?_,by simp [noW],by simp [noW],by simp [noW],by simp [noW],by simp [noW],by simp [noW]⟩⟩
 intro n hn
 simp [wNums,noW] at hn
 subst hn
 exact Ok62.i64 (by unfold Ok62;decide)
structure Rd (f:List (List UInt8)) (kw:List UInt8) (n:Int) (l:List Int):Prop where
 txt:Lib.join f [32]=lineT kw l
 ok:∀ n∈l,Ok62 n
 len:(l.length:Int)=n
theorem Rd.i64 {f kw n l} (h:Rd f kw n l):∀ n∈l,I64 n:=fun n hn=>(h.ok n hn).i64
section
variable {N:Nat} {x:World_} {sec:Int}
variable (I:InvN N x sec) (hN:N<=900)
include I hN
end
theorem InvN.few {N:Nat} {x:World_} {s:Int} (I:InvN N x s) (hN:N<=900):Few x:=
 ⟨by have:=I.nb;omega,by have:=I.nj;omega,by have:=I.nc;omega,by have:=I.no;omega,fun c hc=>by have:=I.pt c hc;omega,fun b hb=>by have:=I.fx b hb;omega,I.vx⟩
theorem isqL_lb (n:Int):∀ (k:Nat) (v:Int),0<=v->v*v<=n->n<(v+2 ^ k)*(v+2 ^ k)->n<(GoOld.isqL n k v+1)*(GoOld.isqL n k v+1)
 | 0,v,h,h2,h3=>by simpa [GoOld.isqL] using h3
 | k + 1,v,h,h2,h3=>by
   have p:(0:Int)<2 ^ k:=Int.pow_pos (by decide)
   have e:(2:Int) ^ (k+1)=2 ^ k+2 ^ k:=by rw [Int.pow_succ];omega
   unfold GoOld.isqL
   by_cases c:(v+2 ^ k)*(v+2 ^ k)<=n
   ·rw [if_pos c]
    refine isqL_lb n k (v+2 ^ k) (by omega) c ?_
    rw [show v+2 ^ k+2 ^ k=v+2 ^ (k+1) by rw [e];omega]
    exact h3
   ·rw [if_neg c]
    exact isqL_lb n k v h h2 (by omega)
theorem isq_lb (n:Int) (h:0<=n/\n<=4611686018427387904):n<(GoOld.isq n+1)*(GoOld.isq n+1):=by
 unfold GoOld.isq
 rw [if_neg (by omega)]
 refine isqL_lb n 32 0 (by decide) (by omega) ?_
 have:((0:Int)+2 ^ 32)*(0+2 ^ 32)=18446744073709551616:=by decide
 rw [this];omega
theorem sq_lt {a b:Int} (hb:0<=b) (h:a*a<b*b) : -b<a/\a<b:=by
 constructor
 ·refine Int.not_le.1 fun hc=>?_
  have:b*b<=(-a)*(-a):=Int.mul_le_mul (by omega) (by omega) hb (by omega)
  rw [Int.neg_mul_neg] at this
  omega
 ·refine Int.not_le.1 fun hc=>?_
  have:b*b<=a*a:=Int.mul_le_mul hc hc hb (by omega)
  omega
theorem sat_bd (x:Int) : -536870911<=GoOld.sat x/\GoOld.sat x<=536870911/\((-536870911<GoOld.sat x/\GoOld.sat x<536870911)->GoOld.sat x=x):=by
 unfold GoOld.sat;omega
theorem len_small {v:Vec} (h:GoOld.lenV v<=65552):Ok62 v.X/\Ok62 v.Y:=by
 unfold GoOld.lenV at h
 obtain ⟨x1,x2,x3⟩:=sat_bd v.X
 obtain ⟨y1,y2,y3⟩:=sat_bd v.Y
 generalize GoOld.sat v.X=a at h x1 x2 x3
 generalize GoOld.sat v.Y=b at h y1 y2 y3
 have ha0:0<=a*a:=by rcases Int.le_total 0 a with h | h;exact Int.mul_nonneg h h;exact Int.mul_nonneg_of_nonpos_of_nonpos h h
 have hb0:0<=b*b:=by rcases Int.le_total 0 b with h | h;exact Int.mul_nonneg h h;exact Int.mul_nonneg_of_nonpos_of_nonpos h h
 have ha1:a*a<=536870911*536870911:=by
  rcases Int.le_total 0 a with h | h
  ·exact Int.mul_le_mul x2 x2 h (by decide)
  ·have:(-a)*(-a)<=536870911*536870911:=Int.mul_le_mul (by omega) (by omega) (by omega) (by decide)
   rwa [Int.neg_mul_neg] at this
 have hb1:b*b<=536870911*536870911:=by
  rcases Int.le_total 0 b with h | h
  ·exact Int.mul_le_mul y2 y2 h (by decide)
  ·have:(-b)*(-b)<=536870911*536870911:=Int.mul_le_mul (by omega) (by omega) (by omega) (by decide)
   rwa [Int.neg_mul_neg] at this
 have q:=isq_lb (a*a+b*b) ⟨by omega,by omega⟩
 have q0:=(GoOld.isq_bd (a*a+b*b)).1
 generalize GoOld.isq (a*a+b*b)=r at q q0 h
 have q2:(r+1)*(r+1)<=65553*65553:=Int.mul_le_mul (by omega) (by omega) (by omega) (by decide)
 have sa:=sq_lt (a:=a) (b:=65553) (by decide) (by omega)
 have sb:=sq_lt (a:=b) (b:=65553) (by decide) (by omega)
 have ea:=x3 (by omega)
 have eb:=y3 (by omega)
 unfold Ok62
 omega
theorem inb_iff {x a b:Int}:inb x a b=true↔a<=x/\x<=b:=by unfold inb;simp
theorem Ok62.of {x a b:Int} (h:a<=x/\x<=b) (h1 : -4611686018427387904<=a:=by decide) (h2:b<=4611686018427387904:=by decide):Ok62 x:=by unfold Ok62;omega
structure AllO (w:World_):Prop where
 hw:∀ n∈wNums w,Ok62 n
 hb:∀ b∈w.Bodies,∀ n∈bNums b,Ok62 n
 hf:∀ b∈w.Bodies,∀ f∈b.Fixtures,∀ n∈fNums f,Ok62 n
 hj:∀ j∈w.Joints,∀ n∈jNums j,Ok62 n
 hc:∀ c∈w.Contacts,∀ n∈cNums c,Ok62 n
 hd:∀ c∈w.Contacts,∀ d∈c.Manifold.Points,∀ n∈dNums d,Ok62 n
 hk:∀ k∈w.Overlaps,∀ n∈kNums k,Ok62 n
theorem bit62 (b:Bool):Ok62 (bit b):=by cases b <;> exact (by unfold Ok62;decide)
theorem vbs_all:∀ (N:Int) (l:List Body) (i:Nat) (p:Int),vbs N l i p=true->∀ b∈l,GoOld.validB b=0
 | _,[],_,_,_,b,hb=>by cases hb
 | N,a::t,i,p,h,b,hb=>by
   unfold vbs at h
   split at h
   ·cases h
   ·rename_i hn
    simp only [Bool.or_eq_true,not_or,bne_iff_ne,Decidable.not_not] at hn
    rcases List.mem_cons.1 hb with rfl | hb
    ·exact hn.1.1
    ·exact vbs_all N t _ _ h b hb
theorem vjs_all (w:World_):∀ (l:List Joint) (i:Nat) (p:Int),vjs w l i p=true->∀ b∈l,jv b=0
 | [],_,_,_,b,hb=>by cases hb
 | a :: t,i,p,h,b,hb=>by
   unfold vjs at h
   split at h
   ·cases h
   ·rename_i hn
    simp only [Bool.or_eq_true,not_or,bne_iff_ne,Decidable.not_not] at hn
    rcases List.mem_cons.1 hb with rfl | hb
    ·exact hn.1.1.1.1
    ·exact vjs_all w t _ _ h b hb
theorem body_ok {b:Body} (h:GoOld.validB b=0):(∀ n∈bNums b,Ok62 n)/\∀ f∈b.Fixtures,GoOld.validF f=0:=by
 unfold GoOld.validB at h
 split at h
 ·cases h
 rename_i h1
 split at h
 ·cases h
 rename_i h2
 split at h
 ·cases h
 split at h
 ·cases h
 rename_i h4
 have h2:GoOld.RngOk b:=Decidable.not_not.1 h2
 unfold GoOld.RngOk GoOld.TrOk GoOld.Bd GoOld.Wn at h2
 obtain ⟨r1,⟨⟨r2,r3⟩,r4⟩,⟨r5,r6⟩,r7,⟨r8,r9⟩,r10,r11,r12,r13,r14⟩:=h2
 have hk:Ok62 b.Kind:=by unfold Ok62;omega
 have ha:Ok62 b.Transform.Angle:=by unfold Ok62;omega
 refine ⟨?_,fun f hf=>?_⟩
 ·intro n hn
  simp only [bNums,List.mem_cons,List.not_mem_nil,or_false] at hn
  rcases hn with rfl | rfl | rfl | rfl | rfl | rfl | rfl | rfl | rfl | rfl | rfl | rfl | rfl | rfl | rfl | rfl | rfl | rfl | rfl <;> first | exact bit62 _ | exact hk | exact ha | exact Ok62.of r1 | exact Ok62.of r2 | exact Ok62.of r3 | exact Ok62.of r5 | exact Ok62.of r6 | exact Ok62.of r7 | exact Ok62.of r8 | exact Ok62.of r9 | exact Ok62.of r10 | exact Ok62.of r11 | exact Ok62.of r12 | exact Ok62.of r13 | exact Ok62.of r14
 ·have h4:b.Fixtures.all (fun f=>decide (GoOld.validF f=0))=true:=by simpa using h4
  simpa using List.all_eq_true.1 h4 f hf
theorem fix_ok {f:Fixture} (h:GoOld.validF f=0):∀ n∈fNums f,Ok62 n:=by
 unfold GoOld.validF at h
 split at h
 ·rename_i h1;exact absurd h h1
 rename_i h1
 have h1:GoOld.validS f.Shape=0:=Decidable.not_not.1 h1
 have h2:GoOld.Wn f.Density 0 262144/\GoOld.Wn f.Friction 0 131072/\GoOld.Wn f.Restitution 0 65536/\GoOld.Wn f.Category 0 65535/\GoOld.Wn f.Mask 0 65535/\GoOld.Wn f.Group (-32) 32:=by
  split at h
  ·assumption
  ·cases h
 unfold GoOld.Wn at h2
 obtain ⟨r1,r2,r3,r4,r5,r6⟩:=h2
 unfold GoOld.validS at h1
 split at h1
 ·cases h1
 rename_i s1
 split at h1
 ·cases h1
 split at h1
 ·cases h1
 rename_i s3
 split at h1
 ·cases h1
 rename_i s4
 have hk:Ok62 f.Shape.Kind:=by unfold Ok62;omega
 have hr:Ok62 f.Shape.Radius:=by
  have s4:GoOld.radiusBad f.Shape=false:=by simpa using s4
  unfold GoOld.radiusBad at s4
  split at s4
  ·have:f.Shape.Radius=0:=by simpa using s4
   rw [this];unfold Ok62;decide
  ·rw [Bool.or_eq_false_iff,decide_eq_false_iff_not,decide_eq_false_iff_not] at s4
   unfold Ok62;omega
 have s3:f.Shape.Vertices.all (GoOld.inRng 1048576)=true:=by simpa using s3
 intro n hn
 unfold fNums at hn
 rcases List.mem_append.1 hn with hn | hn
 ·simp only [List.mem_cons,List.not_mem_nil,or_false] at hn
  rcases hn with rfl | rfl | rfl | rfl | rfl | rfl | rfl | rfl | rfl <;> first | exact bit62 _ | exact hk | exact hr | exact Ok62.of r1 | exact Ok62.of r2 | exact Ok62.of r3 | exact Ok62.of r4 | exact Ok62.of r5 | exact Ok62.of r6
 ·obtain ⟨v,hv,hn⟩:=List.mem_flatMap.1 hn
  have:=List.all_eq_true.1 s3 v hv
  unfold GoOld.inRng at this
  simp only [Bool.and_eq_true,decide_eq_true_eq] at this
  simp only [List.mem_cons,List.not_mem_nil,or_false] at hn
  rcases hn with rfl | rfl <;> · unfold Ok62;omega
theorem joint_ok {j:Joint} (h:jv j=0):∀ n∈jNums j,Ok62 n:=by
 unfold jv at h
 split at h
 ·cases h
 rename_i h1
 split at h
 ·cases h
 rename_i h2
 split at h
 ·cases h
 rename_i h3
 split at h
 ·cases h
 rename_i h4
 rw [Bool.or_eq_true,not_or,decide_eq_true_eq,decide_eq_true_eq] at h1
 have hk:Ok62 j.Kind:=by unfold Ok62;omega
 have h2:numOk j=true:=by simpa using h2
 have h3:jbOk j=true:=by simpa using h3
 have h4:jinc j=false:=by simpa using h4
 unfold numOk impOk inv4 at h2
 simp only [Bool.and_eq_true,inb_iff,List.all_cons,List.all_nil,decide_eq_true_eq] at h2
 obtain ⟨⟨i1,i2,i3,i4,-⟩,⟨⟨⟨⟨⟨⟨⟨⟨⟨r1,r2,r3⟩,r4,r5⟩,r6⟩,r7⟩,r8⟩,-⟩,r9⟩,r10⟩,r11⟩,r12⟩:=h2
 have hrch:reach j.Kind<=268435456:=by unfold reach;split <;> decide
 have hlim : -268435456<=(limR j.Kind).1/\(limR j.Kind).2<=268435456:=by unfold limR;split <;> (try split) <;> decide
 have q2:Ok62 j.AnchorA.X:=by unfold Ok62;omega
 have q3:Ok62 j.AnchorA.Y:=by unfold Ok62;omega
 have q7:Ok62 j.Lower:=by unfold Ok62;omega
 have q8:Ok62 j.Upper:=by unfold Ok62;omega
 have qb:Ok62 j.BodyA/\Ok62 j.BodyB:=by
  unfold jbOk at h3
  split at h3
  ·rw [Bool.and_eq_true,inb_iff,beq_iff_eq] at h3
   unfold Ok62;omega
  ·rw [Bool.and_eq_true,Bool.and_eq_true,inb_iff,inb_iff] at h3
   unfold Ok62;omega
 have qa : Ok62 j.Axis.X/\Ok62 j.Axis.Y:=by
  have pl:plainA j=true->Ok62 j.Axis.X/\Ok62 j.Axis.Y:=by
   intro h
   unfold plainA at h
   rw [Bool.and_eq_true,decide_eq_true_eq,decide_eq_true_eq] at h
   unfold Ok62;omega
  unfold jinc at h4
  split at h4
  ·have:inb (GoOld.lenV j.Axis) 65520 65552=true:=by simpa using h4
   exact len_small (inb_iff.1 this).2
  ·split at h4
   ·simp only [Bool.or_eq_false_iff,Bool.not_eq_false'] at h4;exact pl h4.1.1
   ·split at h4
    ·simp only [Bool.or_eq_false_iff,Bool.not_eq_false'] at h4;exact pl h4.1.1
    ·split at h4
     ·simp only [Bool.or_eq_false_iff,Bool.not_eq_false'] at h4;exact pl h4.1.1
     ·exact pl (by simpa using h4)
 intro n hn
 simp only [jNums,List.mem_cons,List.not_mem_nil,or_false] at hn
 rcases hn with rfl | rfl | rfl | rfl | rfl | rfl | rfl | rfl | rfl | rfl | rfl | rfl | rfl | rfl | rfl | rfl | rfl | rfl | rfl | rfl | rfl | rfl | rfl | rfl <;> first | exact bit62 _ | exact hk | exact qa.1 | exact qa.2 | exact qb.1 | exact qb.2 | exact q2 | exact q3 | exact q7 | exact q8 | exact Ok62.of r1 | exact Ok62.of r4 | exact Ok62.of r5 | exact Ok62.of r6 | exact Ok62.of r9 | exact Ok62.of r10 | exact Ok62.of r11 | exact Ok62.of r12 | exact Ok62.of i1 | exact Ok62.of i2 | exact Ok62.of i3 | exact Ok62.of i4
theorem idx_mem {α:Type} (f:α->Bool):∀ (l:List α) (i:Nat),0<=idx f l i->∃ a∈l,f a=true
 | [],i,h=>by simp [idx] at h
 | a :: l,i,h=>by
   unfold idx at h
   split at h
   ·rename_i hf;exact ⟨a,by simp,hf⟩
   ·obtain ⟨b,hb,hf⟩:=idx_mem f l _ h
    exact ⟨b,List.mem_cons_of_mem _ hb,hf⟩
theorem id_ok {w:World_} (hB:∀ b∈w.Bodies,GoOld.validB b=0) {id:Int} (h:0<=fb w id):Ok62 id:=by
 obtain ⟨b,hb,he⟩:=idx_mem _ _ _ h
 rw [beq_iff_eq] at he
 rw [<- he]
 exact (body_ok (hB b hb)).1 b.ID (by simp [bNums])
theorem key_ok {w:World_} (hB:∀ b∈w.Bodies,GoOld.validB b=0) {k:PairKey} (h1:okK k=true) (h2:exk w k=true):∀ n∈kNums k,Ok62 n:=by
 unfold exk exw at h2
 simp only [Bool.and_eq_true,decide_eq_true_eq] at h2
 unfold okK at h1
 simp only [Bool.and_eq_true,decide_eq_true_eq] at h1
 have a:=id_ok hB h2.1.1.1
 have b:=id_ok hB h2.2.1.1
 intro n hn
 simp only [kNums,List.mem_cons,List.not_mem_nil,or_false] at hn
 rcases hn with rfl | rfl | rfl | rfl
 ·exact a
 ·unfold Ok62;omega
 ·exact b
 ·unfold Ok62;omega
theorem sat_ok {x:Int} (h:sat x=true):Ok62 x:=Ok62.of (inb_iff.1 h)
theorem valid_O {w:World_} (h:wv w=0):AllO w:=by
 unfold wv at h
 split at h
 ·cases h
 rename_i h1
 split at h
 ·cases h
 split at h
 ·cases h
 rename_i h3
 split at h
 ·cases h
 rename_i h4
 split at h
 ·cases h
 rename_i h5
 split at h
 ·cases h
 rename_i h6
 have h1:vset w.Settings=0:=by simpa using h1
 unfold vset at h1
 split at h1
 rotate_left
 ·cases h1
 rename_i h2
 simp only [Bool.and_eq_true,inb_iff] at h2
 obtain ⟨⟨⟨⟨s1,s2⟩,s3⟩,s4⟩,s5⟩:=h2
 rw [Bool.or_eq_true,not_or] at h3
 have n1:inb w.NextID 1 1099511627776=true:=by simpa using h3.1
 have n2:inb w.Frame 0 1099511627776=true:=by simpa using h3.2
 have hB:=vbs_all _ _ _ _ (show vbs w.NextID w.Bodies 0 0=true by simpa using h4)
 have hJ:=vjs_all _ _ _ _ (show vjs w w.Joints 0 0=true by simpa using h5)
 have hC:cOk w=true:=by simpa using h6
 unfold cOk at hC
 simp only [Bool.and_eq_true,List.all_eq_true] at hC
 obtain ⟨c1,⟨c2,c3⟩,c4,c5⟩:=hC
 refine ⟨?_,fun b hb=>(body_ok (hB b hb)).1,fun b hb f hf=>fix_ok ((body_ok (hB b hb)).2 f hf),fun j hj=>joint_ok (hJ j hj),?_,?_,fun k hk=>key_ok hB (vks_ok _ _ _ c3 k hk) (c5 k hk)⟩
 ·intro n hn
  simp only [wNums,List.mem_cons,List.not_mem_nil,or_false] at hn
  rcases hn with rfl | rfl | rfl | rfl | rfl | rfl | rfl
  ·exact Ok62.of s1
  ·exact Ok62.of s2
  ·exact Ok62.of s3
  ·exact Ok62.of s4
  ·exact Ok62.of s5
  ·exact Ok62.of (inb_iff.1 n1)
  ·exact Ok62.of (inb_iff.1 n2)
 ·intro c hc n hn
  have hk:c.Key∈keysOf w:=List.mem_map.2 ⟨c,hc,rfl⟩
  have q:=key_ok hB (vks_ok _ _ _ c2 _ hk) (c4 _ hk)
  have m:=c1 c hc
  unfold mOk at m
  rw [Bool.and_eq_true,Bool.not_eq_true',Bool.or_eq_false_iff] at m
  have m2:(sat c.Manifold.Normal.X&&sat c.Manifold.Normal.Y)=true:=by simpa using m.1.2
  rw [Bool.and_eq_true] at m2
  simp only [cNums,List.mem_cons,List.not_mem_nil,or_false] at hn
  simp only [kNums,List.mem_cons,List.not_mem_nil,or_false,forall_eq_or_imp,forall_eq] at q
  rcases hn with rfl | rfl | rfl | rfl | rfl | rfl
  ·exact q.1
  ·exact q.2.1
  ·exact q.2.2.1
  ·exact q.2.2.2
  ·exact sat_ok m2.1
  ·exact sat_ok m2.2
 ·intro c hc d hd n hn
  have m:=c1 c hc
  unfold mOk at m
  rw [Bool.and_eq_true,List.all_eq_true] at m
  have p:=m.2 d hd
  unfold pOk at p
  simp only [Bool.and_eq_true] at p
  obtain ⟨-,p1,p2,p3,p4,p5,p6⟩:=p
  simp only [dNums,List.mem_cons,List.not_mem_nil,or_false] at hn
  rcases hn with rfl | rfl | rfl | rfl | rfl | rfl <;> exact sat_ok (by assumption)
theorem fmt_isFl (n:Int):isFl (fmtInt n)=true:=by
 obtain ⟨d1,-,x,l,e,-⟩:=digs_facts n.natAbs n.natAbs (Nat.le_refl _)
 have hd:∀ c∈digs n.natAbs,33<=c.toNat/\c.toNat<=126:=fun c hc=>by
  have:=isD_iff.1 (List.all_eq_true.1 d1 c hc)
  omega
 unfold isFl fmtInt
 rw [Bool.and_eq_true,List.all_eq_true,decide_eq_true_eq]
 by_cases h:n<0
 ·rw [if_pos h]
  refine ⟨fun c hc=>?_,by simp⟩
  rw [Bool.and_eq_true,decide_eq_true_eq,decide_eq_true_eq]
  rcases List.mem_cons.1 hc with rfl | hc
  ·decide
  ·exact hd c hc
 ·rw [if_neg h]
  refine ⟨fun c hc=>?_,by rw [e];simp⟩
  rw [Bool.and_eq_true,decide_eq_true_eq,decide_eq_true_eq]
  exact hd c hc
def Steps (L:List (List UInt8)) (x:World_) (sec:Int) (y:World_) (s:Int):Prop:=∀ (rest:List (List UInt8)) (i:Nat),linesP (L++rest) i x sec=linesP rest (i+L.length) y s
theorem Steps.nil {x:World_} {sec:Int}:Steps [] x sec x sec:=fun _ _=>rfl
theorem Steps.app {L M:List (List UInt8)} {x y z:World_} {a b c:Int} (h1:Steps L x a y b) (h2:Steps M y b z c):Steps (L++M) x a z c:=fun rest i=>by
 rw [List.append_assoc,h1,h2,List.length_append,Nat.add_assoc]
theorem Steps.one {kw:List UInt8} {l:List Int} {x y:World_} {sec s:Int} (hk:isFl kw=true) (hl:(lineT kw l).length<=1000000) (h:stepP x sec (kw::l.map fmtInt)=some (y,s,true)):Steps [lineT kw l] x sec y s:=fun rest i=>by
 show Rx.Bind (format_Fields (lineT kw l)) _=_
 have hp:pFields (lineT kw l)=(kw::l.map fmtInt,0):=by
  rw [<- lineT_join]
  refine pFields_join _ ?_
  rw [List.all_cons,hk,Bool.true_and,List.all_eq_true]
  intro s hs
  obtain ⟨n,-,rfl⟩:=List.mem_map.1 hs
  exact fmt_isFl n
 rw [Fields_eq _ hl,hp,Bind_snr]
 refine Eq.trans (Bind_of h) ?_
 rfl
theorem fmt_sm {kw:List UInt8} {l:List Int} (hl:(lineT kw l).length<=1000000):∀ s∈kw::l.map fmtInt,Sm s:=by
 intro s hs
 have h:s.length<=(lineT kw l).length:=by
  unfold lineT
  rcases List.mem_cons.1 hs with rfl | hs
  ·rw [List.length_append];omega
  ·obtain ⟨n,hn,rfl⟩:=List.mem_map.1 hs
   obtain ⟨a,b,e⟩:=List.append_of_mem hn
   rw [e,List.flatMap_append,List.flatMap_cons]
   simp;omega
 exact sm_of (Nat.le_trans h hl) (by decide)
theorem line62 (kw:List UInt8) (l:List Int) (hk:kw.length<=1000) (hl:l.length<=1000) (h:∀ n∈l,Ok62 n):(lineT kw l).length<=1000000:=by
 have:=lineT_len kw l (fun n hn=>(h n hn).i64)
 omega
theorem ints_fmt {k:List UInt8} {l:List Int} {n:Int} (hk:k.length<=1000) (hl:l.length<=1000) (h:∀ n∈l,Ok62 n) (hn:(l.length:Int)=n):scene_integers (k::l.map fmtInt) n=some (l,true):=by
 have h1:=fmt_sm (line62 k l hk hl h)
 rw [integers_eq _ n (by simp;omega) h1 (by simp) (by omega)]
 have:numP (k::l.map fmtInt) n=(l,0):=by
  unfold numP
  have e:(((k::l.map fmtInt).length:Int) - 1==n)=true:=by rw [beq_iff_eq];simp;omega
  rw [e]
  exact line_fmt h (by simp)
 rw [this];rfl
theorem body_fmt2 {b:Body} (h:∀ n∈bNums b,Ok62 n):scene_ParseBody (kBody::(bNums b).map fmtInt)=some ({ b with Fixtures:=[] },0):=by
 have hl:(bNums b).length=19:=rfl
 have h1:=fmt_sm (line62 kBody (bNums b) (by decide) (by omega) h)
 rw [(body_lines _ (by simp;omega) h1).1]
 have q:line (kBody::(bNums b).map fmtInt) kBody (((kBody::(bNums b).map fmtInt).length:Int) - 1==19) bl1=(bNums b,0):=by
  have e:(((kBody::(bNums b).map fmtInt).length:Int) - 1==19)=true:=by rw [beq_iff_eq];simp;omega
  rw [e]
  refine line_fmt h fun i hi=>⟨by rw [hl];revert i;decide,?_⟩
  simp only [bl1,List.mem_cons,List.not_mem_nil,or_false] at hi
  rcases hi with rfl | rfl | rfl | rfl <;> exact bit_01 _
 unfold pBody
 rw [q,if_neg (by simp),List.tail_cons,vals_fmt _ h,bodyOf_bNums]
theorem joint_fmt2 {b:Joint} (h:∀ n∈jNums b,Ok62 n):scene_ParseJoint (kJoint::(jNums b).map fmtInt)=some (b,0):=by
 have hl:(jNums b).length=24:=rfl
 have h1:=fmt_sm (line62 kJoint (jNums b) (by decide) (by omega) h)
 rw [(joint_lines _ (by simp;omega) h1).1]
 have q:line (kJoint::(jNums b).map fmtInt) kJoint (((kJoint::(jNums b).map fmtInt).length:Int) - 1==24) bl3=(jNums b,0):=by
  have e:(((kJoint::(jNums b).map fmtInt).length:Int) - 1==24)=true:=by rw [beq_iff_eq];simp;omega
  rw [e]
  refine line_fmt h fun i hi=>⟨by rw [hl];revert i;decide,?_⟩
  simp only [bl3,List.mem_cons,List.not_mem_nil,or_false] at hi
  rcases hi with rfl | rfl | rfl <;> exact bit_01 _
 unfold pJoint
 rw [q,if_neg (by simp),List.tail_cons,vals_fmt _ h,jointOf_jNums]
theorem fix_fmt2 {b:Fixture} (hv:b.Shape.Vertices.length<=100) (h:∀ n∈fNums b,Ok62 n):scene_ParseFixture (kFix::(fNums b).map fmtInt)=some (b,0):=by
 have hl:=fNums_len b
 have h1:=fmt_sm (line62 kFix (fNums b) (by decide) (by omega) h)
 rw [(fix_lines _ (by simp;omega) h1).1]
 have q:line (kFix::(fNums b).map fmtInt) kFix (okFix (kFix::(fNums b).map fmtInt)) [3]=(fNums b,0):=by
  have e:okFix (kFix::(fNums b).map fmtInt)=true:=by
   unfold okFix
   have e1:((kFix::(fNums b).map fmtInt).length:Int) - 1=((9+2*b.Shape.Vertices.length:Nat):Int):=by simp;omega
   rw [e1,Bool.and_eq_true,decide_eq_true_eq,beq_iff_eq,Int.tmod_eq_emod_of_nonneg (by omega)]
   omega
  rw [e]
  refine line_fmt h fun i hi=>?_
  simp only [List.mem_cons,List.not_mem_nil,or_false] at hi
  subst hi
  exact ⟨by omega,bit_01 b.Sensor⟩
 unfold pFix1
 rw [q,if_neg (by simp),List.tail_cons,vals_fmt _ h,fixOf_fNums]
theorem stepP_kWorld (x:World_) (sec:Int) (rest:List (List UInt8)):stepP x sec (kWorld::rest)=Rx.Bind (scene_integers (kWorld::rest) 7) fun (r:List Int × Bool)=>if r.2=true->r.1.length=7 then some (if (r.2&&enterT sec 1)=true then (worldOf r.1,1,true) else (x,sec,false)) else none:=rfl
theorem stepP_kBody (x:World_) (sec:Int) (rest:List (List UInt8)):stepP x sec (kBody::rest)=Rx.Bind (scene_ParseBody (kBody::rest)) fun (r:Body × Int)=>if r.1.Fixtures=[]/\x.Bodies.length<1048576 then some (if (r.2==0&&enterT sec 2)=true then ({ x with Bodies:=x.Bodies++[r.1] },2,true) else (x,sec,false)) else none:=rfl
theorem stepP_kFix (x:World_) (sec:Int) (rest:List (List UInt8)):stepP x sec (kFix::rest)=Rx.Bind (scene_ParseFixture (kFix::rest)) fun (r:Fixture × Int)=>if sec=2 then Rx.Bind (lastF x.Bodies r.1) fun (l:List Body)=>some (if (r.2==0)=true then ({ x with Bodies:=l },2,true) else (x,sec,false)) else some (x,sec,false):=rfl
theorem stepP_kJoint (x:World_) (sec:Int) (rest:List (List UInt8)):stepP x sec (kJoint::rest)=Rx.Bind (scene_ParseJoint (kJoint::rest)) fun (r:Joint × Int)=>if x.Joints.length<1048576 then some (if (r.2==0&&enterT sec 3)=true then ({ x with Joints:=x.Joints++[r.1] },3,true) else (x,sec,false)) else none:=rfl
theorem stepP_kContact (x:World_) (sec:Int) (rest:List (List UInt8)):stepP x sec (kContact::rest)=Rx.Bind (scene_integers (kContact::rest) 6) fun (r:List Int × Bool)=>if (r.2=true->r.1.length=6)/\x.Contacts.length<1048576 then some (if (r.2&&enterT sec 4)=true then ({ x with Contacts:=x.Contacts++[contactOf r.1] },4,true) else (x,sec,false)) else none:=rfl
theorem stepP_kPoint (x:World_) (sec:Int) (rest:List (List UInt8)):stepP x sec (kPoint::rest)=Rx.Bind (scene_integers (kPoint::rest) 6) fun (r:List Int × Bool)=>if r.2=true->r.1.length=6 then (if sec=4 then Rx.Bind (lastP x.Contacts (pointOf r.1)) fun (l:List Contact)=>some (if r.2=true then ({ x with Contacts:=l },4,true) else (x,sec,false)) else some (x,sec,false)) else none:=rfl
theorem stepP_kOverlap (x:World_) (sec:Int) (rest:List (List UInt8)):stepP x sec (kOverlap::rest)=Rx.Bind (scene_integers (kOverlap::rest) 4) fun (r:List Int × Bool)=>if (r.2=true->r.1.length=4)/\x.Overlaps.length<1048576 then some (if (r.2&&enterT sec 5)=true then ({ x with Overlaps:=x.Overlaps++[keyOf r.1] },5,true) else (x,sec,false)) else none:=rfl
theorem st_world {w:World_} (h:∀ n∈wNums w,Ok62 n):Steps [lineT kWorld (wNums w)] noW 0 (worldOf (wNums w)) 1:=by
 have hl:(wNums w).length=7:=rfl
 refine Steps.one (by decide) (line62 _ _ (by decide) (by omega) h) ?_
 have hi:=ints_fmt (k:=kWorld) (n:=7) (by decide) (by omega) h (by omega)
 rw [stepP_kWorld]
 rw [hi,Bind_snr]
 exact (if_pos fun _=>hl).trans rfl
theorem ent_ok {sec s:Int} (h1:1<=sec) (h2:sec<=s) (hs:2<=s):enterT sec s=true:=by
 unfold enterT
 simp only [Bool.not_eq_true',Bool.or_eq_false_iff,Bool.and_eq_false_iff,decide_eq_false_iff_not,beq_eq_false_iff_ne,bne_eq_false_iff_eq]
 omega
theorem st_fixtures {x:World_} {b:Body} {init:List Body} (hn:init.length<=1000):∀ (fs g:List Fixture),g.length+fs.length<=1000->(∀ f∈fs,f.Shape.Vertices.length<=100/\∀ n∈fNums f,Ok62 n)->
 Steps (fs.map fun f=>lineT kFix (fNums f)) { x with Bodies:=init++[{ b with Fixtures:=g }] } 2 { x with Bodies:=init++[{ b with Fixtures:=g++fs }] } 2
 | [],g,_,_=>by rw [List.append_nil];exact Steps.nil
 | f :: fs,g,hg,h=>by
   obtain ⟨h1,h2⟩:=h f (by simp)
   rw [List.length_cons] at hg
   have hr:=st_fixtures (x:=x) (b:=b) hn fs (g++[f]) (by simp;omega) fun a ha=>h a (List.mem_cons_of_mem _ ha)
   rw [List.append_assoc] at hr
   refine Steps.app (L:=[lineT kFix (fNums f)]) ?_ hr
   refine Steps.one (by decide) (line62 _ _ (by decide) (by rw [fNums_len];omega) h2) ?_
   rw [stepP_kFix]
   rw [fix_fmt2 h1 h2,Bind_snr]
   refine (if_pos rfl).trans ?_
   have:lastF (init++[{ b with Fixtures:=g }]) f=some (init++[{ b with Fixtures:=g++[f] }]):=by
    unfold lastF
    rw [List.getLast?_concat]
    dsimp only
    rw [if_pos ⟨by simp;omega,by omega⟩,List.dropLast_concat]
   dsimp only
   rw [this,Bind_snr]
   rfl
theorem st_body {x:World_} {b:Body} {sec:Int} (h1:1<=sec) (h2:sec<=2) (hx:x.Bodies.length<=1000) (hf:b.Fixtures.length<=1000) (hb:∀ n∈bNums b,Ok62 n) (h:∀ f∈b.Fixtures,f.Shape.Vertices.length<=100/\∀ n∈fNums f,Ok62 n):
 Steps (bLines b) x sec { x with Bodies:=x.Bodies++[b] } 2:=by
 have q:=st_fixtures (x:=x) (b:=b) hx b.Fixtures [] (by simpa using hf) h
 rw [List.nil_append] at q
 refine Steps.app (L:=[lineT kBody (bNums b)]) ?_ q
 have hl:(bNums b).length=19:=rfl
 refine Steps.one (by decide) (line62 _ _ (by decide) (by omega) hb) ?_
 rw [stepP_kBody]
 rw [body_fmt2 hb,Bind_snr]
 refine (if_pos ⟨rfl,by omega⟩).trans ?_
 have e:=ent_ok h1 h2 (by decide)
 dsimp only
 rw [e];rfl
theorem st_bodies:∀ (bs:List Body) (x:World_) (sec:Int),1<=sec->sec<=2->x.Bodies.length+bs.length<=1000->(∀ b∈bs,b.Fixtures.length<=1000/\(∀ n∈bNums b,Ok62 n)/\∀ f∈b.Fixtures,f.Shape.Vertices.length<=100/\∀ n∈fNums f,Ok62 n)->
 ∃ s,1<=s/\s<=2/\Steps (bs.flatMap bLines) x sec { x with Bodies:=x.Bodies++bs } s
 | [],x,sec,h1,h2,_,_=>⟨sec,h1,h2,by rw [List.append_nil];exact Steps.nil⟩
 | b::bs,x,sec,h1,h2,hn,h=>by
   rw [List.length_cons] at hn
   obtain ⟨q1,q2,q3⟩:=h b (by simp)
   have hb:=st_body (x:=x) h1 h2 (by omega) q1 q2 q3
   obtain ⟨s,s1,s2,hs⟩:=st_bodies bs { x with Bodies:=x.Bodies++[b] } 2 (by decide) (by decide) (by simp;omega) fun a ha=>h a (List.mem_cons_of_mem _ ha)
   refine ⟨s,s1,s2,?_⟩
   rw [List.flatMap_cons]
   have:=Steps.app hb hs
   simpa using this
theorem st_joints:∀ (js:List Joint) (x:World_) (sec:Int),1<=sec->sec<=3->x.Joints.length+js.length<=1000->(∀ j∈js,∀ n∈jNums j,Ok62 n)->
 ∃ s,1<=s/\s<=3/\Steps (js.map fun j=>lineT kJoint (jNums j)) x sec { x with Joints:=x.Joints++js } s
 | [],x,sec,h1,h2,_,_=>⟨sec,h1,h2,by rw [List.append_nil];exact Steps.nil⟩
 | j :: js,x,sec,h1,h2,hn,h=>by
   rw [List.length_cons] at hn
   have q:=h j (by simp)
   have hl:(jNums j).length=24:=rfl
   have hb:Steps [lineT kJoint (jNums j)] x sec { x with Joints:=x.Joints++[j] } 3:=by
    refine Steps.one (by decide) (line62 _ _ (by decide) (by omega) q) ?_
    rw [stepP_kJoint]
    rw [joint_fmt2 q,Bind_snr]
    refine (if_pos (by omega)).trans ?_
    have e:=ent_ok h1 h2 (by decide)
    dsimp only
    rw [e];rfl
   obtain ⟨s,s1,s2,hs⟩:=st_joints js { x with Joints:=x.Joints++[j] } 3 (by decide) (by decide) (by simp;omega) fun a ha=>h a (List.mem_cons_of_mem _ ha)
   refine ⟨s,s1,s2,?_⟩
   have:=Steps.app hb hs
   simpa using this
theorem contactOf_cNums (c:Contact):contactOf (cNums c)={ c with Manifold:={ c.Manifold with Points:=[] } }:=rfl
theorem pointOf_dNums (d:ContactPoint):pointOf (dNums d)=d:=rfl
theorem keyOf_kNums (k:PairKey):keyOf (kNums k)=k:=rfl
theorem st_points {x:World_} {c:Contact} {init:List Contact} (hn:init.length<=1000):∀ (fs g:List ContactPoint),g.length+fs.length<=1000->(∀ f∈fs,∀ n∈dNums f,Ok62 n)->
 Steps (fs.map fun f=>lineT kPoint (dNums f)) { x with Contacts:=init++[{ c with Manifold:={ c.Manifold with Points:=g } }] } 4 { x with Contacts:=init++[{ c with Manifold:={ c.Manifold with Points:=g++fs } }] } 4
 | [],g,_,_=>by rw [List.append_nil];exact Steps.nil
 | f :: fs,g,hg,h=>by
   have h2:=h f (by simp)
   have hl:(dNums f).length=6:=rfl
   rw [List.length_cons] at hg
   have hr:=st_points (x:=x) (c:=c) hn fs (g++[f]) (by simp;omega) fun a ha=>h a (List.mem_cons_of_mem _ ha)
   rw [List.append_assoc] at hr
   refine Steps.app (L:=[lineT kPoint (dNums f)]) ?_ hr
   refine Steps.one (by decide) (line62 _ _ (by decide) (by omega) h2) ?_
   have hi:=ints_fmt (k:=kPoint) (n:=6) (by decide) (by omega) h2 (by omega)
   rw [stepP_kPoint]
   rw [hi,Bind_snr]
   refine (if_pos fun _=>hl).trans ?_
   refine (if_pos rfl).trans ?_
   have:lastP (init++[{ c with Manifold:={ c.Manifold with Points:=g } }]) f=some (init++[{ c with Manifold:={ c.Manifold with Points:=g++[f] } }]):=by
    unfold lastP
    rw [List.getLast?_concat]
    dsimp only
    rw [if_pos ⟨by simp;omega,by omega⟩,List.dropLast_concat]
   dsimp only
   rw [pointOf_dNums,this,Bind_snr]
   rfl
theorem st_contact {x:World_} {c:Contact} {sec:Int} (h1:1<=sec) (h2:sec<=4) (hx:x.Contacts.length<=1000) (hf:c.Manifold.Points.length<=1000) (hb:∀ n∈cNums c,Ok62 n) (h:∀ f∈c.Manifold.Points,∀ n∈dNums f,Ok62 n):
 Steps (cLines c) x sec { x with Contacts:=x.Contacts++[c] } 4:=by
 have q:=st_points (x:=x) (c:=c) hx c.Manifold.Points [] (by simpa using hf) h
 rw [List.nil_append] at q
 refine Steps.app (L:=[lineT kContact (cNums c)]) ?_ q
 have hl:(cNums c).length=6:=rfl
 refine Steps.one (by decide) (line62 _ _ (by decide) (by omega) hb) ?_
 have hi:=ints_fmt (k:=kContact) (n:=6) (by decide) (by omega) hb (by omega)
 rw [stepP_kContact]
 rw [hi,Bind_snr]
 refine (if_pos ⟨fun _=>hl,by omega⟩).trans ?_
 have e:=ent_ok h1 h2 (by decide)
 dsimp only
 rw [e,contactOf_cNums];rfl
theorem st_contacts:∀ (bs:List Contact) (x:World_) (sec:Int),1<=sec->sec<=4->x.Contacts.length+bs.length<=1000->(∀ b∈bs,b.Manifold.Points.length<=1000/\(∀ n∈cNums b,Ok62 n)/\∀ f∈b.Manifold.Points,∀ n∈dNums f,Ok62 n)->
 ∃ s,1<=s/\s<=4/\Steps (bs.flatMap cLines) x sec { x with Contacts:=x.Contacts++bs } s
 | [],x,sec,h1,h2,_,_=>⟨sec,h1,h2,by rw [List.append_nil];exact Steps.nil⟩
 | b::bs,x,sec,h1,h2,hn,h=>by
   rw [List.length_cons] at hn
   obtain ⟨q1,q2,q3⟩:=h b (by simp)
   have hb:=st_contact (x:=x) h1 h2 (by omega) q1 q2 q3
   obtain ⟨s,s1,s2,hs⟩:=st_contacts bs { x with Contacts:=x.Contacts++[b] } 4 (by decide) (by decide) (by simp;omega) fun a ha=>h a (List.mem_cons_of_mem _ ha)
   refine ⟨s,s1,s2,?_⟩
   rw [List.flatMap_cons]
   have:=Steps.app hb hs
   simpa using this
theorem st_keys:∀ (js:List PairKey) (x:World_) (sec:Int),1<=sec->sec<=5->x.Overlaps.length+js.length<=1000->(∀ j∈js,∀ n∈kNums j,Ok62 n)->
 ∃ s,1<=s/\s<=5/\Steps (js.map fun j=>lineT kOverlap (kNums j)) x sec { x with Overlaps:=x.Overlaps++js } s
 | [],x,sec,h1,h2,_,_=>⟨sec,h1,h2,by rw [List.append_nil];exact Steps.nil⟩
 | j :: js,x,sec,h1,h2,hn,h=>by
   rw [List.length_cons] at hn
   have q:=h j (by simp)
   have hl:(kNums j).length=4:=rfl
   have hb:Steps [lineT kOverlap (kNums j)] x sec { x with Overlaps:=x.Overlaps++[j] } 5:=by
    refine Steps.one (by decide) (line62 _ _ (by decide) (by omega) q) ?_
    have hi:=ints_fmt (k:=kOverlap) (n:=4) (by decide) (by omega) q (by omega)
    rw [stepP_kOverlap]
    rw [hi,Bind_snr]
    refine (if_pos ⟨fun _=>hl,by omega⟩).trans ?_
    have e:=ent_ok h1 h2 (by decide)
    dsimp only
    rw [e,keyOf_kNums];rfl
   obtain ⟨s,s1,s2,hs⟩:=st_keys js { x with Overlaps:=x.Overlaps++[j] } 5 (by decide) (by decide) (by simp;omega) fun a ha=>h a (List.mem_cons_of_mem _ ha)
   refine ⟨s,s1,s2,?_⟩
   have:=Steps.app hb hs
   simpa using this
structure FewS (w:World_):Prop where
 bodies:w.Bodies.length<=40
 joints:w.Joints.length<=40
 contacts:w.Contacts.length<=80
 overlaps:w.Overlaps.length<=80
 points:∀ c∈w.Contacts,c.Manifold.Points.length<=8
 fixtures:∀ b∈w.Bodies,b.Fixtures.length<=8
 vertices:∀ b∈w.Bodies,∀ f∈b.Fixtures,f.Shape.Vertices.length<=20
theorem few_small {w:World_} (h:few w=true):FewS w:=by
 unfold few fewB at h
 simp only [Bool.and_eq_true,decide_eq_true_eq,List.all_eq_true] at h
 obtain ⟨⟨⟨⟨h1,h2⟩,h3⟩,h4,h5⟩,h6⟩:=h
 exact ⟨by omega,by omega,by omega,by omega,fun c hc=>by have:=h6 c hc;omega,fun b hb=>by have:=(h5 b hb).1;omega,fun b hb f hf=>by have:=(h5 b hb).2 f hf;omega⟩
theorem lines_read {w:World_} (h:FewS w) (o:AllO w):linesP (allLines w) 0 noW 0=some (w,0):=by
 have q0:=st_world o.hw
 obtain ⟨s1,a1,b1,q1⟩:=st_bodies w.Bodies (worldOf (wNums w)) 1 (by decide) (by decide) (by have:=h.bodies;simp [worldOf];omega) fun b hb=>⟨by have:=h.fixtures b hb;omega,o.hb b hb,fun f hf=>⟨by have:=h.vertices b hb f hf;omega,o.hf b hb f hf⟩⟩
 obtain ⟨s2,a2,b2,q2⟩:=st_joints w.Joints { worldOf (wNums w) with Bodies:=(worldOf (wNums w)).Bodies++w.Bodies } s1 a1 (by omega) (by have:=h.joints;simp [worldOf];omega) o.hj
 obtain ⟨s3,a3,b3,q3⟩:=st_contacts w.Contacts { worldOf (wNums w) with Bodies:=(worldOf (wNums w)).Bodies++w.Bodies,Joints:=(worldOf (wNums w)).Joints++w.Joints } s2 a2 (by omega) (by have:=h.contacts;simp [worldOf];omega) fun c hc=>⟨by have:=h.points c hc;omega,o.hc c hc,o.hd c hc⟩
 obtain ⟨s4,a4,b4,q4⟩:=st_keys w.Overlaps { worldOf (wNums w) with Bodies:=(worldOf (wNums w)).Bodies++w.Bodies,Joints:=(worldOf (wNums w)).Joints++w.Joints,Contacts:=(worldOf (wNums w)).Contacts++w.Contacts } s3 a3 (by omega) (by have:=h.overlaps;simp [worldOf];omega) o.hk
 have q:=(q0.app (q1.app (q2.app (q3.app q4)))) [] 0
 have e:([lineT kWorld (wNums w)]++(w.Bodies.flatMap bLines++(w.Joints.map (fun j=>lineT kJoint (jNums j))++(w.Contacts.flatMap cLines++w.Overlaps.map fun k=>lineT kOverlap (kNums k)))))++[]=allLines w:=by rw [List.append_nil];rfl
 rw [e] at q
 rw [q]
 unfold linesP
 rw [if_neg (by omega)]
 rfl
theorem text_small {w:World_} (h:FewS w) (o:AllO w):(textOf w).length<=1000000:=by
 have l1:∀ (kw:List UInt8) (l:List Int),(∀ n∈l,Ok62 n)->(lineT kw l++[10]).length<=kw.length+21*l.length+1:=fun kw l h=>by
  have:=lineT_len kw l (fun n hn=>(h n hn).i64)
  rw [List.length_append,List.length_singleton];omega
 have hW:=l1 kWorld (wNums w) o.hw
 have hB:=flatMap_len_le w.Bodies (fun b=>flat 10 (bLines b)) 8700 fun b hb=>by
  have e:flat 10 (bLines b)=(lineT kBody (bNums b)++[10])++b.Fixtures.flatMap (fun f=>lineT kFix (fNums f)++[10]):=by unfold bLines;rw [flat_cons,flat_map];simp
  have q1:=l1 kBody (bNums b) (o.hb b hb)
  have q2:=flatMap_len_le b.Fixtures (fun f=>lineT kFix (fNums f)++[10]) 1037 fun f hf=>by
   have:=l1 kFix (fNums f) (o.hf b hb f hf)
   have e:=fNums_len f
   have e1:=h.vertices b hb f hf
   have e2:kFix.length=7:=rfl
   omega
  have e1:(bNums b).length=19:=rfl
  have e2:kBody.length=4:=rfl
  have e3:=h.fixtures b hb
  rw [e,List.length_append]
  have:b.Fixtures.length*1037<=8*1037:=Nat.mul_le_mul_right _ e3
  omega
 have hJ:=flatMap_len_le w.Joints (fun j=>lineT kJoint (jNums j)++[10]) 510 fun j hj=>by
  have:=l1 kJoint (jNums j) (o.hj j hj)
  have e1:(jNums j).length=24:=rfl
  have e2:kJoint.length=5:=rfl
  omega
 have hC:=flatMap_len_le w.Contacts (fun b=>flat 10 (cLines b)) 1190 fun b hb=>by
  have e:flat 10 (cLines b)=(lineT kContact (cNums b)++[10])++b.Manifold.Points.flatMap (fun f=>lineT kPoint (dNums f)++[10]):=by unfold cLines;rw [flat_cons,flat_map];simp
  have q1:=l1 kContact (cNums b) (o.hc b hb)
  have q2:=flatMap_len_le b.Manifold.Points (fun f=>lineT kPoint (dNums f)++[10]) 132 fun f hf=>by
   have:=l1 kPoint (dNums f) (o.hd b hb f hf)
   have e:=show (dNums f).length=6 from rfl
   have e2:kPoint.length=5:=rfl
   omega
  have e1:(cNums b).length=6:=rfl
  have e2:kContact.length=7:=rfl
  have e3:=h.points b hb
  rw [e,List.length_append]
  have:b.Manifold.Points.length*132<=8*132:=Nat.mul_le_mul_right _ e3
  omega
 have hK:=flatMap_len_le w.Overlaps (fun j=>lineT kOverlap (kNums j)++[10]) 92 fun j hj=>by
  have:=l1 kOverlap (kNums j) (o.hk j hj)
  have e1:(kNums j).length=4:=rfl
  have e2:kOverlap.length=7:=rfl
  omega
 have eT:textOf w=(lineT kWorld (wNums w)++[10])++(w.Bodies.flatMap (fun b=>flat 10 (bLines b))++(w.Joints.flatMap (fun j=>lineT kJoint (jNums j)++[10])++(w.Contacts.flatMap (fun c=>flat 10 (cLines c))++w.Overlaps.flatMap (fun k=>lineT kOverlap (kNums k)++[10])))):=by
  unfold textOf allLines
  rw [flat_cons,flat_app,flat_app,flat_app,flat_flatMap,flat_flatMap,flat_map,flat_map]
  simp
 have b1:w.Bodies.length*8700<=40*8700:=Nat.mul_le_mul_right _ h.bodies
 have b2:w.Joints.length*510<=40*510:=Nat.mul_le_mul_right _ h.joints
 have b3:w.Contacts.length*1190<=80*1190:=Nat.mul_le_mul_right _ h.contacts
 have b4:w.Overlaps.length*92<=80*92:=Nat.mul_le_mul_right _ h.overlaps
 have e1:(wNums w).length=7:=rfl
 have e2:kWorld.length=5:=rfl
 rw [eT]
 simp only [List.length_append] at hW ⊢
 omega
theorem lines_no10 (w:World_):∀ p∈allLines w,(10:UInt8)∉p:=by
 intro p hp
 rw [<- toks_lines] at hp
 obtain ⟨t,ht,rfl⟩:=List.mem_map.1 hp
 exact lineT_no10 _ _ (toks_ok w t ht).1
theorem pLines_text (w:World_):pLines (textOf w)=(allLines w,0):=by
 have hne:allLines w≠[]:=by unfold allLines;simp
 have hno:=lines_no10 w
 rcases pLines_cases (textOf w) with ⟨-,h,-⟩ | ⟨L,hL,hf,hn,-⟩
 ·exfalso
  have e:=(List.dropLast_concat_getLast hne).symm
  unfold textOf at h
  rw [e,flat_app] at h
  have e2:flat 10 [(allLines w).getLast hne]=(allLines w).getLast hne++[10]:=by simp [flat]
  rw [e2,<- List.append_assoc] at h
  unfold endsC at h
  rw [List.getLast?_concat] at h
  simp at h
 ·rw [hL]
  have h1:=spl_flat L hn
  have h2:=spl_flat (allLines w) hno
  rw [hf] at h1
  have h1:spl 10 (flat 10 (allLines w))=L++[[]]:=h1
  rw [h2] at h1
  have:=List.append_cancel_right h1
  rw [this]
theorem Parse_text {w:World_} (hf:few w=true) (hv:wv w=0):scene_Parse (textOf w)=some (w,0,0):=by
 have hS:=few_small hf
 have o:=valid_O hv
 unfold scene_Parse
 rw [SplitLines_eq _ (text_small hS o),pLines_text,Bind_snr]
 rw [if_neg (show ¬ ((allLines w,(0:Int)).2≠0) by simp),if_pos (show (allLines w,(0:Int)).1.length<1048576 from ?_)]
 ·dsimp only
  rw [lines_read hS o,Bind_snr,if_neg (by simp)]
  dsimp only
  rw [world_Val_eq w (few_Few hf),Bind_snr,if_neg (by simpa using hv)]
 ·show (allLines w).length<_
  have h1:=flatMap_len_le w.Bodies bLines 9 fun b hb=>by have:=hS.fixtures b hb;unfold bLines;simp;omega
  have h2:=flatMap_len_le w.Contacts cLines 9 fun c hc=>by have:=hS.points c hc;unfold cLines;simp;omega
  have h3:=hS.bodies
  have h4:=hS.joints
  have h5:=hS.contacts
  have h6:=hS.overlaps
  unfold allLines
  simp only [List.length_cons,List.length_append,List.length_map]
  omega
theorem RoundTrip52 (w:World_) (hw:World__P w):caromlaw52_SceneRoundTrip w=some true:=by
 unfold caromlaw52_SceneRoundTrip
 rw [ref25_Few_eq,Bind_snr,Let_nr]
 cases hf:few w with
 | false=>exact (if_pos rfl).trans (by rw [example52];rfl)
 | true=>
   refine (if_neg (by simp)).trans ?_
   have hF:=few_Few hf
   have hi:=AllI_of hw
   by_cases hv:wv w=0
   ·have hFm:=Format_eq w hF hi
    rw [if_neg (by simpa using hv)] at hFm
    have hE:caromref25_Equal w w=some true:=by rw [ref25_Equal_eq w w hF.smw];simp
    simp only [hFm,Bind_snr,world_Val_eq w hF,hv,Let_nr,bne_self_eq_false,Bool.false_eq_true,if_false,Parse_text hf hv,beq_self_eq_true,cond_true,if_true,hE,example52]
   ·have hFm:=Format_eq w hF hi
    rw [if_pos (by simpa using hv)] at hFm
    have hv2:(wv w != 0)=true:=by simpa using hv
    simp only [hFm,Bind_snr,world_Val_eq w hF,hv2,Let_nr,if_true,beq_self_eq_true,cond_true,example52]
end GoForm
end
