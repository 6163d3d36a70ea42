/- Several texts in one. No conditions. -/
import Derived.Test.YtelkhkmeoahhlaaGreatDoorQE
import Derived.Test.YtelkhkmeoahhlaaGreatDoorF52T
section
set_option linter.all false
open Go Go.Rx
namespace GoOld
section
open GoForm
def Vec.zero:Vec:=⟨0,0⟩
def Transform.zero:Transform:=⟨Vec.zero,0⟩
def Shape.zero:Shape:=⟨0,0,[]⟩
def Fixture.zero:Fixture:=⟨Shape.zero,0,0,0,false,0,0,0⟩
def Body.zero:Body:=⟨0,0,Transform.zero,Vec.zero,0,Vec.zero,0,0,0,0,false,false,false,false,0,[]⟩
def polygon_triangle.zero:polygon_triangle:=⟨Vec.zero,Vec.zero,0⟩
def Vec.beq (x y:Vec):Bool:=decide (x.X=y.X)&&(decide (x.Y=y.Y))
def Transform.beq (x y:Transform):Bool:=Vec.beq x.Position y.Position&&(decide (x.Angle=y.Angle))
def Vec.Wf (x:Vec):Prop:=(IntKind.i64.min<=x.X/\x.X<=IntKind.i64.max)/\(IntKind.i64.min<=x.Y/\x.Y<=IntKind.i64.max)
def Transform.Wf (x:Transform):Prop:=Vec.Wf x.Position/\(IntKind.i64.min<=x.Angle/\x.Angle<=IntKind.i64.max)
def Shape.Wf (x:Shape):Prop:=(IntKind.i64.min<=x.Kind/\x.Kind<=IntKind.i64.max)/\(IntKind.i64.min<=x.Radius/\x.Radius<=IntKind.i64.max)/\((∀ a∈x.Vertices,Vec.Wf a)/\(x.Vertices).length<=9223372036854775807)
def Fixture.Wf (x:Fixture):Prop:=Shape.Wf x.Shape/\(IntKind.i64.min<=x.Density/\x.Density<=IntKind.i64.max)/\(IntKind.i64.min<=x.Friction/\x.Friction<=IntKind.i64.max)/\(IntKind.i64.min<=x.Restitution/\x.Restitution<=IntKind.i64.max)/\True/\(IntKind.i64.min<=x.Category/\x.Category<=IntKind.i64.max)/\(IntKind.i64.min<=x.Mask/\x.Mask<=IntKind.i64.max)/\(IntKind.i64.min<=x.Group/\x.Group<=IntKind.i64.max)
def Body.Wf (x:Body):Prop:=(IntKind.i64.min<=x.ID/\x.ID<=IntKind.i64.max)/\(IntKind.i64.min<=x.Kind/\x.Kind<=IntKind.i64.max)/\Transform.Wf x.Transform/\Vec.Wf x.Velocity/\(IntKind.i64.min<=x.AngularVelocity/\x.AngularVelocity<=IntKind.i64.max)/\Vec.Wf x.Force/\(IntKind.i64.min<=x.Torque/\x.Torque<=IntKind.i64.max)/\(IntKind.i64.min<=x.LinearDamping/\x.LinearDamping<=IntKind.i64.max)/\(IntKind.i64.min<=x.AngularDamping/\x.AngularDamping<=IntKind.i64.max)/\(IntKind.i64.min<=x.GravityScale/\x.GravityScale<=IntKind.i64.max)/\True/\True/\True/\True/\(IntKind.i64.min<=x.IdleSteps/\x.IdleSteps<=IntKind.i64.max)/\((∀ a∈x.Fixtures,Fixture.Wf a)/\(x.Fixtures).length<=9223372036854775807)
def body_within (x_0:Int) (low:Int) (high:Int):Bool:=
 Let ((cond (decide (low<=x_0)) (decide (x_0<=high)) false)) fun x1=>
 x1
def body_bounded (v_0:Vec) (limit:Int):Bool:=
 Let (body_within v_0.X (w64 (0 - limit)) limit) fun r1=>
 Let (body_within v_0.Y (w64 (0 - limit)) limit) fun r2=>
 Let ((cond r1 r2 false)) fun x3=>
 x3
def transform_inWorld (x_0:Int):Bool:=
 Let ((cond (decide ((-268435456)<=x_0)) (decide (x_0<=268435456)) false)) fun x1=>
 x1
def transform_Valid (t:Transform):Bool:=
 Let (transform_inWorld t.Position.X) fun r1=>
 Let (transform_inWorld t.Position.Y) fun r2=>
 Let ((cond (cond (cond r1 r2 false) (decide ((-205888)<=t.Angle)) false) (decide (t.Angle<205888)) false)) fun x3=>
 x3
def body_inRange (b:Body):Bool:=
 Let (body_bounded b.Velocity (16777216)) fun r1=>
 Let (body_within b.AngularVelocity ((-4194304)) (4194304)) fun r2=>
 Let ((cond r1 r2 false)) fun x3=>
 Let (body_bounded b.Force (536870911)) fun r4=>
 Let (body_within b.Torque ((-536870911)) (536870911)) fun r5=>
 Let ((cond r4 r5 false)) fun x6=>
 Let (body_within b.LinearDamping (0) (65536)) fun r7=>
 Let (body_within b.AngularDamping (0) (65536)) fun r8=>
 Let ((cond r7 r8 false)) fun x9=>
 Let (body_within b.GravityScale ((-262144)) (262144)) fun r10=>
 Let (body_within b.ID (1) (1099511627776)) fun r11=>
 Let (transform_Valid b.Transform) fun r12=>
 Let (body_within b.IdleSteps (0) (1048576)) fun r13=>
 Let ((cond (cond (cond (cond (cond (cond r11 r12 false) x3 false) x6 false) x9 false) r10 false) r13 false)) fun x14=>
 x14
def shape_validCount (s:Shape):Bool:=
 Let ((s.Kind==1)) fun x1=>
 if x1=true then
  Let ((((s.Vertices).length:Int)==1)) fun x2=>
  x2
 else
  Let ((s.Kind==2)) fun x3=>
  if x3=true then
   Let ((((s.Vertices).length:Int)==2)) fun x4=>
   x4
  else
   Let ((cond (decide (3<=((s.Vertices).length:Int))) (decide (((s.Vertices).length:Int)<=8)) false)) fun x5=>
   x5
def slices_IndexFunc_Vec_l1 (s:List Vec) (f:Vec->Option Bool) (kj1:Option Int):Nat->Int->Option Int
 | 0,_=>none
 | n + 1,v1=>
   if (decide (v1<((s).length:Int)))=true then
    Chk (0<=v1/\v1<((s).length:Int)) <|
    Bind (f (ix s v1)) fun r3=>
    if r3=true then
     some v1
    else
     Let ((w64 (v1+1))) fun x4=>
     (slices_IndexFunc_Vec_l1 s f kj1 n) x4
   else
    kj1
def slices_IndexFunc_Vec_j2:Option Int:=
 some (-1)
def slices_IndexFunc_Vec (s:List Vec) (f:Vec->Option Bool):Option Int:=
 slices_IndexFunc_Vec_l1 s f slices_IndexFunc_Vec_j2 fuel 0
def slices_ContainsFunc_Vec (s:List Vec) (f:Vec->Option Bool):Option Bool:=
 Bind (slices_IndexFunc_Vec s f) fun r1=>
 Let ((decide (0<=r1))) fun x2=>
 some x2
def shape_outOfRange (n_0:Int):Bool:=
 Let ((cond (decide (n_0<(-1048576))) true (decide (1048576<n_0)))) fun x1=>
 x1
def shape_Validate_c1 (v_0:Vec):Bool:=
 Let (shape_outOfRange v_0.X) fun r1=>
 Let (shape_outOfRange v_0.Y) fun r2=>
 Let ((cond r1 true r2)) fun x3=>
 x3
def fixed_Saturate (x_0:Int):Int:=
 Let ((min (max x_0 (-536870911)) 536870911)) fun x1=>
 x1
def fixed_Sub (a:Int) (b:Int):Int:=
 Let (fixed_Saturate a) fun r1=>
 Let (fixed_Saturate b) fun r2=>
 Let (fixed_Saturate (w64 (r1 - r2))) fun r3=>
 r3
def vec2_Sub (a:Vec) (b:Vec):Vec:=
 Let (fixed_Sub a.X b.X) fun r1=>
 Let (fixed_Sub a.Y b.Y) fun r2=>
 Let ((⟨r1,r2⟩:Vec)) fun x3=>
 x3
def vec2_saturate (v_0:Vec):Vec:=
 Let (fixed_Saturate v_0.X) fun r1=>
 Let (fixed_Saturate v_0.Y) fun r2=>
 Let ((⟨r1,r2⟩:Vec)) fun x3=>
 x3
def vec2_DistanceSquared (a:Vec) (b:Vec):Int:=
 Let (vec2_saturate a) fun r1=>
 Let (vec2_saturate b) fun r2=>
 Let (r1) fun x3=>
 Let (r2) fun x4=>
 Let ((w64 (x4.X - x3.X))) fun x5=>
 Let ((w64 (x4.Y - x3.Y))) fun x6=>
 Let ((w64 ((w64 (x5*x5))+(w64 (x6*x6))))) fun x7=>
 x7
def fixed_Isqrt_j1 (v3:Int) (kn2:Int->Int->Option Int) (v4:Int):Option Int:=
 Let ((bShr .i64 v3 1)) fun x7=>
 kn2 v4 x7
def fixed_Isqrt_l2 (n_0:Int) (kj1:Int->Option Int):Nat->Int->Int->Option Int
 | 0,_,_=>none
 | n + 1,v2,v3=>
   if (decide (0<v3))=true then
    Let ((bOr .i64 v2 v3)) fun x5=>
    Let ((IntKind.u64.wrap ((IntKind.u64.wrap (x5))*(IntKind.u64.wrap (x5))))) fun x6=>
    if (decide (x6<=(IntKind.u64.wrap (n_0))))=true then
     (fixed_Isqrt_j1 v3 (fixed_Isqrt_l2 n_0 kj1 n)) x5
    else
     (fixed_Isqrt_j1 v3 (fixed_Isqrt_l2 n_0 kj1 n)) v2
   else
    kj1 v2
def fixed_Isqrt_j3 (v1:Int):Option Int:=
 some v1
def fixed_Isqrt (n_0:Int):Option Int:=
 if (cond (decide (n_0<0)) true (decide (4611686018427387904<n_0)))=true then
  some 0
 else
  fixed_Isqrt_l2 n_0 fixed_Isqrt_j3 fuel 0 2147483648
def vec2_Length (v_0:Vec):Option Int:=
 Let (vec2_DistanceSquared (⟨0,0⟩:Vec) v_0) fun r1=>
 Bind (fixed_Isqrt r1) fun r2=>
 some r2
def polygon_inReach (v_0:Vec):Bool:=
 Let ((cond (cond (cond (decide ((-1048576)<=v_0.X)) (decide (v_0.X<=1048576)) false) (decide ((-1048576)<=v_0.Y)) false) (decide (v_0.Y<=1048576)) false)) fun x1=>
 x1
def polygon_allInReach_l1 (points:List Vec) (kj1:Option Bool):Nat->Int->Option Bool
 | 0,_=>none
 | n + 1,v1=>
   if (decide (v1<((points).length:Int)))=true then
    Chk (0<=v1/\v1<((points).length:Int)) <|
    Let ((ix points v1)) fun x3=>
    Let (polygon_inReach x3) fun r4=>
    if (!r4)=true then
     some false
    else
     Let ((w64 (v1+1))) fun x5=>
     (polygon_allInReach_l1 points kj1 n) x5
   else
    kj1
def polygon_allInReach_j2:Option Bool:=
 some true
def polygon_allInReach (points:List Vec):Option Bool:=
 polygon_allInReach_l1 points polygon_allInReach_j2 fuel 0
def vec2_Orientation (a:Vec) (b:Vec) (c_2:Vec):Int:=
 Let (vec2_saturate a) fun r1=>
 Let (vec2_saturate b) fun r2=>
 Let (vec2_saturate c_2) fun r3=>
 Let (r1) fun x4=>
 Let (r2) fun x5=>
 Let (r3) fun x6=>
 Let ((w64 ((w64 ((w64 (x5.X - x4.X))*(w64 (x6.Y - x4.Y)))) - (w64 ((w64 (x5.Y - x4.Y))*(w64 (x6.X - x4.X))))))) fun x7=>
 Let ((min (1:Int) (max ((-1):Int) x7))) fun x8=>
 x8
def polygon_IsConvex_l1 (vertices:List Vec) (v2:Int) (kj3:Option Bool) (x4:Vec) (x6:Int):Nat->Int->Option Bool
 | 0,_=>none
 | n + 1,v7=>
   if (decide (v7<((vertices).length:Int)))=true then
    Chk (0<=v7/\v7<((vertices).length:Int)) <|
    Let ((ix vertices v7)) fun x9=>
    Chk (((cond (v7 != v2) (v7 != x6) false)==true)=true->0<=x6/\x6<((vertices).length:Int)) <|
    Let (vec2_Orientation x4 (ix vertices x6) x9) fun r11=>
    if (cond (cond (v7 != v2) (v7 != x6) false) (r11 != 1) false)=true then
     some false
    else
     Let ((w64 (v7+1))) fun x12=>
     (polygon_IsConvex_l1 vertices v2 kj3 x4 x6 n) x12
   else
    kj3
def polygon_IsConvex_j2 (v2:Int) (kn2:Int->Option Bool):Option Bool:=
 Let ((w64 (v2+1))) fun x13=>
 kn2 x13
def polygon_IsConvex_l3 (vertices:List Vec) (kj1:Option Bool):Nat->Int->Option Bool
 | 0,_=>none
 | n + 1,v2=>
   if (decide (v2<((vertices).length:Int)))=true then
    Chk (0<=v2/\v2<((vertices).length:Int)) <|
    Let ((ix vertices v2)) fun x4=>
    Chk (((vertices).length:Int)≠0) <|
    Let ((Int.tmod (w64 (v2+1)) ((vertices).length:Int))) fun x6=>
    polygon_IsConvex_l1 vertices v2 (polygon_IsConvex_j2 v2 (polygon_IsConvex_l3 vertices kj1 n)) x4 x6 fuel 0
   else
    kj1
def polygon_IsConvex_j4:Option Bool:=
 some true
def polygon_IsConvex (vertices:List Vec):Option Bool:=
 Bind (if ((cond (decide (((vertices).length:Int)<3)) true (decide (8<((vertices).length:Int))))==false)=true then polygon_allInReach vertices else some default) fun r1=>
 if (cond (cond (decide (((vertices).length:Int)<3)) true (decide (8<((vertices).length:Int)))) true (!r1))=true then
  some false
 else
  polygon_IsConvex_l3 vertices polygon_IsConvex_j4 fuel 0
def polygon_ShortestEdge_l1 (vertices:List Vec) (kj1:Int->Option Int):Nat->Int->Int->Option Int
 | 0,_,_=>none
 | n + 1,v3,v4=>
   if (decide (v4<((vertices).length:Int)))=true then
    Chk (0<=v4/\v4<((vertices).length:Int)) <|
    Let ((ix vertices v4)) fun x6=>
    Chk (((vertices).length:Int)≠0) <|
    Chk (0<=(Int.tmod (w64 (v4+1)) ((vertices).length:Int))/\(Int.tmod (w64 (v4+1)) ((vertices).length:Int))<((vertices).length:Int)) <|
    Let (vec2_Sub (ix vertices (Int.tmod (w64 (v4+1)) ((vertices).length:Int))) x6) fun r9=>
    Bind (vec2_Length r9) fun r10=>
    Let ((min v3 r10)) fun x11=>
    Let ((w64 (v4+1))) fun x12=>
    (polygon_ShortestEdge_l1 vertices kj1 n) x11 x12
   else
    kj1 v3
def polygon_ShortestEdge_j2 (v2:Int):Option Int:=
 some v2
def polygon_ShortestEdge (vertices:List Vec):Option Int:=
 Bind (polygon_IsConvex vertices) fun r1=>
 if (!r1)=true then
  some 0
 else
  polygon_ShortestEdge_l1 vertices polygon_ShortestEdge_j2 fuel 536870911 0
def fixed_RoundDiv (n_0:Int) (d:Int):Option Int:=
 if (cond (cond (cond (decide (d<1)) true (decide (4611686018427387904<d))) true (decide (n_0<(-4611686018427387904)))) true (decide (4611686018427387904<n_0)))=true then
  some 0
 else
  Chk (d≠0) <|
  Chk (d≠0) <|
  Let ((w64 (Int.tdiv n_0 d))) fun x3=>
  Let ((Int.tmod n_0 d)) fun x4=>
  Let ((decide ((w64 (d - x4))<=x4))) fun x5=>
  if x5=true then
   Let ((w64 (x3+1))) fun x6=>
   some x6
  else
   Let ((decide ((w64 (d+x4))<=(w64 (0 - x4))))) fun x7=>
   if x7=true then
    Let ((w64 (x3 - 1))) fun x8=>
    some x8
   else
    some x3
def polygon_fan_l1 (vertices:List Vec) (x2:Vec) (kj1:List polygon_triangle->Int->Option (List polygon_triangle × Int)):Nat->List polygon_triangle->Int->Int->Option (List polygon_triangle × Int)
 | 0,_,_,_=>none
 | n + 1,v5,v6,v7=>
   if (decide ((w64 (v7+1))<((vertices).length:Int)))=true then
    Chk (0<=v7/\v7<((vertices).length:Int)) <|
    Chk (0<=v7/\v7<((vertices).length:Int)) <|
    Let ((⟨(w64 (((ix vertices v7).X) - x2.X)),(w64 (((ix vertices v7).Y) - x2.Y))⟩:Vec)) fun x10=>
    Chk (0<=(w64 (v7+1))/\(w64 (v7+1))<((vertices).length:Int)) <|
    Chk (0<=(w64 (v7+1))/\(w64 (v7+1))<((vertices).length:Int)) <|
    Let ((⟨(w64 (((ix vertices (w64 (v7+1))).X) - x2.X)),(w64 (((ix vertices (w64 (v7+1))).Y) - x2.Y))⟩:Vec)) fun x13=>
    Bind (fixed_RoundDiv (w64 ((w64 (x10.X*x13.Y)) - (w64 (x10.Y*x13.X)))) (65536)) fun r14=>
    Chk (((v5).length+(([(⟨x10,x13,r14⟩:polygon_triangle)]:List polygon_triangle)).length)*40<=140737488355328) <|
    Let (v5++([(⟨x10,x13,r14⟩:polygon_triangle)]:List polygon_triangle)) fun x16=>
    Let ((w64 (v6+r14))) fun x17=>
    Let ((w64 (v7+1))) fun x18=>
    (polygon_fan_l1 vertices x2 kj1 n) x16 x17 x18
   else
    kj1 v5 v6
def polygon_fan_j2 (v3:List polygon_triangle) (v4:Int):Option (List polygon_triangle × Int):=
 some (v3,v4)
def polygon_fan (vertices:List Vec):Option (List polygon_triangle × Int):=
 Chk (0<=(0:Int)/\0<((vertices).length:Int)) <|
 Let ((ix vertices 0)) fun x2=>
 polygon_fan_l1 vertices x2 polygon_fan_j2 fuel ([]:List polygon_triangle) 0 1
def polygon_Area (vertices:List Vec):Option Int:=
 Bind (polygon_IsConvex vertices) fun r1=>
 if (!r1)=true then
  some 0
 else
  Bind (polygon_fan vertices) fun r2=>
  Bind (fixed_RoundDiv r2.2 (2)) fun r3=>
  some r3
def shape_Validate_j1 (s:Shape) (v5:Bool):Option Int:=
 if v5=true then
  some 6
 else
  Chk (((s.Kind==2)==true)=true->0<=(1:Int)/\1<((s.Vertices).length:Int)) <|
  Chk (((s.Kind==2)==true)=true->0<=(0:Int)/\0<((s.Vertices).length:Int)) <|
  Let (vec2_Sub (ix s.Vertices 1) (ix s.Vertices 0)) fun r10=>
  Bind (if ((s.Kind==2)==true)=true then vec2_Length r10 else some default) fun r11=>
  Let ((cond (s.Kind==2) (decide (r11<4096)) false)) fun x12=>
  if x12=true then
   some 12
  else
   Bind (if ((s.Kind==3)==true)=true then polygon_IsConvex s.Vertices else some default) fun r13=>
   Bind (if (((s.Kind==3)==true)&&((!r13)==false))=true then polygon_ShortestEdge s.Vertices else some default) fun r14=>
   Bind (if (((s.Kind==3)==true)&&((cond (!r13) true (decide (r14<4096)))==false))=true then polygon_Area s.Vertices else some default) fun r15=>
   Let ((cond (s.Kind==3) (cond (cond (!r13) true (decide (r14<4096))) true (decide (r15<256))) false)) fun x16=>
   if x16=true then
    some 12
   else
    some 0
def shape_Validate (s:Shape):Option Int:=
 Let ((cond (decide (s.Kind<1)) true (decide (3<s.Kind)))) fun x1=>
 if x1=true then
  some 10
 else
  Let (shape_validCount s) fun r2=>
  Let ((!r2)) fun x3=>
  if x3=true then
   some 11
  else
   Bind (slices_ContainsFunc_Vec s.Vertices ((fun (y0:Vec)=>some (shape_Validate_c1 y0)))) fun r4=>
   if r4=true then
    some 6
   else
    Let ((cond (s.Kind==3) (s.Radius != 0) false)) fun x6=>
    if x6=true then
     (shape_Validate_j1 s) x6
    else
     Let ((cond (s.Kind != 3) (cond (decide (s.Radius<2048)) true (decide (524288<s.Radius))) false)) fun x7=>
     (shape_Validate_j1 s) x7
def body_ValidateFixture (f:Fixture):Option Int:=
 Bind (shape_Validate f.Shape) fun r1=>
 if (r1 != 0)=true then
  some r1
 else
  Let (body_within f.Density (0) (262144)) fun r2=>
  Let (body_within f.Friction (0) (131072)) fun r3=>
  Let (body_within f.Restitution (0) (65536)) fun r4=>
  Let ((cond (cond r2 r3 false) r4 false)) fun x5=>
  Let (body_within f.Category (0) (65535)) fun r6=>
  Let (body_within f.Mask (0) (65535)) fun r7=>
  Let (body_within f.Group ((-32)) (32)) fun r8=>
  Let ((cond (cond r6 r7 false) r8 false)) fun x9=>
  if (cond (!x5) true (!x9))=true then
   some 6
  else
   some 0
def body_moving (b:Body):Bool:=
 Let ((cond (!Vec.beq b.Velocity (⟨0,0⟩:Vec)) true (b.AngularVelocity != 0))) fun x1=>
 x1
def body_consistent (b:Body):Bool:=
 Let ((cond (!Vec.beq b.Force (⟨0,0⟩:Vec)) true (b.Torque != 0))) fun x1=>
 Let (body_moving b) fun r2=>
 Let ((cond (b.Kind==1) (cond r2 true x1) false)) fun x3=>
 if x3=true then
  false
 else
  Let ((cond (b.Kind != 3) (cond b.Asleep true b.Bullet) false)) fun x4=>
  if x4=true then
   false
  else
   Let (body_moving b) fun r5=>
   Let ((cond (!b.Asleep) true (!r5))) fun x6=>
   x6
def body_Validate_l1 (b:Body) (kj1:Option Int):Nat->Int->Option Int
 | 0,_=>none
 | n + 1,v2=>
   if (decide (v2<((b.Fixtures).length:Int)))=true then
    Chk (0<=v2/\v2<((b.Fixtures).length:Int)) <|
    Let ((ix b.Fixtures v2)) fun x4=>
    Bind (body_ValidateFixture x4) fun r5=>
    if (r5 != 0)=true then
     some 13
    else
     Let ((w64 (v2+1))) fun x6=>
     (body_Validate_l1 b kj1 n) x6
   else
    kj1
def body_Validate_j2 (b:Body):Option Int:=
 Let (body_consistent b) fun r7=>
 if (!r7)=true then
  some 14
 else
  some 0
def body_Validate (b:Body):Option Int:=
 if (cond (cond (b.Kind != 1) (b.Kind != 2) false) (b.Kind != 3) false)=true then
  some 10
 else
  Let (body_inRange b) fun r1=>
  if (!r1)=true then
   some 6
  else
   if (decide (4<((b.Fixtures).length:Int)))=true then
    some 11
   else
    body_Validate_l1 b (body_Validate_j2 b) fuel 0
def ref23_in (x_0:Int) (low:Int) (high:Int):Bool:=
 Let ((cond (decide (low<=x_0)) (decide (x_0<=high)) false)) fun x1=>
 x1
def ref04_outside (x_0:Int):Bool:=
 Let ((cond (decide (x_0<(-268435456))) true (decide (268435456<x_0)))) fun x1=>
 x1
def ref04_Valid (p:Transform):Bool:=
 Let (ref04_outside p.Position.X) fun r1=>
 Let (ref04_outside p.Position.Y) fun r2=>
 Let ((cond (cond (cond (!r1) (!r2) false) (decide ((-205888)<=p.Angle)) false) (decide (p.Angle<205888)) false)) fun x3=>
 x3
def ref23_inRange (b:Body):Bool:=
 Let (ref23_in b.ID (1) (1099511627776)) fun r1=>
 Let (ref04_Valid b.Transform) fun r2=>
 Let (ref23_in b.Velocity.X ((-16777216)) (16777216)) fun r3=>
 Let (ref23_in b.Velocity.Y ((-16777216)) (16777216)) fun r4=>
 Let (ref23_in b.AngularVelocity ((-4194304)) (4194304)) fun r5=>
 if (cond (cond (cond (cond (!r1) true (!r2)) true (!r3)) true (!r4)) true (!r5))=true then
  false
 else
  Let (ref23_in b.Force.X ((-536870911)) (536870911)) fun r6=>
  Let (ref23_in b.Force.Y ((-536870911)) (536870911)) fun r7=>
  Let (ref23_in b.Torque ((-536870911)) (536870911)) fun r8=>
  if (cond (cond (!r6) true (!r7)) true (!r8))=true then
   false
  else
   Let (ref23_in b.LinearDamping (0) (65536)) fun r9=>
   Let (ref23_in b.AngularDamping (0) (65536)) fun r10=>
   Let (ref23_in b.GravityScale ((-262144)) (262144)) fun r11=>
   Let (ref23_in b.IdleSteps (0) (1048576)) fun r12=>
   Let ((cond (cond (cond r9 r10 false) r11 false) r12 false)) fun x13=>
   x13
def ref12_countMatches (s:Shape):Bool:=
 if (s.Kind==3)=true then
  Let ((cond (decide (3<=((s.Vertices).length:Int))) (decide (((s.Vertices).length:Int)<=8)) false)) fun x1=>
  x1
 else
  Let ((((s.Vertices).length:Int)==s.Kind)) fun x2=>
  x2
def ref12_within (x_0:Int) (m:Int):Bool:=
 Let ((cond (decide ((w64 (0 - m))<=x_0)) (decide (x_0<=m)) false)) fun x1=>
 x1
def ref01_Saturate (x_0:Int):Int:=
 if (decide (536870911<x_0))=true then
  536870911
 else
  if (decide (x_0<(-536870911)))=true then
   (-536870911)
  else
   x_0
def ref01_Sub (a:Int) (b:Int):Int:=
 Let (ref01_Saturate a) fun r1=>
 Let (ref01_Saturate b) fun r2=>
 Let (ref01_Saturate (w64 (r1 - r2))) fun r3=>
 r3
def ref03_Sub (a:Vec) (b:Vec):Vec:=
 Let (ref01_Sub a.X b.X) fun r1=>
 Let (ref01_Sub a.Y b.Y) fun r2=>
 Let ((⟨r1,r2⟩:Vec)) fun x3=>
 x3
def ref03_Saturated (v_0:Vec):Vec:=
 Let (ref01_Saturate v_0.X) fun r1=>
 Let (ref01_Saturate v_0.Y) fun r2=>
 Let ((⟨r1,r2⟩:Vec)) fun x3=>
 x3
def ref01_outOfRange (n_0:Int):Bool:=
 Let ((cond (decide (4611686018427387904<n_0)) true (decide (n_0<(-4611686018427387904))))) fun x1=>
 x1
def ref01_Isqrt_j1 (v4:Int) (kn2:Int->Int->Option Int) (v5:Int):Option Int:=
 Let ((w64 (Int.tdiv v4 2))) fun x9=>
 kn2 v5 x9
def ref01_Isqrt_l2 (n_0:Int) (kj1:Int->Option Int):Nat->Int->Int->Option Int
 | 0,_,_=>none
 | n + 1,v3,v4=>
   if (decide (0<v4))=true then
    Chk ((w64 (v3+v4))≠0) <|
    Let ((decide ((w64 (v3+v4))<=(w64 (Int.tdiv n_0 (w64 (v3+v4))))))) fun x7=>
    if x7=true then
     Let ((w64 (v3+v4))) fun x8=>
     (ref01_Isqrt_j1 v4 (ref01_Isqrt_l2 n_0 kj1 n)) x8
    else
     (ref01_Isqrt_j1 v4 (ref01_Isqrt_l2 n_0 kj1 n)) v3
   else
    kj1 v3
def ref01_Isqrt_j3 (v2:Int):Option Int:=
 some v2
def ref01_Isqrt (n_0:Int):Option Int:=
 Let (ref01_outOfRange n_0) fun r1=>
 if (cond (decide (n_0<0)) true r1)=true then
  some 0
 else
  ref01_Isqrt_l2 n_0 ref01_Isqrt_j3 fuel 0 2147483648
def ref03_Length (v_0:Vec):Option Int:=
 Let (ref03_Saturated v_0) fun r1=>
 Let (r1) fun x2=>
 Bind (ref01_Isqrt (w64 ((w64 (x2.X*x2.X))+(w64 (x2.Y*x2.Y))))) fun r3=>
 some r3
def ref11_inRange (v_0:Vec):Bool:=
 Let ((cond (cond (cond (decide ((-1048576)<=v_0.X)) (decide (v_0.X<=1048576)) false) (decide ((-1048576)<=v_0.Y)) false) (decide (v_0.Y<=1048576)) false)) fun x1=>
 x1
def ref03_Orientation (a:Vec) (b:Vec) (c_2:Vec):Int:=
 Let (ref03_Saturated a) fun r1=>
 Let (r1) fun x2=>
 Let (ref03_Saturated b) fun r3=>
 Let (r3) fun x4=>
 Let (ref03_Saturated c_2) fun r5=>
 Let (r5) fun x6=>
 Let ((w64 ((w64 ((w64 (x4.X - x2.X))*(w64 (x6.Y - x2.Y)))) - (w64 ((w64 (x4.Y - x2.Y))*(w64 (x6.X - x2.X))))))) fun x7=>
 if (decide (0<x7))=true then
  1
 else
  if (decide (x7<0))=true then
   (-1)
  else
   0
def ref11_IsConvex_l1 (vertices:List Vec) (kj1:Option Bool):Nat->Int->Option Bool
 | 0,_=>none
 | n + 1,v1=>
   if (decide (v1<((vertices).length:Int)))=true then
    Chk (0<=v1/\v1<((vertices).length:Int)) <|
    Let (ref11_inRange (ix vertices v1)) fun r3=>
    if (!r3)=true then
     some false
    else
     Let ((w64 (v1+1))) fun x4=>
     (ref11_IsConvex_l1 vertices kj1 n) x4
   else
    kj1
def ref11_IsConvex_l2 (vertices:List Vec) (v5:Int) (kj5:Option Bool) (x7:Int):Nat->Int->Option Bool
 | 0,_=>none
 | n + 1,v8=>
   if (decide (v8<((vertices).length:Int)))=true then
    Chk (((cond (v8 != v5) (v8 != x7) false)==true)=true->0<=v5/\v5<((vertices).length:Int)) <|
    Chk (((cond (v8 != v5) (v8 != x7) false)==true)=true->0<=x7/\x7<((vertices).length:Int)) <|
    Chk (((cond (v8 != v5) (v8 != x7) false)==true)=true->0<=v8/\v8<((vertices).length:Int)) <|
    Let (ref03_Orientation (ix vertices v5) (ix vertices x7) (ix vertices v8)) fun r12=>
    if (cond (cond (v8 != v5) (v8 != x7) false) (r12 != 1) false)=true then
     some false
    else
     Let ((w64 (v8+1))) fun x13=>
     (ref11_IsConvex_l2 vertices v5 kj5 x7 n) x13
   else
    kj5
def ref11_IsConvex_j3 (v5:Int) (kn4:Int->Option Bool):Option Bool:=
 Let ((w64 (v5+1))) fun x14=>
 kn4 x14
def ref11_IsConvex_l4 (vertices:List Vec) (kj3:Option Bool):Nat->Int->Option Bool
 | 0,_=>none
 | n + 1,v5=>
   if (decide (v5<((vertices).length:Int)))=true then
    Chk (((vertices).length:Int)≠0) <|
    Let ((Int.tmod (w64 (v5+1)) ((vertices).length:Int))) fun x7=>
    ref11_IsConvex_l2 vertices v5 (ref11_IsConvex_j3 v5 (ref11_IsConvex_l4 vertices kj3 n)) x7 fuel 0
   else
    kj3
def ref11_IsConvex_j5:Option Bool:=
 some true
def ref11_IsConvex_j6 (vertices:List Vec):Option Bool:=
 ref11_IsConvex_l4 vertices ref11_IsConvex_j5 fuel 0
def ref11_IsConvex (vertices:List Vec):Option Bool:=
 if (cond (decide (((vertices).length:Int)<3)) true (decide (8<((vertices).length:Int))))=true then
  some false
 else
  ref11_IsConvex_l1 vertices (ref11_IsConvex_j6 vertices) fuel 0
def ref11_ShortestEdge_j1 (v4:Int) (kn2:Int->Int->Option Int) (v5:Int):Option Int:=
 Let ((w64 (v4+1))) fun x11=>
 kn2 v5 x11
def ref11_ShortestEdge_l2 (vertices:List Vec) (kj1:Int->Option Int):Nat->Int->Int->Option Int
 | 0,_,_=>none
 | n + 1,v3,v4=>
   if (decide (v4<((vertices).length:Int)))=true then
    Chk (((vertices).length:Int)≠0) <|
    Chk (0<=(Int.tmod (w64 (v4+1)) ((vertices).length:Int))/\(Int.tmod (w64 (v4+1)) ((vertices).length:Int))<((vertices).length:Int)) <|
    Chk (0<=v4/\v4<((vertices).length:Int)) <|
    Let (ref03_Sub (ix vertices (Int.tmod (w64 (v4+1)) ((vertices).length:Int))) (ix vertices v4)) fun r9=>
    Bind (ref03_Length r9) fun r10=>
    if (cond (decide (v3<0)) true (decide (r10<v3)))=true then
     (ref11_ShortestEdge_j1 v4 (ref11_ShortestEdge_l2 vertices kj1 n)) r10
    else
     (ref11_ShortestEdge_j1 v4 (ref11_ShortestEdge_l2 vertices kj1 n)) v3
   else
    kj1 v3
def ref11_ShortestEdge_j3 (v2:Int):Option Int:=
 some v2
def ref11_ShortestEdge (vertices:List Vec):Option Int:=
 Bind (ref11_IsConvex vertices) fun r1=>
 if (!r1)=true then
  some 0
 else
  ref11_ShortestEdge_l2 vertices ref11_ShortestEdge_j3 fuel (-1) 0
def ref01_RoundDiv_j1 (n_0:Int) (v8:Int):Option Int:=
 if (decide (n_0<0))=true then
  Let ((w64 (0 - v8))) fun x10=>
  some x10
 else
  some v8
def ref01_RoundDiv_j2 (n_0:Int) (d:Int) (v3:Int):Option Int:=
 Chk (d≠0) <|
 Let ((w64 (Int.tdiv v3 d))) fun x6=>
 Let ((w64 (v3 - (w64 (x6*d))))) fun x7=>
 if (decide ((w64 (d - x7))<=x7))=true then
  Let ((w64 (x6+1))) fun x9=>
  (ref01_RoundDiv_j1 n_0) x9
 else
  (ref01_RoundDiv_j1 n_0) x6
def ref01_RoundDiv (n_0:Int) (d:Int):Option Int:=
 Let (ref01_outOfRange d) fun r1=>
 Let (ref01_outOfRange n_0) fun r2=>
 if (cond (cond (decide (d<1)) true r1) true r2)=true then
  some 0
 else
  if (decide (n_0<0))=true then
   Let ((w64 (0 - n_0))) fun x4=>
   (ref01_RoundDiv_j2 n_0 d) x4
  else
   (ref01_RoundDiv_j2 n_0 d) n_0
def ref11_cross (v_0:List Vec) (i:Int):Option Int:=
 Chk (0<=i/\i<((v_0).length:Int)) <|
 Chk (0<=(0:Int)/\0<((v_0).length:Int)) <|
 Chk (0<=i/\i<((v_0).length:Int)) <|
 Chk (0<=(0:Int)/\0<((v_0).length:Int)) <|
 Let ((⟨(w64 (((ix v_0 i).X) - ((ix v_0 0).X))),(w64 (((ix v_0 i).Y) - ((ix v_0 0).Y)))⟩:Vec)) fun x5=>
 Chk (0<=(w64 (i+1))/\(w64 (i+1))<((v_0).length:Int)) <|
 Chk (0<=(0:Int)/\0<((v_0).length:Int)) <|
 Chk (0<=(w64 (i+1))/\(w64 (i+1))<((v_0).length:Int)) <|
 Chk (0<=(0:Int)/\0<((v_0).length:Int)) <|
 Let ((⟨(w64 (((ix v_0 (w64 (i+1))).X) - ((ix v_0 0).X))),(w64 (((ix v_0 (w64 (i+1))).Y) - ((ix v_0 0).Y)))⟩:Vec)) fun x10=>
 Bind (ref01_RoundDiv (w64 ((w64 (x5.X*x10.Y)) - (w64 (x5.Y*x10.X)))) (65536)) fun r11=>
 some r11
def ref11_Area_l1 (vertices:List Vec) (kj1:Int->Option Int):Nat->Int->Int->Option Int
 | 0,_,_=>none
 | n + 1,v3,v4=>
   if (decide ((w64 (v4+1))<((vertices).length:Int)))=true then
    Bind (ref11_cross vertices v4) fun r5=>
    Let ((w64 (v3+r5))) fun x6=>
    Let ((w64 (v4+1))) fun x7=>
    (ref11_Area_l1 vertices kj1 n) x6 x7
   else
    kj1 v3
def ref11_Area_j2 (v2:Int):Option Int:=
 Bind (ref01_RoundDiv v2 (2)) fun r8=>
 some r8
def ref11_Area (vertices:List Vec):Option Int:=
 Bind (ref11_IsConvex vertices) fun r1=>
 if (!r1)=true then
  some 0
 else
  ref11_Area_l1 vertices ref11_Area_j2 fuel 0 1
def ref12_Validate_l1 (s:Shape) (kj1:Option Int):Nat->Int->Option Int
 | 0,_=>none
 | n + 1,v2=>
   if (decide (v2<((s.Vertices).length:Int)))=true then
    Chk (0<=v2/\v2<((s.Vertices).length:Int)) <|
    Let (ref12_within ((ix s.Vertices v2).X) (1048576)) fun r4=>
    Chk (((!r4)==false)=true->0<=v2/\v2<((s.Vertices).length:Int)) <|
    Let (ref12_within ((ix s.Vertices v2).Y) (1048576)) fun r6=>
    if (cond (!r4) true (!r6))=true then
     some 6
    else
     Let ((w64 (v2+1))) fun x7=>
     (ref12_Validate_l1 s kj1 n) x7
   else
    kj1
def ref12_Validate_j2 (s:Shape):Option Int:=
 if (cond (cond (s.Kind==3) (s.Radius != 0) false) true (cond (s.Kind != 3) (cond (decide (s.Radius<2048)) true (decide (524288<s.Radius))) false))=true then
  some 6
 else
  Chk (((s.Kind==2)==true)=true->0<=(1:Int)/\1<((s.Vertices).length:Int)) <|
  Chk (((s.Kind==2)==true)=true->0<=(0:Int)/\0<((s.Vertices).length:Int)) <|
  Let (ref03_Sub (ix s.Vertices 1) (ix s.Vertices 0)) fun r10=>
  Bind (if ((s.Kind==2)==true)=true then ref03_Length r10 else some default) fun r11=>
  if (cond (s.Kind==2) (decide (r11<4096)) false)=true then
   some 12
  else
   Bind (if ((s.Kind==3)==true)=true then ref11_IsConvex s.Vertices else some default) fun r12=>
   Bind (if (((s.Kind==3)==true)&&((!r12)==false))=true then ref11_ShortestEdge s.Vertices else some default) fun r13=>
   Bind (if (((s.Kind==3)==true)&&((cond (!r12) true (decide (r13<4096)))==false))=true then ref11_Area s.Vertices else some default) fun r14=>
   if (cond (s.Kind==3) (cond (cond (!r12) true (decide (r13<4096))) true (decide (r14<256))) false)=true then
    some 12
   else
    some 0
def ref12_Validate (s:Shape):Option Int:=
 if (cond (decide (s.Kind<1)) true (decide (3<s.Kind)))=true then
  some 10
 else
  Let (ref12_countMatches s) fun r1=>
  if (!r1)=true then
   some 11
  else
   ref12_Validate_l1 s (ref12_Validate_j2 s) fuel 0
def ref23_ValidateFixture (f:Fixture):Option Int:=
 Bind (ref12_Validate f.Shape) fun r1=>
 if (r1 != 0)=true then
  some r1
 else
  Let (ref23_in f.Density (0) (262144)) fun r2=>
  Let (ref23_in f.Friction (0) (131072)) fun r3=>
  Let (ref23_in f.Restitution (0) (65536)) fun r4=>
  Let (ref23_in f.Category (0) (65535)) fun r5=>
  Let (ref23_in f.Mask (0) (65535)) fun r6=>
  Let (ref23_in f.Group ((-32)) (32)) fun r7=>
  if (cond (cond (cond (cond (cond (!r2) true (!r3)) true (!r4)) true (!r5)) true (!r6)) true (!r7))=true then
   some 6
  else
   some 0
def ref23_Validate_l1 (b:Body) (kj1:Option Int):Nat->Int->Option Int
 | 0,_=>none
 | n + 1,v2=>
   if (decide (v2<((b.Fixtures).length:Int)))=true then
    Chk (0<=v2/\v2<((b.Fixtures).length:Int)) <|
    Bind (ref23_ValidateFixture (ix b.Fixtures v2)) fun r4=>
    if (r4 != 0)=true then
     some 13
    else
     Let ((w64 (v2+1))) fun x5=>
     (ref23_Validate_l1 b kj1 n) x5
   else
    kj1
def ref23_Validate_j2 (b:Body):Option Int:=
 Let ((cond (!Vec.beq b.Velocity (⟨0,0⟩:Vec)) true (b.AngularVelocity != 0))) fun x6=>
 Let ((cond (!Vec.beq b.Force (⟨0,0⟩:Vec)) true (b.Torque != 0))) fun x7=>
 if (cond (cond (cond (b.Kind==1) (cond x6 true x7) false) true (cond (b.Kind != 3) (cond b.Asleep true b.Bullet) false)) true (cond b.Asleep x6 false))=true then
  some 14
 else
  some 0
def ref23_Validate (b:Body):Option Int:=
 if (cond (cond (b.Kind != 1) (b.Kind != 2) false) (b.Kind != 3) false)=true then
  some 10
 else
  Let (ref23_inRange b) fun r1=>
  if (!r1)=true then
   some 6
  else
   if (decide (4<((b.Fixtures).length:Int)))=true then
    some 11
   else
    ref23_Validate_l1 b (ref23_Validate_j2 b) fuel 0
def ref12_EqualVecs_l1 (a:List Vec) (b:List Vec) (kj1:Option Bool):Nat->Int->Option Bool
 | 0,_=>none
 | n + 1,v1=>
   if (decide (v1<((a).length:Int)))=true then
    Chk (0<=v1/\v1<((a).length:Int)) <|
    Chk (0<=v1/\v1<((b).length:Int)) <|
    if (!Vec.beq (ix a v1) (ix b v1))=true then
     some false
    else
     Let ((w64 (v1+1))) fun x4=>
     (ref12_EqualVecs_l1 a b kj1 n) x4
   else
    kj1
def ref12_EqualVecs_j2:Option Bool:=
 some true
def ref12_EqualVecs (a:List Vec) (b:List Vec):Option Bool:=
 if (((a).length:Int) != ((b).length:Int))=true then
  some false
 else
  ref12_EqualVecs_l1 a b ref12_EqualVecs_j2 fuel 0
def ref12_Equal (a:Shape) (b:Shape):Option Bool:=
 Bind (if ((cond (a.Kind==b.Kind) (a.Radius==b.Radius) false)==true)=true then ref12_EqualVecs a.Vertices b.Vertices else some default) fun r1=>
 Let ((cond (cond (a.Kind==b.Kind) (a.Radius==b.Radius) false) r1 false)) fun x2=>
 some x2
def ref23_EqualFixture (a:Fixture) (b:Fixture):Option Bool:=
 Bind (ref12_Equal a.Shape b.Shape) fun r1=>
 Let ((cond (cond (cond (cond (cond (cond (cond r1 (a.Density==b.Density) false) (a.Friction==b.Friction) false) (a.Restitution==b.Restitution) false) (a.Sensor==b.Sensor) false) (a.Category==b.Category) false) (a.Mask==b.Mask) false) (a.Group==b.Group) false)) fun x2=>
 some x2
def ref23_Equal_l1 (a:Body) (b:Body) (kj1:Option Bool):Nat->Int->Option Bool
 | 0,_=>none
 | n + 1,v1=>
   if (cond (decide (v1<((a.Fixtures).length:Int))) (decide (v1<((b.Fixtures).length:Int))) false)=true then
    Chk (0<=v1/\v1<((a.Fixtures).length:Int)) <|
    Chk (0<=v1/\v1<((b.Fixtures).length:Int)) <|
    Bind (ref23_EqualFixture (ix a.Fixtures v1) (ix b.Fixtures v1)) fun r4=>
    if (!r4)=true then
     some false
    else
     Let ((w64 (v1+1))) fun x5=>
     (ref23_Equal_l1 a b kj1 n) x5
   else
    kj1
def ref23_Equal_j2 (a:Body) (b:Body):Option Bool:=
 if (cond (cond (cond (cond (cond (cond (a.ID != b.ID) true (a.Kind != b.Kind)) true (!Transform.beq a.Transform b.Transform)) true (!Vec.beq a.Velocity b.Velocity)) true (a.AngularVelocity != b.AngularVelocity)) true (!Vec.beq a.Force b.Force)) true (a.Torque != b.Torque))=true then
  some false
 else
  Let ((cond (cond (cond (cond (cond (cond (cond (a.LinearDamping==b.LinearDamping) (a.AngularDamping==b.AngularDamping) false) (a.GravityScale==b.GravityScale) false) (a.Bullet==b.Bullet) false) (a.FixedRotation==b.FixedRotation) false) (a.NoSleep==b.NoSleep) false) (a.Asleep==b.Asleep) false) (a.IdleSteps==b.IdleSteps) false)) fun x6=>
  some x6
def ref23_Equal (a:Body) (b:Body):Option Bool:=
 if (((a.Fixtures).length:Int) != ((b.Fixtures).length:Int))=true then
  some false
 else
  ref23_Equal_l1 a b (ref23_Equal_j2 a b) fuel 0
end
section
open GoForm
theorem mul_bd {x y:Int} (M N:Int) (hx : -M<=x/\x<=M) (hy : -N<=y/\y<=N) : -(M*N)<=x*y/\x*y<=M*N:=by
 have h1:x.natAbs<=M.natAbs:=by omega
 have h2:y.natAbs<=N.natAbs:=by omega
 have h3:=Nat.mul_le_mul h1 h2
 rw [<- Int.natAbs_mul,<- Int.natAbs_mul] at h3
 have h4:0<=M*N:=Int.mul_nonneg (by omega) (by omega)
 omega
def sat (x:Int):Int:=min (max x (-536870911)) 536870911
theorem sat_bd (x:Int) : -536870911<=sat x/\sat x<=536870911:=by unfold sat;omega
theorem sat_id {x:Int} (h : -536870911<=x/\x<=536870911):sat x=x:=by unfold sat;omega
theorem sat_mul (a b:Int) : -288230375077969921<=sat a*sat b/\sat a*sat b<=288230375077969921:=by
 have:=mul_bd 536870911 536870911 (sat_bd a) (sat_bd b)
 omega
def addS (a b:Int):Int:=sat (sat a+sat b)
def subS (a b:Int):Int:=sat (sat a - sat b)
def rdv (n d:Int):Int:=
 if d<1\/4611686018427387904<d\/n < -4611686018427387904\/4611686018427387904<n then 0 else
 if d - Int.tmod n d<=Int.tmod n d then Int.tdiv n d+1 else if d+Int.tmod n d <= - Int.tmod n d then Int.tdiv n d - 1 else Int.tdiv n d
theorem tdm (n d:Int) (hd:0<d):d*Int.tdiv n d+Int.tmod n d=n /\ -d<Int.tmod n d/\Int.tmod n d<d/\(0<=n->0<=Int.tmod n d/\0<=Int.tdiv n d/\Int.tdiv n d<=n)/\(n<=0->Int.tmod n d<=0/\n<=Int.tdiv n d/\Int.tdiv n d<=0):=by
 have pos:∀ n:Int,0<=n->0<=Int.tmod n d/\Int.tmod n d<d/\0<=Int.tdiv n d/\Int.tdiv n d<=n:=by
  intro n hn
  refine ⟨Int.tmod_nonneg d hn,Int.tmod_lt_of_pos n hd,Int.tdiv_nonneg hn (by omega),?_⟩
  rw [Int.tdiv_eq_ediv_of_nonneg hn]
  exact Int.ediv_le_self d hn
 refine ⟨Int.mul_tdiv_add_tmod n d,?_⟩
 by_cases h:0<=n
 ·have:=pos n h
  refine ⟨by omega,by omega,fun _=>⟨by omega,by omega,by omega⟩,fun h0=>?_⟩
  have:n=0:=by omega
  subst this;simp
 ·have:=pos (-n) (by omega)
  rw [Int.neg_tmod,Int.neg_tdiv] at this
  exact ⟨by omega,by omega,fun _=>by omega,fun _=>by omega⟩
theorem fixed_RoundDiv_eq (n d:Int):fixed_RoundDiv n d=some (rdv n d):=by
 unfold fixed_RoundDiv rdv
 simp only [Let_eq,cond_or,Bool.or_eq_true,decide_eq_true_eq]
 by_cases h:((d<1\/4611686018427387904<d)\/n < -4611686018427387904)\/4611686018427387904<n
 ·rw [if_pos h,if_pos (by omega)]
 have h':¬ (d<1\/4611686018427387904<d\/n < -4611686018427387904\/4611686018427387904<n):=by omega
 rw [if_neg h,if_neg h',Chk_of (by omega),Chk_of (by omega)]
 obtain ⟨h1,h2,h3,h4,h5⟩:=tdm n d (by omega)
 have hq : -4611686018427387904<=Int.tdiv n d/\Int.tdiv n d<=4611686018427387904:=by
  by_cases hn:0<=n
  ·have:=h4 hn;omega
  ·have:=h5 (by omega);omega
 generalize Int.tdiv n d=q at*
 generalize Int.tmod n d=r at*
 rw [w64_of q (by omega),w64_of (d - r) (by omega),w64_of (d+r) (by omega),w64_of (0 - r) (by omega),w64_of (q+1) (by omega),w64_of (q - 1) (by omega)]
 by_cases c1:d - r<=r
 ·rw [if_pos c1,if_pos c1]
 rw [if_neg c1,if_neg c1]
 by_cases c2:d+r<=0 - r
 ·rw [if_pos c2,if_pos (by omega)]
 ·rw [if_neg c2,if_neg (by omega)]
theorem rdv_neg (n d:Int):rdv (-n) d = - rdv n d:=by
 unfold rdv
 by_cases h:d<1\/4611686018427387904<d\/n < -4611686018427387904\/4611686018427387904<n
 ·rw [if_pos h,if_pos (by omega)];rfl
 rw [if_neg h,if_neg (by omega),Int.neg_tmod,Int.neg_tdiv]
 obtain ⟨h1,h2,h3,h4,h5⟩:=tdm n d (by omega)
 generalize Int.tdiv n d=q at*
 generalize Int.tmod n d=r at*
 split <;> split <;> (try split) <;> omega
theorem rdv_le {n d:Int} (hn:0<=n):0<=rdv n d/\rdv n d<=n:=by
 unfold rdv
 split
 ·omega
 obtain ⟨h1,h2,h3,h4,h5⟩:=tdm n d (by omega)
 have h4:=h4 hn
 split
 ·rename_i hh c
  by_cases hq:Int.tdiv n d<n
  ·omega
  ·have hq2:Int.tdiv n d=n:=by omega
   rw [hq2] at h1
   by_cases hd:d=1
   ·omega
   ·have:2*n<=d*n:=Int.mul_le_mul_of_nonneg_right (by omega) hn
    omega
 ·rw [if_neg (by omega)];omega
theorem fixed_Saturate_eq (x:Int):fixed_Saturate x=sat x:=rfl
theorem fixed_Sub_eq (a b:Int):fixed_Sub a b=subS a b:=by
 unfold fixed_Sub;simp only [Let_eq,fixed_Saturate_eq]
 have:=sat_bd a;have:=sat_bd b
 rw [w64_of _ (by omega)];rfl
def isqL (n:Int):Nat->Int->Int
 | 0,v=>v
 | k+1,v=>if (v+2 ^ k)*(v+2 ^ k)<=n then isqL n k (v+2 ^ k) else isqL n k v
def isq (n:Int):Int:=if n<0\/4611686018427387904<n then 0 else isqL n 32 0
def bitAt (k:Nat):Int:=match k with | 0=>0 | k+1=>2 ^ k
theorem isqL_bd (n:Int):∀ (k:Nat) (v:Int),0<=v->v*v<=n->0<=isqL n k v/\isqL n k v*isqL n k v<=n/\isqL n k v<v+2 ^ k
 | 0,v,h,h2=>⟨h,h2,by simp [isqL];omega⟩
 | k + 1,v,h,h2=>by
   have hp:(0:Int)<2 ^ k:=Int.pow_pos (by omega)
   unfold isqL
   rw [Int.pow_succ]
   split
   ·rename_i c
    have:=isqL_bd n k (v+2 ^ k) (by omega) c
    omega
   ·have:=isqL_bd n k v h h2
    omega
theorem isq_bd (n:Int):0<=isq n/\isq n<4294967296/\(0<=n->isq n*isq n<=n):=by
 unfold isq
 split
 ·omega
 ·have:=isqL_bd n 32 0 (by omega) (by omega)
  omega
theorem bor_bit (k:Nat) (a:Int) (ha:0<=a) (hk:a*2 ^ (k+1)+2 ^ (k+1)<=4294967296):bOr .i64 (a*2 ^ (k+1)) (2 ^ k)=a*2 ^ (k+1)+2 ^ k:=by
 obtain ⟨m,rfl⟩:=Int.eq_ofNat_of_zero_le ha
 have e1:((m:Int)*2 ^ (k+1))=((m*2 ^ (k+1):Nat):Int):=by push_cast;rfl
 have e2:((2:Int) ^ k)=((2 ^ k:Nat):Int):=by push_cast;rfl
 have e2':((2:Int) ^ (k+1))=((2 ^ (k+1):Nat):Int):=by push_cast;rfl
 rw [e1,e2'] at hk
 have hlt:2 ^ k<2 ^ (k+1):=Nat.pow_lt_pow_right (by omega) (by omega)
 rw [e1,e2]
 unfold bOr
 show IntKind.i64.wrap ((BitVec.ofInt 64 ((m*2 ^ (k+1):Nat):Int) ||| BitVec.ofInt 64 ((2 ^ k:Nat):Int)).toNat:Nat)=_
 rw [BitVec.toNat_or]
 have e3:(BitVec.ofInt 64 ((m*2 ^ (k+1):Nat):Int)).toNat=m*2 ^ (k+1):=by
  rw [BitVec.toNat_ofInt];omega
 have e4:(BitVec.ofInt 64 ((2 ^ k:Nat):Int)).toNat=2 ^ k:=by
  rw [BitVec.toNat_ofInt];omega
 rw [e3,e4]
 have e5:=Nat.shiftLeft_add_eq_or_of_lt hlt m
 rw [Nat.shiftLeft_eq] at e5
 rw [<- e5]
 have:=w64_of ((m*2 ^ (k+1)+2 ^ k:Nat):Int) (by omega)
 rw [show IntKind.i64.wrap ((m*2 ^ (k+1)+2 ^ k:Nat):Int)=w64 ((m*2 ^ (k+1)+2 ^ k:Nat):Int) from rfl,this]
 push_cast;rfl
theorem bitAt_half (k:Nat):bShr .i64 (2 ^ k) 1=bitAt k:=by
 unfold bShr
 show Int.fdiv (2 ^ k) (2 ^ 1)=_
 rw [Int.fdiv_eq_ediv_of_nonneg _ (by decide)]
 cases k with
 | zero=>rfl
 | succ k=>rw [Int.pow_succ];show _=(2:Int) ^ k;omega
theorem isq_l2 (n:Int) (hn:0<=n/\n<=4611686018427387904) (kj:Int->Option Int):∀ (k m:Nat) (a:Int),k<m->0<=a->a*2 ^ k+2 ^ k<=4294967296->
 fixed_Isqrt_l2 n kj m (a*2 ^ k) (bitAt k)=kj (isqL n k (a*2 ^ k))
 | k,0,a,h,_,_=>by omega
 | 0,m+1,a,h,h0,h1=>by
   unfold fixed_Isqrt_l2
   rw [if_neg (by simp [bitAt])];rfl
 | k + 1,m+1,a,h,h0,h1=>by
   have hp:(0:Int)<2 ^ k:=Int.pow_pos (by omega)
   have hpos:0<=a*2 ^ (k+1):=Int.mul_nonneg h0 (Int.le_of_lt (Int.pow_pos (by omega)))
   unfold fixed_Isqrt_l2
   rw [show bitAt (k+1)=2 ^ k from rfl,if_pos (decide_eq_true hp)]
   rw [bor_bit k a h0 h1,Let_eq,Let_eq,u64_eq,u64_eq,u64_eq]
   have hx:0<=a*2 ^ (k+1)+2 ^ k/\a*2 ^ (k+1)+2 ^ k<4294967296:=by
    rw [Int.pow_succ] at h1 ⊢;rw [Int.pow_succ] at hpos;omega
   have hsq:(a*2 ^ (k+1)+2 ^ k)*(a*2 ^ (k+1)+2 ^ k)<=4294967295*4294967295:=(mul_bd 4294967295 4294967295 (by omega) (by omega)).2
   have hsq0:0<=(a*2 ^ (k+1)+2 ^ k)*(a*2 ^ (k+1)+2 ^ k):=Int.mul_nonneg hx.1 hx.1
   rw [Int.emod_eq_of_lt hx.1 (by omega),Int.emod_eq_of_lt hsq0 (by omega),Int.emod_eq_of_lt hn.1 (by omega)]
   have ea:a*2 ^ (k+1)+2 ^ k=(2*a+1)*2 ^ k:=by rw [Int.pow_succ,Int.add_mul];rw [Int.mul_comm 2 a,Int.mul_assoc,Int.mul_comm 2];omega
   have eb:a*2 ^ (k+1)=(2*a)*2 ^ k:=by rw [Int.pow_succ,Int.mul_comm 2 a,Int.mul_assoc,Int.mul_comm 2]
   unfold isqL fixed_Isqrt_j1
   simp only [Let_eq,decide_eq_true_eq]
   rw [bitAt_half]
   have h1':(2*a+1)*2 ^ k+2 ^ k<=4294967296:=by rw [<- ea];rw [Int.pow_succ] at h1 ⊢;omega
   have h1'':(2*a)*2 ^ k+2 ^ k<=4294967296:=by rw [<- eb];rw [Int.pow_succ] at h1 ⊢;omega
   by_cases c:(a*2 ^ (k+1)+2 ^ k)*(a*2 ^ (k+1)+2 ^ k)<=n
   ·rw [if_pos c,if_pos c,ea]
    exact isq_l2 n hn kj k m (2*a+1) (by omega) (by omega) h1'
   ·rw [if_neg c,if_neg c,eb]
    exact isq_l2 n hn kj k m (2*a) (by omega) (by omega) h1''
theorem fixed_Isqrt_eq (n:Int):fixed_Isqrt n=some (isq n):=by
 unfold fixed_Isqrt isq
 simp only [cond_or,Bool.or_eq_true,decide_eq_true_eq]
 by_cases h:n<0\/4611686018427387904<n
 ·rw [if_pos h,if_pos h]
 ·rw [if_neg h,if_neg h]
  have:=isq_l2 n (by omega) fixed_Isqrt_j3 32 fuel 0 (fuel_lt _ (by decide)) (by omega) (by decide)
  simpa [bitAt,fixed_Isqrt_j3] using this
def subV (a b:Vec):Vec:=⟨subS a.X b.X,subS a.Y b.Y⟩
def addV (a b:Vec):Vec:=⟨addS a.X b.X,addS a.Y b.Y⟩
def satV (a:Vec):Vec:=⟨sat a.X,sat a.Y⟩
def lenV (v:Vec):Int:=isq (sat v.X*sat v.X+sat v.Y*sat v.Y)
def oriV (a b c:Vec):Int:=min 1 (max (-1) ((sat b.X - sat a.X)*(sat c.Y - sat a.Y) - (sat b.Y - sat a.Y)*(sat c.X - sat a.X)))
theorem vec2_Sub_eq (a b:Vec):vec2_Sub a b=subV a b:=by unfold vec2_Sub;simp only [Let_eq,fixed_Sub_eq];rfl
theorem vec2_saturate_eq (a:Vec):vec2_saturate a=satV a:=rfl
theorem diff_mul (a b c d:Int) : -1152921500311879684<=(sat a - sat b)*(sat c - sat d)/\(sat a - sat b)*(sat c - sat d)<=1152921500311879684:=by
 have h1:=sat_bd a;have h2:=sat_bd b;have h3:=sat_bd c;have h4:=sat_bd d
 have:=mul_bd (x:=sat a - sat b) (y:=sat c - sat d) 1073741822 1073741822 (by omega) (by omega)
 omega
theorem vec2_Orientation_eq (a b c:Vec):vec2_Orientation a b c=oriV a b c:=by
 unfold vec2_Orientation;simp only [vec2_saturate_eq,Let_eq,satV]
 have h1:=diff_mul b.X a.X c.Y a.Y;have h2:=diff_mul b.Y a.Y c.X a.X
 have k1:=sat_bd a.X;have k2:=sat_bd a.Y;have k3:=sat_bd b.X;have k4:=sat_bd b.Y;have k5:=sat_bd c.X;have k6:=sat_bd c.Y
 rw [w64_of (sat b.X - sat a.X) (by omega),w64_of (sat c.Y - sat a.Y) (by omega),w64_of (sat b.Y - sat a.Y) (by omega),w64_of (sat c.X - sat a.X) (by omega),w64_of ((sat b.X - sat a.X)*(sat c.Y - sat a.Y)) (by omega),w64_of ((sat b.Y - sat a.Y)*(sat c.X - sat a.X)) (by omega),w64_of _ (by omega)]
 rfl
theorem vec2_Length_eq (v:Vec):vec2_Length v=some (lenV v):=by
 unfold vec2_Length vec2_DistanceSquared;simp only [vec2_saturate_eq,Let_eq,satV]
 have h1:=sat_mul v.X v.X;have h2:=sat_mul v.Y v.Y
 have k1:=sat_bd v.X;have k2:=sat_bd v.Y
 rw [show sat 0=0 from rfl,w64_of (sat v.X - 0) (by omega),w64_of (sat v.Y - 0) (by omega),Int.sub_zero,Int.sub_zero,w64_of (sat v.X*sat v.X) (by omega),w64_of (sat v.Y*sat v.Y) (by omega),w64_of _ (by omega),fixed_Isqrt_eq]
 rfl
end
section
open GoForm
theorem ref01_Saturate_eq (x:Int):ref01_Saturate x=sat x:=by
 unfold ref01_Saturate sat
 simp only [decide_eq_true_eq]
 split
 ·omega
 ·split <;> omega
theorem ref01_Sub_eq (a b:Int):ref01_Sub a b=subS a b:=by
 unfold ref01_Sub;simp only [Let_eq,ref01_Saturate_eq]
 have:=sat_bd a;have:=sat_bd b
 rw [w64_of _ (by omega)];rfl
theorem ref01_RoundDiv_eq (n d:Int):ref01_RoundDiv n d=some (rdv n d):=by
 unfold ref01_RoundDiv ref01_outOfRange
 simp only [Let_eq,cond_or,Bool.or_eq_true,decide_eq_true_eq]
 by_cases h:(d<1\/4611686018427387904<d\/d < -4611686018427387904)\/4611686018427387904<n\/n < -4611686018427387904
 ·unfold rdv;rw [if_pos h,if_pos (by omega)]
 rw [if_neg h]
 have core:∀ m:Int,0<=m->m<=4611686018427387904->ref01_RoundDiv_j2 n d m=ref01_RoundDiv_j1 n (rdv m d):=by
  intro m h0 h1
  unfold ref01_RoundDiv_j2 rdv
  simp only [Let_eq,decide_eq_true_eq]
  obtain ⟨t1,t2,t3,t4,t5⟩:=tdm m d (by omega)
  have t4:=t4 h0
  have hm:¬ (d<1\/4611686018427387904<d\/m < -4611686018427387904\/4611686018427387904<m):=by omega
  rw [if_neg hm]
  rw [Chk_of (by omega)]
  generalize Int.tdiv m d=q at*
  generalize Int.tmod m d=r at*
  have hq:d*q=m - r:=by omega
  rw [w64_of q (by omega),Int.mul_comm q d,hq,w64_of (m - r) (by omega),w64_of (m - (m - r)) (by omega)]
  have e:m - (m - r)=r:=by omega
  rw [e,w64_of (d - r) (by omega),w64_of (q+1) (by omega)]
  by_cases c:d - r<=r
  ·rw [if_pos c,if_pos c]
  ·rw [if_neg c,if_neg c]
   have c2:¬ (d+r <= -r):=by omega
   rw [if_neg c2]
 by_cases hn:n<0
 ·rw [if_pos hn,w64_of _ (by omega),core _ (by omega) (by omega)]
  unfold ref01_RoundDiv_j1
  simp only [Let_eq,decide_eq_true_eq]
  have e:0 - n = -n:=by omega
  have b:=rdv_le (n := -n) (d:=d) (by omega)
  rw [rdv_neg] at b
  rw [if_pos hn,e,rdv_neg,w64_of _ (by omega)]
  congr 1;omega
 ·rw [if_neg hn,core _ (by omega) (by omega)]
  unfold ref01_RoundDiv_j1
  rw [if_neg (by simpa using hn)]
theorem bit_half (k:Nat) (hk:(2:Int) ^ k<=4294967296):w64 (Int.tdiv (2 ^ k) 2)=bitAt k:=by
 cases k with
 | zero=>rfl
 | succ k=>
   have hp:(0:Int)<2 ^ k:=Int.pow_pos (by omega)
   rw [Int.pow_succ] at hk ⊢
   rw [Int.mul_tdiv_cancel _ (by decide),w64_of _ (by omega)];rfl
theorem le_div (x n:Int) (hx:0<x) (hn:0<=n):x<=Int.tdiv n x↔x*x<=n:=by
 rw [Int.tdiv_eq_ediv_of_nonneg hn]
 exact Int.le_ediv_iff_mul_le hx
theorem ref_isq_l2 (n:Int) (hn:0<=n/\n<=4611686018427387904) (kj:Int->Option Int):∀ (k m:Nat) (v:Int),k<m->0<=v->v+2 ^ k<=4294967296->
 ref01_Isqrt_l2 n kj m v (bitAt k)=kj (isqL n k v)
 | k,0,v,h,_,_=>by omega
 | 0,m+1,v,h,h0,h1=>by
   unfold ref01_Isqrt_l2
   rw [if_neg (by simp [bitAt])];rfl
 | k + 1,m+1,v,h,h0,h1=>by
   have hp:(0:Int)<2 ^ k:=Int.pow_pos (by omega)
   rw [Int.pow_succ] at h1
   unfold ref01_Isqrt_l2
   rw [show bitAt (k+1)=2 ^ k from rfl,if_pos (decide_eq_true hp),w64_of (v+2 ^ k) (by omega),Chk_of (by omega)]
   have hq:0<=Int.tdiv n (v+2 ^ k)/\Int.tdiv n (v+2 ^ k)<=n:=by
    have:=(tdm n (v+2 ^ k) (by omega)).2.2.2.1 hn.1
    omega
   simp only [Let_eq,decide_eq_true_eq]
   rw [w64_of _ (by omega)]
   unfold isqL ref01_Isqrt_j1
   simp only [Let_eq]
   rw [bit_half k (by omega)]
   by_cases c:(v+2 ^ k)*(v+2 ^ k)<=n
   ·rw [if_pos c,if_pos ((le_div _ _ (by omega) hn.1).2 c)]
    exact ref_isq_l2 n hn kj k m (v+2 ^ k) (by omega) (by omega) (by omega)
   ·rw [if_neg c,if_neg (fun h=>c ((le_div _ _ (by omega) hn.1).1 h))]
    exact ref_isq_l2 n hn kj k m v (by omega) h0 (by omega)
theorem ref01_Isqrt_eq (n:Int):ref01_Isqrt n=some (isq n):=by
 unfold ref01_Isqrt isq ref01_outOfRange
 simp only [Let_eq,cond_or,Bool.or_eq_true,decide_eq_true_eq]
 by_cases h:n<0\/4611686018427387904<n
 ·rw [if_pos h,if_pos (by omega)]
 ·rw [if_neg h,if_neg (by omega)]
  exact ref_isq_l2 n (by omega) ref01_Isqrt_j3 32 fuel 0 (fuel_lt _ (by decide)) (by omega) (by decide)
theorem ref03_Sub_eq (a b:Vec):ref03_Sub a b=subV a b:=by unfold ref03_Sub;simp only [Let_eq,ref01_Sub_eq];rfl
theorem ref03_Saturated_eq (a:Vec):ref03_Saturated a=satV a:=by unfold ref03_Saturated;simp only [Let_eq,ref01_Saturate_eq];rfl
theorem ref03_Orientation_eq (a b c:Vec):ref03_Orientation a b c=oriV a b c:=by
 unfold ref03_Orientation;simp only [ref03_Saturated_eq,Let_eq,satV,decide_eq_true_eq]
 have h1:=diff_mul b.X a.X c.Y a.Y;have h2:=diff_mul b.Y a.Y c.X a.X
 have k1:=sat_bd a.X;have k2:=sat_bd a.Y;have k3:=sat_bd b.X;have k4:=sat_bd b.Y;have k5:=sat_bd c.X;have k6:=sat_bd c.Y
 rw [w64_of (sat b.X - sat a.X) (by omega),w64_of (sat c.Y - sat a.Y) (by omega),w64_of (sat b.Y - sat a.Y) (by omega),w64_of (sat c.X - sat a.X) (by omega),w64_of ((sat b.X - sat a.X)*(sat c.Y - sat a.Y)) (by omega),w64_of ((sat b.Y - sat a.Y)*(sat c.X - sat a.X)) (by omega),w64_of _ (by omega)]
 unfold oriV
 split
 ·omega
 ·split <;> omega
theorem ref03_Length_eq (v:Vec):ref03_Length v=some (lenV v):=by
 unfold ref03_Length;simp only [ref03_Saturated_eq,Let_eq,satV]
 have h1:=sat_mul v.X v.X;have h2:=sat_mul v.Y v.Y
 rw [w64_of (sat v.X*sat v.X) (by omega),w64_of (sat v.Y*sat v.Y) (by omega),w64_of _ (by omega),ref01_Isqrt_eq]
 rfl
end
section
open GoForm
end
section
open GoForm
end
section
open GoForm
def inRng (lim:Int) (v:Vec):Bool:=decide (-lim<=v.X)&&decide (v.X<=lim)&&decide (-lim<=v.Y)&&decide (v.Y<=lim)
theorem inRng_iff (lim:Int) (v:Vec):inRng lim v=true ↔ -lim<=v.X/\v.X<=lim /\ -lim<=v.Y/\v.Y<=lim:=by
 unfold inRng;simp only [Bool.and_eq_true,decide_eq_true_eq];exact ⟨fun h=>⟨h.1.1.1,h.1.1.2,h.1.2,h.2⟩,fun h=>⟨⟨⟨h.1,h.2.1⟩,h.2.2.1⟩,h.2.2.2⟩⟩
theorem polygon_inReach_eq (v:Vec):polygon_inReach v=inRng 1048576 v:=by
 unfold polygon_inReach inRng;simp only [Let_eq,cond_and]
theorem polygon_allInReach_eq (vs:List Vec) (h:vs.length<=4611686018427387904):polygon_allInReach vs=some (vs.all (inRng 1048576)):=by
 unfold polygon_allInReach
 have:=loop_gen vs.length (fun j=>inRng 1048576 (ix vs (j:Int))) (fun _ (s:Unit)=>s) (fun _ _=>True) (fun n _ i=>polygon_allInReach_l1 vs polygon_allInReach_j2 n i) (fun _=>some true) (some false)
  (fun n i s hi _=>by
    refine ⟨?_,fun _=>trivial⟩
    rw [polygon_allInReach_l1]
    rw [if_pos (by simpa using hi),Chk_of (by omega),Let_eq,Let_eq,Let_eq,polygon_inReach_eq,w64_of _ (by omega)]
    cases inRng 1048576 (ix vs (i:Int)) <;> rfl)
  (fun n s _=>by rw [polygon_allInReach_l1,if_neg (by simp)];rfl)
  fuel 0 () (by omega) (fuel_lt _ (by omega)) trivial
 rw [Nat.sub_zero,allR_all] at this
 rw [show polygon_allInReach_l1 vs polygon_allInReach_j2 fuel 0=polygon_allInReach_l1 vs polygon_allInReach_j2 fuel ((0:Nat):Int) from rfl,this]
 cases vs.all (inRng 1048576) <;> rfl
def nxt (vs:List Vec) (i:Nat):Int:=Int.tmod ((i:Int)+1) vs.length
theorem nxt_bd (vs:List Vec) (i:Nat) (h:0<vs.length):0<=nxt vs i/\nxt vs i<vs.length:=by
 have:=tdm ((i:Int)+1) vs.length (by omega)
 unfold nxt;omega
def leftOf (vs:List Vec) (i:Nat) (j:Nat):Bool:=(j:Int)==(i:Int)||(j:Int)==nxt vs i||oriV (ix vs (i:Int)) (ix vs (nxt vs i)) (ix vs (j:Int))==1
def convexB (vs:List Vec):Bool:=
 decide (3<=vs.length)&&decide (vs.length<=8)&&vs.all (inRng 1048576)&&allR (fun i=>allR (leftOf vs i) 0 vs.length) 0 vs.length
theorem convexB_len {vs:List Vec} (h:convexB vs=true):3<=vs.length/\vs.length<=8/\∀ v∈vs,inRng 1048576 v=true:=by
 unfold convexB at h
 simp only [Bool.and_eq_true,decide_eq_true_eq,List.all_eq_true] at h
 exact ⟨h.1.1.1,h.1.1.2,h.1.2⟩
theorem IsConvex_in (vs:List Vec) (h8:3<=vs.length/\vs.length<=8) (i:Nat) (hi:i<vs.length) (kj:Option Bool):
 polygon_IsConvex_l1 vs (i:Int) kj (ix vs (i:Int)) (nxt vs i) fuel 0=if allR (leftOf vs i) 0 vs.length=true then kj else some false:=by
 have hb:=nxt_bd vs i (by omega)
 have := loop_gen vs.length (leftOf vs i) (fun _ (s:Unit)=>s) (fun _ _=>True) (fun n _ j=>polygon_IsConvex_l1 vs (i:Int) kj (ix vs (i:Int)) (nxt vs i) n j) (fun _=>kj) (some false)
  (fun n j s hj _=>by
    refine ⟨?_,fun _=>trivial⟩
    rw [polygon_IsConvex_l1]
    rw [if_pos (by simpa using hj),Chk_of (by omega),Let_eq,Chk_of (by intro _;omega),Let_eq,Let_eq,vec2_Orientation_eq,w64_of _ (by omega)]
    unfold leftOf
    by_cases h1:(j:Int)=(i:Int)
    ·simp [h1]
    ·by_cases h2:(j:Int)=nxt vs i
     ·simp [h1,h2]
     ·by_cases h3:oriV (ix vs (i:Int)) (ix vs (nxt vs i)) (ix vs (j:Int))=1
      ·simp [h1,h2,h3]
      ·simp [h1,h2,h3])
  (fun n s _=>by rw [polygon_IsConvex_l1,if_neg (by simp)])
  fuel 0 () (by omega) (fuel_lt _ (by omega)) trivial
 simpa using this
theorem polygon_IsConvex_eq (vs:List Vec):polygon_IsConvex vs=some (convexB vs):=by
 unfold polygon_IsConvex
 simp only [cond_or]
 by_cases h:(vs.length:Int)<3\/8<(vs.length:Int)
 ·have e:(decide ((vs.length:Int)<3)||decide (8<(vs.length:Int)))=true:=by simpa using h
  rw [e,if_neg (by simp),Bind_some,if_pos (by simp)]
  unfold convexB
  have:(decide (3<=vs.length)&&decide (vs.length<=8))=false:=by
   simp only [Bool.and_eq_false_iff,decide_eq_false_iff_not];omega
  rw [this];rfl
 ·have e:(decide ((vs.length:Int)<3)||decide (8<(vs.length:Int)))=false:=by simp;omega
  rw [e,if_pos (by simp),polygon_allInReach_eq vs (by omega),Bind_some]
  unfold convexB
  have:(decide (3<=vs.length)&&decide (vs.length<=8))=true:=by simp;omega
  rw [this,Bool.true_and]
  cases hA:vs.all (inRng 1048576)
  ·rfl
  rw [if_neg (by simp)]
  have:=loop_gen vs.length (fun i=>allR (leftOf vs i) 0 vs.length) (fun _ (s:Unit)=>s) (fun _ _=>True) (fun n _ j=>polygon_IsConvex_l3 vs polygon_IsConvex_j4 n j) (fun _=>some true) (some false)
   (fun n i s hi _=>by
     refine ⟨?_,fun _=>trivial⟩
     rw [polygon_IsConvex_l3]
     rw [if_pos (by simpa using hi),Chk_of (by omega),Let_eq,Chk_of (by omega),Let_eq,w64_of ((i:Int)+1) (by omega)]
     rw [show Int.tmod ((i:Int)+1) (vs.length:Int)=nxt vs i from rfl,IsConvex_in vs (by omega) i hi]
     unfold polygon_IsConvex_j2
     rw [Let_eq,w64_of ((i:Int)+1) (by omega)])
   (fun n s _=>by rw [polygon_IsConvex_l3,if_neg (by simp)];rfl)
   fuel 0 () (by omega) (fuel_lt _ (by omega)) trivial
  rw [show polygon_IsConvex_l3 vs polygon_IsConvex_j4 fuel 0=polygon_IsConvex_l3 vs polygon_IsConvex_j4 fuel ((0:Nat):Int) from rfl,this,Nat.sub_zero,Bool.true_and]
  cases allR (fun i=>allR (leftOf vs i) 0 vs.length) 0 vs.length <;> rfl
def edgeL (vs:List Vec) (i:Nat):Int:=lenV (subV (ix vs (nxt vs i)) (ix vs (i:Int)))
def shortE (vs:List Vec):Int:=if convexB vs=true then foldR (fun i m=>min m (edgeL vs i)) 0 vs.length 536870911 else 0
theorem polygon_ShortestEdge_eq (vs:List Vec):polygon_ShortestEdge vs=some (shortE vs):=by
 unfold polygon_ShortestEdge shortE
 rw [polygon_IsConvex_eq,Bind_some]
 cases hc:convexB vs
 ·rfl
 obtain ⟨h3,h8,-⟩:=convexB_len hc
 rw [if_neg (by simp),if_pos rfl]
 have:=loop_gen vs.length (fun _=>true) (fun i m=>min m (edgeL vs i)) (fun _ _=>True) (fun n m j=>polygon_ShortestEdge_l1 vs polygon_ShortestEdge_j2 n m j) (fun m=>some m) (some 0)
  (fun n i m hi _=>by
    refine ⟨?_,fun _=>trivial⟩
    have hb:=nxt_bd vs i (by omega)
    rw [polygon_ShortestEdge_l1]
    rw [if_pos (by simpa using hi),Chk_of (by omega),Let_eq,Chk_of (by omega),w64_of ((i:Int)+1) (by omega)]
    rw [show Int.tmod ((i:Int)+1) (vs.length:Int)=nxt vs i from rfl,Chk_of hb,Let_eq,vec2_Sub_eq,vec2_Length_eq,Bind_some,Let_eq,Let_eq,if_pos rfl];rfl)
  (fun n s _=>by rw [polygon_ShortestEdge_l1,if_neg (by simp)];rfl)
  fuel 0 536870911 (by omega) (fuel_lt _ (by omega)) trivial
 rw [Nat.sub_zero,allR_tt,if_pos rfl] at this
 exact this
def crossAt (vs:List Vec) (i:Nat):Int:=
 rdv (w64 (((ix vs (i:Int)).X - (ix vs 0).X)*((ix vs ((i:Int)+1)).Y - (ix vs 0).Y) - ((ix vs (i:Int)).Y - (ix vs 0).Y)*((ix vs ((i:Int)+1)).X - (ix vs 0).X))) 65536
def triAt (vs:List Vec) (i:Nat):polygon_triangle:=
 ⟨⟨w64 ((ix vs (i:Int)).X - (ix vs 0).X),w64 ((ix vs (i:Int)).Y - (ix vs 0).Y)⟩,⟨w64 ((ix vs ((i:Int)+1)).X - (ix vs 0).X),w64 ((ix vs ((i:Int)+1)).Y - (ix vs 0).Y)⟩,crossAt vs i⟩
def crossSum (vs:List Vec):Int:=foldR (fun i a=>w64 (a+crossAt vs i)) 1 (vs.length - 2) 0
theorem polygon_fan_eq (vs:List Vec) (h:3<=vs.length/\vs.length<=8):polygon_fan vs=some ((List.range' 1 (vs.length - 2)).map (triAt vs),crossSum vs):=by
 unfold polygon_fan
 rw [Chk_of (by omega),Let_eq]
 have:=loop_gen (vs.length - 1) (fun _=>true) (fun i (s:List polygon_triangle × Int)=>(s.1++[triAt vs i],w64 (s.2+crossAt vs i))) (fun i s=>1<=i/\s.1.length+1=i)
  (fun n s j=>polygon_fan_l1 vs (ix vs 0) polygon_fan_j2 n s.1 s.2 j) (fun s=>some s) none
  (fun n i s hi hI=>by
    refine ⟨?_,fun _=>⟨by omega,by simp;omega⟩⟩
    rw [polygon_fan_l1]
    rw [w64_of ((i:Int)+1) (by omega),if_pos (by simp;omega),Chk_of (by omega),Chk_of (by omega),Let_eq,Chk_of (by omega),Chk_of (by omega),Let_eq,fixed_RoundDiv_eq,Bind_some,Chk_of (by simp;omega),Let_eq,Let_eq,Let_eq,if_pos rfl]
    simp only [w64_ml,w64_mr,w64_sl,w64_sr]
    rfl)
  (fun n s hI=>by rw [polygon_fan_l1,w64_of _ (by omega),if_neg (by simp;omega)];rfl)
  fuel 1 ([],0) (by omega) (fuel_lt _ (by omega)) ⟨by omega,rfl⟩
 rw [allR_tt,if_pos rfl,show vs.length - 1 - 1=vs.length - 2 by omega,foldR_pair (fun i (l:List polygon_triangle)=>l++[triAt vs i]) (fun i a=>w64 (a+crossAt vs i)),foldR_list] at this
 exact this
def areaV (vs:List Vec):Int:=if convexB vs=true then rdv (crossSum vs) 2 else 0
theorem polygon_Area_eq (vs:List Vec):polygon_Area vs=some (areaV vs):=by
 unfold polygon_Area areaV
 rw [polygon_IsConvex_eq,Bind_some]
 cases hc:convexB vs
 ·rfl
 obtain ⟨h3,h8,-⟩:=convexB_len hc
 rw [if_neg (by simp),if_pos rfl,polygon_fan_eq vs ⟨h3,h8⟩,Bind_some,fixed_RoundDiv_eq];rfl
def countB (s:Shape):Bool:=if s.Kind=1 then s.Vertices.length==1 else if s.Kind=2 then s.Vertices.length==2 else decide (3<=s.Vertices.length)&&decide (s.Vertices.length<=8)
theorem shape_validCount_eq (s:Shape):shape_validCount s=countB s:=by
 unfold shape_validCount countB
 simp only [Let_eq,beq_iff_eq,cond_and]
 split
 ·rw [Bool.eq_iff_iff];simp only [beq_iff_eq];omega
 ·split
  ·rw [Bool.eq_iff_iff];simp only [beq_iff_eq];omega
  ·rw [Bool.eq_iff_iff];simp only [Bool.and_eq_true,decide_eq_true_eq];omega
theorem countB_len {s:Shape} (h:countB s=true):1<=s.Vertices.length/\s.Vertices.length<=8/\(s.Kind=2->s.Vertices.length=2):=by
 unfold countB at h
 by_cases h1:s.Kind=1
 ·rw [if_pos h1] at h;simp only [beq_iff_eq] at h;omega
 rw [if_neg h1] at h
 by_cases h2:s.Kind=2
 ·rw [if_pos h2] at h;simp only [beq_iff_eq] at h;omega
 rw [if_neg h2] at h;simp only [Bool.and_eq_true,decide_eq_true_eq] at h;omega
theorem IndexFunc_Vec_eq (l:List Vec) (p:Vec->Bool) (hl:l.length<=4611686018427387904):slices_ContainsFunc_Vec l (fun y=>some (p y))=some (l.any p):=by
 have key:∀ n i:Nat,i<=l.length->l.length - i<n->∃ r,slices_IndexFunc_Vec_l1 l (fun y=>some (p y)) slices_IndexFunc_Vec_j2 n (i:Int)=some r/\(decide (0<=r))=(l.drop i).any p:=by
  intro n
  induction n with
  | zero=>intro i _ h;omega
  | succ n ih=>
    intro i hi h
    unfold slices_IndexFunc_Vec_l1
    by_cases hlt:i<l.length
    ·rw [if_pos (by simpa using hlt),Chk_of (by omega),Bind_some,drop_ix l i hlt,List.any_cons]
     cases hp:p (ix l (i:Int))
     ·rw [if_neg (by simp),Let_eq,w64_of _ (by omega),Bool.false_or]
      exact ih (i+1) (by omega) (by omega)
     ·rw [if_pos rfl]
      exact ⟨i,rfl,by simp⟩
    ·rw [if_neg (by simpa using hlt)]
     refine ⟨-1,rfl,?_⟩
     rw [List.drop_of_length_le (by omega)];rfl
 obtain ⟨r,h1,h2⟩:=key fuel 0 (by omega) (fuel_lt _ (by omega))
 unfold slices_ContainsFunc_Vec slices_IndexFunc_Vec
 rw [show slices_IndexFunc_Vec_l1 l (fun y=>some (p y)) slices_IndexFunc_Vec_j2 fuel 0=some r from h1,Bind_some,Let_eq,h2];rfl
def radiusBad (s:Shape):Bool:=if s.Kind=3 then s.Radius != 0 else decide (s.Radius<2048)||decide (524288<s.Radius)
def validS (s:Shape):Int:=
 if s.Kind<1\/3<s.Kind then 10 else if countB s=false then 11 else if s.Vertices.all (inRng 1048576)=false then 6 else if radiusBad s=true then 6 else
 if s.Kind=2/\lenV (subV (ix s.Vertices 1) (ix s.Vertices 0))<4096 then 12 else
 if s.Kind=3/\(convexB s.Vertices=false\/shortE s.Vertices<4096\/areaV s.Vertices<256) then 12 else 0
theorem shape_Validate_c1_eq (v:Vec):shape_Validate_c1 v = !inRng 1048576 v:=by
 unfold shape_Validate_c1 shape_outOfRange inRng
 simp only [Let_eq,cond_or]
 rw [Bool.eq_iff_iff]
 simp only [Bool.or_eq_true,decide_eq_true_eq,Bool.not_eq_true',Bool.and_eq_false_iff,decide_eq_false_iff_not]
 omega
theorem any_not (l:List Vec) (p:Vec->Bool):l.any (fun v => !p v) = !l.all p:=by
 induction l with
 | nil=>rfl
 | cons a l ih=>rw [List.any_cons,List.all_cons,ih];cases p a <;> rfl
theorem shape_Validate_eq (s:Shape):shape_Validate s=some (validS s):=by
 unfold shape_Validate validS
 simp only [Let_eq,cond_or,Bool.or_eq_true,decide_eq_true_eq,shape_validCount_eq]
 by_cases h1:s.Kind<1\/3<s.Kind
 ·rw [if_pos h1,if_pos h1]
 rw [if_neg h1,if_neg h1]
 cases hc:countB s
 ·rfl
 obtain ⟨l1,l8,l2⟩:=countB_len hc
 rw [if_neg (by simp),if_neg (show ¬ true=false by simp)]
 have ef:(fun (y0:Vec)=>some (shape_Validate_c1 y0))=fun y=>some (!inRng 1048576 y):=funext fun y=>by rw [shape_Validate_c1_eq]
 rw [ef,IndexFunc_Vec_eq _ (fun y => !inRng 1048576 y) (by omega),Bind_some,any_not]
 cases ha:s.Vertices.all (inRng 1048576)
 ·rfl
 rw [if_neg (by simp),if_neg (show ¬ true=false by simp)]
 have j:∀ v5,shape_Validate_j1 s v5=some (if v5=true then 6 else if s.Kind=2/\lenV (subV (ix s.Vertices 1) (ix s.Vertices 0))<4096 then 12 else
  if s.Kind=3/\(convexB s.Vertices=false\/shortE s.Vertices<4096\/areaV s.Vertices<256) then 12 else 0):=by
  intro v5
  unfold shape_Validate_j1
  by_cases hv:v5=true
  ·rw [if_pos hv,if_pos hv]
  rw [if_neg hv,if_neg hv,Chk_of (by intro h;simp at h;have:=l2 h;omega),Chk_of (by intro h;simp at h;have:=l2 h;omega),Let_eq,vec2_Sub_eq]
  simp only [vec2_Length_eq,polygon_IsConvex_eq,polygon_ShortestEdge_eq,polygon_Area_eq,Let_eq,cond_and,cond_or,Bool.and_eq_true,decide_eq_true_eq,beq_iff_eq]
  by_cases k2:s.Kind=2
  ·by_cases hl:lenV (subV (ix s.Vertices 1) (ix s.Vertices 0))<4096
   ·simp [k2,hl]
   ·simp [k2,hl]
  ·by_cases k3:s.Kind=3
   ·cases hcx:convexB s.Vertices
    ·simp [k3]
    ·by_cases hsE:shortE s.Vertices<4096
     ·simp [k3,hsE,show ¬ (4096<=shortE s.Vertices) by omega]
     ·by_cases hA:areaV s.Vertices<256 <;> simp [k3,hsE,hA,show (4096<=shortE s.Vertices) by omega]
   ·simp [k2,k3]
 simp only [cond_and,cond_or]
 unfold radiusBad
 by_cases k3:s.Kind=3
 ·have e1:(s.Kind==3)=true:=by simpa using k3
  have e2:(s.Kind != 3)=false:=by simpa using k3
  rw [e2,Bool.false_and,if_pos k3]
  cases h0:(s.Radius != 0)
  ·simp [k3,h0,j]
  ·simp [k3,h0,j]
 ·have e1:(s.Kind==3)=false:=by simpa using k3
  have e2:(s.Kind != 3)=true:=by simpa using k3
  rw [e2,Bool.true_and,if_neg k3];simp [k3,j]
end
section
open GoForm
theorem ref11_inRange_eq (v:Vec):ref11_inRange v=inRng 1048576 v:=by
 unfold ref11_inRange inRng;simp only [Let_eq,cond_and]
theorem ref_IsConvex_in (vs:List Vec) (h8:3<=vs.length/\vs.length<=8) (i:Nat) (hi:i<vs.length) (kj:Option Bool):
 ref11_IsConvex_l2 vs (i:Int) kj (nxt vs i) fuel 0=if allR (leftOf vs i) 0 vs.length=true then kj else some false:=by
 have hb:=nxt_bd vs i (by omega)
 have := loop_gen vs.length (leftOf vs i) (fun _ (s:Unit)=>s) (fun _ _=>True) (fun n _ j=>ref11_IsConvex_l2 vs (i:Int) kj (nxt vs i) n j) (fun _=>kj) (some false)
  (fun n j s hj _=>by
    refine ⟨?_,fun _=>trivial⟩
    rw [ref11_IsConvex_l2]
    rw [if_pos (by simpa using hj),Chk_of (by intro _;omega),Chk_of (by intro _;omega),Chk_of (by intro _;omega),Let_eq,Let_eq,ref03_Orientation_eq,w64_of _ (by omega)]
    unfold leftOf
    by_cases h1:(j:Int)=(i:Int)
    ·simp [h1]
    ·by_cases h2:(j:Int)=nxt vs i
     ·simp [h1,h2]
     ·by_cases h3:oriV (ix vs (i:Int)) (ix vs (nxt vs i)) (ix vs (j:Int))=1
      ·simp [h1,h2,h3]
      ·simp [h1,h2,h3])
  (fun n s _=>by rw [ref11_IsConvex_l2,if_neg (by simp)])
  fuel 0 () (by omega) (fuel_lt _ (by omega)) trivial
 simpa using this
theorem ref11_IsConvex_eq (vs:List Vec):ref11_IsConvex vs=some (convexB vs):=by
 unfold ref11_IsConvex
 simp only [cond_or]
 by_cases h:(vs.length:Int)<3\/8<(vs.length:Int)
 ·rw [if_pos (by simpa using h)]
  unfold convexB
  have:(decide (3<=vs.length)&&decide (vs.length<=8))=false:=by
   simp only [Bool.and_eq_false_iff,decide_eq_false_iff_not];omega
  rw [this];rfl
 ·rw [if_neg (by simpa using h)]
  unfold convexB
  have:(decide (3<=vs.length)&&decide (vs.length<=8))=true:=by simp;omega
  rw [this,Bool.true_and]
  have:=loop_gen vs.length (fun j=>inRng 1048576 (ix vs (j:Int))) (fun _ (s:Unit)=>s) (fun _ _=>True) (fun n _ i=>ref11_IsConvex_l1 vs (ref11_IsConvex_j6 vs) n i) (fun _=>ref11_IsConvex_j6 vs) (some false)
   (fun n i s hi _=>by
     refine ⟨?_,fun _=>trivial⟩
     rw [ref11_IsConvex_l1]
     rw [if_pos (by simpa using hi),Chk_of (by omega),Let_eq,Let_eq,ref11_inRange_eq,w64_of _ (by omega)]
     cases inRng 1048576 (ix vs (i:Int)) <;> rfl)
   (fun n s _=>by rw [ref11_IsConvex_l1,if_neg (by simp)])
   fuel 0 () (by omega) (fuel_lt _ (by omega)) trivial
  rw [Nat.sub_zero,allR_all] at this
  rw [show ref11_IsConvex_l1 vs (ref11_IsConvex_j6 vs) fuel 0=ref11_IsConvex_l1 vs (ref11_IsConvex_j6 vs) fuel ((0:Nat):Int) from rfl,this]
  cases hA:vs.all (inRng 1048576)
  ·rfl
  rw [if_pos rfl]
  unfold ref11_IsConvex_j6
  have:=loop_gen vs.length (fun i=>allR (leftOf vs i) 0 vs.length) (fun _ (s:Unit)=>s) (fun _ _=>True) (fun n _ j=>ref11_IsConvex_l4 vs ref11_IsConvex_j5 n j) (fun _=>some true) (some false)
   (fun n i s hi _=>by
     refine ⟨?_,fun _=>trivial⟩
     rw [ref11_IsConvex_l4]
     rw [if_pos (by simpa using hi),Chk_of (by omega),Let_eq,w64_of ((i:Int)+1) (by omega)]
     rw [show Int.tmod ((i:Int)+1) (vs.length:Int)=nxt vs i from rfl,ref_IsConvex_in vs (by omega) i hi]
     unfold ref11_IsConvex_j3
     rw [Let_eq,w64_of ((i:Int)+1) (by omega)])
   (fun n s _=>by rw [ref11_IsConvex_l4,if_neg (by simp)];rfl)
   fuel 0 () (by omega) (fuel_lt _ (by omega)) trivial
  rw [show ref11_IsConvex_l4 vs ref11_IsConvex_j5 fuel 0=ref11_IsConvex_l4 vs ref11_IsConvex_j5 fuel ((0:Nat):Int) from rfl,this,Nat.sub_zero,Bool.true_and]
  cases allR (fun i=>allR (leftOf vs i) 0 vs.length) 0 vs.length <;> rfl
theorem lenV_bd (v:Vec) (h : -2097152<=v.X/\v.X<=2097152) (h2 : -2097152<=v.Y/\v.Y<=2097152):0<=lenV v/\lenV v<=4194304:=by
 have h3:=mul_bd 2097152 2097152 h h
 have h4:=mul_bd 2097152 2097152 h2 h2
 unfold lenV
 rw [sat_id (x:=v.X) (by omega),sat_id (x:=v.Y) (by omega)]
 have h5:=isq_bd (v.X*v.X+v.Y*v.Y)
 have p1:0<=v.X*v.X:=by rw [<- Int.natAbs_mul_self];exact Int.natCast_nonneg _
 have p2:0<=v.Y*v.Y:=by rw [<- Int.natAbs_mul_self];exact Int.natCast_nonneg _
 have h6:=h5.2.2 (by omega)
 refine ⟨h5.1,?_⟩
 by_cases c:isq (v.X*v.X+v.Y*v.Y)<=4194304
 ·exact c
 ·have:=Int.mul_le_mul (show (4194305:Int)<=isq (v.X*v.X+v.Y*v.Y) by omega) (show (4194305:Int)<=isq (v.X*v.X+v.Y*v.Y) by omega) (by omega) (by omega)
  omega
theorem edgeL_bd {vs:List Vec} (hc:convexB vs=true) (i:Nat) (hi:i<vs.length):0<=edgeL vs i/\edgeL vs i<=4194304:=by
 obtain ⟨h3,h8,hr⟩:=convexB_len hc
 have hb:=nxt_bd vs i (by omega)
 have h1:=(inRng_iff _ _).1 (hr _ (ix_mem vs (nxt vs i) hb))
 have h2:=(inRng_iff _ _).1 (hr _ (ix_mem vs (i:Int) (by omega)))
 have s:∀ a b:Int,-1048576<=a/\a<=1048576 -> -1048576<=b/\b<=1048576 -> -2097152<=subS a b/\subS a b<=2097152:=by
  intro a b ha hb
  unfold subS
  rw [sat_id (x:=a) (by omega),sat_id (x:=b) (by omega),sat_id (by omega)];omega
 exact lenV_bd _ (s _ _ (by omega) (by omega)) (s _ _ (by omega) (by omega))
theorem ref11_ShortestEdge_eq (vs:List Vec):ref11_ShortestEdge vs=some (shortE vs):=by
 unfold ref11_ShortestEdge shortE
 rw [ref11_IsConvex_eq,Bind_some]
 cases hc:convexB vs
 ·rfl
 obtain ⟨h3,h8,-⟩:=convexB_len hc
 rw [if_neg (by simp),if_pos rfl]
 have step:∀ (n i:Nat) (m:Int),i<vs.length->ref11_ShortestEdge_l2 vs ref11_ShortestEdge_j3 (n+1) m (i:Int)=ref11_ShortestEdge_l2 vs ref11_ShortestEdge_j3 n (if m<0\/edgeL vs i<m then edgeL vs i else m) ((i:Int)+1):=by
  intro n i m hi
  have hb:=nxt_bd vs i (by omega)
  rw [ref11_ShortestEdge_l2]
  rw [if_pos (by simpa using hi),Chk_of (by omega),w64_of ((i:Int)+1) (by omega)]
  rw [show Int.tmod ((i:Int)+1) (vs.length:Int)=nxt vs i from rfl,Chk_of hb,Chk_of (by omega),Let_eq,ref03_Sub_eq,ref03_Length_eq,Bind_some]
  unfold ref11_ShortestEdge_j1
  simp only [Let_eq,cond_or,Bool.or_eq_true,decide_eq_true_eq]
  rw [show lenV (subV (ix vs (nxt vs i)) (ix vs (i:Int)))=edgeL vs i from rfl,w64_of ((i:Int)+1) (by omega)]
  split <;> rfl
 have:=loop_gen vs.length (fun _=>true) (fun i m=>min m (edgeL vs i)) (fun i m=>1<=i/\0<=m) (fun n m j=>ref11_ShortestEdge_l2 vs ref11_ShortestEdge_j3 n m j) (fun m=>some m) (some 0)
  (fun n i m hi hI=>by
    have he:=edgeL_bd hc i hi
    refine ⟨?_,fun _=>⟨by omega,by omega⟩⟩
    rw [step n i m hi,if_pos rfl]
    congr 1
    split <;> omega)
  (fun n s _=>by rw [ref11_ShortestEdge_l2,if_neg (by simp)];rfl)
  (fuel - 1) 1 (edgeL vs 0) (by omega) (by have:=fuel_lt (vs.length+1) (by omega);omega) ⟨by omega,(edgeL_bd hc 0 (by omega)).1⟩
 rw [allR_tt,if_pos rfl] at this
 have he:=edgeL_bd hc 0 (by omega)
 have e:fuel=(fuel - 1)+1:=by have:=fuel_lt 1 (by decide);omega
 rw [e,show ref11_ShortestEdge_l2 vs ref11_ShortestEdge_j3 (fuel - 1+1) (-1) 0=ref11_ShortestEdge_l2 vs ref11_ShortestEdge_j3 (fuel - 1+1) (-1) ((0:Nat):Int) from rfl,step _ 0 (-1) (by omega),if_pos (by omega)]
 refine Eq.trans this ?_
 have e2:vs.length=(vs.length - 1)+1:=by omega
 rw [show foldR (fun i m=>min m (edgeL vs i)) 0 vs.length 536870911=foldR (fun i m=>min m (edgeL vs i)) 0 (vs.length - 1+1) 536870911 by rw [<- e2]]
 show _=some (foldR _ 1 (vs.length - 1) (min 536870911 (edgeL vs 0)))
 rw [show min 536870911 (edgeL vs 0)=edgeL vs 0 by omega]
theorem ref11_cross_eq (vs:List Vec) (i:Nat) (h:i+1<vs.length) (h2:vs.length<=4611686018427387904):ref11_cross vs (i:Int)=some (crossAt vs i):=by
 unfold ref11_cross
 rw [Chk_of (by omega),Chk_of (by omega),Chk_of (by omega),Chk_of (by omega),Let_eq,w64_of ((i:Int)+1) (by omega),Chk_of (by omega),Chk_of (by omega),Chk_of (by omega),Chk_of (by omega),Let_eq,ref01_RoundDiv_eq,Bind_some]
 simp only [w64_ml,w64_mr,w64_sl,w64_sr]
 rfl
theorem ref11_Area_eq (vs:List Vec):ref11_Area vs=some (areaV vs):=by
 unfold ref11_Area areaV
 rw [ref11_IsConvex_eq,Bind_some]
 cases hc:convexB vs
 ·rfl
 obtain ⟨h3,h8,-⟩:=convexB_len hc
 rw [if_neg (by simp),if_pos rfl]
 have:=loop_gen (vs.length - 1) (fun _=>true) (fun i a=>w64 (a+crossAt vs i)) (fun _ _=>True) (fun n a j=>ref11_Area_l1 vs ref11_Area_j2 n a j) (fun a=>some (rdv a 2)) none
  (fun n i a hi _=>by
    refine ⟨?_,fun _=>trivial⟩
    rw [ref11_Area_l1]
    rw [w64_of ((i:Int)+1) (by omega),if_pos (by simp;omega),ref11_cross_eq vs i (by omega) (by omega),Bind_some,Let_eq,Let_eq,if_pos rfl])
  (fun n s _=>by rw [ref11_Area_l1,w64_of _ (by omega),if_neg (by simp;omega)];unfold ref11_Area_j2;rw [ref01_RoundDiv_eq];rfl)
  fuel 1 0 (by omega) (fuel_lt _ (by omega)) trivial
 rw [allR_tt,if_pos rfl,show vs.length - 1 - 1=vs.length - 2 by omega] at this
 exact this
theorem ref12_countMatches_eq (s:Shape) (h:1<=s.Kind/\s.Kind<=3):ref12_countMatches s=countB s:=by
 unfold ref12_countMatches countB
 simp only [Let_eq,beq_iff_eq,cond_and]
 by_cases h3:s.Kind=3
 ·rw [if_pos h3,if_neg (by omega),if_neg (by omega),Bool.eq_iff_iff];simp only [Bool.and_eq_true,decide_eq_true_eq];omega
 ·rw [if_neg h3]
  by_cases h1:s.Kind=1
  ·rw [if_pos h1,Bool.eq_iff_iff];simp only [beq_iff_eq];omega
  ·rw [if_neg h1,if_pos (by omega),Bool.eq_iff_iff];simp only [beq_iff_eq];omega
theorem ref12_Validate_eq (s:Shape):ref12_Validate s=some (validS s):=by
 unfold ref12_Validate validS
 simp only [Let_eq,cond_or,Bool.or_eq_true,decide_eq_true_eq]
 by_cases h1:s.Kind<1\/3<s.Kind
 ·rw [if_pos h1,if_pos h1]
 rw [if_neg h1,if_neg h1,ref12_countMatches_eq s (by omega)]
 cases hc:countB s
 ·rfl
 obtain ⟨l1,l8,l2⟩:=countB_len hc
 rw [if_neg (by simp),if_neg (show ¬ true=false by simp)]
 have:=loop_gen s.Vertices.length (fun j=>inRng 1048576 (ix s.Vertices (j:Int))) (fun _ (s:Unit)=>s) (fun _ _=>True) (fun n _ i=>ref12_Validate_l1 s (ref12_Validate_j2 s) n i) (fun _=>ref12_Validate_j2 s) (some 6)
  (fun n i _ hi _=>by
    refine ⟨?_,fun _=>trivial⟩
    rw [ref12_Validate_l1]
    rw [if_pos (by simpa using hi),Chk_of (by omega),Let_eq,Chk_of (by omega),Let_eq,Let_eq,w64_of ((i:Int)+1) (by omega)]
    unfold ref12_within inRng
    simp only [Let_eq,cond_and,cond_or]
    rw [show w64 (0 - 1048576) = -1048576 from rfl]
    cases h1:decide (-1048576<=(ix s.Vertices (i:Int)).X) <;> cases h2:decide ((ix s.Vertices (i:Int)).X<=1048576) <;> cases h3:decide (-1048576<=(ix s.Vertices (i:Int)).Y) <;> cases h4:decide ((ix s.Vertices (i:Int)).Y<=1048576) <;> rfl)
  (fun n s _=>by rw [ref12_Validate_l1,if_neg (by simp)])
  fuel 0 () (by omega) (fuel_lt _ (by omega)) trivial
 rw [Nat.sub_zero,allR_all] at this
 rw [show ref12_Validate_l1 s (ref12_Validate_j2 s) fuel 0=ref12_Validate_l1 s (ref12_Validate_j2 s) fuel ((0:Nat):Int) from rfl,this]
 cases ha:s.Vertices.all (inRng 1048576)
 ·rfl
 rw [if_pos rfl,if_neg (show ¬ true=false by simp)]
 unfold ref12_Validate_j2 radiusBad
 simp only [cond_and,cond_or,Let_eq]
 have er:((s.Kind==3)&&(s.Radius != 0)||(s.Kind != 3)&&(decide (s.Radius<2048)||decide (524288<s.Radius)))=(if s.Kind=3 then s.Radius != 0 else decide (s.Radius<2048)||decide (524288<s.Radius)):=by
  by_cases k3:s.Kind=3
  ·simp [k3]
  ·have e1:(s.Kind==3)=false:=by simpa using k3
   have e2:(s.Kind != 3)=true:=by simpa using k3
   rw [e1,e2,if_neg k3,Bool.false_and,Bool.true_and,Bool.false_or]
 rw [er]
 cases hR:(if s.Kind=3 then s.Radius != 0 else decide (s.Radius<2048)||decide (524288<s.Radius))
 case true=>rfl
 rw [if_neg (show ¬ false=true by simp),if_neg (show ¬ false=true by simp),Chk_of (by intro h;simp at h;have:=l2 h;omega),Chk_of (by intro h;simp at h;have:=l2 h;omega),ref03_Sub_eq]
 simp only [ref03_Length_eq,ref11_IsConvex_eq,ref11_ShortestEdge_eq,ref11_Area_eq,Let_eq,cond_and,cond_or,Bool.and_eq_true,decide_eq_true_eq,beq_iff_eq]
 by_cases k2:s.Kind=2
 ·by_cases hl:lenV (subV (ix s.Vertices 1) (ix s.Vertices 0))<4096
  ·simp [k2,hl]
  ·simp [k2,hl]
 ·by_cases k3:s.Kind=3
  ·cases hcx:convexB s.Vertices
   ·simp [k3]
   ·by_cases hsE:shortE s.Vertices<4096
    ·simp [k3,hsE,show ¬ (4096<=shortE s.Vertices) by omega]
    ·by_cases hA:areaV s.Vertices<256 <;> simp [k3,hsE,hA,show (4096<=shortE s.Vertices) by omega]
  ·simp [k2,k3]
end
section
open GoForm
end
section
open GoForm
end
section
open GoForm
theorem Vec_beq_eq (x y:Vec):Vec.beq x y=decide (x=y):=by
 cases x;cases y;unfold Vec.beq;rw [Bool.eq_iff_iff];simp
theorem Transform_beq_eq (x y:Transform):Transform.beq x y=decide (x=y):=by
 cases x;cases y;unfold Transform.beq;rw [Vec_beq_eq,Bool.eq_iff_iff];simp
def FixOk (b:Body):Prop:=b.Fixtures.length<=4611686018427387904/\∀ f∈b.Fixtures,f.Shape.Vertices.length<=4611686018427387904
end
section
open GoForm
theorem ref12_EqualVecs_eq (a b:List Vec) (h:a.length<=4611686018427387904):ref12_EqualVecs a b=some (decide (a=b)):=by
 unfold ref12_EqualVecs
 by_cases hl:a.length=b.length
 ·rw [if_neg (by simp [hl])]
  have:=loop_gen a.length (fun i=>decide (ix a (i:Int)=ix b (i:Int))) (fun _ (s:Unit)=>s) (fun _ _=>True) (fun n _ i=>ref12_EqualVecs_l1 a b ref12_EqualVecs_j2 n i) (fun _=>some true) (some false)
   (fun n i s hi _=>by
     refine ⟨?_,fun _=>trivial⟩
     rw [ref12_EqualVecs_l1]
     rw [if_pos (by simpa using hi),Chk_of (by omega),Chk_of (by omega),Let_eq,Vec_beq_eq,w64_of _ (by omega)]
     by_cases e:ix a (i:Int)=ix b (i:Int)
     ·rw [decide_eq_true e];rfl
     ·rw [decide_eq_false e];rfl)
   (fun n s _=>by rw [ref12_EqualVecs_l1,if_neg (by simp)];rfl)
   fuel 0 () (by omega) (fuel_lt _ (by omega)) trivial
  rw [Nat.sub_zero,allR_eq a b hl] at this
  rw [show ref12_EqualVecs_l1 a b ref12_EqualVecs_j2 fuel 0=ref12_EqualVecs_l1 a b ref12_EqualVecs_j2 fuel ((0:Nat):Int) from rfl,this]
  by_cases e:a=b
  ·rw [decide_eq_true e];rfl
  ·rw [decide_eq_false e];rfl
 ·rw [if_pos (by simpa using fun h=>hl (by omega)),decide_eq_false (fun h=>hl (by rw [h]))]
theorem ref12_Equal_eq (a b:Shape) (h:a.Vertices.length<=4611686018427387904):ref12_Equal a b=some (decide (a=b)):=by
 unfold ref12_Equal
 rw [ref12_EqualVecs_eq _ _ h]
 cases a with | mk ak ar av=>cases b with | mk bk br bv=>
 simp only [cond_and,Let_eq]
 by_cases h1:ak=bk
 ·by_cases h2:ar=br
  ·subst h1 h2;simp
  ·simp [h1,h2]
 ·simp [h1]
theorem ref23_EqualFixture_eq (a b:Fixture) (h:a.Shape.Vertices.length<=4611686018427387904):ref23_EqualFixture a b=some (decide (a=b)):=by
 unfold ref23_EqualFixture
 rw [ref12_Equal_eq _ _ h,Bind_some]
 cases a;cases b
 simp only [cond_and,Let_eq,Bind_some]
 congr 1
 rw [Bool.eq_iff_iff]
 simp only [Bool.and_eq_true,decide_eq_true_eq,beq_iff_eq,Fixture.mk.injEq]
 grind
theorem ref23_Equal_eq (a b:Body) (h:FixOk a):ref23_Equal a b=some (decide (a=b)):=by
 obtain ⟨h1,h2⟩:=h
 unfold ref23_Equal
 by_cases hl:a.Fixtures.length=b.Fixtures.length
 ·rw [if_neg (by simp [hl])]
  have:=loop_gen a.Fixtures.length (fun i=>decide (ix a.Fixtures (i:Int)=ix b.Fixtures (i:Int))) (fun _ (s:Unit)=>s) (fun _ _=>True) (fun n _ i=>ref23_Equal_l1 a b (ref23_Equal_j2 a b) n i) (fun _=>ref23_Equal_j2 a b) (some false)
   (fun n i s hi _=>by
     refine ⟨?_,fun _=>trivial⟩
     rw [ref23_Equal_l1,cond_and]
     rw [if_pos (by simp;omega),Chk_of (by omega),Chk_of (by omega),ref23_EqualFixture_eq _ _ (h2 _ (ix_mem _ _ (by omega))),Bind_some,Let_eq,w64_of _ (by omega)]
     by_cases e:ix a.Fixtures (i:Int)=ix b.Fixtures (i:Int)
     ·rw [decide_eq_true e];rfl
     ·rw [decide_eq_false e];rfl)
   (fun n s _=>by rw [ref23_Equal_l1,cond_and,if_neg (by simp)])
   fuel 0 () (by omega) (fuel_lt _ (by omega)) trivial
  rw [Nat.sub_zero,allR_eq _ _ hl] at this
  rw [show ref23_Equal_l1 a b (ref23_Equal_j2 a b) fuel 0=ref23_Equal_l1 a b (ref23_Equal_j2 a b) fuel ((0:Nat):Int) from rfl,this]
  by_cases e:a.Fixtures=b.Fixtures
  ·rw [if_pos (decide_eq_true e)]
   unfold ref23_Equal_j2
   simp only [Let_eq,cond_and,cond_or,Vec_beq_eq,Transform_beq_eq]
   by_cases c:(a.ID≠b.ID\/a.Kind≠b.Kind\/a.Transform≠b.Transform\/a.Velocity≠b.Velocity\/a.AngularVelocity≠b.AngularVelocity\/a.Force≠b.Force\/a.Torque≠b.Torque)
   ·rw [if_pos (by simp only [Bool.or_eq_true,bne_iff_ne,Bool.not_eq_true',decide_eq_false_iff_not];grind),decide_eq_false (by rintro rfl;grind)]
   ·rw [if_neg (by simp only [Bool.or_eq_true,bne_iff_ne,Bool.not_eq_true',decide_eq_false_iff_not];grind)]
    congr 1
    cases a;cases b
    rw [Bool.eq_iff_iff]
    simp only [Bool.and_eq_true,decide_eq_true_eq,beq_iff_eq,Body.mk.injEq] at e c ⊢
    grind
  ·rw [if_neg (by simpa using e),decide_eq_false (fun h=>e (by rw [h]))]
 ·rw [if_pos (by simpa using fun h=>hl (by omega)),decide_eq_false (fun h=>hl (by rw [h]))]
end
section
open GoForm
def Wn (x lo hi:Int):Prop:=lo<=x/\x<=hi
instance (x lo hi:Int):Decidable (Wn x lo hi):=inferInstanceAs (Decidable (_/\_))
def Bd (v:Vec) (lim:Int):Prop:=Wn v.X (-lim) lim/\Wn v.Y (-lim) lim
instance (v:Vec) (lim:Int):Decidable (Bd v lim):=inferInstanceAs (Decidable (_/\_))
theorem body_within_eq (x lo hi:Int):body_within x lo hi=decide (Wn x lo hi):=by
 unfold body_within;rw [Let_eq,cond_and,Bool.eq_iff_iff];simp only [Bool.and_eq_true,decide_eq_true_eq];exact Iff.rfl
theorem body_bounded_eq (v:Vec) (lim:Int) (h:0<=lim/\lim<=9223372036854775807):body_bounded v lim=decide (Bd v lim):=by
 unfold body_bounded;simp only [Let_eq,cond_and,body_within_eq]
 rw [w64_of _ (by omega),show 0 - lim = -lim by omega,Bool.eq_iff_iff];simp only [Bool.and_eq_true,decide_eq_true_eq];exact Iff.rfl
def TrOk (t:Transform):Prop:=Bd t.Position 268435456 /\ -205888<=t.Angle/\t.Angle<205888
instance (t:Transform):Decidable (TrOk t):=inferInstanceAs (Decidable (_/\_))
theorem transform_Valid_eq (t:Transform):transform_Valid t=decide (TrOk t):=by
 unfold transform_Valid transform_inWorld TrOk Bd Wn;simp only [Let_eq,cond_and,Bool.decide_and]
 rw [Bool.eq_iff_iff];simp only [Bool.and_eq_true,decide_eq_true_eq];grind
def RngOk (b:Body):Prop:=
 Wn b.ID 1 1099511627776/\TrOk b.Transform/\Bd b.Velocity 16777216/\Wn b.AngularVelocity (-4194304) 4194304/\Bd b.Force 536870911/\Wn b.Torque (-536870911) 536870911/\
 Wn b.LinearDamping 0 65536/\Wn b.AngularDamping 0 65536/\Wn b.GravityScale (-262144) 262144/\Wn b.IdleSteps 0 1048576
instance (b:Body):Decidable (RngOk b):=inferInstanceAs (Decidable (_/\_))
theorem body_inRange_eq (b:Body):body_inRange b=decide (RngOk b):=by
 unfold body_inRange RngOk
 simp only [Let_eq,cond_and,body_within_eq,transform_Valid_eq]
 rw [body_bounded_eq _ _ (by omega),body_bounded_eq _ _ (by omega)]
 rw [Bool.eq_iff_iff];simp only [Bool.and_eq_true,decide_eq_true_eq];grind
def validF (f:Fixture):Int:=
 if validS f.Shape≠0 then validS f.Shape else
 if Wn f.Density 0 262144/\Wn f.Friction 0 131072/\Wn f.Restitution 0 65536/\Wn f.Category 0 65535/\Wn f.Mask 0 65535/\Wn f.Group (-32) 32 then 0 else 6
theorem body_ValidateFixture_eq (f:Fixture):body_ValidateFixture f=some (validF f):=by
 unfold body_ValidateFixture validF
 rw [shape_Validate_eq,Bind_some]
 simp only [bne_iff_ne,Let_eq,cond_and,cond_or,body_within_eq]
 by_cases h:validS f.Shape≠0
 ·rw [if_pos h,if_pos h]
 rw [if_neg h,if_neg h]
 by_cases c:Wn f.Density 0 262144/\Wn f.Friction 0 131072/\Wn f.Restitution 0 65536/\Wn f.Category 0 65535/\Wn f.Mask 0 65535/\Wn f.Group (-32) 32
 ·rw [if_pos c,if_neg (by simp only [Bool.or_eq_true,Bool.not_eq_true',Bool.and_eq_false_iff,decide_eq_false_iff_not];grind)]
 ·rw [if_neg c,if_pos (by simp only [Bool.or_eq_true,Bool.not_eq_true',Bool.and_eq_false_iff,decide_eq_false_iff_not];grind)]
def consB (b:Body):Bool:=
 if b.Kind=1/\(b.Velocity≠⟨0,0⟩\/b.AngularVelocity≠0\/b.Force≠⟨0,0⟩\/b.Torque≠0) then false else
 if b.Kind≠3/\(b.Asleep=true\/b.Bullet=true) then false else
 decide (b.Asleep=true->b.Velocity=⟨0,0⟩/\b.AngularVelocity=0)
theorem body_consistent_eq (b:Body):body_consistent b=consB b:=by
 unfold body_consistent consB body_moving
 simp only [Let_eq,cond_and,cond_or,Vec_beq_eq]
 by_cases h1:b.Kind=1/\(b.Velocity≠⟨0,0⟩\/b.AngularVelocity≠0\/b.Force≠⟨0,0⟩\/b.Torque≠0)
 ·rw [if_pos h1,if_pos (by simp only [Bool.and_eq_true,Bool.or_eq_true,beq_iff_eq,bne_iff_ne,Bool.not_eq_true',decide_eq_false_iff_not];grind)]
 rw [if_neg h1,if_neg (by simp only [Bool.and_eq_true,Bool.or_eq_true,beq_iff_eq,bne_iff_ne,Bool.not_eq_true',decide_eq_false_iff_not];grind)]
 by_cases h2:b.Kind≠3/\(b.Asleep=true\/b.Bullet=true)
 ·rw [if_pos h2,if_pos (by simp only [Bool.and_eq_true,Bool.or_eq_true,bne_iff_ne];exact h2)]
 rw [if_neg h2,if_neg (by simp only [Bool.and_eq_true,Bool.or_eq_true,bne_iff_ne];exact h2),Bool.eq_iff_iff]
 simp only [Bool.or_eq_true,Bool.not_eq_true',decide_eq_true_eq,Bool.or_eq_false_iff,Bool.not_eq_false',bne_eq_false_iff_eq]
 cases b.Asleep <;> simp
def validB (b:Body):Int:=
 if b.Kind≠1/\b.Kind≠2/\b.Kind≠3 then 10 else if ¬ RngOk b then 6 else if 4<b.Fixtures.length then 11 else
 if b.Fixtures.all (fun f=>decide (validF f=0))=false then 13 else if consB b=false then 14 else 0
theorem body_Validate_eq (b:Body):body_Validate b=some (validB b):=by
 unfold body_Validate validB
 simp only [Let_eq,cond_and,Bool.and_eq_true,bne_iff_ne,body_inRange_eq,Bool.not_eq_true',decide_eq_false_iff_not,decide_eq_true_eq,and_assoc]
 by_cases h1:b.Kind≠1/\b.Kind≠2/\b.Kind≠3
 ·rw [if_pos h1,if_pos h1]
 rw [if_neg h1,if_neg h1]
 by_cases h2:RngOk b
 ·have h2':¬ ¬ RngOk b:=fun h=>h h2
  rw [if_neg h2',if_neg h2']
  by_cases h3:4<b.Fixtures.length
  ·rw [if_pos (show 4<(b.Fixtures.length:Int) by omega),if_pos h3]
  rw [if_neg (show ¬ 4<(b.Fixtures.length:Int) by omega),if_neg h3]
  have:=loop_gen b.Fixtures.length (fun i=>decide (validF (ix b.Fixtures (i:Int))=0)) (fun _ (s:Unit)=>s) (fun _ _=>True) (fun n _ i=>body_Validate_l1 b (body_Validate_j2 b) n i) (fun _=>body_Validate_j2 b) (some 13)
   (fun n i s hi _=>by
     refine ⟨?_,fun _=>trivial⟩
     rw [body_Validate_l1]
     rw [if_pos (by simpa using hi),Chk_of (by omega),Let_eq,body_ValidateFixture_eq,Bind_some,Let_eq,w64_of _ (by omega)]
     by_cases e:validF (ix b.Fixtures (i:Int))=0
     ·rw [if_neg (by simp [e]),if_pos (decide_eq_true e)]
     ·rw [if_pos (by simp [e]),if_neg (by simpa using e)])
   (fun n s _=>by rw [body_Validate_l1,if_neg (by simp)])
   fuel 0 () (by omega) (fuel_lt _ (by omega)) trivial
  rw [Nat.sub_zero,allR_all (fun f=>decide (validF f=0))] at this
  refine Eq.trans this ?_
  cases hA:b.Fixtures.all (fun f=>decide (validF f=0))
  ·rfl
  rw [if_pos rfl,if_neg (by simp)]
  unfold body_Validate_j2
  simp only [Let_eq,body_consistent_eq]
  cases consB b <;> rfl
 ·rw [if_pos h2,if_pos h2]
end
section
open GoForm
theorem ref23_in_eq (x lo hi:Int):ref23_in x lo hi=decide (Wn x lo hi):=by
 unfold ref23_in;rw [Let_eq,cond_and,Bool.eq_iff_iff];simp only [Bool.and_eq_true,decide_eq_true_eq];exact Iff.rfl
theorem ref04_Valid_eq (t:Transform):ref04_Valid t=decide (TrOk t):=by
 unfold ref04_Valid ref04_outside TrOk Bd Wn;simp only [Let_eq,cond_and,cond_or]
 rw [Bool.eq_iff_iff];simp only [Bool.and_eq_true,Bool.not_eq_true',Bool.or_eq_false_iff,decide_eq_true_eq,decide_eq_false_iff_not];grind
theorem ref23_inRange_eq (b:Body):ref23_inRange b=decide (RngOk b):=by
 unfold ref23_inRange
 simp only [Let_eq,cond_and,cond_or,ref23_in_eq,ref04_Valid_eq]
 have e:decide (RngOk b)=(decide (Wn b.ID 1 1099511627776)&&decide (TrOk b.Transform)&&decide (Wn b.Velocity.X (-16777216) 16777216)&&decide (Wn b.Velocity.Y (-16777216) 16777216)&&decide (Wn b.AngularVelocity (-4194304) 4194304)&&
  (decide (Wn b.Force.X (-536870911) 536870911)&&decide (Wn b.Force.Y (-536870911) 536870911)&&decide (Wn b.Torque (-536870911) 536870911))&&
  (decide (Wn b.LinearDamping 0 65536)&&decide (Wn b.AngularDamping 0 65536)&&decide (Wn b.GravityScale (-262144) 262144)&&decide (Wn b.IdleSteps 0 1048576))):=by
  rw [Bool.eq_iff_iff];simp only [Bool.and_eq_true,decide_eq_true_eq];unfold RngOk Bd;grind
 rw [e]
 have n3:∀ a b c d e:Bool,(!a || !b || !c || !d || !e) = !(a&&b&&c&&d&&e):=by intro a b c d e;cases a <;> cases b <;> cases c <;> cases d <;> cases e <;> rfl
 have n2:∀ a b c:Bool,(!a || !b || !c) = !(a&&b&&c):=by intro a b c;cases a <;> cases b <;> cases c <;> rfl
 rw [n3,n2]
 generalize (decide (Wn b.ID 1 1099511627776)&&decide (TrOk b.Transform)&&decide (Wn b.Velocity.X (-16777216) 16777216)&&decide (Wn b.Velocity.Y (-16777216) 16777216)&&decide (Wn b.AngularVelocity (-4194304) 4194304))=P
 generalize (decide (Wn b.Force.X (-536870911) 536870911)&&decide (Wn b.Force.Y (-536870911) 536870911)&&decide (Wn b.Torque (-536870911) 536870911))=Q
 cases P
 ·rfl
 ·cases Q
  ·rfl
  ·simp
theorem ref23_ValidateFixture_eq (f:Fixture):ref23_ValidateFixture f=some (validF f):=by
 unfold ref23_ValidateFixture validF
 rw [ref12_Validate_eq,Bind_some]
 simp only [bne_iff_ne,Let_eq,cond_or,ref23_in_eq]
 by_cases h:validS f.Shape≠0
 ·rw [if_pos h,if_pos h]
 rw [if_neg h,if_neg h]
 by_cases c:Wn f.Density 0 262144/\Wn f.Friction 0 131072/\Wn f.Restitution 0 65536/\Wn f.Category 0 65535/\Wn f.Mask 0 65535/\Wn f.Group (-32) 32
 ·rw [if_pos c,if_neg (by simp only [Bool.or_eq_true,Bool.not_eq_true',decide_eq_false_iff_not];grind)]
 ·rw [if_neg c,if_pos (by simp only [Bool.or_eq_true,Bool.not_eq_true',decide_eq_false_iff_not];grind)]
theorem ref23_Validate_eq (b:Body):ref23_Validate b=some (validB b):=by
 unfold ref23_Validate validB
 simp only [Let_eq,cond_and,Bool.and_eq_true,bne_iff_ne,ref23_inRange_eq,Bool.not_eq_true',decide_eq_false_iff_not,decide_eq_true_eq,and_assoc]
 by_cases h1:b.Kind≠1/\b.Kind≠2/\b.Kind≠3
 ·rw [if_pos h1,if_pos h1]
 rw [if_neg h1,if_neg h1]
 by_cases h2:RngOk b
 ·have h2':¬ ¬ RngOk b:=fun h=>h h2
  rw [if_neg h2',if_neg h2']
  by_cases h3:4<b.Fixtures.length
  ·rw [if_pos (show 4<(b.Fixtures.length:Int) by omega),if_pos h3]
  rw [if_neg (show ¬ 4<(b.Fixtures.length:Int) by omega),if_neg h3]
  have:=loop_gen b.Fixtures.length (fun i=>decide (validF (ix b.Fixtures (i:Int))=0)) (fun _ (s:Unit)=>s) (fun _ _=>True) (fun n _ i=>ref23_Validate_l1 b (ref23_Validate_j2 b) n i) (fun _=>ref23_Validate_j2 b) (some 13)
   (fun n i s hi _=>by
     refine ⟨?_,fun _=>trivial⟩
     rw [ref23_Validate_l1]
     rw [if_pos (by simpa using hi),Chk_of (by omega),ref23_ValidateFixture_eq,Bind_some,Let_eq,w64_of _ (by omega)]
     by_cases e:validF (ix b.Fixtures (i:Int))=0
     ·rw [if_neg (by simp [e]),if_pos (decide_eq_true e)]
     ·rw [if_pos (by simp [e]),if_neg (by simpa using e)])
   (fun n s _=>by rw [ref23_Validate_l1,if_neg (by simp)])
   fuel 0 () (by omega) (fuel_lt _ (by omega)) trivial
  rw [Nat.sub_zero,allR_all (fun f=>decide (validF f=0))] at this
  refine Eq.trans this ?_
  cases hA:b.Fixtures.all (fun f=>decide (validF f=0))
  ·rfl
  rw [if_pos rfl,if_neg (by simp)]
  unfold ref23_Validate_j2 consB
  simp only [Let_eq,cond_and,cond_or,Vec_beq_eq]
  by_cases c1:b.Kind=1/\(b.Velocity≠⟨0,0⟩\/b.AngularVelocity≠0\/b.Force≠⟨0,0⟩\/b.Torque≠0)
  ·rw [if_pos c1,if_pos rfl,if_pos (by simp only [Bool.and_eq_true,Bool.or_eq_true,beq_iff_eq,bne_iff_ne,Bool.not_eq_true',decide_eq_false_iff_not];grind)]
  rw [if_neg c1]
  by_cases c2:b.Kind≠3/\(b.Asleep=true\/b.Bullet=true)
  ·rw [if_pos c2,if_pos rfl,if_pos (by simp only [Bool.and_eq_true,Bool.or_eq_true,beq_iff_eq,bne_iff_ne,Bool.not_eq_true',decide_eq_false_iff_not];grind)]
  rw [if_neg c2]
  by_cases c3:b.Asleep=true->b.Velocity=⟨0,0⟩/\b.AngularVelocity=0
  ·rw [if_neg (show ¬ decide _=false by simpa using c3),if_neg (by simp only [Bool.and_eq_true,Bool.or_eq_true,beq_iff_eq,bne_iff_ne,Bool.not_eq_true',decide_eq_false_iff_not];grind)]
  ·rw [if_pos (show decide _=false by simpa using c3),if_pos (by simp only [Bool.and_eq_true,Bool.or_eq_true,beq_iff_eq,bne_iff_ne,Bool.not_eq_true',decide_eq_false_iff_not];grind)]
 ·rw [if_pos h2,if_pos h2]
end
end GoOld
end
