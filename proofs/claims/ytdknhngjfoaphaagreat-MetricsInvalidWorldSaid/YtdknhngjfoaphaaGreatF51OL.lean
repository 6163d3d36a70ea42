/- Plain laws, joined from several texts. No conditions. -/
import Derived.Test.YtdknhngjfoaphaaGreatRzP
import Derived.Test.YtdknhngjfoaphaaGreatF51T
/- The plain forms of the program's functions: printed by gen2.py from the translation. No conditions. -/
set_option linter.all false
open Go Go.Rx

namespace GoOld
open GoForm
def Vec.zero : Vec := ⟨0, 0⟩
def Transform.zero : Transform := ⟨Vec.zero, 0⟩
def Shape.zero : Shape := ⟨0, 0, []⟩
def Fixture.zero : Fixture := ⟨Shape.zero, 0, 0, 0, false, 0, 0, 0⟩
def Body.zero : Body := ⟨0, 0, Transform.zero, Vec.zero, 0, Vec.zero, 0, 0, 0, 0, false, false, false, false, 0, []⟩
def polygon_triangle.zero : polygon_triangle := ⟨Vec.zero, Vec.zero, 0⟩
def Rot.zero : Rot := ⟨0, 0⟩
def AABB.zero : AABB := ⟨Vec.zero, Vec.zero⟩
def MassData.zero : MassData := ⟨0, Vec.zero, 0⟩
def Vec.beq (x y : Vec) : Bool := decide (x.X = y.X) && (decide (x.Y = y.Y))
def Vec.Wf (x : Vec) : Prop := (IntKind.i64.min ≤ x.X ∧ x.X ≤ IntKind.i64.max) ∧ (IntKind.i64.min ≤ x.Y ∧ x.Y ≤ IntKind.i64.max)
def Transform.Wf (x : Transform) : Prop := Vec.Wf x.Position ∧ (IntKind.i64.min ≤ x.Angle ∧ x.Angle ≤ IntKind.i64.max)
def Shape.Wf (x : Shape) : Prop := (IntKind.i64.min ≤ x.Kind ∧ x.Kind ≤ IntKind.i64.max) ∧ (IntKind.i64.min ≤ x.Radius ∧ x.Radius ≤ IntKind.i64.max) ∧ ((∀ a ∈ x.Vertices, Vec.Wf a) ∧ (x.Vertices).length ≤ 9223372036854775807)
def Fixture.Wf (x : Fixture) : Prop := Shape.Wf x.Shape ∧ (IntKind.i64.min ≤ x.Density ∧ x.Density ≤ IntKind.i64.max) ∧ (IntKind.i64.min ≤ x.Friction ∧ x.Friction ≤ IntKind.i64.max) ∧ (IntKind.i64.min ≤ x.Restitution ∧ x.Restitution ≤ IntKind.i64.max) ∧ True ∧ (IntKind.i64.min ≤ x.Category ∧ x.Category ≤ IntKind.i64.max) ∧ (IntKind.i64.min ≤ x.Mask ∧ x.Mask ≤ IntKind.i64.max) ∧ (IntKind.i64.min ≤ x.Group ∧ x.Group ≤ IntKind.i64.max)
def Body.Wf (x : Body) : Prop := (IntKind.i64.min ≤ x.ID ∧ x.ID ≤ IntKind.i64.max) ∧ (IntKind.i64.min ≤ x.Kind ∧ x.Kind ≤ IntKind.i64.max) ∧ Transform.Wf x.Transform ∧ Vec.Wf x.Velocity ∧ (IntKind.i64.min ≤ x.AngularVelocity ∧ x.AngularVelocity ≤ IntKind.i64.max) ∧ Vec.Wf x.Force ∧ (IntKind.i64.min ≤ x.Torque ∧ x.Torque ≤ IntKind.i64.max) ∧ (IntKind.i64.min ≤ x.LinearDamping ∧ x.LinearDamping ≤ IntKind.i64.max) ∧ (IntKind.i64.min ≤ x.AngularDamping ∧ x.AngularDamping ≤ IntKind.i64.max) ∧ (IntKind.i64.min ≤ x.GravityScale ∧ x.GravityScale ≤ IntKind.i64.max) ∧ True ∧ True ∧ True ∧ True ∧ (IntKind.i64.min ≤ x.IdleSteps ∧ x.IdleSteps ≤ IntKind.i64.max) ∧ ((∀ a ∈ x.Fixtures, Fixture.Wf a) ∧ (x.Fixtures).length ≤ 9223372036854775807)
def AABB.Wf (x : AABB) : Prop := Vec.Wf x.Min ∧ Vec.Wf x.Max
def body_within (x_0 : Int) (low : Int) (high : Int) : Bool :=
  Let ((cond (decide (low ≤ x_0)) (decide (x_0 ≤ high)) false)) fun x1 =>
  x1
def body_bounded (v_0 : Vec) (limit : Int) : Bool :=
  Let (body_within v_0.X (w64 (0 - limit)) limit) fun r1 =>
  Let (body_within v_0.Y (w64 (0 - limit)) limit) fun r2 =>
  Let ((cond r1 r2 false)) fun x3 =>
  x3
def transform_inWorld (x_0 : Int) : Bool :=
  Let ((cond (decide ((-268435456) ≤ x_0)) (decide (x_0 ≤ 268435456)) false)) fun x1 =>
  x1
def transform_Valid (t : Transform) : Bool :=
  Let (transform_inWorld t.Position.X) fun r1 =>
  Let (transform_inWorld t.Position.Y) fun r2 =>
  Let ((cond (cond (cond r1 r2 false) (decide ((-205888) ≤ t.Angle)) false) (decide (t.Angle < 205888)) false)) fun x3 =>
  x3
def body_inRange (b : Body) : Bool :=
  Let (body_bounded b.Velocity (16777216)) fun r1 =>
  Let (body_within b.AngularVelocity ((-4194304)) (4194304)) fun r2 =>
  Let ((cond r1 r2 false)) fun x3 =>
  Let (body_bounded b.Force (536870911)) fun r4 =>
  Let (body_within b.Torque ((-536870911)) (536870911)) fun r5 =>
  Let ((cond r4 r5 false)) fun x6 =>
  Let (body_within b.LinearDamping (0) (65536)) fun r7 =>
  Let (body_within b.AngularDamping (0) (65536)) fun r8 =>
  Let ((cond r7 r8 false)) fun x9 =>
  Let (body_within b.GravityScale ((-262144)) (262144)) fun r10 =>
  Let (body_within b.ID (1) (1099511627776)) fun r11 =>
  Let (transform_Valid b.Transform) fun r12 =>
  Let (body_within b.IdleSteps (0) (1048576)) fun r13 =>
  Let ((cond (cond (cond (cond (cond (cond r11 r12 false) x3 false) x6 false) x9 false) r10 false) r13 false)) fun x14 =>
  x14
def shape_validCount (s : Shape) : Bool :=
  Let ((s.Kind == 1)) fun x1 =>
  if x1 = true then
    Let ((((s.Vertices).length : Int) == 1)) fun x2 =>
    x2
  else
    Let ((s.Kind == 2)) fun x3 =>
    if x3 = true then
      Let ((((s.Vertices).length : Int) == 2)) fun x4 =>
      x4
    else
      Let ((cond (decide (3 ≤ ((s.Vertices).length : Int))) (decide (((s.Vertices).length : Int) ≤ 8)) false)) fun x5 =>
      x5
def slices_IndexFunc_Vec_l1 (s : List Vec) (f : Vec → Option Bool) (kj1 : Option Int) : Nat → Int → Option Int
  | 0, _ => none
  | n + 1, v1 =>
    if (decide (v1 < ((s).length : Int))) = true then
      Chk (0 ≤ v1 ∧ v1 < ((s).length : Int)) <|
      Bind (f (ix s v1)) fun r3 =>
      if r3 = true then
        some v1
      else
        Let ((w64 (v1 + 1))) fun x4 =>
        (slices_IndexFunc_Vec_l1 s f kj1 n) x4
    else
      kj1
def slices_IndexFunc_Vec_j2 : Option Int :=
  some (-1)
def slices_IndexFunc_Vec (s : List Vec) (f : Vec → Option Bool) : Option Int :=
  slices_IndexFunc_Vec_l1 s f slices_IndexFunc_Vec_j2 fuel 0
def slices_ContainsFunc_Vec (s : List Vec) (f : Vec → Option Bool) : Option Bool :=
  Bind (slices_IndexFunc_Vec s f) fun r1 =>
  Let ((decide (0 ≤ r1))) fun x2 =>
  some x2
def shape_outOfRange (n_0 : Int) : Bool :=
  Let ((cond (decide (n_0 < (-1048576))) true (decide (1048576 < n_0)))) fun x1 =>
  x1
def shape_Validate_c1 (v_0 : Vec) : Bool :=
  Let (shape_outOfRange v_0.X) fun r1 =>
  Let (shape_outOfRange v_0.Y) fun r2 =>
  Let ((cond r1 true r2)) fun x3 =>
  x3
def fixed_Saturate (x_0 : Int) : Int :=
  Let ((min (max x_0 (-536870911)) 536870911)) fun x1 =>
  x1
def fixed_Sub (a : Int) (b : Int) : Int :=
  Let (fixed_Saturate a) fun r1 =>
  Let (fixed_Saturate b) fun r2 =>
  Let (fixed_Saturate (w64 (r1 - r2))) fun r3 =>
  r3
def vec2_Sub (a : Vec) (b : Vec) : Vec :=
  Let (fixed_Sub a.X b.X) fun r1 =>
  Let (fixed_Sub a.Y b.Y) fun r2 =>
  Let ((⟨r1, r2⟩ : Vec)) fun x3 =>
  x3
def vec2_saturate (v_0 : Vec) : Vec :=
  Let (fixed_Saturate v_0.X) fun r1 =>
  Let (fixed_Saturate v_0.Y) fun r2 =>
  Let ((⟨r1, r2⟩ : Vec)) fun x3 =>
  x3
def vec2_DistanceSquared (a : Vec) (b : Vec) : Int :=
  Let (vec2_saturate a) fun r1 =>
  Let (vec2_saturate b) fun r2 =>
  Let (r1) fun x3 =>
  Let (r2) fun x4 =>
  Let ((w64 (x4.X - x3.X))) fun x5 =>
  Let ((w64 (x4.Y - x3.Y))) fun x6 =>
  Let ((w64 ((w64 (x5 * x5)) + (w64 (x6 * x6))))) fun x7 =>
  x7
def fixed_Isqrt_j1 (v3 : Int) (kn2 : Int → Int → Option Int) (v4 : Int) : Option Int :=
  Let ((bShr .i64 v3 1)) fun x7 =>
  kn2 v4 x7
def fixed_Isqrt_l2 (n_0 : Int) (kj1 : Int → Option Int) : Nat → Int → Int → Option Int
  | 0, _, _ => none
  | n + 1, v2, v3 =>
    if (decide (0 < v3)) = true then
      Let ((bOr .i64 v2 v3)) fun x5 =>
      Let ((IntKind.u64.wrap ((IntKind.u64.wrap (x5)) * (IntKind.u64.wrap (x5))))) fun x6 =>
      if (decide (x6 ≤ (IntKind.u64.wrap (n_0)))) = true then
        (fixed_Isqrt_j1 v3 (fixed_Isqrt_l2 n_0 kj1 n)) x5
      else
        (fixed_Isqrt_j1 v3 (fixed_Isqrt_l2 n_0 kj1 n)) v2
    else
      kj1 v2
def fixed_Isqrt_j3 (v1 : Int) : Option Int :=
  some v1
def fixed_Isqrt (n_0 : Int) : Option Int :=
  if (cond (decide (n_0 < 0)) true (decide (4611686018427387904 < n_0))) = true then
    some 0
  else
    fixed_Isqrt_l2 n_0 fixed_Isqrt_j3 fuel 0 2147483648
def vec2_Length (v_0 : Vec) : Option Int :=
  Let (vec2_DistanceSquared (⟨0, 0⟩ : Vec) v_0) fun r1 =>
  Bind (fixed_Isqrt r1) fun r2 =>
  some r2
def polygon_inReach (v_0 : Vec) : Bool :=
  Let ((cond (cond (cond (decide ((-1048576) ≤ v_0.X)) (decide (v_0.X ≤ 1048576)) false) (decide ((-1048576) ≤ v_0.Y)) false) (decide (v_0.Y ≤ 1048576)) false)) fun x1 =>
  x1
def polygon_allInReach_l1 (points : List Vec) (kj1 : Option Bool) : Nat → Int → Option Bool
  | 0, _ => none
  | n + 1, v1 =>
    if (decide (v1 < ((points).length : Int))) = true then
      Chk (0 ≤ v1 ∧ v1 < ((points).length : Int)) <|
      Let ((ix points v1)) fun x3 =>
      Let (polygon_inReach x3) fun r4 =>
      if (!r4) = true then
        some false
      else
        Let ((w64 (v1 + 1))) fun x5 =>
        (polygon_allInReach_l1 points kj1 n) x5
    else
      kj1
def polygon_allInReach_j2 : Option Bool :=
  some true
def polygon_allInReach (points : List Vec) : Option Bool :=
  polygon_allInReach_l1 points polygon_allInReach_j2 fuel 0
def vec2_Orientation (a : Vec) (b : Vec) (c_2 : Vec) : Int :=
  Let (vec2_saturate a) fun r1 =>
  Let (vec2_saturate b) fun r2 =>
  Let (vec2_saturate c_2) fun r3 =>
  Let (r1) fun x4 =>
  Let (r2) fun x5 =>
  Let (r3) fun x6 =>
  Let ((w64 ((w64 ((w64 (x5.X - x4.X)) * (w64 (x6.Y - x4.Y)))) - (w64 ((w64 (x5.Y - x4.Y)) * (w64 (x6.X - x4.X))))))) fun x7 =>
  Let ((min (1 : Int) (max ((-1) : Int) x7))) fun x8 =>
  x8
def polygon_IsConvex_l1 (vertices : List Vec) (v2 : Int) (kj3 : Option Bool) (x4 : Vec) (x6 : Int) : Nat → Int → Option Bool
  | 0, _ => none
  | n + 1, v7 =>
    if (decide (v7 < ((vertices).length : Int))) = true then
      Chk (0 ≤ v7 ∧ v7 < ((vertices).length : Int)) <|
      Let ((ix vertices v7)) fun x9 =>
      Chk (((cond (v7 != v2) (v7 != x6) false) == true) = true → 0 ≤ x6 ∧ x6 < ((vertices).length : Int)) <|
      Let (vec2_Orientation x4 (ix vertices x6) x9) fun r11 =>
      if (cond (cond (v7 != v2) (v7 != x6) false) (r11 != 1) false) = true then
        some false
      else
        Let ((w64 (v7 + 1))) fun x12 =>
        (polygon_IsConvex_l1 vertices v2 kj3 x4 x6 n) x12
    else
      kj3
def polygon_IsConvex_j2 (v2 : Int) (kn2 : Int → Option Bool) : Option Bool :=
  Let ((w64 (v2 + 1))) fun x13 =>
  kn2 x13
def polygon_IsConvex_l3 (vertices : List Vec) (kj1 : Option Bool) : Nat → Int → Option Bool
  | 0, _ => none
  | n + 1, v2 =>
    if (decide (v2 < ((vertices).length : Int))) = true then
      Chk (0 ≤ v2 ∧ v2 < ((vertices).length : Int)) <|
      Let ((ix vertices v2)) fun x4 =>
      Chk (((vertices).length : Int) ≠ 0) <|
      Let ((Int.tmod (w64 (v2 + 1)) ((vertices).length : Int))) fun x6 =>
      polygon_IsConvex_l1 vertices v2 (polygon_IsConvex_j2 v2 (polygon_IsConvex_l3 vertices kj1 n)) x4 x6 fuel 0
    else
      kj1
def polygon_IsConvex_j4 : Option Bool :=
  some true
def polygon_IsConvex (vertices : List Vec) : Option Bool :=
  Bind (if ((cond (decide (((vertices).length : Int) < 3)) true (decide (8 < ((vertices).length : Int)))) == false) = true then polygon_allInReach vertices else some default) fun r1 =>
  if (cond (cond (decide (((vertices).length : Int) < 3)) true (decide (8 < ((vertices).length : Int)))) true (!r1)) = true then
    some false
  else
    polygon_IsConvex_l3 vertices polygon_IsConvex_j4 fuel 0
def polygon_ShortestEdge_l1 (vertices : List Vec) (kj1 : Int → Option Int) : Nat → Int → Int → Option Int
  | 0, _, _ => none
  | n + 1, v3, v4 =>
    if (decide (v4 < ((vertices).length : Int))) = true then
      Chk (0 ≤ v4 ∧ v4 < ((vertices).length : Int)) <|
      Let ((ix vertices v4)) fun x6 =>
      Chk (((vertices).length : Int) ≠ 0) <|
      Chk (0 ≤ (Int.tmod (w64 (v4 + 1)) ((vertices).length : Int)) ∧ (Int.tmod (w64 (v4 + 1)) ((vertices).length : Int)) < ((vertices).length : Int)) <|
      Let (vec2_Sub (ix vertices (Int.tmod (w64 (v4 + 1)) ((vertices).length : Int))) x6) fun r9 =>
      Bind (vec2_Length r9) fun r10 =>
      Let ((min v3 r10)) fun x11 =>
      Let ((w64 (v4 + 1))) fun x12 =>
      (polygon_ShortestEdge_l1 vertices kj1 n) x11 x12
    else
      kj1 v3
def polygon_ShortestEdge_j2 (v2 : Int) : Option Int :=
  some v2
def polygon_ShortestEdge (vertices : List Vec) : Option Int :=
  Bind (polygon_IsConvex vertices) fun r1 =>
  if (!r1) = true then
    some 0
  else
    polygon_ShortestEdge_l1 vertices polygon_ShortestEdge_j2 fuel 536870911 0
def fixed_RoundDiv (n_0 : Int) (d : Int) : Option Int :=
  if (cond (cond (cond (decide (d < 1)) true (decide (4611686018427387904 < d))) true (decide (n_0 < (-4611686018427387904)))) true (decide (4611686018427387904 < n_0))) = true then
    some 0
  else
    Chk (d ≠ 0) <|
    Chk (d ≠ 0) <|
    Let ((w64 (Int.tdiv n_0 d))) fun x3 =>
    Let ((Int.tmod n_0 d)) fun x4 =>
    Let ((decide ((w64 (d - x4)) ≤ x4))) fun x5 =>
    if x5 = true then
      Let ((w64 (x3 + 1))) fun x6 =>
      some x6
    else
      Let ((decide ((w64 (d + x4)) ≤ (w64 (0 - x4))))) fun x7 =>
      if x7 = true then
        Let ((w64 (x3 - 1))) fun x8 =>
        some x8
      else
        some x3
def polygon_fan_l1 (vertices : List Vec) (x2 : Vec) (kj1 : List polygon_triangle → Int → Option (List polygon_triangle × Int)) : Nat → List polygon_triangle → Int → Int → Option (List polygon_triangle × Int)
  | 0, _, _, _ => none
  | n + 1, v5, v6, v7 =>
    if (decide ((w64 (v7 + 1)) < ((vertices).length : Int))) = true then
      Chk (0 ≤ v7 ∧ v7 < ((vertices).length : Int)) <|
      Chk (0 ≤ v7 ∧ v7 < ((vertices).length : Int)) <|
      Let ((⟨(w64 (((ix vertices v7).X) - x2.X)), (w64 (((ix vertices v7).Y) - x2.Y))⟩ : Vec)) fun x10 =>
      Chk (0 ≤ (w64 (v7 + 1)) ∧ (w64 (v7 + 1)) < ((vertices).length : Int)) <|
      Chk (0 ≤ (w64 (v7 + 1)) ∧ (w64 (v7 + 1)) < ((vertices).length : Int)) <|
      Let ((⟨(w64 (((ix vertices (w64 (v7 + 1))).X) - x2.X)), (w64 (((ix vertices (w64 (v7 + 1))).Y) - x2.Y))⟩ : Vec)) fun x13 =>
      Bind (fixed_RoundDiv (w64 ((w64 (x10.X * x13.Y)) - (w64 (x10.Y * x13.X)))) (65536)) fun r14 =>
      Chk (((v5).length + (([(⟨x10, x13, r14⟩ : polygon_triangle)] : List polygon_triangle)).length) * 40 ≤ 140737488355328) <|
      Let (v5 ++ ([(⟨x10, x13, r14⟩ : polygon_triangle)] : List polygon_triangle)) fun x16 =>
      Let ((w64 (v6 + r14))) fun x17 =>
      Let ((w64 (v7 + 1))) fun x18 =>
      (polygon_fan_l1 vertices x2 kj1 n) x16 x17 x18
    else
      kj1 v5 v6
def polygon_fan_j2 (v3 : List polygon_triangle) (v4 : Int) : Option (List polygon_triangle × Int) :=
  some (v3, v4)
def polygon_fan (vertices : List Vec) : Option (List polygon_triangle × Int) :=
  Chk (0 ≤ (0 : Int) ∧ 0 < ((vertices).length : Int)) <|
  Let ((ix vertices 0)) fun x2 =>
  polygon_fan_l1 vertices x2 polygon_fan_j2 fuel ([] : List polygon_triangle) 0 1
def polygon_Area (vertices : List Vec) : Option Int :=
  Bind (polygon_IsConvex vertices) fun r1 =>
  if (!r1) = true then
    some 0
  else
    Bind (polygon_fan vertices) fun r2 =>
    Bind (fixed_RoundDiv r2.2 (2)) fun r3 =>
    some r3
def shape_Validate_j1 (s : Shape) (v5 : Bool) : Option Int :=
  if v5 = true then
    some 6
  else
    Chk (((s.Kind == 2) == true) = true → 0 ≤ (1 : Int) ∧ 1 < ((s.Vertices).length : Int)) <|
    Chk (((s.Kind == 2) == true) = true → 0 ≤ (0 : Int) ∧ 0 < ((s.Vertices).length : Int)) <|
    Let (vec2_Sub (ix s.Vertices 1) (ix s.Vertices 0)) fun r10 =>
    Bind (if ((s.Kind == 2) == true) = true then vec2_Length r10 else some default) fun r11 =>
    Let ((cond (s.Kind == 2) (decide (r11 < 4096)) false)) fun x12 =>
    if x12 = true then
      some 12
    else
      Bind (if ((s.Kind == 3) == true) = true then polygon_IsConvex s.Vertices else some default) fun r13 =>
      Bind (if (((s.Kind == 3) == true) && ((!r13) == false)) = true then polygon_ShortestEdge s.Vertices else some default) fun r14 =>
      Bind (if (((s.Kind == 3) == true) && ((cond (!r13) true (decide (r14 < 4096))) == false)) = true then polygon_Area s.Vertices else some default) fun r15 =>
      Let ((cond (s.Kind == 3) (cond (cond (!r13) true (decide (r14 < 4096))) true (decide (r15 < 256))) false)) fun x16 =>
      if x16 = true then
        some 12
      else
        some 0
def shape_Validate (s : Shape) : Option Int :=
  Let ((cond (decide (s.Kind < 1)) true (decide (3 < s.Kind)))) fun x1 =>
  if x1 = true then
    some 10
  else
    Let (shape_validCount s) fun r2 =>
    Let ((!r2)) fun x3 =>
    if x3 = true then
      some 11
    else
      Bind (slices_ContainsFunc_Vec s.Vertices ((fun (y0 : Vec) => some (shape_Validate_c1 y0)))) fun r4 =>
      if r4 = true then
        some 6
      else
        Let ((cond (s.Kind == 3) (s.Radius != 0) false)) fun x6 =>
        if x6 = true then
          (shape_Validate_j1 s) x6
        else
          Let ((cond (s.Kind != 3) (cond (decide (s.Radius < 2048)) true (decide (524288 < s.Radius))) false)) fun x7 =>
          (shape_Validate_j1 s) x7
def body_ValidateFixture (f : Fixture) : Option Int :=
  Bind (shape_Validate f.Shape) fun r1 =>
  if (r1 != 0) = true then
    some r1
  else
    Let (body_within f.Density (0) (262144)) fun r2 =>
    Let (body_within f.Friction (0) (131072)) fun r3 =>
    Let (body_within f.Restitution (0) (65536)) fun r4 =>
    Let ((cond (cond r2 r3 false) r4 false)) fun x5 =>
    Let (body_within f.Category (0) (65535)) fun r6 =>
    Let (body_within f.Mask (0) (65535)) fun r7 =>
    Let (body_within f.Group ((-32)) (32)) fun r8 =>
    Let ((cond (cond r6 r7 false) r8 false)) fun x9 =>
    if (cond (!x5) true (!x9)) = true then
      some 6
    else
      some 0
def body_moving (b : Body) : Bool :=
  Let ((cond (!Vec.beq b.Velocity (⟨0, 0⟩ : Vec)) true (b.AngularVelocity != 0))) fun x1 =>
  x1
def body_consistent (b : Body) : Bool :=
  Let ((cond (!Vec.beq b.Force (⟨0, 0⟩ : Vec)) true (b.Torque != 0))) fun x1 =>
  Let (body_moving b) fun r2 =>
  Let ((cond (b.Kind == 1) (cond r2 true x1) false)) fun x3 =>
  if x3 = true then
    false
  else
    Let ((cond (b.Kind != 3) (cond b.Asleep true b.Bullet) false)) fun x4 =>
    if x4 = true then
      false
    else
      Let (body_moving b) fun r5 =>
      Let ((cond (!b.Asleep) true (!r5))) fun x6 =>
      x6
def body_Validate_l1 (b : Body) (kj1 : Option Int) : Nat → Int → Option Int
  | 0, _ => none
  | n + 1, v2 =>
    if (decide (v2 < ((b.Fixtures).length : Int))) = true then
      Chk (0 ≤ v2 ∧ v2 < ((b.Fixtures).length : Int)) <|
      Let ((ix b.Fixtures v2)) fun x4 =>
      Bind (body_ValidateFixture x4) fun r5 =>
      if (r5 != 0) = true then
        some 13
      else
        Let ((w64 (v2 + 1))) fun x6 =>
        (body_Validate_l1 b kj1 n) x6
    else
      kj1
def body_Validate_j2 (b : Body) : Option Int :=
  Let (body_consistent b) fun r7 =>
  if (!r7) = true then
    some 14
  else
    some 0
def body_Validate (b : Body) : Option Int :=
  if (cond (cond (b.Kind != 1) (b.Kind != 2) false) (b.Kind != 3) false) = true then
    some 10
  else
    Let (body_inRange b) fun r1 =>
    if (!r1) = true then
      some 6
    else
      if (decide (4 < ((b.Fixtures).length : Int))) = true then
        some 11
      else
        body_Validate_l1 b (body_Validate_j2 b) fuel 0
def ref23_in (x_0 : Int) (low : Int) (high : Int) : Bool :=
  Let ((cond (decide (low ≤ x_0)) (decide (x_0 ≤ high)) false)) fun x1 =>
  x1
def ref04_outside (x_0 : Int) : Bool :=
  Let ((cond (decide (x_0 < (-268435456))) true (decide (268435456 < x_0)))) fun x1 =>
  x1
def ref04_Valid (p : Transform) : Bool :=
  Let (ref04_outside p.Position.X) fun r1 =>
  Let (ref04_outside p.Position.Y) fun r2 =>
  Let ((cond (cond (cond (!r1) (!r2) false) (decide ((-205888) ≤ p.Angle)) false) (decide (p.Angle < 205888)) false)) fun x3 =>
  x3
def ref23_inRange (b : Body) : Bool :=
  Let (ref23_in b.ID (1) (1099511627776)) fun r1 =>
  Let (ref04_Valid b.Transform) fun r2 =>
  Let (ref23_in b.Velocity.X ((-16777216)) (16777216)) fun r3 =>
  Let (ref23_in b.Velocity.Y ((-16777216)) (16777216)) fun r4 =>
  Let (ref23_in b.AngularVelocity ((-4194304)) (4194304)) fun r5 =>
  if (cond (cond (cond (cond (!r1) true (!r2)) true (!r3)) true (!r4)) true (!r5)) = true then
    false
  else
    Let (ref23_in b.Force.X ((-536870911)) (536870911)) fun r6 =>
    Let (ref23_in b.Force.Y ((-536870911)) (536870911)) fun r7 =>
    Let (ref23_in b.Torque ((-536870911)) (536870911)) fun r8 =>
    if (cond (cond (!r6) true (!r7)) true (!r8)) = true then
      false
    else
      Let (ref23_in b.LinearDamping (0) (65536)) fun r9 =>
      Let (ref23_in b.AngularDamping (0) (65536)) fun r10 =>
      Let (ref23_in b.GravityScale ((-262144)) (262144)) fun r11 =>
      Let (ref23_in b.IdleSteps (0) (1048576)) fun r12 =>
      Let ((cond (cond (cond r9 r10 false) r11 false) r12 false)) fun x13 =>
      x13
def ref12_countMatches (s : Shape) : Bool :=
  if (s.Kind == 3) = true then
    Let ((cond (decide (3 ≤ ((s.Vertices).length : Int))) (decide (((s.Vertices).length : Int) ≤ 8)) false)) fun x1 =>
    x1
  else
    Let ((((s.Vertices).length : Int) == s.Kind)) fun x2 =>
    x2
def ref12_within (x_0 : Int) (m : Int) : Bool :=
  Let ((cond (decide ((w64 (0 - m)) ≤ x_0)) (decide (x_0 ≤ m)) false)) fun x1 =>
  x1
def ref01_Saturate (x_0 : Int) : Int :=
  if (decide (536870911 < x_0)) = true then
    536870911
  else
    if (decide (x_0 < (-536870911))) = true then
      (-536870911)
    else
      x_0
def ref01_Sub (a : Int) (b : Int) : Int :=
  Let (ref01_Saturate a) fun r1 =>
  Let (ref01_Saturate b) fun r2 =>
  Let (ref01_Saturate (w64 (r1 - r2))) fun r3 =>
  r3
def ref03_Sub (a : Vec) (b : Vec) : Vec :=
  Let (ref01_Sub a.X b.X) fun r1 =>
  Let (ref01_Sub a.Y b.Y) fun r2 =>
  Let ((⟨r1, r2⟩ : Vec)) fun x3 =>
  x3
def ref03_Saturated (v_0 : Vec) : Vec :=
  Let (ref01_Saturate v_0.X) fun r1 =>
  Let (ref01_Saturate v_0.Y) fun r2 =>
  Let ((⟨r1, r2⟩ : Vec)) fun x3 =>
  x3
def ref01_outOfRange (n_0 : Int) : Bool :=
  Let ((cond (decide (4611686018427387904 < n_0)) true (decide (n_0 < (-4611686018427387904))))) fun x1 =>
  x1
def ref01_Isqrt_j1 (v4 : Int) (kn2 : Int → Int → Option Int) (v5 : Int) : Option Int :=
  Let ((w64 (Int.tdiv v4 2))) fun x9 =>
  kn2 v5 x9
def ref01_Isqrt_l2 (n_0 : Int) (kj1 : Int → Option Int) : Nat → Int → Int → Option Int
  | 0, _, _ => none
  | n + 1, v3, v4 =>
    if (decide (0 < v4)) = true then
      Chk ((w64 (v3 + v4)) ≠ 0) <|
      Let ((decide ((w64 (v3 + v4)) ≤ (w64 (Int.tdiv n_0 (w64 (v3 + v4))))))) fun x7 =>
      if x7 = true then
        Let ((w64 (v3 + v4))) fun x8 =>
        (ref01_Isqrt_j1 v4 (ref01_Isqrt_l2 n_0 kj1 n)) x8
      else
        (ref01_Isqrt_j1 v4 (ref01_Isqrt_l2 n_0 kj1 n)) v3
    else
      kj1 v3
def ref01_Isqrt_j3 (v2 : Int) : Option Int :=
  some v2
def ref01_Isqrt (n_0 : Int) : Option Int :=
  Let (ref01_outOfRange n_0) fun r1 =>
  if (cond (decide (n_0 < 0)) true r1) = true then
    some 0
  else
    ref01_Isqrt_l2 n_0 ref01_Isqrt_j3 fuel 0 2147483648
def ref03_Length (v_0 : Vec) : Option Int :=
  Let (ref03_Saturated v_0) fun r1 =>
  Let (r1) fun x2 =>
  Bind (ref01_Isqrt (w64 ((w64 (x2.X * x2.X)) + (w64 (x2.Y * x2.Y))))) fun r3 =>
  some r3
def ref11_inRange (v_0 : Vec) : Bool :=
  Let ((cond (cond (cond (decide ((-1048576) ≤ v_0.X)) (decide (v_0.X ≤ 1048576)) false) (decide ((-1048576) ≤ v_0.Y)) false) (decide (v_0.Y ≤ 1048576)) false)) fun x1 =>
  x1
def ref03_Orientation (a : Vec) (b : Vec) (c_2 : Vec) : Int :=
  Let (ref03_Saturated a) fun r1 =>
  Let (r1) fun x2 =>
  Let (ref03_Saturated b) fun r3 =>
  Let (r3) fun x4 =>
  Let (ref03_Saturated c_2) fun r5 =>
  Let (r5) fun x6 =>
  Let ((w64 ((w64 ((w64 (x4.X - x2.X)) * (w64 (x6.Y - x2.Y)))) - (w64 ((w64 (x4.Y - x2.Y)) * (w64 (x6.X - x2.X))))))) fun x7 =>
  if (decide (0 < x7)) = true then
    1
  else
    if (decide (x7 < 0)) = true then
      (-1)
    else
      0
def ref11_IsConvex_l1 (vertices : List Vec) (kj1 : Option Bool) : Nat → Int → Option Bool
  | 0, _ => none
  | n + 1, v1 =>
    if (decide (v1 < ((vertices).length : Int))) = true then
      Chk (0 ≤ v1 ∧ v1 < ((vertices).length : Int)) <|
      Let (ref11_inRange (ix vertices v1)) fun r3 =>
      if (!r3) = true then
        some false
      else
        Let ((w64 (v1 + 1))) fun x4 =>
        (ref11_IsConvex_l1 vertices kj1 n) x4
    else
      kj1
def ref11_IsConvex_l2 (vertices : List Vec) (v5 : Int) (kj5 : Option Bool) (x7 : Int) : Nat → Int → Option Bool
  | 0, _ => none
  | n + 1, v8 =>
    if (decide (v8 < ((vertices).length : Int))) = true then
      Chk (((cond (v8 != v5) (v8 != x7) false) == true) = true → 0 ≤ v5 ∧ v5 < ((vertices).length : Int)) <|
      Chk (((cond (v8 != v5) (v8 != x7) false) == true) = true → 0 ≤ x7 ∧ x7 < ((vertices).length : Int)) <|
      Chk (((cond (v8 != v5) (v8 != x7) false) == true) = true → 0 ≤ v8 ∧ v8 < ((vertices).length : Int)) <|
      Let (ref03_Orientation (ix vertices v5) (ix vertices x7) (ix vertices v8)) fun r12 =>
      if (cond (cond (v8 != v5) (v8 != x7) false) (r12 != 1) false) = true then
        some false
      else
        Let ((w64 (v8 + 1))) fun x13 =>
        (ref11_IsConvex_l2 vertices v5 kj5 x7 n) x13
    else
      kj5
def ref11_IsConvex_j3 (v5 : Int) (kn4 : Int → Option Bool) : Option Bool :=
  Let ((w64 (v5 + 1))) fun x14 =>
  kn4 x14
def ref11_IsConvex_l4 (vertices : List Vec) (kj3 : Option Bool) : Nat → Int → Option Bool
  | 0, _ => none
  | n + 1, v5 =>
    if (decide (v5 < ((vertices).length : Int))) = true then
      Chk (((vertices).length : Int) ≠ 0) <|
      Let ((Int.tmod (w64 (v5 + 1)) ((vertices).length : Int))) fun x7 =>
      ref11_IsConvex_l2 vertices v5 (ref11_IsConvex_j3 v5 (ref11_IsConvex_l4 vertices kj3 n)) x7 fuel 0
    else
      kj3
def ref11_IsConvex_j5 : Option Bool :=
  some true
def ref11_IsConvex_j6 (vertices : List Vec) : Option Bool :=
  ref11_IsConvex_l4 vertices ref11_IsConvex_j5 fuel 0
def ref11_IsConvex (vertices : List Vec) : Option Bool :=
  if (cond (decide (((vertices).length : Int) < 3)) true (decide (8 < ((vertices).length : Int)))) = true then
    some false
  else
    ref11_IsConvex_l1 vertices (ref11_IsConvex_j6 vertices) fuel 0
def ref11_ShortestEdge_j1 (v4 : Int) (kn2 : Int → Int → Option Int) (v5 : Int) : Option Int :=
  Let ((w64 (v4 + 1))) fun x11 =>
  kn2 v5 x11
def ref11_ShortestEdge_l2 (vertices : List Vec) (kj1 : Int → Option Int) : Nat → Int → Int → Option Int
  | 0, _, _ => none
  | n + 1, v3, v4 =>
    if (decide (v4 < ((vertices).length : Int))) = true then
      Chk (((vertices).length : Int) ≠ 0) <|
      Chk (0 ≤ (Int.tmod (w64 (v4 + 1)) ((vertices).length : Int)) ∧ (Int.tmod (w64 (v4 + 1)) ((vertices).length : Int)) < ((vertices).length : Int)) <|
      Chk (0 ≤ v4 ∧ v4 < ((vertices).length : Int)) <|
      Let (ref03_Sub (ix vertices (Int.tmod (w64 (v4 + 1)) ((vertices).length : Int))) (ix vertices v4)) fun r9 =>
      Bind (ref03_Length r9) fun r10 =>
      if (cond (decide (v3 < 0)) true (decide (r10 < v3))) = true then
        (ref11_ShortestEdge_j1 v4 (ref11_ShortestEdge_l2 vertices kj1 n)) r10
      else
        (ref11_ShortestEdge_j1 v4 (ref11_ShortestEdge_l2 vertices kj1 n)) v3
    else
      kj1 v3
def ref11_ShortestEdge_j3 (v2 : Int) : Option Int :=
  some v2
def ref11_ShortestEdge (vertices : List Vec) : Option Int :=
  Bind (ref11_IsConvex vertices) fun r1 =>
  if (!r1) = true then
    some 0
  else
    ref11_ShortestEdge_l2 vertices ref11_ShortestEdge_j3 fuel (-1) 0
def ref01_RoundDiv_j1 (n_0 : Int) (v8 : Int) : Option Int :=
  if (decide (n_0 < 0)) = true then
    Let ((w64 (0 - v8))) fun x10 =>
    some x10
  else
    some v8
def ref01_RoundDiv_j2 (n_0 : Int) (d : Int) (v3 : Int) : Option Int :=
  Chk (d ≠ 0) <|
  Let ((w64 (Int.tdiv v3 d))) fun x6 =>
  Let ((w64 (v3 - (w64 (x6 * d))))) fun x7 =>
  if (decide ((w64 (d - x7)) ≤ x7)) = true then
    Let ((w64 (x6 + 1))) fun x9 =>
    (ref01_RoundDiv_j1 n_0) x9
  else
    (ref01_RoundDiv_j1 n_0) x6
def ref01_RoundDiv (n_0 : Int) (d : Int) : Option Int :=
  Let (ref01_outOfRange d) fun r1 =>
  Let (ref01_outOfRange n_0) fun r2 =>
  if (cond (cond (decide (d < 1)) true r1) true r2) = true then
    some 0
  else
    if (decide (n_0 < 0)) = true then
      Let ((w64 (0 - n_0))) fun x4 =>
      (ref01_RoundDiv_j2 n_0 d) x4
    else
      (ref01_RoundDiv_j2 n_0 d) n_0
def ref11_cross (v_0 : List Vec) (i : Int) : Option Int :=
  Chk (0 ≤ i ∧ i < ((v_0).length : Int)) <|
  Chk (0 ≤ (0 : Int) ∧ 0 < ((v_0).length : Int)) <|
  Chk (0 ≤ i ∧ i < ((v_0).length : Int)) <|
  Chk (0 ≤ (0 : Int) ∧ 0 < ((v_0).length : Int)) <|
  Let ((⟨(w64 (((ix v_0 i).X) - ((ix v_0 0).X))), (w64 (((ix v_0 i).Y) - ((ix v_0 0).Y)))⟩ : Vec)) fun x5 =>
  Chk (0 ≤ (w64 (i + 1)) ∧ (w64 (i + 1)) < ((v_0).length : Int)) <|
  Chk (0 ≤ (0 : Int) ∧ 0 < ((v_0).length : Int)) <|
  Chk (0 ≤ (w64 (i + 1)) ∧ (w64 (i + 1)) < ((v_0).length : Int)) <|
  Chk (0 ≤ (0 : Int) ∧ 0 < ((v_0).length : Int)) <|
  Let ((⟨(w64 (((ix v_0 (w64 (i + 1))).X) - ((ix v_0 0).X))), (w64 (((ix v_0 (w64 (i + 1))).Y) - ((ix v_0 0).Y)))⟩ : Vec)) fun x10 =>
  Bind (ref01_RoundDiv (w64 ((w64 (x5.X * x10.Y)) - (w64 (x5.Y * x10.X)))) (65536)) fun r11 =>
  some r11
def ref11_Area_l1 (vertices : List Vec) (kj1 : Int → Option Int) : Nat → Int → Int → Option Int
  | 0, _, _ => none
  | n + 1, v3, v4 =>
    if (decide ((w64 (v4 + 1)) < ((vertices).length : Int))) = true then
      Bind (ref11_cross vertices v4) fun r5 =>
      Let ((w64 (v3 + r5))) fun x6 =>
      Let ((w64 (v4 + 1))) fun x7 =>
      (ref11_Area_l1 vertices kj1 n) x6 x7
    else
      kj1 v3
def ref11_Area_j2 (v2 : Int) : Option Int :=
  Bind (ref01_RoundDiv v2 (2)) fun r8 =>
  some r8
def ref11_Area (vertices : List Vec) : Option Int :=
  Bind (ref11_IsConvex vertices) fun r1 =>
  if (!r1) = true then
    some 0
  else
    ref11_Area_l1 vertices ref11_Area_j2 fuel 0 1
def ref12_Validate_l1 (s : Shape) (kj1 : Option Int) : Nat → Int → Option Int
  | 0, _ => none
  | n + 1, v2 =>
    if (decide (v2 < ((s.Vertices).length : Int))) = true then
      Chk (0 ≤ v2 ∧ v2 < ((s.Vertices).length : Int)) <|
      Let (ref12_within ((ix s.Vertices v2).X) (1048576)) fun r4 =>
      Chk (((!r4) == false) = true → 0 ≤ v2 ∧ v2 < ((s.Vertices).length : Int)) <|
      Let (ref12_within ((ix s.Vertices v2).Y) (1048576)) fun r6 =>
      if (cond (!r4) true (!r6)) = true then
        some 6
      else
        Let ((w64 (v2 + 1))) fun x7 =>
        (ref12_Validate_l1 s kj1 n) x7
    else
      kj1
def ref12_Validate_j2 (s : Shape) : Option Int :=
  if (cond (cond (s.Kind == 3) (s.Radius != 0) false) true (cond (s.Kind != 3) (cond (decide (s.Radius < 2048)) true (decide (524288 < s.Radius))) false)) = true then
    some 6
  else
    Chk (((s.Kind == 2) == true) = true → 0 ≤ (1 : Int) ∧ 1 < ((s.Vertices).length : Int)) <|
    Chk (((s.Kind == 2) == true) = true → 0 ≤ (0 : Int) ∧ 0 < ((s.Vertices).length : Int)) <|
    Let (ref03_Sub (ix s.Vertices 1) (ix s.Vertices 0)) fun r10 =>
    Bind (if ((s.Kind == 2) == true) = true then ref03_Length r10 else some default) fun r11 =>
    if (cond (s.Kind == 2) (decide (r11 < 4096)) false) = true then
      some 12
    else
      Bind (if ((s.Kind == 3) == true) = true then ref11_IsConvex s.Vertices else some default) fun r12 =>
      Bind (if (((s.Kind == 3) == true) && ((!r12) == false)) = true then ref11_ShortestEdge s.Vertices else some default) fun r13 =>
      Bind (if (((s.Kind == 3) == true) && ((cond (!r12) true (decide (r13 < 4096))) == false)) = true then ref11_Area s.Vertices else some default) fun r14 =>
      if (cond (s.Kind == 3) (cond (cond (!r12) true (decide (r13 < 4096))) true (decide (r14 < 256))) false) = true then
        some 12
      else
        some 0
def ref12_Validate (s : Shape) : Option Int :=
  if (cond (decide (s.Kind < 1)) true (decide (3 < s.Kind))) = true then
    some 10
  else
    Let (ref12_countMatches s) fun r1 =>
    if (!r1) = true then
      some 11
    else
      ref12_Validate_l1 s (ref12_Validate_j2 s) fuel 0
def ref23_ValidateFixture (f : Fixture) : Option Int :=
  Bind (ref12_Validate f.Shape) fun r1 =>
  if (r1 != 0) = true then
    some r1
  else
    Let (ref23_in f.Density (0) (262144)) fun r2 =>
    Let (ref23_in f.Friction (0) (131072)) fun r3 =>
    Let (ref23_in f.Restitution (0) (65536)) fun r4 =>
    Let (ref23_in f.Category (0) (65535)) fun r5 =>
    Let (ref23_in f.Mask (0) (65535)) fun r6 =>
    Let (ref23_in f.Group ((-32)) (32)) fun r7 =>
    if (cond (cond (cond (cond (cond (!r2) true (!r3)) true (!r4)) true (!r5)) true (!r6)) true (!r7)) = true then
      some 6
    else
      some 0
def ref23_Validate_l1 (b : Body) (kj1 : Option Int) : Nat → Int → Option Int
  | 0, _ => none
  | n + 1, v2 =>
    if (decide (v2 < ((b.Fixtures).length : Int))) = true then
      Chk (0 ≤ v2 ∧ v2 < ((b.Fixtures).length : Int)) <|
      Bind (ref23_ValidateFixture (ix b.Fixtures v2)) fun r4 =>
      if (r4 != 0) = true then
        some 13
      else
        Let ((w64 (v2 + 1))) fun x5 =>
        (ref23_Validate_l1 b kj1 n) x5
    else
      kj1
def ref23_Validate_j2 (b : Body) : Option Int :=
  Let ((cond (!Vec.beq b.Velocity (⟨0, 0⟩ : Vec)) true (b.AngularVelocity != 0))) fun x6 =>
  Let ((cond (!Vec.beq b.Force (⟨0, 0⟩ : Vec)) true (b.Torque != 0))) fun x7 =>
  if (cond (cond (cond (b.Kind == 1) (cond x6 true x7) false) true (cond (b.Kind != 3) (cond b.Asleep true b.Bullet) false)) true (cond b.Asleep x6 false)) = true then
    some 14
  else
    some 0
def ref23_Validate (b : Body) : Option Int :=
  if (cond (cond (b.Kind != 1) (b.Kind != 2) false) (b.Kind != 3) false) = true then
    some 10
  else
    Let (ref23_inRange b) fun r1 =>
    if (!r1) = true then
      some 6
    else
      if (decide (4 < ((b.Fixtures).length : Int))) = true then
        some 11
      else
        ref23_Validate_l1 b (ref23_Validate_j2 b) fuel 0
def angle_Normalize (a : Int) : Int :=
  Let ((Int.tmod a 411776)) fun x1 =>
  Let ((decide (205888 ≤ x1))) fun x2 =>
  if x2 = true then
    Let ((w64 (x1 - 411776))) fun x3 =>
    x3
  else
    Let ((decide (x1 < (-205888)))) fun x4 =>
    if x4 = true then
      Let ((w64 (x1 + 411776))) fun x5 =>
      x5
    else
      x1
def angle_abs (x_0 : Int) : Int :=
  if (decide (x_0 < 0)) = true then
    Let ((w64 (0 - x_0))) fun x1 =>
    x1
  else
    x_0
def fixed_Clamp (x_0 : Int) (low : Int) (high : Int) : Int :=
  Let ((cond (decide (high < low)) true (decide (x_0 < low)))) fun x1 =>
  if x1 = true then
    low
  else
    Let ((decide (high < x_0))) fun x2 =>
    if x2 = true then
      high
    else
      x_0
def fixed_Div (a : Int) (b : Int) : Option Int :=
  Let (fixed_Saturate a) fun r1 =>
  Let (fixed_Saturate b) fun r2 =>
  Let ((w64 (r1 * 65536))) fun x3 =>
  Let ((r2 == 0)) fun x4 =>
  if x4 = true then
    Let (fixed_Clamp x3 ((-1)) (1)) fun r5 =>
    Let ((w64 (r5 * 536870911))) fun x6 =>
    some x6
  else
    Let ((decide (r2 < 0))) fun x7 =>
    if x7 = true then
      Let ((w64 (0 - x3))) fun x8 =>
      Let ((w64 (0 - r2))) fun x9 =>
      Bind (fixed_RoundDiv x8 x9) fun r10 =>
      Let (fixed_Saturate r10) fun r11 =>
      some r11
    else
      Bind (fixed_RoundDiv x3 r2) fun r12 =>
      Let (fixed_Saturate r12) fun r13 =>
      some r13
def fixed_Mul (a : Int) (b : Int) : Option Int :=
  Let (fixed_Saturate a) fun r1 =>
  Let (fixed_Saturate b) fun r2 =>
  Bind (fixed_RoundDiv (w64 (r1 * r2)) (65536)) fun r3 =>
  Let (fixed_Saturate r3) fun r4 =>
  some r4
def angle_Sin_j1 (r1 : Int) (v3 : Int) : Option Int :=
  Bind (fixed_Div v3 (102944)) fun r5 =>
  Bind (fixed_Mul r5 r5) fun r6 =>
  Bind (fixed_Mul r6 (4569)) fun r7 =>
  Let (fixed_Sub (41906) r7) fun r8 =>
  Bind (fixed_Mul r6 r8) fun r9 =>
  Let (fixed_Sub (102873) r9) fun r10 =>
  Bind (fixed_Mul r5 r10) fun r11 =>
  if (decide (r1 < 0)) = true then
    Let ((w64 (0 - r11))) fun x12 =>
    some x12
  else
    some r11
def angle_Sin (a : Int) : Option Int :=
  Let (angle_Normalize a) fun r1 =>
  Let (angle_abs r1) fun r2 =>
  if (decide (102944 < r2)) = true then
    Let ((w64 (205888 - r2))) fun x4 =>
    (angle_Sin_j1 r1) x4
  else
    (angle_Sin_j1 r1) r2
def angle_Cos (a : Int) : Option Int :=
  Let (angle_Normalize a) fun r1 =>
  Let (angle_abs r1) fun r2 =>
  Bind (angle_Sin (w64 (102944 - r2))) fun r3 =>
  some r3
def angle_Rot (a : Int) : Option Rot :=
  Bind (angle_Cos a) fun r1 =>
  Bind (angle_Sin a) fun r2 =>
  Bind (fixed_Isqrt (w64 ((w64 (r1 * r1)) + (w64 (r2 * r2))))) fun r3 =>
  Bind (fixed_Div r1 r3) fun r4 =>
  Bind (fixed_Div r2 r3) fun r5 =>
  Let ((⟨r4, r5⟩ : Rot)) fun x6 =>
  some x6
def vec2_product (n_0 : Int) : Option Int :=
  Bind (fixed_RoundDiv n_0 (65536)) fun r1 =>
  Let (fixed_Saturate r1) fun r2 =>
  some r2
def vec2_Rotate (r_0 : Rot) (v_1 : Vec) : Option Vec :=
  Let (fixed_Saturate r_0.Cos) fun r1 =>
  Let (fixed_Saturate r_0.Sin) fun r2 =>
  Let (vec2_saturate v_1) fun r3 =>
  Let (r3) fun x4 =>
  Bind (vec2_product (w64 ((w64 (r1 * x4.X)) - (w64 (r2 * x4.Y))))) fun r5 =>
  Bind (vec2_product (w64 ((w64 (r2 * x4.X)) + (w64 (r1 * x4.Y))))) fun r6 =>
  Let ((⟨r5, r6⟩ : Vec)) fun x7 =>
  some x7
def fixed_Add (a : Int) (b : Int) : Int :=
  Let (fixed_Saturate a) fun r1 =>
  Let (fixed_Saturate b) fun r2 =>
  Let (fixed_Saturate (w64 (r1 + r2))) fun r3 =>
  r3
def vec2_Add (a : Vec) (b : Vec) : Vec :=
  Let (fixed_Add a.X b.X) fun r1 =>
  Let (fixed_Add a.Y b.Y) fun r2 =>
  Let ((⟨r1, r2⟩ : Vec)) fun x3 =>
  x3
def transform_Apply (t : Transform) (v_1 : Vec) : Option Vec :=
  Bind (angle_Rot t.Angle) fun r1 =>
  Bind (vec2_Rotate r1 v_1) fun r2 =>
  Let (vec2_Add r2 t.Position) fun r3 =>
  Let (r3) fun x4 =>
  some x4
def shape_Vertices_l1 (s : Shape) (p : Transform) (kj1 : List Vec → Option (List Vec)) : Nat → List Vec → Int → Option (List Vec)
  | 0, _, _ => none
  | n + 1, v3, v4 =>
    if (decide (v4 < ((s.Vertices).length : Int))) = true then
      Chk (0 ≤ v4 ∧ v4 < ((s.Vertices).length : Int)) <|
      Let ((ix s.Vertices v4)) fun x6 =>
      Bind (transform_Apply p x6) fun r7 =>
      Chk (((v3).length + (([r7] : List Vec)).length) * 16 ≤ 140737488355328) <|
      Let (v3 ++ ([r7] : List Vec)) fun x9 =>
      Let ((w64 (v4 + 1))) fun x10 =>
      (shape_Vertices_l1 s p kj1 n) x9 x10
    else
      kj1 v3
def shape_Vertices_j2 (v2 : List Vec) : Option (List Vec) :=
  some v2
def shape_Vertices (s : Shape) (p : Transform) : Option (List Vec) :=
  Bind (shape_Validate s) fun r1 =>
  if (r1 != 0) = true then
    some ([] : List Vec)
  else
    shape_Vertices_l1 s p shape_Vertices_j2 fuel ([] : List Vec) 0
def aabb_saturate (v_0 : Vec) : Vec :=
  Let (fixed_Saturate v_0.X) fun r1 =>
  Let (fixed_Saturate v_0.Y) fun r2 =>
  Let ((⟨r1, r2⟩ : Vec)) fun x3 =>
  x3
def aabb_lower (a : Vec) (b : Vec) : Vec :=
  Let ((⟨(min a.X b.X), (min a.Y b.Y)⟩ : Vec)) fun x1 =>
  x1
def aabb_upper (a : Vec) (b : Vec) : Vec :=
  Let ((⟨(max a.X b.X), (max a.Y b.Y)⟩ : Vec)) fun x1 =>
  x1
def aabb_FromPoints_l1 (kj1 : AABB → Option (AABB × Bool)) (x8 : List Vec) : Nat → Int → AABB → Option (AABB × Bool)
  | 0, _, _ => none
  | n + 1, v9, v10 =>
    if (decide (v9 < ((x8).length : Int))) = true then
      Chk (0 ≤ v9 ∧ v9 < ((x8).length : Int)) <|
      Let ((ix x8 v9)) fun x12 =>
      Let (aabb_saturate x12) fun r13 =>
      Let (r13) fun x14 =>
      Let (aabb_lower v10.Min x14) fun r15 =>
      Let ({ v10 with Min := r15 }) fun x16 =>
      Let (aabb_upper x16.Max x14) fun r17 =>
      Let ({ x16 with Max := r17 }) fun x18 =>
      Let ((w64 (v9 + 1))) fun x19 =>
      (aabb_FromPoints_l1 kj1 x8 n) x19 x18
    else
      kj1 v10
def aabb_FromPoints_j2 (v6 : AABB) : Option (AABB × Bool) :=
  Let (v6) fun x20 =>
  some (x20, true)
def aabb_FromPoints (points : List Vec) : Option (AABB × Bool) :=
  if (((points).length : Int) == 0) = true then
    Let ((⟨Vec.zero, Vec.zero⟩ : AABB)) fun x1 =>
    some (x1, false)
  else
    Chk (0 ≤ (0 : Int) ∧ 0 < ((points).length : Int)) <|
    Let (aabb_saturate (ix points 0)) fun r3 =>
    Let (r3) fun x4 =>
    Let ((⟨x4, x4⟩ : AABB)) fun x5 =>
    Chk (0 ≤ (1 : Int) ∧ 1 ≤ (points.length : Int)) <|
    Let ((points.drop ((1 : Int)).toNat)) fun x8 =>
    aabb_FromPoints_l1 aabb_FromPoints_j2 x8 fuel 0 x5
def shape_Bounds (s : Shape) (p : Transform) : Option AABB :=
  Bind (shape_Vertices s p) fun r1 =>
  Bind (aabb_FromPoints r1) fun r2 =>
  Let (r2.1) fun x3 =>
  if (!r2.2) = true then
    Let ((⟨Vec.zero, Vec.zero⟩ : AABB)) fun x4 =>
    some x4
  else
    Let ((⟨s.Radius, s.Radius⟩ : Vec)) fun x5 =>
    Let (vec2_Sub x3.Min x5) fun r6 =>
    Let (vec2_Add x3.Max x5) fun r7 =>
    Let ((⟨r6, r7⟩ : AABB)) fun x8 =>
    some x8
def aabb_saturated (v_0 : Vec) : Bool :=
  Let (fixed_Saturate v_0.X) fun r1 =>
  Let (fixed_Saturate v_0.Y) fun r2 =>
  Let ((cond (r1 == v_0.X) (r2 == v_0.Y) false)) fun x3 =>
  x3
def aabb_Valid (b : AABB) : Bool :=
  Let (aabb_saturated b.Min) fun r1 =>
  Let (aabb_saturated b.Max) fun r2 =>
  Let ((cond (cond (cond (decide (b.Min.X ≤ b.Max.X)) (decide (b.Min.Y ≤ b.Max.Y)) false) r1 false) r2 false)) fun x3 =>
  x3
def aabb_Union (a : AABB) (b : AABB) : AABB :=
  Let (aabb_Valid a) fun r1 =>
  Let (aabb_Valid b) fun r2 =>
  Let ((cond r1 r2 false)) fun x3 =>
  if x3 = true then
    Let (aabb_lower a.Min b.Min) fun r4 =>
    Let (aabb_upper a.Max b.Max) fun r5 =>
    Let ((⟨r4, r5⟩ : AABB)) fun x6 =>
    x6
  else
    Let (aabb_Valid a) fun r7 =>
    if r7 = true then
      Let (a) fun x8 =>
      x8
    else
      Let (aabb_Valid b) fun r9 =>
      if r9 = true then
        Let (b) fun x10 =>
        x10
      else
        Let ((⟨Vec.zero, Vec.zero⟩ : AABB)) fun x11 =>
        x11
def body_Bounds_j1 (v2 : Int) (kn2 : Int → AABB → Option (AABB × Bool)) (v4 : AABB) : Option (AABB × Bool) :=
  Let ((w64 (v2 + 1))) fun x12 =>
  kn2 x12 v4
def body_Bounds_l2 (b : Body) (kj1 : AABB → Option (AABB × Bool)) : Nat → Int → AABB → Option (AABB × Bool)
  | 0, _, _ => none
  | n + 1, v2, v3 =>
    if (decide (v2 < ((b.Fixtures).length : Int))) = true then
      Chk (0 ≤ v2 ∧ v2 < ((b.Fixtures).length : Int)) <|
      Let ((ix b.Fixtures v2)) fun x6 =>
      Bind (shape_Bounds x6.Shape b.Transform) fun r7 =>
      Let (r7) fun x8 =>
      if (v2 == 0) = true then
        Let (x8) fun x9 =>
        (body_Bounds_j1 v2 (body_Bounds_l2 b kj1 n)) x9
      else
        Let (aabb_Union v3 x8) fun r10 =>
        Let (r10) fun x11 =>
        (body_Bounds_j1 v2 (body_Bounds_l2 b kj1 n)) x11
    else
      kj1 v3
def body_Bounds_j3 (b : Body) (v1 : AABB) : Option (AABB × Bool) :=
  Let (v1) fun x13 =>
  Let ((decide (0 < ((b.Fixtures).length : Int)))) fun x14 =>
  some (x13, x14)
def body_Bounds (b : Body) : Option (AABB × Bool) :=
  body_Bounds_l2 b (body_Bounds_j3 b) fuel 0 AABB.zero
def massdata_ofCircle (s : Shape) (density : Int) : Option MassData :=
  Bind (fixed_Mul s.Radius s.Radius) fun r1 =>
  Bind (fixed_Mul (205888) r1) fun r2 =>
  Bind (fixed_Mul r2 density) fun r3 =>
  Chk (0 ≤ (0 : Int) ∧ 0 < ((s.Vertices).length : Int)) <|
  Bind (fixed_RoundDiv r1 (2)) fun r5 =>
  Bind (fixed_Mul r3 r5) fun r6 =>
  Let ((⟨r3, (ix s.Vertices 0), r6⟩ : MassData)) fun x7 =>
  some x7
def fixed_Lerp (a : Int) (b : Int) (t : Int) : Option Int :=
  Let (fixed_Sub b a) fun r1 =>
  Bind (fixed_Mul r1 t) fun r2 =>
  Let (fixed_Add a r2) fun r3 =>
  some r3
def vec2_Lerp (a : Vec) (b : Vec) (t : Int) : Option Vec :=
  Bind (fixed_Lerp a.X b.X t) fun r1 =>
  Bind (fixed_Lerp a.Y b.Y t) fun r2 =>
  Let ((⟨r1, r2⟩ : Vec)) fun x3 =>
  some x3
def massdata_ofCapsule (s : Shape) (density : Int) : Option MassData :=
  Bind (fixed_Mul s.Radius s.Radius) fun r1 =>
  Chk (0 ≤ (1 : Int) ∧ 1 < ((s.Vertices).length : Int)) <|
  Chk (0 ≤ (0 : Int) ∧ 0 < ((s.Vertices).length : Int)) <|
  Let (vec2_Sub (ix s.Vertices 1) (ix s.Vertices 0)) fun r4 =>
  Bind (vec2_Length r4) fun r5 =>
  Bind (fixed_Mul (205888) r1) fun r6 =>
  Let (fixed_Add s.Radius s.Radius) fun r7 =>
  Bind (fixed_Mul r7 r5) fun r8 =>
  Let (fixed_Add r6 r8) fun r9 =>
  Bind (fixed_Mul r9 density) fun r10 =>
  Bind (fixed_RoundDiv r1 (2)) fun r11 =>
  Bind (fixed_Mul r5 r5) fun r12 =>
  Bind (fixed_RoundDiv r12 (12)) fun r13 =>
  Let (fixed_Add r11 r13) fun r14 =>
  Chk (0 ≤ (0 : Int) ∧ 0 < ((s.Vertices).length : Int)) <|
  Chk (0 ≤ (1 : Int) ∧ 1 < ((s.Vertices).length : Int)) <|
  Bind (vec2_Lerp (ix s.Vertices 0) (ix s.Vertices 1) (32768)) fun r17 =>
  Bind (fixed_Mul r10 r14) fun r18 =>
  Let ((⟨r10, r17, r18⟩ : MassData)) fun x19 =>
  some x19
def polygon_Centroid_l1 (r3 : List polygon_triangle × Int) (kj1 : Int → Int → Option Vec) : Nat → Int → Int → Int → Option Vec
  | 0, _, _, _ => none
  | n + 1, v8, v9, v10 =>
    if (decide (v10 < ((r3.1).length : Int))) = true then
      Chk (0 ≤ v10 ∧ v10 < ((r3.1).length : Int)) <|
      Let ((ix r3.1 v10)) fun x12 =>
      Let ((w64 (v8 + (w64 ((w64 (x12.e.X + x12.f.X)) * x12.cross))))) fun x13 =>
      Let ((w64 (v9 + (w64 ((w64 (x12.e.Y + x12.f.Y)) * x12.cross))))) fun x14 =>
      Let ((w64 (v10 + 1))) fun x15 =>
      (polygon_Centroid_l1 r3 kj1 n) x13 x14 x15
    else
      kj1 v8 v9
def polygon_Centroid_j2 (vertices : List Vec) (r3 : List polygon_triangle × Int) (v6 : Int) (v7 : Int) : Option Vec :=
  Chk (0 ≤ (0 : Int) ∧ 0 < ((vertices).length : Int)) <|
  Bind (fixed_RoundDiv v6 (w64 (3 * r3.2))) fun r17 =>
  Chk (0 ≤ (0 : Int) ∧ 0 < ((vertices).length : Int)) <|
  Bind (fixed_RoundDiv v7 (w64 (3 * r3.2))) fun r19 =>
  Let ((⟨(w64 (((ix vertices 0).X) + r17)), (w64 (((ix vertices 0).Y) + r19))⟩ : Vec)) fun x20 =>
  some x20
def polygon_Centroid (vertices : List Vec) : Option Vec :=
  Bind (polygon_IsConvex vertices) fun r1 =>
  if (!r1) = true then
    Let ((⟨0, 0⟩ : Vec)) fun x2 =>
    some x2
  else
    Bind (polygon_fan vertices) fun r3 =>
    if (r3.2 == 0) = true then
      Chk (0 ≤ (0 : Int) ∧ 0 < ((vertices).length : Int)) <|
      Let ((ix vertices 0)) fun x5 =>
      some x5
    else
      polygon_Centroid_l1 r3 (polygon_Centroid_j2 vertices r3) fuel 0 0 0
def vec2_Cross (a : Vec) (b : Vec) : Option Int :=
  Let (vec2_saturate a) fun r1 =>
  Let (vec2_saturate b) fun r2 =>
  Let (r1) fun x3 =>
  Let (r2) fun x4 =>
  Bind (vec2_product (w64 ((w64 (x3.X * x4.Y)) - (w64 (x3.Y * x4.X))))) fun r5 =>
  some r5
def vec2_Dot (a : Vec) (b : Vec) : Option Int :=
  Let (vec2_saturate a) fun r1 =>
  Let (vec2_saturate b) fun r2 =>
  Let (r1) fun x3 =>
  Let (r2) fun x4 =>
  Bind (vec2_product (w64 ((w64 (x3.X * x4.X)) + (w64 (x3.Y * x4.Y))))) fun r5 =>
  some r5
def massdata_ofPolygon_l1 (s : Shape) (x4 : Vec) (kj1 : Int → Int → Option MassData) : Nat → Int → Int → Int → Vec → Option MassData
  | 0, _, _, _, _ => none
  | n + 1, v10, v11, v12, v13 =>
    if (decide (v12 < ((s.Vertices).length : Int))) = true then
      Chk (0 ≤ v12 ∧ v12 < ((s.Vertices).length : Int)) <|
      Let ((ix s.Vertices v12)) fun x15 =>
      Let (vec2_Sub x15 x4) fun r16 =>
      Let (r16) fun x17 =>
      Bind (vec2_Cross v13 x17) fun r18 =>
      Bind (vec2_Dot v13 v13) fun r19 =>
      Bind (vec2_Dot v13 x17) fun r20 =>
      Bind (vec2_Dot x17 x17) fun r21 =>
      Let ((w64 (v10 + (w64 (r18 * (w64 ((w64 (r19 + r20)) + r21))))))) fun x22 =>
      Let ((w64 (v11 + r18))) fun x23 =>
      Let (x17) fun x24 =>
      Let ((w64 (v12 + 1))) fun x25 =>
      (massdata_ofPolygon_l1 s x4 kj1 n) x22 x23 x25 x24
    else
      kj1 v10 v11
def massdata_ofPolygon_j2 (r2 : Int) (x4 : Vec) (v8 : Int) (v9 : Int) : Option MassData :=
  if (decide (v9 < 1)) = true then
    Let ((⟨r2, x4, 0⟩ : MassData)) fun x26 =>
    some x26
  else
    Bind (fixed_RoundDiv v8 v9) fun r27 =>
    Bind (fixed_RoundDiv r27 (6)) fun r28 =>
    Bind (fixed_Mul r2 r28) fun r29 =>
    Let ((⟨r2, x4, r29⟩ : MassData)) fun x30 =>
    some x30
def massdata_ofPolygon (s : Shape) (density : Int) : Option MassData :=
  Bind (polygon_Area s.Vertices) fun r1 =>
  Bind (fixed_Mul r1 density) fun r2 =>
  Bind (polygon_Centroid s.Vertices) fun r3 =>
  Let (r3) fun x4 =>
  Chk (0 ≤ (w64 (((s.Vertices).length : Int) - 1)) ∧ (w64 (((s.Vertices).length : Int) - 1)) < ((s.Vertices).length : Int)) <|
  Let (vec2_Sub (ix s.Vertices (w64 (((s.Vertices).length : Int) - 1))) x4) fun r6 =>
  Let (r6) fun x7 =>
  massdata_ofPolygon_l1 s x4 (massdata_ofPolygon_j2 r2 x4) fuel 0 0 0 x7
def massdata_OfShape (s : Shape) (density : Int) : Option MassData :=
  Bind (shape_Validate s) fun r1 =>
  if (cond (cond (r1 != 0) true (decide (density < 0))) true (decide (262144 < density))) = true then
    Let ((⟨0, Vec.zero, 0⟩ : MassData)) fun x2 =>
    some x2
  else
    Let ((s.Kind == 1)) fun x3 =>
    if x3 = true then
      Bind (massdata_ofCircle s density) fun r4 =>
      Let (r4) fun x5 =>
      some x5
    else
      Let ((s.Kind == 2)) fun x6 =>
      if x6 = true then
        Bind (massdata_ofCapsule s density) fun r7 =>
        Let (r7) fun x8 =>
        some x8
      else
        Bind (massdata_ofPolygon s density) fun r9 =>
        Let (r9) fun x10 =>
        some x10
def slices_IndexFunc_MassData_l1 (s : List MassData) (f : MassData → Option Bool) (kj1 : Option Int) : Nat → Int → Option Int
  | 0, _ => none
  | n + 1, v1 =>
    if (decide (v1 < ((s).length : Int))) = true then
      Chk (0 ≤ v1 ∧ v1 < ((s).length : Int)) <|
      Bind (f (ix s v1)) fun r3 =>
      if r3 = true then
        some v1
      else
        Let ((w64 (v1 + 1))) fun x4 =>
        (slices_IndexFunc_MassData_l1 s f kj1 n) x4
    else
      kj1
def slices_IndexFunc_MassData_j2 : Option Int :=
  some (-1)
def slices_IndexFunc_MassData (s : List MassData) (f : MassData → Option Bool) : Option Int :=
  slices_IndexFunc_MassData_l1 s f slices_IndexFunc_MassData_j2 fuel 0
def slices_ContainsFunc_MassData (s : List MassData) (f : MassData → Option Bool) : Option Bool :=
  Bind (slices_IndexFunc_MassData s f) fun r1 =>
  Let ((decide (0 ≤ r1))) fun x2 =>
  some x2
def massdata_Combine_c1 (p : MassData) : Bool :=
  Let ((decide (p.Mass < 0))) fun x1 =>
  x1
def massdata_Combine_l1 (parts : List MassData) (kj1 : Int → Int → Int → MassData → Option MassData) : Nat → Int → Int → Int → Int → MassData → Option MassData
  | 0, _, _, _, _, _ => none
  | n + 1, v7, v8, v9, v10, v11 =>
    if (decide (v10 < ((parts).length : Int))) = true then
      Chk (0 ≤ v10 ∧ v10 < ((parts).length : Int)) <|
      Let ((ix parts v10)) fun x13 =>
      Let (fixed_Saturate x13.Mass) fun r14 =>
      Let (fixed_Add v11.Mass r14) fun r15 =>
      Let ({ v11 with Mass := r15 }) fun x16 =>
      Let (fixed_Saturate x13.Center.X) fun r17 =>
      Let (fixed_Saturate x13.Center.Y) fun r18 =>
      Let ((w64 (v7 + r14))) fun x19 =>
      Let ((w64 (v8 + (w64 (r14 * r17))))) fun x20 =>
      Let ((w64 (v9 + (w64 (r14 * r18))))) fun x21 =>
      Let ((w64 (v10 + 1))) fun x22 =>
      (massdata_Combine_l1 parts kj1 n) x19 x20 x21 x22 x16
    else
      kj1 v7 v8 v9 v11
def massdata_Combine_l2 (parts : List MassData) (kj4 : MassData → Option MassData) : Nat → Int → MassData → Option MassData
  | 0, _, _ => none
  | n + 1, v28, v29 =>
    if (decide (v28 < ((parts).length : Int))) = true then
      Chk (0 ≤ v28 ∧ v28 < ((parts).length : Int)) <|
      Let ((ix parts v28)) fun x31 =>
      Let (vec2_Sub x31.Center v29.Center) fun r32 =>
      Let (r32) fun x33 =>
      Let (fixed_Add v29.Inertia x31.Inertia) fun r34 =>
      Bind (vec2_Dot x33 x33) fun r35 =>
      Bind (fixed_Mul x31.Mass r35) fun r36 =>
      Let (fixed_Add r34 r36) fun r37 =>
      Let ({ v29 with Inertia := r37 }) fun x38 =>
      Let ((w64 (v28 + 1))) fun x39 =>
      (massdata_Combine_l2 parts kj4 n) x39 x38
    else
      kj4 v29
def massdata_Combine_j3 (v27 : MassData) : Option MassData :=
  Let (v27) fun x40 =>
  some x40
def massdata_Combine_j4 (parts : List MassData) (v23 : MassData) : Option MassData :=
  massdata_Combine_l2 parts massdata_Combine_j3 fuel 0 v23
def massdata_Combine_j5 (parts : List MassData) (v3 : Int) (v4 : Int) (v5 : Int) (v6 : MassData) : Option MassData :=
  if (decide (0 < v3)) = true then
    Bind (fixed_RoundDiv v4 v3) fun r24 =>
    Bind (fixed_RoundDiv v5 v3) fun r25 =>
    Let ({ v6 with Center := (⟨r24, r25⟩ : Vec) }) fun x26 =>
    (massdata_Combine_j4 parts) x26
  else
    (massdata_Combine_j4 parts) v6
def massdata_Combine (parts : List MassData) : Option MassData :=
  Bind (if ((decide (8 < ((parts).length : Int))) == false) = true then slices_ContainsFunc_MassData parts ((fun (y0 : MassData) => some (massdata_Combine_c1 y0))) else some default) fun r1 =>
  if (cond (decide (8 < ((parts).length : Int))) true r1) = true then
    Let ((⟨0, Vec.zero, 0⟩ : MassData)) fun x2 =>
    some x2
  else
    massdata_Combine_l1 parts (massdata_Combine_j5 parts) fuel 0 0 0 0 MassData.zero
def massdata_OfFixtures_j1 (v4 : Int) (kn2 : List MassData → Int → Option MassData) (v5 : List MassData) : Option MassData :=
  Let ((w64 (v4 + 1))) fun x11 =>
  kn2 v5 x11
def massdata_OfFixtures_l2 (fixtures : List Fixture) (kj1 : List MassData → Option MassData) : Nat → List MassData → Int → Option MassData
  | 0, _, _ => none
  | n + 1, v3, v4 =>
    if (decide (v4 < ((fixtures).length : Int))) = true then
      Chk (0 ≤ v4 ∧ v4 < ((fixtures).length : Int)) <|
      Let ((ix fixtures v4)) fun x7 =>
      if (!x7.Sensor) = true then
        Bind (massdata_OfShape x7.Shape x7.Density) fun r8 =>
        Chk (((v3).length + (([r8] : List MassData)).length) * 32 ≤ 140737488355328) <|
        Let (v3 ++ ([r8] : List MassData)) fun x10 =>
        (massdata_OfFixtures_j1 v4 (massdata_OfFixtures_l2 fixtures kj1 n)) x10
      else
        (massdata_OfFixtures_j1 v4 (massdata_OfFixtures_l2 fixtures kj1 n)) v3
    else
      kj1 v3
def massdata_OfFixtures_j3 (v2 : List MassData) : Option MassData :=
  Bind (massdata_Combine v2) fun r12 =>
  Let (r12) fun x13 =>
  some x13
def massdata_OfFixtures (fixtures : List Fixture) : Option MassData :=
  if (decide (4 < ((fixtures).length : Int))) = true then
    Let ((⟨0, Vec.zero, 0⟩ : MassData)) fun x1 =>
    some x1
  else
    massdata_OfFixtures_l2 fixtures massdata_OfFixtures_j3 fuel ([] : List MassData) 0
def body_MassData (b : Body) : Option MassData :=
  Bind (massdata_OfFixtures b.Fixtures) fun r1 =>
  Let (r1) fun x2 =>
  some x2
def body_WorldCenter (b : Body) : Option Vec :=
  Bind (body_MassData b) fun r1 =>
  Bind (transform_Apply b.Transform r1.Center) fun r2 =>
  Let (r2) fun x3 =>
  some x3
def fixed_Ratio (n_0 : Int) (d : Int) : Option Int :=
  Let ((cond (cond (decide (d < 1)) true (decide (4611686018427387904 < d))) true (decide (n_0 < 1)))) fun x1 =>
  if x1 = true then
    some 0
  else
    Let ((decide (d ≤ n_0))) fun x2 =>
    if x2 = true then
      some 65536
    else
      Let ((decide (d < 70368744177664))) fun x3 =>
      if x3 = true then
        Bind (fixed_RoundDiv (w64 (n_0 * 65536)) d) fun r4 =>
        some r4
      else
        Bind (fixed_RoundDiv d (65536)) fun r5 =>
        Bind (fixed_RoundDiv n_0 r5) fun r6 =>
        Let ((min r6 65536)) fun x7 =>
        some x7
def vec2_Scale (v_0 : Vec) (k_1 : Int) : Option Vec :=
  Bind (fixed_Mul v_0.X k_1) fun r1 =>
  Bind (fixed_Mul v_0.Y k_1) fun r2 =>
  Let ((⟨r1, r2⟩ : Vec)) fun x3 =>
  some x3
end GoOld


/- The plain law of the numbers and vectors: what fixed, vec2 compute. No conditions. -/
set_option linter.all false
open Go Go.Rx

namespace GoOld
open GoForm

theorem mul_bd {x y : Int} (M N : Int) (hx : -M ≤ x ∧ x ≤ M) (hy : -N ≤ y ∧ y ≤ N) : -(M * N) ≤ x * y ∧ x * y ≤ M * N := by
  have h1 : x.natAbs ≤ M.natAbs := by omega
  have h2 : y.natAbs ≤ N.natAbs := by omega
  have h3 := Nat.mul_le_mul h1 h2
  rw [← Int.natAbs_mul, ← Int.natAbs_mul] at h3
  have h4 : 0 ≤ M * N := Int.mul_nonneg (by omega) (by omega)
  omega

def sat (x : Int) : Int := min (max x (-536870911)) 536870911
theorem sat_bd (x : Int) : -536870911 ≤ sat x ∧ sat x ≤ 536870911 := by unfold sat; omega
theorem sat_id {x : Int} (h : -536870911 ≤ x ∧ x ≤ 536870911) : sat x = x := by unfold sat; omega
theorem satsat (x : Int) : sat (sat x) = sat x := sat_id (sat_bd x)
theorem sat_mul (a b : Int) : -288230375077969921 ≤ sat a * sat b ∧ sat a * sat b ≤ 288230375077969921 := by
  have := mul_bd 536870911 536870911 (sat_bd a) (sat_bd b)
  omega
def addS (a b : Int) : Int := sat (sat a + sat b)
def subS (a b : Int) : Int := sat (sat a - sat b)
def rdv (n d : Int) : Int :=
  if d < 1 ∨ 4611686018427387904 < d ∨ n < -4611686018427387904 ∨ 4611686018427387904 < n then 0 else
  if d - Int.tmod n d ≤ Int.tmod n d then Int.tdiv n d + 1 else if d + Int.tmod n d ≤ - Int.tmod n d then Int.tdiv n d - 1 else Int.tdiv n d
theorem tdm (n d : Int) (hd : 0 < d) : d * Int.tdiv n d + Int.tmod n d = n ∧ -d < Int.tmod n d ∧ Int.tmod n d < d ∧ (0 ≤ n → 0 ≤ Int.tmod n d ∧ 0 ≤ Int.tdiv n d ∧ Int.tdiv n d ≤ n) ∧ (n ≤ 0 → Int.tmod n d ≤ 0 ∧ n ≤ Int.tdiv n d ∧ Int.tdiv n d ≤ 0) := by
  have pos : ∀ n : Int, 0 ≤ n → 0 ≤ Int.tmod n d ∧ Int.tmod n d < d ∧ 0 ≤ Int.tdiv n d ∧ Int.tdiv n d ≤ n := by
    intro n hn
    refine ⟨Int.tmod_nonneg d hn, Int.tmod_lt_of_pos n hd, Int.tdiv_nonneg hn (by omega), ?_⟩
    rw [Int.tdiv_eq_ediv_of_nonneg hn]
    exact Int.ediv_le_self d hn
  refine ⟨Int.mul_tdiv_add_tmod n d, ?_⟩
  by_cases h : 0 ≤ n
  · have := pos n h
    refine ⟨by omega, by omega, fun _ => ⟨by omega, by omega, by omega⟩, fun h0 => ?_⟩
    have : n = 0 := by omega
    subst this; simp
  · have := pos (-n) (by omega)
    rw [Int.neg_tmod, Int.neg_tdiv] at this
    exact ⟨by omega, by omega, fun _ => by omega, fun _ => by omega⟩
theorem fixed_RoundDiv_eq (n d : Int) : fixed_RoundDiv n d = some (rdv n d) := by
  unfold fixed_RoundDiv rdv
  simp only [Let_eq, cond_or, Bool.or_eq_true, decide_eq_true_eq]
  by_cases h : ((d < 1 ∨ 4611686018427387904 < d) ∨ n < -4611686018427387904) ∨ 4611686018427387904 < n
  · rw [if_pos h, if_pos (by omega)]
  have h' : ¬ (d < 1 ∨ 4611686018427387904 < d ∨ n < -4611686018427387904 ∨ 4611686018427387904 < n) := by omega
  rw [if_neg h, if_neg h', Chk_of (by omega), Chk_of (by omega)]
  obtain ⟨h1, h2, h3, h4, h5⟩ := tdm n d (by omega)
  have hq : -4611686018427387904 ≤ Int.tdiv n d ∧ Int.tdiv n d ≤ 4611686018427387904 := by
    by_cases hn : 0 ≤ n
    · have := h4 hn; omega
    · have := h5 (by omega); omega
  generalize Int.tdiv n d = q at *
  generalize Int.tmod n d = r at *
  rw [w64_of q (by omega), w64_of (d - r) (by omega), w64_of (d + r) (by omega), w64_of (0 - r) (by omega), w64_of (q + 1) (by omega), w64_of (q - 1) (by omega)]
  by_cases c1 : d - r ≤ r
  · rw [if_pos c1, if_pos c1]
  rw [if_neg c1, if_neg c1]
  by_cases c2 : d + r ≤ 0 - r
  · rw [if_pos c2, if_pos (by omega)]
  · rw [if_neg c2, if_neg (by omega)]
theorem rdv_neg (n d : Int) : rdv (-n) d = - rdv n d := by
  unfold rdv
  by_cases h : d < 1 ∨ 4611686018427387904 < d ∨ n < -4611686018427387904 ∨ 4611686018427387904 < n
  · rw [if_pos h, if_pos (by omega)]; rfl
  rw [if_neg h, if_neg (by omega), Int.neg_tmod, Int.neg_tdiv]
  obtain ⟨h1, h2, h3, h4, h5⟩ := tdm n d (by omega)
  generalize Int.tdiv n d = q at *
  generalize Int.tmod n d = r at *
  split <;> split <;> (try split) <;> omega
/-- What rounding division is: the nearest, halves away from 0. -/
theorem rdv_pos {n d : Int} (hn : 0 ≤ n) (hn2 : n ≤ 4611686018427387904) (hd : 0 < d) (hd2 : d ≤ 4611686018427387904) : 2 * (d * rdv n d) - d ≤ 2 * n ∧ 2 * n < 2 * (d * rdv n d) + d ∧ 0 ≤ rdv n d := by
  unfold rdv
  rw [if_neg (by omega)]
  obtain ⟨h1, h2, h3, h4, h5⟩ := tdm n d (by omega)
  have h4 := h4 hn
  generalize Int.tdiv n d = q at *
  generalize Int.tmod n d = r at *
  have e : d * (q + 1) = d * q + d := by rw [Int.mul_add]; omega
  split
  · omega
  · rw [if_neg (by omega)]; omega
theorem rdv_le {n d : Int} (hn : 0 ≤ n) : 0 ≤ rdv n d ∧ rdv n d ≤ n := by
  unfold rdv
  split
  · omega
  obtain ⟨h1, h2, h3, h4, h5⟩ := tdm n d (by omega)
  have h4 := h4 hn
  split
  · rename_i hh c
    by_cases hq : Int.tdiv n d < n
    · omega
    · have hq2 : Int.tdiv n d = n := by omega
      rw [hq2] at h1
      by_cases hd : d = 1
      · omega
      · have : 2 * n ≤ d * n := Int.mul_le_mul_of_nonneg_right (by omega) hn
        omega
  · rw [if_neg (by omega)]; omega
def mulS (a b : Int) : Int := sat (rdv (sat a * sat b) 65536)
def divS (a b : Int) : Int :=
  if sat b = 0 then (if 0 < sat a then 536870911 else if sat a < 0 then -536870911 else 0) else
  if sat b < 0 then sat (rdv (-(sat a * 65536)) (- sat b)) else sat (rdv (sat a * 65536) (sat b))
def lerpS (a b t : Int) : Int := addS a (mulS (subS b a) t)
theorem fixed_Saturate_eq (x : Int) : fixed_Saturate x = sat x := rfl
theorem fixed_Sub_eq (a b : Int) : fixed_Sub a b = subS a b := by
  unfold fixed_Sub; simp only [Let_eq, fixed_Saturate_eq]
  have := sat_bd a; have := sat_bd b
  rw [w64_of _ (by omega)]; rfl
theorem fixed_Add_eq (a b : Int) : fixed_Add a b = addS a b := by
  unfold fixed_Add; simp only [Let_eq, fixed_Saturate_eq]
  have := sat_bd a; have := sat_bd b
  rw [w64_of _ (by omega)]; rfl
theorem fixed_Mul_eq (a b : Int) : fixed_Mul a b = some (mulS a b) := by
  unfold fixed_Mul; simp only [Let_eq, fixed_Saturate_eq]
  have := sat_mul a b
  rw [w64_of _ (by omega), fixed_RoundDiv_eq]; rfl
/-- The square root, bit by bit. -/
def isqL (n : Int) : Nat → Int → Int
  | 0, v => v
  | k + 1, v => if (v + 2 ^ k) * (v + 2 ^ k) ≤ n then isqL n k (v + 2 ^ k) else isqL n k v
def isq (n : Int) : Int := if n < 0 ∨ 4611686018427387904 < n then 0 else isqL n 32 0
def bitAt (k : Nat) : Int := match k with | 0 => 0 | k + 1 => 2 ^ k
theorem isqL_bd (n : Int) : ∀ (k : Nat) (v : Int), 0 ≤ v → v * v ≤ n → 0 ≤ isqL n k v ∧ isqL n k v * isqL n k v ≤ n ∧ isqL n k v < v + 2 ^ k
  | 0, v, h, h2 => ⟨h, h2, by simp [isqL]; omega⟩
  | k + 1, v, h, h2 => by
    have hp : (0 : Int) < 2 ^ k := Int.pow_pos (by omega)
    unfold isqL
    rw [Int.pow_succ]
    split
    · rename_i c
      have := isqL_bd n k (v + 2 ^ k) (by omega) c
      omega
    · have := isqL_bd n k v h h2
      omega
theorem isq_bd (n : Int) : 0 ≤ isq n ∧ isq n < 4294967296 ∧ (0 ≤ n → isq n * isq n ≤ n) := by
  unfold isq
  split
  · omega
  · have := isqL_bd n 32 0 (by omega) (by omega)
    omega
theorem bor_bit (k : Nat) (a : Int) (ha : 0 ≤ a) (hk : a * 2 ^ (k + 1) + 2 ^ (k + 1) ≤ 4294967296) : bOr .i64 (a * 2 ^ (k + 1)) (2 ^ k) = a * 2 ^ (k + 1) + 2 ^ k := by
  obtain ⟨m, rfl⟩ := Int.eq_ofNat_of_zero_le ha
  have e1 : ((m : Int) * 2 ^ (k + 1)) = ((m * 2 ^ (k + 1) : Nat) : Int) := by push_cast; rfl
  have e2 : ((2 : Int) ^ k) = ((2 ^ k : Nat) : Int) := by push_cast; rfl
  have e2' : ((2 : Int) ^ (k + 1)) = ((2 ^ (k + 1) : Nat) : Int) := by push_cast; rfl
  rw [e1, e2'] at hk
  have hlt : 2 ^ k < 2 ^ (k + 1) := Nat.pow_lt_pow_right (by omega) (by omega)
  rw [e1, e2]
  unfold bOr
  show IntKind.i64.wrap ((BitVec.ofInt 64 ((m * 2 ^ (k + 1) : Nat) : Int) ||| BitVec.ofInt 64 ((2 ^ k : Nat) : Int)).toNat : Nat) = _
  rw [BitVec.toNat_or]
  have e3 : (BitVec.ofInt 64 ((m * 2 ^ (k + 1) : Nat) : Int)).toNat = m * 2 ^ (k + 1) := by
    rw [BitVec.toNat_ofInt]; omega
  have e4 : (BitVec.ofInt 64 ((2 ^ k : Nat) : Int)).toNat = 2 ^ k := by
    rw [BitVec.toNat_ofInt]; omega
  rw [e3, e4]
  have e5 := Nat.shiftLeft_add_eq_or_of_lt hlt m
  rw [Nat.shiftLeft_eq] at e5
  rw [← e5]
  have := w64_of ((m * 2 ^ (k + 1) + 2 ^ k : Nat) : Int) (by omega)
  rw [show IntKind.i64.wrap ((m * 2 ^ (k + 1) + 2 ^ k : Nat) : Int) = w64 ((m * 2 ^ (k + 1) + 2 ^ k : Nat) : Int) from rfl, this]
  push_cast; rfl
theorem bitAt_half (k : Nat) : bShr .i64 (2 ^ k) 1 = bitAt k := by
  unfold bShr
  show Int.fdiv (2 ^ k) (2 ^ 1) = _
  rw [Int.fdiv_eq_ediv_of_nonneg _ (by decide)]
  cases k with
  | zero => rfl
  | succ k => rw [Int.pow_succ]; show _ = (2 : Int) ^ k; omega
theorem isq_l2 (n : Int) (hn : 0 ≤ n ∧ n ≤ 4611686018427387904) (kj : Int → Option Int) : ∀ (k m : Nat) (a : Int), k < m → 0 ≤ a → a * 2 ^ k + 2 ^ k ≤ 4294967296 →
    fixed_Isqrt_l2 n kj m (a * 2 ^ k) (bitAt k) = kj (isqL n k (a * 2 ^ k))
  | k, 0, a, h, _, _ => by omega
  | 0, m + 1, a, h, h0, h1 => by
    unfold fixed_Isqrt_l2
    rw [if_neg (by simp [bitAt])]; rfl
  | k + 1, m + 1, a, h, h0, h1 => by
    have hp : (0 : Int) < 2 ^ k := Int.pow_pos (by omega)
    have hpos : 0 ≤ a * 2 ^ (k + 1) := Int.mul_nonneg h0 (Int.le_of_lt (Int.pow_pos (by omega)))
    unfold fixed_Isqrt_l2
    rw [show bitAt (k + 1) = 2 ^ k from rfl, if_pos (decide_eq_true hp)]
    rw [bor_bit k a h0 h1, Let_eq, Let_eq, u64_eq, u64_eq, u64_eq]
    have hx : 0 ≤ a * 2 ^ (k + 1) + 2 ^ k ∧ a * 2 ^ (k + 1) + 2 ^ k < 4294967296 := by
      rw [Int.pow_succ] at h1 ⊢; rw [Int.pow_succ] at hpos; omega
    have hsq : (a * 2 ^ (k + 1) + 2 ^ k) * (a * 2 ^ (k + 1) + 2 ^ k) ≤ 4294967295 * 4294967295 := (mul_bd 4294967295 4294967295 (by omega) (by omega)).2
    have hsq0 : 0 ≤ (a * 2 ^ (k + 1) + 2 ^ k) * (a * 2 ^ (k + 1) + 2 ^ k) := Int.mul_nonneg hx.1 hx.1
    rw [Int.emod_eq_of_lt hx.1 (by omega), Int.emod_eq_of_lt hsq0 (by omega), Int.emod_eq_of_lt hn.1 (by omega)]
    have ea : a * 2 ^ (k + 1) + 2 ^ k = (2 * a + 1) * 2 ^ k := by rw [Int.pow_succ, Int.add_mul]; rw [Int.mul_comm 2 a, Int.mul_assoc, Int.mul_comm 2]; omega
    have eb : a * 2 ^ (k + 1) = (2 * a) * 2 ^ k := by rw [Int.pow_succ, Int.mul_comm 2 a, Int.mul_assoc, Int.mul_comm 2]
    unfold isqL fixed_Isqrt_j1
    simp only [Let_eq, decide_eq_true_eq]
    rw [bitAt_half]
    have h1' : (2 * a + 1) * 2 ^ k + 2 ^ k ≤ 4294967296 := by rw [← ea]; rw [Int.pow_succ] at h1 ⊢; omega
    have h1'' : (2 * a) * 2 ^ k + 2 ^ k ≤ 4294967296 := by rw [← eb]; rw [Int.pow_succ] at h1 ⊢; omega
    by_cases c : (a * 2 ^ (k + 1) + 2 ^ k) * (a * 2 ^ (k + 1) + 2 ^ k) ≤ n
    · rw [if_pos c, if_pos c, ea]
      exact isq_l2 n hn kj k m (2 * a + 1) (by omega) (by omega) h1'
    · rw [if_neg c, if_neg c, eb]
      exact isq_l2 n hn kj k m (2 * a) (by omega) (by omega) h1''
theorem fixed_Isqrt_eq (n : Int) : fixed_Isqrt n = some (isq n) := by
  unfold fixed_Isqrt isq
  simp only [cond_or, Bool.or_eq_true, decide_eq_true_eq]
  by_cases h : n < 0 ∨ 4611686018427387904 < n
  · rw [if_pos h, if_pos h]
  · rw [if_neg h, if_neg h]
    have := isq_l2 n (by omega) fixed_Isqrt_j3 32 fuel 0 (fuel_lt _ (by decide)) (by omega) (by decide)
    simpa [bitAt, fixed_Isqrt_j3] using this
def subV (a b : Vec) : Vec := ⟨subS a.X b.X, subS a.Y b.Y⟩
def addV (a b : Vec) : Vec := ⟨addS a.X b.X, addS a.Y b.Y⟩
def satV (a : Vec) : Vec := ⟨sat a.X, sat a.Y⟩
def scaleV (a : Vec) (k : Int) : Vec := ⟨mulS a.X k, mulS a.Y k⟩
def lerpV (a b : Vec) (t : Int) : Vec := ⟨lerpS a.X b.X t, lerpS a.Y b.Y t⟩
def lenV (v : Vec) : Int := isq (sat v.X * sat v.X + sat v.Y * sat v.Y)
def prodS (n : Int) : Int := sat (rdv n 65536)
def crossV (a b : Vec) : Int := prodS (sat a.X * sat b.Y - sat a.Y * sat b.X)
def dotV (a b : Vec) : Int := prodS (sat a.X * sat b.X + sat a.Y * sat b.Y)
def oriV (a b c : Vec) : Int := min 1 (max (-1) ((sat b.X - sat a.X) * (sat c.Y - sat a.Y) - (sat b.Y - sat a.Y) * (sat c.X - sat a.X)))
theorem vec2_Sub_eq (a b : Vec) : vec2_Sub a b = subV a b := by unfold vec2_Sub; simp only [Let_eq, fixed_Sub_eq]; rfl
theorem vec2_Add_eq (a b : Vec) : vec2_Add a b = addV a b := by unfold vec2_Add; simp only [Let_eq, fixed_Add_eq]; rfl
theorem vec2_saturate_eq (a : Vec) : vec2_saturate a = satV a := rfl
theorem vec2_Scale_eq (a : Vec) (k : Int) : vec2_Scale a k = some (scaleV a k) := by unfold vec2_Scale; simp only [fixed_Mul_eq, Bind_some, Let_eq]; rfl
theorem fixed_Lerp_eq (a b t : Int) : fixed_Lerp a b t = some (lerpS a b t) := by unfold fixed_Lerp; simp only [fixed_Mul_eq, fixed_Sub_eq, fixed_Add_eq, Bind_some, Let_eq]; rfl
theorem vec2_Lerp_eq (a b : Vec) (t : Int) : vec2_Lerp a b t = some (lerpV a b t) := by unfold vec2_Lerp; simp only [fixed_Lerp_eq, Bind_some, Let_eq]; rfl
theorem vec2_product_eq (n : Int) : vec2_product n = some (prodS n) := by unfold vec2_product; simp only [fixed_RoundDiv_eq, Bind_some, Let_eq]; rfl
theorem vec2_Cross_eq (a b : Vec) : vec2_Cross a b = some (crossV a b) := by
  unfold vec2_Cross; simp only [vec2_saturate_eq, Let_eq, satV]
  have h1 := sat_mul a.X b.Y; have h2 := sat_mul a.Y b.X
  rw [w64_of (sat a.X * sat b.Y) (by omega), w64_of (sat a.Y * sat b.X) (by omega), w64_of _ (by omega), vec2_product_eq]; rfl
theorem vec2_Dot_eq (a b : Vec) : vec2_Dot a b = some (dotV a b) := by
  unfold vec2_Dot; simp only [vec2_saturate_eq, Let_eq, satV]
  have h1 := sat_mul a.X b.X; have h2 := sat_mul a.Y b.Y
  rw [w64_of (sat a.X * sat b.X) (by omega), w64_of (sat a.Y * sat b.Y) (by omega), w64_of _ (by omega), vec2_product_eq]; rfl
theorem diff_mul (a b c d : Int) : -1152921500311879684 ≤ (sat a - sat b) * (sat c - sat d) ∧ (sat a - sat b) * (sat c - sat d) ≤ 1152921500311879684 := by
  have h1 := sat_bd a; have h2 := sat_bd b; have h3 := sat_bd c; have h4 := sat_bd d
  have := mul_bd (x := sat a - sat b) (y := sat c - sat d) 1073741822 1073741822 (by omega) (by omega)
  omega
theorem vec2_Orientation_eq (a b c : Vec) : vec2_Orientation a b c = oriV a b c := by
  unfold vec2_Orientation; simp only [vec2_saturate_eq, Let_eq, satV]
  have h1 := diff_mul b.X a.X c.Y a.Y; have h2 := diff_mul b.Y a.Y c.X a.X
  have k1 := sat_bd a.X; have k2 := sat_bd a.Y; have k3 := sat_bd b.X; have k4 := sat_bd b.Y; have k5 := sat_bd c.X; have k6 := sat_bd c.Y
  rw [w64_of (sat b.X - sat a.X) (by omega), w64_of (sat c.Y - sat a.Y) (by omega), w64_of (sat b.Y - sat a.Y) (by omega), w64_of (sat c.X - sat a.X) (by omega), w64_of ((sat b.X - sat a.X) * (sat c.Y - sat a.Y)) (by omega), w64_of ((sat b.Y - sat a.Y) * (sat c.X - sat a.X)) (by omega), w64_of _ (by omega)]
  rfl
theorem vec2_Length_eq (v : Vec) : vec2_Length v = some (lenV v) := by
  unfold vec2_Length vec2_DistanceSquared; simp only [vec2_saturate_eq, Let_eq, satV]
  have h1 := sat_mul v.X v.X; have h2 := sat_mul v.Y v.Y
  have k1 := sat_bd v.X; have k2 := sat_bd v.Y
  rw [show sat 0 = 0 from rfl, w64_of (sat v.X - 0) (by omega), w64_of (sat v.Y - 0) (by omega), Int.sub_zero, Int.sub_zero, w64_of (sat v.X * sat v.X) (by omega), w64_of (sat v.Y * sat v.Y) (by omega), w64_of _ (by omega), fixed_Isqrt_eq]
  rfl
end GoOld


/- The plain law of the numbers and vectors: the reference computes the same. No conditions. -/
set_option linter.all false
open Go Go.Rx

namespace GoOld
open GoForm
theorem ref01_Saturate_eq (x : Int) : ref01_Saturate x = sat x := by
  unfold ref01_Saturate sat
  simp only [decide_eq_true_eq]
  split
  · omega
  · split <;> omega
theorem ref01_Sub_eq (a b : Int) : ref01_Sub a b = subS a b := by
  unfold ref01_Sub; simp only [Let_eq, ref01_Saturate_eq]
  have := sat_bd a; have := sat_bd b
  rw [w64_of _ (by omega)]; rfl
theorem ref01_RoundDiv_eq (n d : Int) : ref01_RoundDiv n d = some (rdv n d) := by
  unfold ref01_RoundDiv ref01_outOfRange
  simp only [Let_eq, cond_or, Bool.or_eq_true, decide_eq_true_eq]
  by_cases h : (d < 1 ∨ 4611686018427387904 < d ∨ d < -4611686018427387904) ∨ 4611686018427387904 < n ∨ n < -4611686018427387904
  · unfold rdv; rw [if_pos h, if_pos (by omega)]
  rw [if_neg h]
  have core : ∀ m : Int, 0 ≤ m → m ≤ 4611686018427387904 → ref01_RoundDiv_j2 n d m = ref01_RoundDiv_j1 n (rdv m d) := by
    intro m h0 h1
    unfold ref01_RoundDiv_j2 rdv
    simp only [Let_eq, decide_eq_true_eq]
    obtain ⟨t1, t2, t3, t4, t5⟩ := tdm m d (by omega)
    have t4 := t4 h0
    have hm : ¬ (d < 1 ∨ 4611686018427387904 < d ∨ m < -4611686018427387904 ∨ 4611686018427387904 < m) := by omega
    rw [if_neg hm]
    rw [Chk_of (by omega)]
    generalize Int.tdiv m d = q at *
    generalize Int.tmod m d = r at *
    have hq : d * q = m - r := by omega
    rw [w64_of q (by omega), Int.mul_comm q d, hq, w64_of (m - r) (by omega), w64_of (m - (m - r)) (by omega)]
    have e : m - (m - r) = r := by omega
    rw [e, w64_of (d - r) (by omega), w64_of (q + 1) (by omega)]
    by_cases c : d - r ≤ r
    · rw [if_pos c, if_pos c]
    · rw [if_neg c, if_neg c]
      have c2 : ¬ (d + r ≤ -r) := by omega
      rw [if_neg c2]
  by_cases hn : n < 0
  · rw [if_pos hn, w64_of _ (by omega), core _ (by omega) (by omega)]
    unfold ref01_RoundDiv_j1
    simp only [Let_eq, decide_eq_true_eq]
    have e : 0 - n = -n := by omega
    have b := rdv_le (n := -n) (d := d) (by omega)
    rw [rdv_neg] at b
    rw [if_pos hn, e, rdv_neg, w64_of _ (by omega)]
    congr 1; omega
  · rw [if_neg hn, core _ (by omega) (by omega)]
    unfold ref01_RoundDiv_j1
    rw [if_neg (by simpa using hn)]
theorem bit_half (k : Nat) (hk : (2 : Int) ^ k ≤ 4294967296) : w64 (Int.tdiv (2 ^ k) 2) = bitAt k := by
  cases k with
  | zero => rfl
  | succ k =>
    have hp : (0 : Int) < 2 ^ k := Int.pow_pos (by omega)
    rw [Int.pow_succ] at hk ⊢
    rw [Int.mul_tdiv_cancel _ (by decide), w64_of _ (by omega)]; rfl
theorem le_div (x n : Int) (hx : 0 < x) (hn : 0 ≤ n) : x ≤ Int.tdiv n x ↔ x * x ≤ n := by
  rw [Int.tdiv_eq_ediv_of_nonneg hn]
  exact Int.le_ediv_iff_mul_le hx
theorem ref_isq_l2 (n : Int) (hn : 0 ≤ n ∧ n ≤ 4611686018427387904) (kj : Int → Option Int) : ∀ (k m : Nat) (v : Int), k < m → 0 ≤ v → v + 2 ^ k ≤ 4294967296 →
    ref01_Isqrt_l2 n kj m v (bitAt k) = kj (isqL n k v)
  | k, 0, v, h, _, _ => by omega
  | 0, m + 1, v, h, h0, h1 => by
    unfold ref01_Isqrt_l2
    rw [if_neg (by simp [bitAt])]; rfl
  | k + 1, m + 1, v, h, h0, h1 => by
    have hp : (0 : Int) < 2 ^ k := Int.pow_pos (by omega)
    rw [Int.pow_succ] at h1
    unfold ref01_Isqrt_l2
    rw [show bitAt (k + 1) = 2 ^ k from rfl, if_pos (decide_eq_true hp), w64_of (v + 2 ^ k) (by omega), Chk_of (by omega)]
    have hq : 0 ≤ Int.tdiv n (v + 2 ^ k) ∧ Int.tdiv n (v + 2 ^ k) ≤ n := by
      have := (tdm n (v + 2 ^ k) (by omega)).2.2.2.1 hn.1
      omega
    simp only [Let_eq, decide_eq_true_eq]
    rw [w64_of _ (by omega)]
    unfold isqL ref01_Isqrt_j1
    simp only [Let_eq]
    rw [bit_half k (by omega)]
    by_cases c : (v + 2 ^ k) * (v + 2 ^ k) ≤ n
    · rw [if_pos c, if_pos ((le_div _ _ (by omega) hn.1).2 c)]
      exact ref_isq_l2 n hn kj k m (v + 2 ^ k) (by omega) (by omega) (by omega)
    · rw [if_neg c, if_neg (fun h => c ((le_div _ _ (by omega) hn.1).1 h))]
      exact ref_isq_l2 n hn kj k m v (by omega) h0 (by omega)
theorem ref01_Isqrt_eq (n : Int) : ref01_Isqrt n = some (isq n) := by
  unfold ref01_Isqrt isq ref01_outOfRange
  simp only [Let_eq, cond_or, Bool.or_eq_true, decide_eq_true_eq]
  by_cases h : n < 0 ∨ 4611686018427387904 < n
  · rw [if_pos h, if_pos (by omega)]
  · rw [if_neg h, if_neg (by omega)]
    exact ref_isq_l2 n (by omega) ref01_Isqrt_j3 32 fuel 0 (fuel_lt _ (by decide)) (by omega) (by decide)
theorem ref03_Sub_eq (a b : Vec) : ref03_Sub a b = subV a b := by unfold ref03_Sub; simp only [Let_eq, ref01_Sub_eq]; rfl
theorem ref03_Saturated_eq (a : Vec) : ref03_Saturated a = satV a := by unfold ref03_Saturated; simp only [Let_eq, ref01_Saturate_eq]; rfl
theorem ref03_Orientation_eq (a b c : Vec) : ref03_Orientation a b c = oriV a b c := by
  unfold ref03_Orientation; simp only [ref03_Saturated_eq, Let_eq, satV, decide_eq_true_eq]
  have h1 := diff_mul b.X a.X c.Y a.Y; have h2 := diff_mul b.Y a.Y c.X a.X
  have k1 := sat_bd a.X; have k2 := sat_bd a.Y; have k3 := sat_bd b.X; have k4 := sat_bd b.Y; have k5 := sat_bd c.X; have k6 := sat_bd c.Y
  rw [w64_of (sat b.X - sat a.X) (by omega), w64_of (sat c.Y - sat a.Y) (by omega), w64_of (sat b.Y - sat a.Y) (by omega), w64_of (sat c.X - sat a.X) (by omega), w64_of ((sat b.X - sat a.X) * (sat c.Y - sat a.Y)) (by omega), w64_of ((sat b.Y - sat a.Y) * (sat c.X - sat a.X)) (by omega), w64_of _ (by omega)]
  unfold oriV
  split
  · omega
  · split <;> omega
theorem ref03_Length_eq (v : Vec) : ref03_Length v = some (lenV v) := by
  unfold ref03_Length; simp only [ref03_Saturated_eq, Let_eq, satV]
  have h1 := sat_mul v.X v.X; have h2 := sat_mul v.Y v.Y
  rw [w64_of (sat v.X * sat v.X) (by omega), w64_of (sat v.Y * sat v.Y) (by omega), w64_of _ (by omega), ref01_Isqrt_eq]
  rfl
end GoOld


/- The plain law of angles and transforms. No conditions. -/
set_option linter.all false
open Go Go.Rx

namespace GoOld
open GoForm
def clampS (x lo hi : Int) : Int := if hi < lo ∨ x < lo then lo else if hi < x then hi else x
theorem fixed_Clamp_eq (x lo hi : Int) : fixed_Clamp x lo hi = clampS x lo hi := by
  unfold fixed_Clamp clampS; simp only [Let_eq, cond_or, Bool.or_eq_true, decide_eq_true_eq]
theorem mulS_bd (a b : Int) : -536870911 ≤ mulS a b ∧ mulS a b ≤ 536870911 := sat_bd _
theorem prodS_bd (a : Int) : -536870911 ≤ prodS a ∧ prodS a ≤ 536870911 := sat_bd _
theorem fixed_Div_eq (a b : Int) : fixed_Div a b = some (divS a b) := by
  unfold fixed_Div divS
  have ha := sat_bd a; have hb := sat_bd b
  simp only [Let_eq, fixed_Saturate_eq, beq_iff_eq, decide_eq_true_eq, fixed_Clamp_eq, fixed_RoundDiv_eq, Bind_some]
  rw [w64_of (sat a * 65536) (by omega), w64_of (0 - sat a * 65536) (by omega), w64_of (0 - sat b) (by omega)]
  by_cases h : sat b = 0
  · rw [if_pos h, if_pos h]
    congr 1
    by_cases h1 : 0 < sat a
    · rw [if_pos h1]; unfold clampS; rw [if_neg (by omega), if_pos (by omega)]; rfl
    · rw [if_neg h1]
      by_cases h2 : sat a < 0
      · rw [if_pos h2]; unfold clampS; rw [if_pos (by omega)]; rfl
      · rw [if_neg h2]; unfold clampS; rw [if_neg (by omega), if_neg (by omega), show sat a = 0 by omega]; rfl
  rw [if_neg h, if_neg h]
  have e1 : 0 - sat a * 65536 = -(sat a * 65536) := by omega
  have e2 : 0 - sat b = - sat b := by omega
  rw [e1, e2]
  split <;> rfl
def normA (a : Int) : Int :=
  if 205888 ≤ Int.tmod a 411776 then Int.tmod a 411776 - 411776 else if Int.tmod a 411776 < -205888 then Int.tmod a 411776 + 411776 else Int.tmod a 411776
theorem normA_bd (a : Int) : -205888 ≤ normA a ∧ normA a < 205888 := by
  have := tdm a 411776 (by omega)
  unfold normA
  split
  · omega
  · split <;> omega
theorem normA_id {a : Int} (h : -205888 ≤ a ∧ a < 205888) : normA a = a := by
  have := tdm a 411776 (by omega)
  have e : Int.tmod a 411776 = a := by
    by_cases h0 : 0 ≤ a
    · have := this.2.2.2.1 h0; omega
    · have := this.2.2.2.2 (by omega); omega
  unfold normA
  rw [e, if_neg (by omega), if_neg (by omega)]
theorem angle_Normalize_eq (a : Int) : angle_Normalize a = normA a := by
  have := tdm a 411776 (by omega)
  unfold angle_Normalize normA
  simp only [Let_eq, decide_eq_true_eq]
  rw [w64_of _ (by omega), w64_of _ (by omega)]
def absS (a : Int) : Int := if a < 0 then -a else a
theorem angle_abs_eq (a : Int) (h : -9223372036854775808 < a ∧ a ≤ 9223372036854775807) : angle_abs a = absS a := by
  unfold angle_abs absS
  simp only [Let_eq, decide_eq_true_eq]
  rw [w64_of _ (by omega)]
  split <;> omega
def sinQ (x : Int) : Int :=
  mulS (divS x 102944) (subS 102873 (mulS (mulS (divS x 102944) (divS x 102944)) (subS 41906 (mulS (mulS (divS x 102944) (divS x 102944)) 4569))))
def sinA (a : Int) : Int :=
  let x := absS (normA a)
  let q := if 102944 < x then 205888 - x else x
  if normA a < 0 then -(sinQ q) else sinQ q
theorem sinA_bd (a : Int) : -536870911 ≤ sinA a ∧ sinA a ≤ 536870911 := by
  unfold sinA
  have := fun q => mulS_bd (divS q 102944) (subS 102873 (mulS (mulS (divS q 102944) (divS q 102944)) (subS 41906 (mulS (mulS (divS q 102944) (divS q 102944)) 4569))))
  have h : ∀ q, -536870911 ≤ sinQ q ∧ sinQ q ≤ 536870911 := this
  have h2 := h (if 102944 < absS (normA a) then 205888 - absS (normA a) else absS (normA a))
  simp only
  split <;> omega
theorem angle_Sin_eq (a : Int) : angle_Sin a = some (sinA a) := by
  have hb := normA_bd a
  have ha : 0 ≤ absS (normA a) ∧ absS (normA a) ≤ 205888 := by unfold absS; split <;> omega
  have j : ∀ q, angle_Sin_j1 (normA a) q = some (if normA a < 0 then -(sinQ q) else sinQ q) := by
    intro q
    unfold angle_Sin_j1
    simp only [fixed_Div_eq, fixed_Mul_eq, fixed_Sub_eq, Bind_some, Let_eq, decide_eq_true_eq]
    rw [show mulS (divS q 102944) (subS 102873 (mulS (mulS (divS q 102944) (divS q 102944)) (subS 41906 (mulS (mulS (divS q 102944) (divS q 102944)) 4569)))) = sinQ q from rfl]
    have h : -536870911 ≤ sinQ q ∧ sinQ q ≤ 536870911 := mulS_bd _ _
    rw [w64_of _ (by omega), show 0 - sinQ q = -sinQ q by omega]
    split <;> rfl
  unfold angle_Sin sinA
  simp only [Let_eq, angle_Normalize_eq, angle_abs_eq _ (show -9223372036854775808 < normA a ∧ normA a ≤ 9223372036854775807 by omega), decide_eq_true_eq, j]
  rw [w64_of _ (by omega)]
  split <;> rfl
def cosA (a : Int) : Int := sinA (102944 - absS (normA a))
theorem angle_Cos_eq (a : Int) : angle_Cos a = some (cosA a) := by
  have hb := normA_bd a
  have ha : 0 ≤ absS (normA a) ∧ absS (normA a) ≤ 205888 := by unfold absS; split <;> omega
  unfold angle_Cos cosA
  simp only [Let_eq, angle_Normalize_eq, angle_abs_eq _ (show -9223372036854775808 < normA a ∧ normA a ≤ 9223372036854775807 by omega), angle_Sin_eq, Bind_some]
  rw [w64_of _ (by omega)]
def rotA (a : Int) : Rot := ⟨divS (cosA a) (isq (cosA a * cosA a + sinA a * sinA a)), divS (sinA a) (isq (cosA a * cosA a + sinA a * sinA a))⟩
theorem cosA_bd (a : Int) : -536870911 ≤ cosA a ∧ cosA a ≤ 536870911 := sinA_bd _
theorem angle_Rot_eq (a : Int) : angle_Rot a = some (rotA a) := by
  have h1 := mul_bd 536870911 536870911 (sinA_bd a) (sinA_bd a)
  have h2 := mul_bd 536870911 536870911 (cosA_bd a) (cosA_bd a)
  unfold angle_Rot rotA
  simp only [Let_eq, angle_Cos_eq, angle_Sin_eq, Bind_some, fixed_Isqrt_eq, fixed_Div_eq]
  rw [w64_of (cosA a * cosA a) (by omega), w64_of (sinA a * sinA a) (by omega), w64_of _ (by omega)]
def rotV (r : Rot) (v : Vec) : Vec := ⟨prodS (sat r.Cos * sat v.X - sat r.Sin * sat v.Y), prodS (sat r.Sin * sat v.X + sat r.Cos * sat v.Y)⟩
theorem vec2_Rotate_eq (r : Rot) (v : Vec) : vec2_Rotate r v = some (rotV r v) := by
  have h1 := sat_mul r.Cos v.X; have h2 := sat_mul r.Sin v.Y; have h3 := sat_mul r.Sin v.X; have h4 := sat_mul r.Cos v.Y
  unfold vec2_Rotate rotV
  simp only [Let_eq, fixed_Saturate_eq, vec2_saturate_eq, satV, vec2_product_eq, Bind_some]
  rw [w64_of (sat r.Cos * sat v.X) (by omega), w64_of (sat r.Sin * sat v.Y) (by omega), w64_of (sat r.Sin * sat v.X) (by omega), w64_of (sat r.Cos * sat v.Y) (by omega), w64_of (sat r.Cos * sat v.X - sat r.Sin * sat v.Y) (by omega), w64_of (sat r.Sin * sat v.X + sat r.Cos * sat v.Y) (by omega)]
def applyT (t : Transform) (v : Vec) : Vec := addV (rotV (rotA t.Angle) v) t.Position
theorem transform_Apply_eq (t : Transform) (v : Vec) : transform_Apply t v = some (applyT t v) := by
  unfold transform_Apply; simp only [angle_Rot_eq, vec2_Rotate_eq, Bind_some, Let_eq, vec2_Add_eq]; rfl
end GoOld


/- The plain law of angles and transforms: the reference computes the same. No conditions. -/
set_option linter.all false
open Go Go.Rx

namespace GoOld
open GoForm
end GoOld


/- The plain law of polygons and shapes. No conditions. -/
set_option linter.all false
open Go Go.Rx

namespace GoOld
open GoForm
def inRng (lim : Int) (v : Vec) : Bool := decide (-lim ≤ v.X) && decide (v.X ≤ lim) && decide (-lim ≤ v.Y) && decide (v.Y ≤ lim)
theorem inRng_iff (lim : Int) (v : Vec) : inRng lim v = true ↔ -lim ≤ v.X ∧ v.X ≤ lim ∧ -lim ≤ v.Y ∧ v.Y ≤ lim := by
  unfold inRng; simp only [Bool.and_eq_true, decide_eq_true_eq]; exact ⟨fun h => ⟨h.1.1.1, h.1.1.2, h.1.2, h.2⟩, fun h => ⟨⟨⟨h.1, h.2.1⟩, h.2.2.1⟩, h.2.2.2⟩⟩
theorem polygon_inReach_eq (v : Vec) : polygon_inReach v = inRng 1048576 v := by
  unfold polygon_inReach inRng; simp only [Let_eq, cond_and]
theorem polygon_allInReach_eq (vs : List Vec) (h : vs.length ≤ 4611686018427387904) : polygon_allInReach vs = some (vs.all (inRng 1048576)) := by
  unfold polygon_allInReach
  have := loop_gen vs.length (fun j => inRng 1048576 (ix vs (j : Int))) (fun _ (s : Unit) => s) (fun _ _ => True) (fun n _ i => polygon_allInReach_l1 vs polygon_allInReach_j2 n i) (fun _ => some true) (some false)
    (fun n i s hi _ => by
      refine ⟨?_, fun _ => trivial⟩
      rw [polygon_allInReach_l1]
      rw [if_pos (by simpa using hi), Chk_of (by omega), Let_eq, Let_eq, Let_eq, polygon_inReach_eq, w64_of _ (by omega)]
      cases inRng 1048576 (ix vs (i : Int)) <;> rfl)
    (fun n s _ => by rw [polygon_allInReach_l1, if_neg (by simp)]; rfl)
    fuel 0 () (by omega) (fuel_lt _ (by omega)) trivial
  rw [Nat.sub_zero, allR_all] at this
  rw [show polygon_allInReach_l1 vs polygon_allInReach_j2 fuel 0 = polygon_allInReach_l1 vs polygon_allInReach_j2 fuel ((0 : Nat) : Int) from rfl, this]
  cases vs.all (inRng 1048576) <;> rfl
def nxt (vs : List Vec) (i : Nat) : Int := Int.tmod ((i : Int) + 1) vs.length
theorem nxt_bd (vs : List Vec) (i : Nat) (h : 0 < vs.length) : 0 ≤ nxt vs i ∧ nxt vs i < vs.length := by
  have := tdm ((i : Int) + 1) vs.length (by omega)
  unfold nxt; omega
def leftOf (vs : List Vec) (i : Nat) (j : Nat) : Bool := (j : Int) == (i : Int) || (j : Int) == nxt vs i || oriV (ix vs (i : Int)) (ix vs (nxt vs i)) (ix vs (j : Int)) == 1
def convexB (vs : List Vec) : Bool :=
  decide (3 ≤ vs.length) && decide (vs.length ≤ 8) && vs.all (inRng 1048576) && allR (fun i => allR (leftOf vs i) 0 vs.length) 0 vs.length
theorem convexB_len {vs : List Vec} (h : convexB vs = true) : 3 ≤ vs.length ∧ vs.length ≤ 8 ∧ ∀ v ∈ vs, inRng 1048576 v = true := by
  unfold convexB at h
  simp only [Bool.and_eq_true, decide_eq_true_eq, List.all_eq_true] at h
  exact ⟨h.1.1.1, h.1.1.2, h.1.2⟩
theorem IsConvex_in (vs : List Vec) (h8 : 3 ≤ vs.length ∧ vs.length ≤ 8) (i : Nat) (hi : i < vs.length) (kj : Option Bool) :
    polygon_IsConvex_l1 vs (i : Int) kj (ix vs (i : Int)) (nxt vs i) fuel 0 = if allR (leftOf vs i) 0 vs.length = true then kj else some false := by
  have hb := nxt_bd vs i (by omega)
  have := loop_gen vs.length (leftOf vs i) (fun _ (s : Unit) => s) (fun _ _ => True) (fun n _ j => polygon_IsConvex_l1 vs (i : Int) kj (ix vs (i : Int)) (nxt vs i) n j) (fun _ => kj) (some false)
    (fun n j s hj _ => by
      refine ⟨?_, fun _ => trivial⟩
      rw [polygon_IsConvex_l1]
      rw [if_pos (by simpa using hj), Chk_of (by omega), Let_eq, Chk_of (by intro _; omega), Let_eq, Let_eq, vec2_Orientation_eq, w64_of _ (by omega)]
      unfold leftOf
      by_cases h1 : (j : Int) = (i : Int)
      · simp [h1]
      · by_cases h2 : (j : Int) = nxt vs i
        · simp [h1, h2]
        · by_cases h3 : oriV (ix vs (i : Int)) (ix vs (nxt vs i)) (ix vs (j : Int)) = 1
          · simp [h1, h2, h3]
          · simp [h1, h2, h3])
    (fun n s _ => by rw [polygon_IsConvex_l1, if_neg (by simp)])
    fuel 0 () (by omega) (fuel_lt _ (by omega)) trivial
  simpa using this
theorem polygon_IsConvex_eq (vs : List Vec) : polygon_IsConvex vs = some (convexB vs) := by
  unfold polygon_IsConvex
  simp only [cond_or]
  by_cases h : (vs.length : Int) < 3 ∨ 8 < (vs.length : Int)
  · have e : (decide ((vs.length : Int) < 3) || decide (8 < (vs.length : Int))) = true := by simpa using h
    rw [e, if_neg (by simp), Bind_some, if_pos (by simp)]
    unfold convexB
    have : (decide (3 ≤ vs.length) && decide (vs.length ≤ 8)) = false := by
      simp only [Bool.and_eq_false_iff, decide_eq_false_iff_not]; omega
    rw [this]; rfl
  · have e : (decide ((vs.length : Int) < 3) || decide (8 < (vs.length : Int))) = false := by simp; omega
    rw [e, if_pos (by simp), polygon_allInReach_eq vs (by omega), Bind_some]
    unfold convexB
    have : (decide (3 ≤ vs.length) && decide (vs.length ≤ 8)) = true := by simp; omega
    rw [this, Bool.true_and]
    cases hA : vs.all (inRng 1048576)
    · rfl
    rw [if_neg (by simp)]
    have := loop_gen vs.length (fun i => allR (leftOf vs i) 0 vs.length) (fun _ (s : Unit) => s) (fun _ _ => True) (fun n _ j => polygon_IsConvex_l3 vs polygon_IsConvex_j4 n j) (fun _ => some true) (some false)
      (fun n i s hi _ => by
        refine ⟨?_, fun _ => trivial⟩
        rw [polygon_IsConvex_l3]
        rw [if_pos (by simpa using hi), Chk_of (by omega), Let_eq, Chk_of (by omega), Let_eq, w64_of ((i : Int) + 1) (by omega)]
        rw [show Int.tmod ((i : Int) + 1) (vs.length : Int) = nxt vs i from rfl, IsConvex_in vs (by omega) i hi]
        unfold polygon_IsConvex_j2
        rw [Let_eq, w64_of ((i : Int) + 1) (by omega)])
      (fun n s _ => by rw [polygon_IsConvex_l3, if_neg (by simp)]; rfl)
      fuel 0 () (by omega) (fuel_lt _ (by omega)) trivial
    rw [show polygon_IsConvex_l3 vs polygon_IsConvex_j4 fuel 0 = polygon_IsConvex_l3 vs polygon_IsConvex_j4 fuel ((0 : Nat) : Int) from rfl, this, Nat.sub_zero, Bool.true_and]
    cases allR (fun i => allR (leftOf vs i) 0 vs.length) 0 vs.length <;> rfl
def edgeL (vs : List Vec) (i : Nat) : Int := lenV (subV (ix vs (nxt vs i)) (ix vs (i : Int)))
def shortE (vs : List Vec) : Int := if convexB vs = true then foldR (fun i m => min m (edgeL vs i)) 0 vs.length 536870911 else 0
theorem polygon_ShortestEdge_eq (vs : List Vec) : polygon_ShortestEdge vs = some (shortE vs) := by
  unfold polygon_ShortestEdge shortE
  rw [polygon_IsConvex_eq, Bind_some]
  cases hc : convexB vs
  · rfl
  obtain ⟨h3, h8, -⟩ := convexB_len hc
  rw [if_neg (by simp), if_pos rfl]
  have := loop_gen vs.length (fun _ => true) (fun i m => min m (edgeL vs i)) (fun _ _ => True) (fun n m j => polygon_ShortestEdge_l1 vs polygon_ShortestEdge_j2 n m j) (fun m => some m) (some 0)
    (fun n i m hi _ => by
      refine ⟨?_, fun _ => trivial⟩
      have hb := nxt_bd vs i (by omega)
      rw [polygon_ShortestEdge_l1]
      rw [if_pos (by simpa using hi), Chk_of (by omega), Let_eq, Chk_of (by omega), w64_of ((i : Int) + 1) (by omega)]
      rw [show Int.tmod ((i : Int) + 1) (vs.length : Int) = nxt vs i from rfl, Chk_of hb, Let_eq, vec2_Sub_eq, vec2_Length_eq, Bind_some, Let_eq, Let_eq, if_pos rfl]; rfl)
    (fun n s _ => by rw [polygon_ShortestEdge_l1, if_neg (by simp)]; rfl)
    fuel 0 536870911 (by omega) (fuel_lt _ (by omega)) trivial
  rw [Nat.sub_zero, allR_tt, if_pos rfl] at this
  exact this
def crossAt (vs : List Vec) (i : Nat) : Int :=
  rdv (w64 (((ix vs (i : Int)).X - (ix vs 0).X) * ((ix vs ((i : Int) + 1)).Y - (ix vs 0).Y) - ((ix vs (i : Int)).Y - (ix vs 0).Y) * ((ix vs ((i : Int) + 1)).X - (ix vs 0).X))) 65536
def triAt (vs : List Vec) (i : Nat) : polygon_triangle :=
  ⟨⟨w64 ((ix vs (i : Int)).X - (ix vs 0).X), w64 ((ix vs (i : Int)).Y - (ix vs 0).Y)⟩, ⟨w64 ((ix vs ((i : Int) + 1)).X - (ix vs 0).X), w64 ((ix vs ((i : Int) + 1)).Y - (ix vs 0).Y)⟩, crossAt vs i⟩
def crossSum (vs : List Vec) : Int := foldR (fun i a => w64 (a + crossAt vs i)) 1 (vs.length - 2) 0
theorem polygon_fan_eq (vs : List Vec) (h : 3 ≤ vs.length ∧ vs.length ≤ 8) : polygon_fan vs = some ((List.range' 1 (vs.length - 2)).map (triAt vs), crossSum vs) := by
  unfold polygon_fan
  rw [Chk_of (by omega), Let_eq]
  have := loop_gen (vs.length - 1) (fun _ => true) (fun i (s : List polygon_triangle × Int) => (s.1 ++ [triAt vs i], w64 (s.2 + crossAt vs i))) (fun i s => 1 ≤ i ∧ s.1.length + 1 = i)
    (fun n s j => polygon_fan_l1 vs (ix vs 0) polygon_fan_j2 n s.1 s.2 j) (fun s => some s) none
    (fun n i s hi hI => by
      refine ⟨?_, fun _ => ⟨by omega, by simp; omega⟩⟩
      rw [polygon_fan_l1]
      rw [w64_of ((i : Int) + 1) (by omega), if_pos (by simp; omega), Chk_of (by omega), Chk_of (by omega), Let_eq, Chk_of (by omega), Chk_of (by omega), Let_eq, fixed_RoundDiv_eq, Bind_some, Chk_of (by simp; omega), Let_eq, Let_eq, Let_eq, if_pos rfl]
      simp only [w64_ml, w64_mr, w64_sl, w64_sr]
      rfl)
    (fun n s hI => by rw [polygon_fan_l1, w64_of _ (by omega), if_neg (by simp; omega)]; rfl)
    fuel 1 ([], 0) (by omega) (fuel_lt _ (by omega)) ⟨by omega, rfl⟩
  rw [allR_tt, if_pos rfl, show vs.length - 1 - 1 = vs.length - 2 by omega, foldR_pair (fun i (l : List polygon_triangle) => l ++ [triAt vs i]) (fun i a => w64 (a + crossAt vs i)), foldR_list] at this
  exact this
def areaV (vs : List Vec) : Int := if convexB vs = true then rdv (crossSum vs) 2 else 0
theorem polygon_Area_eq (vs : List Vec) : polygon_Area vs = some (areaV vs) := by
  unfold polygon_Area areaV
  rw [polygon_IsConvex_eq, Bind_some]
  cases hc : convexB vs
  · rfl
  obtain ⟨h3, h8, -⟩ := convexB_len hc
  rw [if_neg (by simp), if_pos rfl, polygon_fan_eq vs ⟨h3, h8⟩, Bind_some, fixed_RoundDiv_eq]; rfl
def momX (vs : List Vec) : Int := foldR (fun i a => w64 (a + ((triAt vs i).e.X + (triAt vs i).f.X) * crossAt vs i)) 1 (vs.length - 2) 0
def momY (vs : List Vec) : Int := foldR (fun i a => w64 (a + ((triAt vs i).e.Y + (triAt vs i).f.Y) * crossAt vs i)) 1 (vs.length - 2) 0
def centV (vs : List Vec) : Vec :=
  if convexB vs = true then
    if crossSum vs = 0 then ix vs 0 else ⟨w64 ((ix vs 0).X + rdv (momX vs) (w64 (3 * crossSum vs))), w64 ((ix vs 0).Y + rdv (momY vs) (w64 (3 * crossSum vs)))⟩
  else ⟨0, 0⟩
theorem polygon_Centroid_eq (vs : List Vec) : polygon_Centroid vs = some (centV vs) := by
  unfold polygon_Centroid centV
  rw [polygon_IsConvex_eq, Bind_some]
  cases hc : convexB vs
  · rfl
  obtain ⟨h3, h8, -⟩ := convexB_len hc
  rw [if_neg (by simp), if_pos rfl, polygon_fan_eq vs ⟨h3, h8⟩, Bind_some]
  simp only [beq_iff_eq]
  by_cases h0 : crossSum vs = 0
  · rw [if_pos h0, if_pos h0, Chk_of (by omega)]; rfl
  rw [if_neg h0, if_neg h0]
  have := loop_gen (vs.length - 2) (fun _ => true) (fun i (s : Int × Int) => (w64 (s.1 + ((triAt vs (i + 1)).e.X + (triAt vs (i + 1)).f.X) * crossAt vs (i + 1)), w64 (s.2 + ((triAt vs (i + 1)).e.Y + (triAt vs (i + 1)).f.Y) * crossAt vs (i + 1)))) (fun i s => True)
    (fun n s j => polygon_Centroid_l1 ((List.range' 1 (vs.length - 2)).map (triAt vs), crossSum vs) (polygon_Centroid_j2 vs ((List.range' 1 (vs.length - 2)).map (triAt vs), crossSum vs)) n s.1 s.2 j)
    (fun s => polygon_Centroid_j2 vs ((List.range' 1 (vs.length - 2)).map (triAt vs), crossSum vs) s.1 s.2) none
    (fun n i s hi _ => by
      refine ⟨?_, fun _ => trivial⟩
      rw [polygon_Centroid_l1]
      rw [if_pos (by simp; omega), Chk_of (by simp; omega), Let_eq, ix_map_range _ _ _ _ (by omega), Nat.add_comm 1 i, Let_eq, Let_eq, Let_eq, w64_of ((i : Int) + 1) (by omega), if_pos rfl]
      simp only [w64_ar, w64_ml]
      rfl)
    (fun n s _ => by rw [polygon_Centroid_l1, if_neg (by simp)])
    fuel 0 (0, 0) (by omega) (fuel_lt _ (by omega)) trivial
  rw [Nat.sub_zero, allR_tt, if_pos rfl, foldR_pair (fun i a => w64 (a + ((triAt vs (i + 1)).e.X + (triAt vs (i + 1)).f.X) * crossAt vs (i + 1))) (fun i a => w64 (a + ((triAt vs (i + 1)).e.Y + (triAt vs (i + 1)).f.Y) * crossAt vs (i + 1)))] at this
  simp only at this
  rw [← foldR_shift (fun i a => w64 (a + ((triAt vs i).e.X + (triAt vs i).f.X) * crossAt vs i)), ← foldR_shift (fun i a => w64 (a + ((triAt vs i).e.Y + (triAt vs i).f.Y) * crossAt vs i))] at this
  refine Eq.trans this ?_
  unfold polygon_Centroid_j2
  rw [Chk_of (by omega)]
  simp only [fixed_RoundDiv_eq, Bind_some, Let_eq]
  rw [Chk_of (by omega)]
  rfl
def countB (s : Shape) : Bool := if s.Kind = 1 then s.Vertices.length == 1 else if s.Kind = 2 then s.Vertices.length == 2 else decide (3 ≤ s.Vertices.length) && decide (s.Vertices.length ≤ 8)
theorem shape_validCount_eq (s : Shape) : shape_validCount s = countB s := by
  unfold shape_validCount countB
  simp only [Let_eq, beq_iff_eq, cond_and]
  split
  · rw [Bool.eq_iff_iff]; simp only [beq_iff_eq]; omega
  · split
    · rw [Bool.eq_iff_iff]; simp only [beq_iff_eq]; omega
    · rw [Bool.eq_iff_iff]; simp only [Bool.and_eq_true, decide_eq_true_eq]; omega
theorem countB_len {s : Shape} (h : countB s = true) : 1 ≤ s.Vertices.length ∧ s.Vertices.length ≤ 8 ∧ (s.Kind = 2 → s.Vertices.length = 2) := by
  unfold countB at h
  by_cases h1 : s.Kind = 1
  · rw [if_pos h1] at h; simp only [beq_iff_eq] at h; omega
  rw [if_neg h1] at h
  by_cases h2 : s.Kind = 2
  · rw [if_pos h2] at h; simp only [beq_iff_eq] at h; omega
  rw [if_neg h2] at h; simp only [Bool.and_eq_true, decide_eq_true_eq] at h; omega
theorem IndexFunc_Vec_eq (l : List Vec) (p : Vec → Bool) (hl : l.length ≤ 4611686018427387904) : slices_ContainsFunc_Vec l (fun y => some (p y)) = some (l.any p) := by
  have key : ∀ n i : Nat, i ≤ l.length → l.length - i < n → ∃ r, slices_IndexFunc_Vec_l1 l (fun y => some (p y)) slices_IndexFunc_Vec_j2 n (i : Int) = some r ∧ (decide (0 ≤ r)) = (l.drop i).any p := by
    intro n
    induction n with
    | zero => intro i _ h; omega
    | succ n ih =>
      intro i hi h
      unfold slices_IndexFunc_Vec_l1
      by_cases hlt : i < l.length
      · rw [if_pos (by simpa using hlt), Chk_of (by omega), Bind_some, drop_ix l i hlt, List.any_cons]
        cases hp : p (ix l (i : Int))
        · rw [if_neg (by simp), Let_eq, w64_of _ (by omega), Bool.false_or]
          exact ih (i + 1) (by omega) (by omega)
        · rw [if_pos rfl]
          exact ⟨i, rfl, by simp⟩
      · rw [if_neg (by simpa using hlt)]
        refine ⟨-1, rfl, ?_⟩
        rw [List.drop_of_length_le (by omega)]; rfl
  obtain ⟨r, h1, h2⟩ := key fuel 0 (by omega) (fuel_lt _ (by omega))
  unfold slices_ContainsFunc_Vec slices_IndexFunc_Vec
  rw [show slices_IndexFunc_Vec_l1 l (fun y => some (p y)) slices_IndexFunc_Vec_j2 fuel 0 = some r from h1, Bind_some, Let_eq, h2]; rfl
def radiusBad (s : Shape) : Bool := if s.Kind = 3 then s.Radius != 0 else decide (s.Radius < 2048) || decide (524288 < s.Radius)
def validS (s : Shape) : Int :=
  if s.Kind < 1 ∨ 3 < s.Kind then 10 else if countB s = false then 11 else if s.Vertices.all (inRng 1048576) = false then 6 else if radiusBad s = true then 6 else
  if s.Kind = 2 ∧ lenV (subV (ix s.Vertices 1) (ix s.Vertices 0)) < 4096 then 12 else
  if s.Kind = 3 ∧ (convexB s.Vertices = false ∨ shortE s.Vertices < 4096 ∨ areaV s.Vertices < 256) then 12 else 0
theorem shape_Validate_c1_eq (v : Vec) : shape_Validate_c1 v = !inRng 1048576 v := by
  unfold shape_Validate_c1 shape_outOfRange inRng
  simp only [Let_eq, cond_or]
  rw [Bool.eq_iff_iff]
  simp only [Bool.or_eq_true, decide_eq_true_eq, Bool.not_eq_true', Bool.and_eq_false_iff, decide_eq_false_iff_not]
  omega
theorem any_not (l : List Vec) (p : Vec → Bool) : l.any (fun v => !p v) = !l.all p := by
  induction l with
  | nil => rfl
  | cons a l ih => rw [List.any_cons, List.all_cons, ih]; cases p a <;> rfl
theorem shape_Validate_eq (s : Shape) : shape_Validate s = some (validS s) := by
  unfold shape_Validate validS
  simp only [Let_eq, cond_or, Bool.or_eq_true, decide_eq_true_eq, shape_validCount_eq]
  by_cases h1 : s.Kind < 1 ∨ 3 < s.Kind
  · rw [if_pos h1, if_pos h1]
  rw [if_neg h1, if_neg h1]
  cases hc : countB s
  · rfl
  obtain ⟨l1, l8, l2⟩ := countB_len hc
  rw [if_neg (by simp), if_neg (show ¬ true = false by simp)]
  have ef : (fun (y0 : Vec) => some (shape_Validate_c1 y0)) = fun y => some (!inRng 1048576 y) := funext fun y => by rw [shape_Validate_c1_eq]
  rw [ef, IndexFunc_Vec_eq _ (fun y => !inRng 1048576 y) (by omega), Bind_some, any_not]
  cases ha : s.Vertices.all (inRng 1048576)
  · rfl
  rw [if_neg (by simp), if_neg (show ¬ true = false by simp)]
  have j : ∀ v5, shape_Validate_j1 s v5 = some (if v5 = true then 6 else if s.Kind = 2 ∧ lenV (subV (ix s.Vertices 1) (ix s.Vertices 0)) < 4096 then 12 else
      if s.Kind = 3 ∧ (convexB s.Vertices = false ∨ shortE s.Vertices < 4096 ∨ areaV s.Vertices < 256) then 12 else 0) := by
    intro v5
    unfold shape_Validate_j1
    by_cases hv : v5 = true
    · rw [if_pos hv, if_pos hv]
    rw [if_neg hv, if_neg hv, Chk_of (by intro h; simp at h; have := l2 h; omega), Chk_of (by intro h; simp at h; have := l2 h; omega), Let_eq, vec2_Sub_eq]
    simp only [vec2_Length_eq, polygon_IsConvex_eq, polygon_ShortestEdge_eq, polygon_Area_eq, Let_eq, cond_and, cond_or, Bool.and_eq_true, decide_eq_true_eq, beq_iff_eq]
    by_cases k2 : s.Kind = 2
    · by_cases hl : lenV (subV (ix s.Vertices 1) (ix s.Vertices 0)) < 4096
      · simp [k2, hl]
      · simp [k2, hl]
    · by_cases k3 : s.Kind = 3
      · cases hcx : convexB s.Vertices
        · simp [k3]
        · by_cases hsE : shortE s.Vertices < 4096
          · simp [k3, hsE, show ¬ (4096 ≤ shortE s.Vertices) by omega]
          · by_cases hA : areaV s.Vertices < 256 <;> simp [k3, hsE, hA, show (4096 ≤ shortE s.Vertices) by omega]
      · simp [k2, k3]
  simp only [cond_and, cond_or]
  unfold radiusBad
  by_cases k3 : s.Kind = 3
  · have e1 : (s.Kind == 3) = true := by simpa using k3
    have e2 : (s.Kind != 3) = false := by simpa using k3
    rw [e2, Bool.false_and, if_pos k3]
    cases h0 : (s.Radius != 0)
    · simp [k3, h0, j]
    · simp [k3, h0, j]
  · have e1 : (s.Kind == 3) = false := by simpa using k3
    have e2 : (s.Kind != 3) = true := by simpa using k3
    rw [e2, Bool.true_and, if_neg k3]; simp [k3, j]
end GoOld


/- The plain law of polygons and shapes: the reference computes the same. No conditions. -/
set_option linter.all false
open Go Go.Rx

namespace GoOld
open GoForm
theorem ref11_inRange_eq (v : Vec) : ref11_inRange v = inRng 1048576 v := by
  unfold ref11_inRange inRng; simp only [Let_eq, cond_and]
theorem ref_IsConvex_in (vs : List Vec) (h8 : 3 ≤ vs.length ∧ vs.length ≤ 8) (i : Nat) (hi : i < vs.length) (kj : Option Bool) :
    ref11_IsConvex_l2 vs (i : Int) kj (nxt vs i) fuel 0 = if allR (leftOf vs i) 0 vs.length = true then kj else some false := by
  have hb := nxt_bd vs i (by omega)
  have := loop_gen vs.length (leftOf vs i) (fun _ (s : Unit) => s) (fun _ _ => True) (fun n _ j => ref11_IsConvex_l2 vs (i : Int) kj (nxt vs i) n j) (fun _ => kj) (some false)
    (fun n j s hj _ => by
      refine ⟨?_, fun _ => trivial⟩
      rw [ref11_IsConvex_l2]
      rw [if_pos (by simpa using hj), Chk_of (by intro _; omega), Chk_of (by intro _; omega), Chk_of (by intro _; omega), Let_eq, Let_eq, ref03_Orientation_eq, w64_of _ (by omega)]
      unfold leftOf
      by_cases h1 : (j : Int) = (i : Int)
      · simp [h1]
      · by_cases h2 : (j : Int) = nxt vs i
        · simp [h1, h2]
        · by_cases h3 : oriV (ix vs (i : Int)) (ix vs (nxt vs i)) (ix vs (j : Int)) = 1
          · simp [h1, h2, h3]
          · simp [h1, h2, h3])
    (fun n s _ => by rw [ref11_IsConvex_l2, if_neg (by simp)])
    fuel 0 () (by omega) (fuel_lt _ (by omega)) trivial
  simpa using this
theorem ref11_IsConvex_eq (vs : List Vec) : ref11_IsConvex vs = some (convexB vs) := by
  unfold ref11_IsConvex
  simp only [cond_or]
  by_cases h : (vs.length : Int) < 3 ∨ 8 < (vs.length : Int)
  · rw [if_pos (by simpa using h)]
    unfold convexB
    have : (decide (3 ≤ vs.length) && decide (vs.length ≤ 8)) = false := by
      simp only [Bool.and_eq_false_iff, decide_eq_false_iff_not]; omega
    rw [this]; rfl
  · rw [if_neg (by simpa using h)]
    unfold convexB
    have : (decide (3 ≤ vs.length) && decide (vs.length ≤ 8)) = true := by simp; omega
    rw [this, Bool.true_and]
    have := loop_gen vs.length (fun j => inRng 1048576 (ix vs (j : Int))) (fun _ (s : Unit) => s) (fun _ _ => True) (fun n _ i => ref11_IsConvex_l1 vs (ref11_IsConvex_j6 vs) n i) (fun _ => ref11_IsConvex_j6 vs) (some false)
      (fun n i s hi _ => by
        refine ⟨?_, fun _ => trivial⟩
        rw [ref11_IsConvex_l1]
        rw [if_pos (by simpa using hi), Chk_of (by omega), Let_eq, Let_eq, ref11_inRange_eq, w64_of _ (by omega)]
        cases inRng 1048576 (ix vs (i : Int)) <;> rfl)
      (fun n s _ => by rw [ref11_IsConvex_l1, if_neg (by simp)])
      fuel 0 () (by omega) (fuel_lt _ (by omega)) trivial
    rw [Nat.sub_zero, allR_all] at this
    rw [show ref11_IsConvex_l1 vs (ref11_IsConvex_j6 vs) fuel 0 = ref11_IsConvex_l1 vs (ref11_IsConvex_j6 vs) fuel ((0 : Nat) : Int) from rfl, this]
    cases hA : vs.all (inRng 1048576)
    · rfl
    rw [if_pos rfl]
    unfold ref11_IsConvex_j6
    have := loop_gen vs.length (fun i => allR (leftOf vs i) 0 vs.length) (fun _ (s : Unit) => s) (fun _ _ => True) (fun n _ j => ref11_IsConvex_l4 vs ref11_IsConvex_j5 n j) (fun _ => some true) (some false)
      (fun n i s hi _ => by
        refine ⟨?_, fun _ => trivial⟩
        rw [ref11_IsConvex_l4]
        rw [if_pos (by simpa using hi), Chk_of (by omega), Let_eq, w64_of ((i : Int) + 1) (by omega)]
        rw [show Int.tmod ((i : Int) + 1) (vs.length : Int) = nxt vs i from rfl, ref_IsConvex_in vs (by omega) i hi]
        unfold ref11_IsConvex_j3
        rw [Let_eq, w64_of ((i : Int) + 1) (by omega)])
      (fun n s _ => by rw [ref11_IsConvex_l4, if_neg (by simp)]; rfl)
      fuel 0 () (by omega) (fuel_lt _ (by omega)) trivial
    rw [show ref11_IsConvex_l4 vs ref11_IsConvex_j5 fuel 0 = ref11_IsConvex_l4 vs ref11_IsConvex_j5 fuel ((0 : Nat) : Int) from rfl, this, Nat.sub_zero, Bool.true_and]
    cases allR (fun i => allR (leftOf vs i) 0 vs.length) 0 vs.length <;> rfl
theorem lenV_bd (v : Vec) (h : -2097152 ≤ v.X ∧ v.X ≤ 2097152) (h2 : -2097152 ≤ v.Y ∧ v.Y ≤ 2097152) : 0 ≤ lenV v ∧ lenV v ≤ 4194304 := by
  have h3 := mul_bd 2097152 2097152 h h
  have h4 := mul_bd 2097152 2097152 h2 h2
  unfold lenV
  rw [sat_id (x := v.X) (by omega), sat_id (x := v.Y) (by omega)]
  have h5 := isq_bd (v.X * v.X + v.Y * v.Y)
  have p1 : 0 ≤ v.X * v.X := by rw [← Int.natAbs_mul_self]; exact Int.natCast_nonneg _
  have p2 : 0 ≤ v.Y * v.Y := by rw [← Int.natAbs_mul_self]; exact Int.natCast_nonneg _
  have h6 := h5.2.2 (by omega)
  refine ⟨h5.1, ?_⟩
  by_cases c : isq (v.X * v.X + v.Y * v.Y) ≤ 4194304
  · exact c
  · have := Int.mul_le_mul (show (4194305 : Int) ≤ isq (v.X * v.X + v.Y * v.Y) by omega) (show (4194305 : Int) ≤ isq (v.X * v.X + v.Y * v.Y) by omega) (by omega) (by omega)
    omega
theorem edgeL_bd {vs : List Vec} (hc : convexB vs = true) (i : Nat) (hi : i < vs.length) : 0 ≤ edgeL vs i ∧ edgeL vs i ≤ 4194304 := by
  obtain ⟨h3, h8, hr⟩ := convexB_len hc
  have hb := nxt_bd vs i (by omega)
  have h1 := (inRng_iff _ _).1 (hr _ (ix_mem vs (nxt vs i) hb))
  have h2 := (inRng_iff _ _).1 (hr _ (ix_mem vs (i : Int) (by omega)))
  have s : ∀ a b : Int, -1048576 ≤ a ∧ a ≤ 1048576 → -1048576 ≤ b ∧ b ≤ 1048576 → -2097152 ≤ subS a b ∧ subS a b ≤ 2097152 := by
    intro a b ha hb
    unfold subS
    rw [sat_id (x := a) (by omega), sat_id (x := b) (by omega), sat_id (by omega)]; omega
  exact lenV_bd _ (s _ _ (by omega) (by omega)) (s _ _ (by omega) (by omega))
theorem ref11_ShortestEdge_eq (vs : List Vec) : ref11_ShortestEdge vs = some (shortE vs) := by
  unfold ref11_ShortestEdge shortE
  rw [ref11_IsConvex_eq, Bind_some]
  cases hc : convexB vs
  · rfl
  obtain ⟨h3, h8, -⟩ := convexB_len hc
  rw [if_neg (by simp), if_pos rfl]
  have step : ∀ (n i : Nat) (m : Int), i < vs.length → ref11_ShortestEdge_l2 vs ref11_ShortestEdge_j3 (n + 1) m (i : Int) = ref11_ShortestEdge_l2 vs ref11_ShortestEdge_j3 n (if m < 0 ∨ edgeL vs i < m then edgeL vs i else m) ((i : Int) + 1) := by
    intro n i m hi
    have hb := nxt_bd vs i (by omega)
    rw [ref11_ShortestEdge_l2]
    rw [if_pos (by simpa using hi), Chk_of (by omega), w64_of ((i : Int) + 1) (by omega)]
    rw [show Int.tmod ((i : Int) + 1) (vs.length : Int) = nxt vs i from rfl, Chk_of hb, Chk_of (by omega), Let_eq, ref03_Sub_eq, ref03_Length_eq, Bind_some]
    unfold ref11_ShortestEdge_j1
    simp only [Let_eq, cond_or, Bool.or_eq_true, decide_eq_true_eq]
    rw [show lenV (subV (ix vs (nxt vs i)) (ix vs (i : Int))) = edgeL vs i from rfl, w64_of ((i : Int) + 1) (by omega)]
    split <;> rfl
  have := loop_gen vs.length (fun _ => true) (fun i m => min m (edgeL vs i)) (fun i m => 1 ≤ i ∧ 0 ≤ m) (fun n m j => ref11_ShortestEdge_l2 vs ref11_ShortestEdge_j3 n m j) (fun m => some m) (some 0)
    (fun n i m hi hI => by
      have he := edgeL_bd hc i hi
      refine ⟨?_, fun _ => ⟨by omega, by omega⟩⟩
      rw [step n i m hi, if_pos rfl]
      congr 1
      split <;> omega)
    (fun n s _ => by rw [ref11_ShortestEdge_l2, if_neg (by simp)]; rfl)
    (fuel - 1) 1 (edgeL vs 0) (by omega) (by have := fuel_lt (vs.length + 1) (by omega); omega) ⟨by omega, (edgeL_bd hc 0 (by omega)).1⟩
  rw [allR_tt, if_pos rfl] at this
  have he := edgeL_bd hc 0 (by omega)
  have e : fuel = (fuel - 1) + 1 := by have := fuel_lt 1 (by decide); omega
  rw [e, show ref11_ShortestEdge_l2 vs ref11_ShortestEdge_j3 (fuel - 1 + 1) (-1) 0 = ref11_ShortestEdge_l2 vs ref11_ShortestEdge_j3 (fuel - 1 + 1) (-1) ((0 : Nat) : Int) from rfl, step _ 0 (-1) (by omega), if_pos (by omega)]
  refine Eq.trans this ?_
  have e2 : vs.length = (vs.length - 1) + 1 := by omega
  rw [show foldR (fun i m => min m (edgeL vs i)) 0 vs.length 536870911 = foldR (fun i m => min m (edgeL vs i)) 0 (vs.length - 1 + 1) 536870911 by rw [← e2]]
  show _ = some (foldR _ 1 (vs.length - 1) (min 536870911 (edgeL vs 0)))
  rw [show min 536870911 (edgeL vs 0) = edgeL vs 0 by omega]
theorem ref11_cross_eq (vs : List Vec) (i : Nat) (h : i + 1 < vs.length) (h2 : vs.length ≤ 4611686018427387904) : ref11_cross vs (i : Int) = some (crossAt vs i) := by
  unfold ref11_cross
  rw [Chk_of (by omega), Chk_of (by omega), Chk_of (by omega), Chk_of (by omega), Let_eq, w64_of ((i : Int) + 1) (by omega), Chk_of (by omega), Chk_of (by omega), Chk_of (by omega), Chk_of (by omega), Let_eq, ref01_RoundDiv_eq, Bind_some]
  simp only [w64_ml, w64_mr, w64_sl, w64_sr]
  rfl
theorem ref11_Area_eq (vs : List Vec) : ref11_Area vs = some (areaV vs) := by
  unfold ref11_Area areaV
  rw [ref11_IsConvex_eq, Bind_some]
  cases hc : convexB vs
  · rfl
  obtain ⟨h3, h8, -⟩ := convexB_len hc
  rw [if_neg (by simp), if_pos rfl]
  have := loop_gen (vs.length - 1) (fun _ => true) (fun i a => w64 (a + crossAt vs i)) (fun _ _ => True) (fun n a j => ref11_Area_l1 vs ref11_Area_j2 n a j) (fun a => some (rdv a 2)) none
    (fun n i a hi _ => by
      refine ⟨?_, fun _ => trivial⟩
      rw [ref11_Area_l1]
      rw [w64_of ((i : Int) + 1) (by omega), if_pos (by simp; omega), ref11_cross_eq vs i (by omega) (by omega), Bind_some, Let_eq, Let_eq, if_pos rfl])
    (fun n s _ => by rw [ref11_Area_l1, w64_of _ (by omega), if_neg (by simp; omega)]; unfold ref11_Area_j2; rw [ref01_RoundDiv_eq]; rfl)
    fuel 1 0 (by omega) (fuel_lt _ (by omega)) trivial
  rw [allR_tt, if_pos rfl, show vs.length - 1 - 1 = vs.length - 2 by omega] at this
  exact this
theorem ref12_countMatches_eq (s : Shape) (h : 1 ≤ s.Kind ∧ s.Kind ≤ 3) : ref12_countMatches s = countB s := by
  unfold ref12_countMatches countB
  simp only [Let_eq, beq_iff_eq, cond_and]
  by_cases h3 : s.Kind = 3
  · rw [if_pos h3, if_neg (by omega), if_neg (by omega), Bool.eq_iff_iff]; simp only [Bool.and_eq_true, decide_eq_true_eq]; omega
  · rw [if_neg h3]
    by_cases h1 : s.Kind = 1
    · rw [if_pos h1, Bool.eq_iff_iff]; simp only [beq_iff_eq]; omega
    · rw [if_neg h1, if_pos (by omega), Bool.eq_iff_iff]; simp only [beq_iff_eq]; omega
theorem ref12_Validate_eq (s : Shape) : ref12_Validate s = some (validS s) := by
  unfold ref12_Validate validS
  simp only [Let_eq, cond_or, Bool.or_eq_true, decide_eq_true_eq]
  by_cases h1 : s.Kind < 1 ∨ 3 < s.Kind
  · rw [if_pos h1, if_pos h1]
  rw [if_neg h1, if_neg h1, ref12_countMatches_eq s (by omega)]
  cases hc : countB s
  · rfl
  obtain ⟨l1, l8, l2⟩ := countB_len hc
  rw [if_neg (by simp), if_neg (show ¬ true = false by simp)]
  have := loop_gen s.Vertices.length (fun j => inRng 1048576 (ix s.Vertices (j : Int))) (fun _ (s : Unit) => s) (fun _ _ => True) (fun n _ i => ref12_Validate_l1 s (ref12_Validate_j2 s) n i) (fun _ => ref12_Validate_j2 s) (some 6)
    (fun n i _ hi _ => by
      refine ⟨?_, fun _ => trivial⟩
      rw [ref12_Validate_l1]
      rw [if_pos (by simpa using hi), Chk_of (by omega), Let_eq, Chk_of (by omega), Let_eq, Let_eq, w64_of ((i : Int) + 1) (by omega)]
      unfold ref12_within inRng
      simp only [Let_eq, cond_and, cond_or]
      rw [show w64 (0 - 1048576) = -1048576 from rfl]
      cases h1 : decide (-1048576 ≤ (ix s.Vertices (i : Int)).X) <;> cases h2 : decide ((ix s.Vertices (i : Int)).X ≤ 1048576) <;> cases h3 : decide (-1048576 ≤ (ix s.Vertices (i : Int)).Y) <;> cases h4 : decide ((ix s.Vertices (i : Int)).Y ≤ 1048576) <;> rfl)
    (fun n s _ => by rw [ref12_Validate_l1, if_neg (by simp)])
    fuel 0 () (by omega) (fuel_lt _ (by omega)) trivial
  rw [Nat.sub_zero, allR_all] at this
  rw [show ref12_Validate_l1 s (ref12_Validate_j2 s) fuel 0 = ref12_Validate_l1 s (ref12_Validate_j2 s) fuel ((0 : Nat) : Int) from rfl, this]
  cases ha : s.Vertices.all (inRng 1048576)
  · rfl
  rw [if_pos rfl, if_neg (show ¬ true = false by simp)]
  unfold ref12_Validate_j2 radiusBad
  simp only [cond_and, cond_or, Let_eq]
  have er : ((s.Kind == 3) && (s.Radius != 0) || (s.Kind != 3) && (decide (s.Radius < 2048) || decide (524288 < s.Radius))) = (if s.Kind = 3 then s.Radius != 0 else decide (s.Radius < 2048) || decide (524288 < s.Radius)) := by
    by_cases k3 : s.Kind = 3
    · simp [k3]
    · have e1 : (s.Kind == 3) = false := by simpa using k3
      have e2 : (s.Kind != 3) = true := by simpa using k3
      rw [e1, e2, if_neg k3, Bool.false_and, Bool.true_and, Bool.false_or]
  rw [er]
  cases hR : (if s.Kind = 3 then s.Radius != 0 else decide (s.Radius < 2048) || decide (524288 < s.Radius))
  case true => rfl
  rw [if_neg (show ¬ false = true by simp), if_neg (show ¬ false = true by simp), Chk_of (by intro h; simp at h; have := l2 h; omega), Chk_of (by intro h; simp at h; have := l2 h; omega), ref03_Sub_eq]
  simp only [ref03_Length_eq, ref11_IsConvex_eq, ref11_ShortestEdge_eq, ref11_Area_eq, Let_eq, cond_and, cond_or, Bool.and_eq_true, decide_eq_true_eq, beq_iff_eq]
  by_cases k2 : s.Kind = 2
  · by_cases hl : lenV (subV (ix s.Vertices 1) (ix s.Vertices 0)) < 4096
    · simp [k2, hl]
    · simp [k2, hl]
  · by_cases k3 : s.Kind = 3
    · cases hcx : convexB s.Vertices
      · simp [k3]
      · by_cases hsE : shortE s.Vertices < 4096
        · simp [k3, hsE, show ¬ (4096 ≤ shortE s.Vertices) by omega]
        · by_cases hA : areaV s.Vertices < 256 <;> simp [k3, hsE, hA, show (4096 ≤ shortE s.Vertices) by omega]
    · simp [k2, k3]
end GoOld


/- The plain law of mass data. No conditions. -/
set_option linter.all false
open Go Go.Rx

namespace GoOld
open GoForm
def circM (s : Shape) (d : Int) : MassData :=
  let r := mulS s.Radius s.Radius
  let m := mulS (mulS 205888 r) d
  ⟨m, ix s.Vertices 0, mulS m (rdv r 2)⟩
theorem massdata_ofCircle_eq (s : Shape) (d : Int) (h : 1 ≤ s.Vertices.length) : massdata_ofCircle s d = some (circM s d) := by
  unfold massdata_ofCircle
  simp only [fixed_Mul_eq, Bind_some, fixed_RoundDiv_eq, Let_eq]
  rw [Chk_of (by omega)]; rfl
def capM (s : Shape) (d : Int) : MassData :=
  let r := mulS s.Radius s.Radius
  let l := lenV (subV (ix s.Vertices 1) (ix s.Vertices 0))
  let m := mulS (addS (mulS 205888 r) (mulS (addS s.Radius s.Radius) l)) d
  ⟨m, lerpV (ix s.Vertices 0) (ix s.Vertices 1) 32768, mulS m (addS (rdv r 2) (rdv (mulS l l) 12))⟩
theorem massdata_ofCapsule_eq (s : Shape) (d : Int) (h : 2 ≤ s.Vertices.length) : massdata_ofCapsule s d = some (capM s d) := by
  unfold massdata_ofCapsule
  simp only [fixed_Mul_eq, Bind_some, fixed_RoundDiv_eq, Let_eq, vec2_Sub_eq, vec2_Length_eq, fixed_Add_eq, vec2_Lerp_eq]
  rw [Chk_of (by omega), Chk_of (by omega), Chk_of (by omega), Chk_of (by omega)]; rfl
def ptC (s : Shape) (j : Nat) : Vec := subV (ix s.Vertices (j : Int)) (centV s.Vertices)
def termI (p q : Vec) : Int := crossV p q * (dotV p p + dotV p q + dotV q q)
def prevI (n i : Nat) : Nat := if i = 0 then n - 1 else i - 1
def inI (s : Shape) : Int := w64 (sumR (fun i => termI (ptC s (prevI s.Vertices.length i)) (ptC s i)) 0 s.Vertices.length)
def inC (s : Shape) : Int := w64 (sumR (fun i => crossV (ptC s (prevI s.Vertices.length i)) (ptC s i)) 0 s.Vertices.length)
def polyM (s : Shape) (d : Int) : MassData :=
  let m := mulS (areaV s.Vertices) d
  ⟨m, centV s.Vertices, if inC s < 1 then 0 else mulS m (rdv (rdv (inI s) (inC s)) 6)⟩
theorem massdata_ofPolygon_eq (s : Shape) (d : Int) (h : 1 ≤ s.Vertices.length) (h2 : s.Vertices.length ≤ 4611686018427387904) : massdata_ofPolygon s d = some (polyM s d) := by
  unfold massdata_ofPolygon
  simp only [polygon_Area_eq, polygon_Centroid_eq, fixed_Mul_eq, Bind_some, Let_eq]
  rw [w64_of ((s.Vertices.length : Int) - 1) (by omega), Chk_of (by omega), vec2_Sub_eq]
  have e0 : subV (ix s.Vertices ((s.Vertices.length : Int) - 1)) (centV s.Vertices) = ptC s (prevI s.Vertices.length 0) := by
    unfold ptC prevI
    rw [if_pos rfl, show ((s.Vertices.length - 1 : Nat) : Int) = (s.Vertices.length : Int) - 1 by omega]
  rw [e0]
  have := loop_gen s.Vertices.length (fun _ => true) (fun i (x : Int × Int × Vec) => (w64 (x.1 + termI (ptC s (prevI s.Vertices.length i)) (ptC s i)), w64 (x.2.1 + crossV (ptC s (prevI s.Vertices.length i)) (ptC s i)), ptC s i))
    (fun i x => x.2.2 = ptC s (prevI s.Vertices.length i))
    (fun n x j => massdata_ofPolygon_l1 s (centV s.Vertices) (massdata_ofPolygon_j2 (mulS (areaV s.Vertices) d) (centV s.Vertices)) n x.1 x.2.1 j x.2.2)
    (fun x => massdata_ofPolygon_j2 (mulS (areaV s.Vertices) d) (centV s.Vertices) x.1 x.2.1) none
    (fun n i x hi hI => by
      refine ⟨?_, fun _ => by show ptC s i = ptC s (prevI s.Vertices.length (i + 1)); unfold prevI; rw [if_neg (by omega)]; rfl⟩
      rw [massdata_ofPolygon_l1]
      rw [if_pos (by simpa using hi), Chk_of (by omega), if_pos rfl]
      simp only [Let_eq, vec2_Sub_eq, vec2_Cross_eq, vec2_Dot_eq, Bind_some, hI]
      rw [w64_of ((i : Int) + 1) (by omega)]
      simp only [w64_ar, w64_ml, w64_mr, w64_al]
      rfl)
    (fun n x _ => by rw [massdata_ofPolygon_l1, if_neg (by simp)])
    fuel 0 (0, 0, ptC s (prevI s.Vertices.length 0)) (by omega) (fuel_lt _ (by omega)) rfl
  rw [Nat.sub_zero, allR_tt, if_pos rfl, foldR_pair (fun i a => w64 (a + termI (ptC s (prevI s.Vertices.length i)) (ptC s i))) (fun i (x : Int × Vec) => (w64 (x.1 + crossV (ptC s (prevI s.Vertices.length i)) (ptC s i)), ptC s i)),
    foldR_pair (fun i a => w64 (a + crossV (ptC s (prevI s.Vertices.length i)) (ptC s i))) (fun i _ => ptC s i)] at this
  have z : (0 : Int) = w64 0 := rfl
  have ws1 := wsum (fun i => termI (ptC s (prevI s.Vertices.length i)) (ptC s i)) s.Vertices.length 0 0
  have ws2 := wsum (fun i => crossV (ptC s (prevI s.Vertices.length i)) (ptC s i)) s.Vertices.length 0 0
  rw [← z, Int.zero_add] at ws1 ws2
  simp only [ws1, ws2] at this
  refine Eq.trans this ?_
  unfold massdata_ofPolygon_j2
  simp only [fixed_RoundDiv_eq, fixed_Mul_eq, Bind_some, Let_eq, decide_eq_true_eq]
  unfold polyM
  rw [show w64 (sumR (fun i => crossV (ptC s (prevI s.Vertices.length i)) (ptC s i)) 0 s.Vertices.length) = inC s from rfl]
  simp only
  by_cases c : inC s < 1
  · rw [if_pos c, if_pos c]
  · rw [if_neg c, if_neg c]; rfl
def shapeM (s : Shape) (d : Int) : MassData :=
  if validS s ≠ 0 ∨ d < 0 ∨ 262144 < d then ⟨0, Vec.zero, 0⟩ else if s.Kind = 1 then circM s d else if s.Kind = 2 then capM s d else polyM s d
theorem validS_count {s : Shape} (h : validS s = 0) : 1 ≤ s.Kind ∧ s.Kind ≤ 3 ∧ countB s = true ∧ s.Vertices.all (inRng 1048576) = true ∧ radiusBad s = false ∧ (s.Kind = 3 → convexB s.Vertices = true) := by
  unfold validS at h
  by_cases h1 : s.Kind < 1 ∨ 3 < s.Kind
  · rw [if_pos h1] at h; omega
  rw [if_neg h1] at h
  by_cases h2 : countB s = false
  · rw [if_pos h2] at h; omega
  rw [if_neg h2] at h
  by_cases h3 : s.Vertices.all (inRng 1048576) = false
  · rw [if_pos h3] at h; omega
  rw [if_neg h3] at h
  by_cases h4 : radiusBad s = true
  · rw [if_pos h4] at h; omega
  rw [if_neg h4] at h
  refine ⟨by omega, by omega, by simpa using h2, Bool.not_eq_false _ ▸ h3, by simpa using h4, ?_⟩
  intro k3
  rw [if_neg (fun c => by omega)] at h
  by_cases hc : convexB s.Vertices = true
  · exact hc
  · rw [if_pos ⟨k3, .inl (by simpa using hc)⟩] at h; omega
theorem massdata_OfShape_eq (s : Shape) (d : Int) : massdata_OfShape s d = some (shapeM s d) := by
  unfold massdata_OfShape shapeM
  rw [shape_Validate_eq, Bind_some]
  simp only [cond_or, Bool.or_eq_true, decide_eq_true_eq, bne_iff_ne, Let_eq, beq_iff_eq]
  by_cases h : (validS s ≠ 0 ∨ d < 0) ∨ 262144 < d
  · have h' : validS s ≠ 0 ∨ d < 0 ∨ 262144 < d := by omega
    rw [if_pos h, if_pos h']
  have h' : ¬ (validS s ≠ 0 ∨ d < 0 ∨ 262144 < d) := by omega
  rw [if_neg h, if_neg h']
  obtain ⟨k1, k3, hc, -⟩ := validS_count (s := s) (by omega)
  obtain ⟨l1, l8, l2⟩ := countB_len hc
  by_cases c1 : s.Kind = 1
  · rw [if_pos c1, if_pos c1, massdata_ofCircle_eq s d l1, Bind_some]
  · rw [if_neg c1, if_neg c1]
    by_cases c2 : s.Kind = 2
    · rw [if_pos c2, if_pos c2, massdata_ofCapsule_eq s d (by have := l2 c2; omega), Bind_some]
    · rw [if_neg c2, if_neg c2, massdata_ofPolygon_eq s d l1 (by omega), Bind_some]
theorem IndexFunc_MassData_eq (l : List MassData) (p : MassData → Bool) (hl : l.length ≤ 4611686018427387904) : slices_ContainsFunc_MassData l (fun y => some (p y)) = some (l.any p) := by
  have key : ∀ n i : Nat, i ≤ l.length → l.length - i < n → ∃ r, slices_IndexFunc_MassData_l1 l (fun y => some (p y)) slices_IndexFunc_MassData_j2 n (i : Int) = some r ∧ (decide (0 ≤ r)) = (l.drop i).any p := by
    intro n
    induction n with
    | zero => intro i _ h; omega
    | succ n ih =>
      intro i hi h
      unfold slices_IndexFunc_MassData_l1
      by_cases hlt : i < l.length
      · rw [if_pos (by simpa using hlt), Chk_of (by omega), Bind_some, drop_ix l i hlt, List.any_cons]
        cases hp : p (ix l (i : Int))
        · rw [if_neg (by simp), Let_eq, w64_of _ (by omega), Bool.false_or]
          exact ih (i + 1) (by omega) (by omega)
        · rw [if_pos rfl]
          exact ⟨i, rfl, by simp⟩
      · rw [if_neg (by simpa using hlt)]
        refine ⟨-1, rfl, ?_⟩
        rw [List.drop_of_length_le (by omega)]; rfl
  obtain ⟨r, h1, h2⟩ := key fuel 0 (by omega) (fuel_lt _ (by omega))
  unfold slices_ContainsFunc_MassData slices_IndexFunc_MassData
  rw [show slices_IndexFunc_MassData_l1 l (fun y => some (p y)) slices_IndexFunc_MassData_j2 fuel 0 = some r from h1, Bind_some, Let_eq, h2]; rfl
def cmbA (l : List MassData) (i : Nat) (x : Int × Int × Int × MassData) : Int × Int × Int × MassData :=
  (w64 (x.1 + sat (ix l (i : Int)).Mass), w64 (x.2.1 + w64 (sat (ix l (i : Int)).Mass * sat (ix l (i : Int)).Center.X)), w64 (x.2.2.1 + w64 (sat (ix l (i : Int)).Mass * sat (ix l (i : Int)).Center.Y)),
    { x.2.2.2 with Mass := addS x.2.2.2.Mass (sat (ix l (i : Int)).Mass) })
def cmbB (l : List MassData) (i : Nat) (x : MassData) : MassData :=
  { x with Inertia := addS (addS x.Inertia (ix l (i : Int)).Inertia) (mulS (ix l (i : Int)).Mass (dotV (subV (ix l (i : Int)).Center x.Center) (subV (ix l (i : Int)).Center x.Center))) }
def combM (l : List MassData) : MassData :=
  if 8 < l.length ∨ l.any (fun p => decide (p.Mass < 0)) = true then ⟨0, Vec.zero, 0⟩ else
  let x := foldR (cmbA l) 0 l.length (0, 0, 0, MassData.zero)
  foldR (cmbB l) 0 l.length (if 0 < x.1 then { x.2.2.2 with Center := ⟨rdv x.2.1 x.1, rdv x.2.2.1 x.1⟩ } else x.2.2.2)
theorem Combine_j4 (l : List MassData) (h : l.length ≤ 8) (m : MassData) : massdata_Combine_j4 l m = some (foldR (cmbB l) 0 l.length m) := by
  unfold massdata_Combine_j4
  have := loop_gen l.length (fun _ => true) (cmbB l) (fun _ _ => True) (fun n x j => massdata_Combine_l2 l massdata_Combine_j3 n j x) (fun x => some x) none
    (fun n i x hi _ => by
      refine ⟨?_, fun _ => trivial⟩
      rw [massdata_Combine_l2]
      rw [if_pos (by simpa using hi), Chk_of (by omega), if_pos rfl]
      simp only [Let_eq, vec2_Sub_eq, fixed_Add_eq, vec2_Dot_eq, fixed_Mul_eq, Bind_some]
      rw [w64_of ((i : Int) + 1) (by omega)]; rfl)
    (fun n x _ => by rw [massdata_Combine_l2, if_neg (by simp)]; rfl)
    fuel 0 m (by omega) (fuel_lt _ (by omega)) trivial
  rw [Nat.sub_zero, allR_tt, if_pos rfl] at this
  exact this
theorem massdata_Combine_eq (l : List MassData) : massdata_Combine l = some (combM l) := by
  unfold massdata_Combine combM
  simp only [cond_or, Let_eq]
  by_cases h : 8 < l.length
  · have e : decide (8 < (l.length : Int)) = true := decide_eq_true (by omega)
    rw [e, if_neg (by simp), Bind_some, Bool.true_or, if_pos rfl, if_pos (.inl h)]
  · have e : decide (8 < (l.length : Int)) = false := decide_eq_false (by omega)
    rw [e, if_pos (by simp), show (fun (y0 : MassData) => some (massdata_Combine_c1 y0)) = fun y => some (decide (y.Mass < 0)) from rfl, IndexFunc_MassData_eq _ _ (by omega), Bind_some, Bool.false_or]
    by_cases ha : l.any (fun p => decide (p.Mass < 0)) = true
    · rw [if_pos ha, if_pos (.inr ha)]
    rw [if_neg ha, if_neg (fun c => c.elim h ha)]
    have := loop_gen l.length (fun _ => true) (cmbA l) (fun _ _ => True) (fun n x j => massdata_Combine_l1 l (massdata_Combine_j5 l) n x.1 x.2.1 x.2.2.1 j x.2.2.2) (fun x => massdata_Combine_j5 l x.1 x.2.1 x.2.2.1 x.2.2.2) none
      (fun n i x hi _ => by
        refine ⟨?_, fun _ => trivial⟩
        rw [massdata_Combine_l1]
        rw [if_pos (by simpa using hi), Chk_of (by omega), if_pos rfl]
        simp only [Let_eq, fixed_Saturate_eq, fixed_Add_eq]
        rw [w64_of ((i : Int) + 1) (by omega)]; rfl)
      (fun n x _ => by rw [massdata_Combine_l1, if_neg (by simp)])
      fuel 0 (0, 0, 0, MassData.zero) (by omega) (fuel_lt _ (by omega)) trivial
    rw [Nat.sub_zero, allR_tt, if_pos rfl] at this
    refine Eq.trans this ?_
    generalize foldR (cmbA l) 0 l.length (0, 0, 0, MassData.zero) = x
    unfold massdata_Combine_j5
    simp only [fixed_RoundDiv_eq, Bind_some, Let_eq, decide_eq_true_eq, Combine_j4 l (by omega)]
    split <;> rfl
def partsM (fs : List Fixture) (i : Nat) (l : List MassData) : List MassData :=
  if (ix fs (i : Int)).Sensor = true then l else l ++ [shapeM (ix fs (i : Int)).Shape (ix fs (i : Int)).Density]
def massM (fs : List Fixture) : MassData := if 4 < fs.length then ⟨0, Vec.zero, 0⟩ else combM (foldR (partsM fs) 0 fs.length [])
theorem partsM_len (fs : List Fixture) (i : Nat) (l : List MassData) (h : l.length ≤ i) : (partsM fs i l).length ≤ i + 1 := by
  unfold partsM; split
  · omega
  · simp; omega
theorem massdata_OfFixtures_eq (fs : List Fixture) : massdata_OfFixtures fs = some (massM fs) := by
  unfold massdata_OfFixtures massM
  simp only [Let_eq, decide_eq_true_eq]
  by_cases h : 4 < fs.length
  · rw [if_pos (by omega), if_pos h]
  rw [if_neg (by omega), if_neg h]
  have := loop_gen fs.length (fun _ => true) (partsM fs) (fun i l => l.length ≤ i) (fun n x j => massdata_OfFixtures_l2 fs massdata_OfFixtures_j3 n x j) (fun x => some (combM x)) none
    (fun n i x hi hI => by
      refine ⟨?_, fun _ => partsM_len fs i x hI⟩
      rw [massdata_OfFixtures_l2]
      rw [if_pos (by simpa using hi), Chk_of (by omega), Let_eq, if_pos rfl, massdata_OfShape_eq, Bind_some, Chk_of (by simp; omega), Let_eq]
      unfold massdata_OfFixtures_j1 partsM
      rw [Let_eq, Let_eq, w64_of ((i : Int) + 1) (by omega)]
      cases (ix fs (i : Int)).Sensor <;> rfl)
    (fun n x hx => by rw [massdata_OfFixtures_l2, if_neg (by simp)]; unfold massdata_OfFixtures_j3; rw [massdata_Combine_eq]; rfl)
    fuel 0 [] (by omega) (fuel_lt _ (by omega)) (by simp)
  rw [Nat.sub_zero, allR_tt, if_pos rfl] at this
  exact this
theorem body_MassData_eq (b : Body) : body_MassData b = some (massM b.Fixtures) := by unfold body_MassData; rw [massdata_OfFixtures_eq]; rfl
end GoOld


/- The plain law of mass data: the reference computes the same. No conditions. -/
set_option linter.all false
open Go Go.Rx

namespace GoOld
open GoForm
end GoOld


/- The plain law of bodies that are compared and moved. No conditions. -/
set_option linter.all false
open Go Go.Rx

namespace GoOld
open GoForm
theorem Vec_beq_eq (x y : Vec) : Vec.beq x y = decide (x = y) := by
  cases x; cases y; unfold Vec.beq; rw [Bool.eq_iff_iff]; simp
end GoOld


/- The plain law of bodies: the reference compares and clamps them as the program does. No conditions. -/
set_option linter.all false
open Go Go.Rx

namespace GoOld
open GoForm
end GoOld


/- The plain law of bodies that are valid. No conditions. -/
set_option linter.all false
open Go Go.Rx

namespace GoOld
open GoForm
def Wn (x lo hi : Int) : Prop := lo ≤ x ∧ x ≤ hi
instance (x lo hi : Int) : Decidable (Wn x lo hi) := inferInstanceAs (Decidable (_ ∧ _))
def Bd (v : Vec) (lim : Int) : Prop := Wn v.X (-lim) lim ∧ Wn v.Y (-lim) lim
instance (v : Vec) (lim : Int) : Decidable (Bd v lim) := inferInstanceAs (Decidable (_ ∧ _))
theorem body_within_eq (x lo hi : Int) : body_within x lo hi = decide (Wn x lo hi) := by
  unfold body_within; rw [Let_eq, cond_and, Bool.eq_iff_iff]; simp only [Bool.and_eq_true, decide_eq_true_eq]; exact Iff.rfl
theorem body_bounded_eq (v : Vec) (lim : Int) (h : 0 ≤ lim ∧ lim ≤ 9223372036854775807) : body_bounded v lim = decide (Bd v lim) := by
  unfold body_bounded; simp only [Let_eq, cond_and, body_within_eq]
  rw [w64_of _ (by omega), show 0 - lim = -lim by omega, Bool.eq_iff_iff]; simp only [Bool.and_eq_true, decide_eq_true_eq]; exact Iff.rfl
def TrOk (t : Transform) : Prop := Bd t.Position 268435456 ∧ -205888 ≤ t.Angle ∧ t.Angle < 205888
instance (t : Transform) : Decidable (TrOk t) := inferInstanceAs (Decidable (_ ∧ _))
theorem transform_Valid_eq (t : Transform) : transform_Valid t = decide (TrOk t) := by
  unfold transform_Valid transform_inWorld TrOk Bd Wn; simp only [Let_eq, cond_and, Bool.decide_and]
  rw [Bool.eq_iff_iff]; simp only [Bool.and_eq_true, decide_eq_true_eq]; grind
def RngOk (b : Body) : Prop :=
  Wn b.ID 1 1099511627776 ∧ TrOk b.Transform ∧ Bd b.Velocity 16777216 ∧ Wn b.AngularVelocity (-4194304) 4194304 ∧ Bd b.Force 536870911 ∧ Wn b.Torque (-536870911) 536870911 ∧
  Wn b.LinearDamping 0 65536 ∧ Wn b.AngularDamping 0 65536 ∧ Wn b.GravityScale (-262144) 262144 ∧ Wn b.IdleSteps 0 1048576
instance (b : Body) : Decidable (RngOk b) := inferInstanceAs (Decidable (_ ∧ _))
theorem body_inRange_eq (b : Body) : body_inRange b = decide (RngOk b) := by
  unfold body_inRange RngOk
  simp only [Let_eq, cond_and, body_within_eq, transform_Valid_eq]
  rw [body_bounded_eq _ _ (by omega), body_bounded_eq _ _ (by omega)]
  rw [Bool.eq_iff_iff]; simp only [Bool.and_eq_true, decide_eq_true_eq]; grind
def validF (f : Fixture) : Int :=
  if validS f.Shape ≠ 0 then validS f.Shape else
  if Wn f.Density 0 262144 ∧ Wn f.Friction 0 131072 ∧ Wn f.Restitution 0 65536 ∧ Wn f.Category 0 65535 ∧ Wn f.Mask 0 65535 ∧ Wn f.Group (-32) 32 then 0 else 6
theorem body_ValidateFixture_eq (f : Fixture) : body_ValidateFixture f = some (validF f) := by
  unfold body_ValidateFixture validF
  rw [shape_Validate_eq, Bind_some]
  simp only [bne_iff_ne, Let_eq, cond_and, cond_or, body_within_eq]
  by_cases h : validS f.Shape ≠ 0
  · rw [if_pos h, if_pos h]
  rw [if_neg h, if_neg h]
  by_cases c : Wn f.Density 0 262144 ∧ Wn f.Friction 0 131072 ∧ Wn f.Restitution 0 65536 ∧ Wn f.Category 0 65535 ∧ Wn f.Mask 0 65535 ∧ Wn f.Group (-32) 32
  · rw [if_pos c, if_neg (by simp only [Bool.or_eq_true, Bool.not_eq_true', Bool.and_eq_false_iff, decide_eq_false_iff_not]; grind)]
  · rw [if_neg c, if_pos (by simp only [Bool.or_eq_true, Bool.not_eq_true', Bool.and_eq_false_iff, decide_eq_false_iff_not]; grind)]
def consB (b : Body) : Bool :=
  if b.Kind = 1 ∧ (b.Velocity ≠ ⟨0, 0⟩ ∨ b.AngularVelocity ≠ 0 ∨ b.Force ≠ ⟨0, 0⟩ ∨ b.Torque ≠ 0) then false else
  if b.Kind ≠ 3 ∧ (b.Asleep = true ∨ b.Bullet = true) then false else
  decide (b.Asleep = true → b.Velocity = ⟨0, 0⟩ ∧ b.AngularVelocity = 0)
theorem body_consistent_eq (b : Body) : body_consistent b = consB b := by
  unfold body_consistent consB body_moving
  simp only [Let_eq, cond_and, cond_or, Vec_beq_eq]
  by_cases h1 : b.Kind = 1 ∧ (b.Velocity ≠ ⟨0, 0⟩ ∨ b.AngularVelocity ≠ 0 ∨ b.Force ≠ ⟨0, 0⟩ ∨ b.Torque ≠ 0)
  · rw [if_pos h1, if_pos (by simp only [Bool.and_eq_true, Bool.or_eq_true, beq_iff_eq, bne_iff_ne, Bool.not_eq_true', decide_eq_false_iff_not]; grind)]
  rw [if_neg h1, if_neg (by simp only [Bool.and_eq_true, Bool.or_eq_true, beq_iff_eq, bne_iff_ne, Bool.not_eq_true', decide_eq_false_iff_not]; grind)]
  by_cases h2 : b.Kind ≠ 3 ∧ (b.Asleep = true ∨ b.Bullet = true)
  · rw [if_pos h2, if_pos (by simp only [Bool.and_eq_true, Bool.or_eq_true, bne_iff_ne]; exact h2)]
  rw [if_neg h2, if_neg (by simp only [Bool.and_eq_true, Bool.or_eq_true, bne_iff_ne]; exact h2), Bool.eq_iff_iff]
  simp only [Bool.or_eq_true, Bool.not_eq_true', decide_eq_true_eq, Bool.or_eq_false_iff, Bool.not_eq_false', bne_eq_false_iff_eq]
  cases b.Asleep <;> simp
def validB (b : Body) : Int :=
  if b.Kind ≠ 1 ∧ b.Kind ≠ 2 ∧ b.Kind ≠ 3 then 10 else if ¬ RngOk b then 6 else if 4 < b.Fixtures.length then 11 else
  if b.Fixtures.all (fun f => decide (validF f = 0)) = false then 13 else if consB b = false then 14 else 0
theorem body_Validate_eq (b : Body) : body_Validate b = some (validB b) := by
  unfold body_Validate validB
  simp only [Let_eq, cond_and, Bool.and_eq_true, bne_iff_ne, body_inRange_eq, Bool.not_eq_true', decide_eq_false_iff_not, decide_eq_true_eq, and_assoc]
  by_cases h1 : b.Kind ≠ 1 ∧ b.Kind ≠ 2 ∧ b.Kind ≠ 3
  · rw [if_pos h1, if_pos h1]
  rw [if_neg h1, if_neg h1]
  by_cases h2 : RngOk b
  · have h2' : ¬ ¬ RngOk b := fun h => h h2
    rw [if_neg h2', if_neg h2']
    by_cases h3 : 4 < b.Fixtures.length
    · rw [if_pos (show 4 < (b.Fixtures.length : Int) by omega), if_pos h3]
    rw [if_neg (show ¬ 4 < (b.Fixtures.length : Int) by omega), if_neg h3]
    have := loop_gen b.Fixtures.length (fun i => decide (validF (ix b.Fixtures (i : Int)) = 0)) (fun _ (s : Unit) => s) (fun _ _ => True) (fun n _ i => body_Validate_l1 b (body_Validate_j2 b) n i) (fun _ => body_Validate_j2 b) (some 13)
      (fun n i s hi _ => by
        refine ⟨?_, fun _ => trivial⟩
        rw [body_Validate_l1]
        rw [if_pos (by simpa using hi), Chk_of (by omega), Let_eq, body_ValidateFixture_eq, Bind_some, Let_eq, w64_of _ (by omega)]
        by_cases e : validF (ix b.Fixtures (i : Int)) = 0
        · rw [if_neg (by simp [e]), if_pos (decide_eq_true e)]
        · rw [if_pos (by simp [e]), if_neg (by simpa using e)])
      (fun n s _ => by rw [body_Validate_l1, if_neg (by simp)])
      fuel 0 () (by omega) (fuel_lt _ (by omega)) trivial
    rw [Nat.sub_zero, allR_all (fun f => decide (validF f = 0))] at this
    refine Eq.trans this ?_
    cases hA : b.Fixtures.all (fun f => decide (validF f = 0))
    · rfl
    rw [if_pos rfl, if_neg (by simp)]
    unfold body_Validate_j2
    simp only [Let_eq, body_consistent_eq]
    cases consB b <;> rfl
  · rw [if_pos h2, if_pos h2]
theorem validB_ok {b : Body} : validB b = 0 ↔ (b.Kind = 1 ∨ b.Kind = 2 ∨ b.Kind = 3) ∧ RngOk b ∧ b.Fixtures.length ≤ 4 ∧ (∀ f ∈ b.Fixtures, validF f = 0) ∧ consB b = true := by
  unfold validB
  by_cases h1 : b.Kind ≠ 1 ∧ b.Kind ≠ 2 ∧ b.Kind ≠ 3
  · rw [if_pos h1]; constructor
    · intro h; omega
    · intro h; omega
  rw [if_neg h1]
  by_cases h2 : RngOk b
  · rw [if_neg (fun h => h h2)]
    by_cases h3 : 4 < b.Fixtures.length
    · rw [if_pos h3]; constructor
      · intro h; omega
      · intro h; omega
    rw [if_neg h3]
    cases hA : b.Fixtures.all (fun f => decide (validF f = 0))
    · rw [if_pos rfl]
      constructor
      · intro h; omega
      · intro h
        have : b.Fixtures.all (fun f => decide (validF f = 0)) = true := by rw [List.all_eq_true]; intro f hf; exact decide_eq_true (h.2.2.2.1 f hf)
        rw [this] at hA; cases hA
    · rw [if_neg (by simp)]
      have hA' : ∀ f ∈ b.Fixtures, validF f = 0 := by
        rw [List.all_eq_true] at hA; intro f hf; exact of_decide_eq_true (hA f hf)
      cases consB b
      · rw [if_pos rfl]; constructor
        · intro h; omega
        · intro h; cases h.2.2.2.2
      · rw [if_neg (by simp)]
        exact ⟨fun _ => ⟨by omega, h2, by omega, hA', rfl⟩, fun _ => rfl⟩
  · rw [if_pos h2]; constructor
    · intro h; omega
    · intro h; exact absurd h.2.1 h2
end GoOld


/- The plain law of bodies that are valid: the reference says the same. No conditions. -/
set_option linter.all false
open Go Go.Rx

namespace GoOld
open GoForm
theorem ref23_in_eq (x lo hi : Int) : ref23_in x lo hi = decide (Wn x lo hi) := by
  unfold ref23_in; rw [Let_eq, cond_and, Bool.eq_iff_iff]; simp only [Bool.and_eq_true, decide_eq_true_eq]; exact Iff.rfl
theorem ref04_Valid_eq (t : Transform) : ref04_Valid t = decide (TrOk t) := by
  unfold ref04_Valid ref04_outside TrOk Bd Wn; simp only [Let_eq, cond_and, cond_or]
  rw [Bool.eq_iff_iff]; simp only [Bool.and_eq_true, Bool.not_eq_true', Bool.or_eq_false_iff, decide_eq_true_eq, decide_eq_false_iff_not]; grind
theorem ref23_inRange_eq (b : Body) : ref23_inRange b = decide (RngOk b) := by
  unfold ref23_inRange
  simp only [Let_eq, cond_and, cond_or, ref23_in_eq, ref04_Valid_eq]
  have e : decide (RngOk b) = (decide (Wn b.ID 1 1099511627776) && decide (TrOk b.Transform) && decide (Wn b.Velocity.X (-16777216) 16777216) && decide (Wn b.Velocity.Y (-16777216) 16777216) && decide (Wn b.AngularVelocity (-4194304) 4194304) &&
      (decide (Wn b.Force.X (-536870911) 536870911) && decide (Wn b.Force.Y (-536870911) 536870911) && decide (Wn b.Torque (-536870911) 536870911)) &&
      (decide (Wn b.LinearDamping 0 65536) && decide (Wn b.AngularDamping 0 65536) && decide (Wn b.GravityScale (-262144) 262144) && decide (Wn b.IdleSteps 0 1048576))) := by
    rw [Bool.eq_iff_iff]; simp only [Bool.and_eq_true, decide_eq_true_eq]; unfold RngOk Bd; grind
  rw [e]
  have n3 : ∀ a b c d e : Bool, (!a || !b || !c || !d || !e) = !(a && b && c && d && e) := by intro a b c d e; cases a <;> cases b <;> cases c <;> cases d <;> cases e <;> rfl
  have n2 : ∀ a b c : Bool, (!a || !b || !c) = !(a && b && c) := by intro a b c; cases a <;> cases b <;> cases c <;> rfl
  rw [n3, n2]
  generalize (decide (Wn b.ID 1 1099511627776) && decide (TrOk b.Transform) && decide (Wn b.Velocity.X (-16777216) 16777216) && decide (Wn b.Velocity.Y (-16777216) 16777216) && decide (Wn b.AngularVelocity (-4194304) 4194304)) = P
  generalize (decide (Wn b.Force.X (-536870911) 536870911) && decide (Wn b.Force.Y (-536870911) 536870911) && decide (Wn b.Torque (-536870911) 536870911)) = Q
  cases P
  · rfl
  · cases Q
    · rfl
    · simp
theorem ref23_ValidateFixture_eq (f : Fixture) : ref23_ValidateFixture f = some (validF f) := by
  unfold ref23_ValidateFixture validF
  rw [ref12_Validate_eq, Bind_some]
  simp only [bne_iff_ne, Let_eq, cond_or, ref23_in_eq]
  by_cases h : validS f.Shape ≠ 0
  · rw [if_pos h, if_pos h]
  rw [if_neg h, if_neg h]
  by_cases c : Wn f.Density 0 262144 ∧ Wn f.Friction 0 131072 ∧ Wn f.Restitution 0 65536 ∧ Wn f.Category 0 65535 ∧ Wn f.Mask 0 65535 ∧ Wn f.Group (-32) 32
  · rw [if_pos c, if_neg (by simp only [Bool.or_eq_true, Bool.not_eq_true', decide_eq_false_iff_not]; grind)]
  · rw [if_neg c, if_pos (by simp only [Bool.or_eq_true, Bool.not_eq_true', decide_eq_false_iff_not]; grind)]
theorem ref23_Validate_eq (b : Body) : ref23_Validate b = some (validB b) := by
  unfold ref23_Validate validB
  simp only [Let_eq, cond_and, Bool.and_eq_true, bne_iff_ne, ref23_inRange_eq, Bool.not_eq_true', decide_eq_false_iff_not, decide_eq_true_eq, and_assoc]
  by_cases h1 : b.Kind ≠ 1 ∧ b.Kind ≠ 2 ∧ b.Kind ≠ 3
  · rw [if_pos h1, if_pos h1]
  rw [if_neg h1, if_neg h1]
  by_cases h2 : RngOk b
  · have h2' : ¬ ¬ RngOk b := fun h => h h2
    rw [if_neg h2', if_neg h2']
    by_cases h3 : 4 < b.Fixtures.length
    · rw [if_pos (show 4 < (b.Fixtures.length : Int) by omega), if_pos h3]
    rw [if_neg (show ¬ 4 < (b.Fixtures.length : Int) by omega), if_neg h3]
    have := loop_gen b.Fixtures.length (fun i => decide (validF (ix b.Fixtures (i : Int)) = 0)) (fun _ (s : Unit) => s) (fun _ _ => True) (fun n _ i => ref23_Validate_l1 b (ref23_Validate_j2 b) n i) (fun _ => ref23_Validate_j2 b) (some 13)
      (fun n i s hi _ => by
        refine ⟨?_, fun _ => trivial⟩
        rw [ref23_Validate_l1]
        rw [if_pos (by simpa using hi), Chk_of (by omega), ref23_ValidateFixture_eq, Bind_some, Let_eq, w64_of _ (by omega)]
        by_cases e : validF (ix b.Fixtures (i : Int)) = 0
        · rw [if_neg (by simp [e]), if_pos (decide_eq_true e)]
        · rw [if_pos (by simp [e]), if_neg (by simpa using e)])
      (fun n s _ => by rw [ref23_Validate_l1, if_neg (by simp)])
      fuel 0 () (by omega) (fuel_lt _ (by omega)) trivial
    rw [Nat.sub_zero, allR_all (fun f => decide (validF f = 0))] at this
    refine Eq.trans this ?_
    cases hA : b.Fixtures.all (fun f => decide (validF f = 0))
    · rfl
    rw [if_pos rfl, if_neg (by simp)]
    unfold ref23_Validate_j2 consB
    simp only [Let_eq, cond_and, cond_or, Vec_beq_eq]
    by_cases c1 : b.Kind = 1 ∧ (b.Velocity ≠ ⟨0, 0⟩ ∨ b.AngularVelocity ≠ 0 ∨ b.Force ≠ ⟨0, 0⟩ ∨ b.Torque ≠ 0)
    · rw [if_pos c1, if_pos rfl, if_pos (by simp only [Bool.and_eq_true, Bool.or_eq_true, beq_iff_eq, bne_iff_ne, Bool.not_eq_true', decide_eq_false_iff_not]; grind)]
    rw [if_neg c1]
    by_cases c2 : b.Kind ≠ 3 ∧ (b.Asleep = true ∨ b.Bullet = true)
    · rw [if_pos c2, if_pos rfl, if_pos (by simp only [Bool.and_eq_true, Bool.or_eq_true, beq_iff_eq, bne_iff_ne, Bool.not_eq_true', decide_eq_false_iff_not]; grind)]
    rw [if_neg c2]
    by_cases c3 : b.Asleep = true → b.Velocity = ⟨0, 0⟩ ∧ b.AngularVelocity = 0
    · rw [if_neg (show ¬ decide _ = false by simpa using c3), if_neg (by simp only [Bool.and_eq_true, Bool.or_eq_true, beq_iff_eq, bne_iff_ne, Bool.not_eq_true', decide_eq_false_iff_not]; grind)]
    · rw [if_pos (show decide _ = false by simpa using c3), if_pos (by simp only [Bool.and_eq_true, Bool.or_eq_true, beq_iff_eq, bne_iff_ne, Bool.not_eq_true', decide_eq_false_iff_not]; grind)]
  · rw [if_pos h2, if_pos h2]
end GoOld


/- The plain law of impulses. No conditions. -/
set_option linter.all false
open Go Go.Rx

namespace GoOld
open GoForm
def centerW (b : Body) : Vec := applyT b.Transform (massM b.Fixtures).Center
theorem body_WorldCenter_eq (b : Body) : body_WorldCenter b = some (centerW b) := by
  unfold body_WorldCenter; simp only [body_MassData_eq, transform_Apply_eq, Bind_some, Let_eq]; rfl
end GoOld


/- The plain law of impulses: the reference computes the same. No conditions. -/
set_option linter.all false
open Go Go.Rx

namespace GoOld
open GoForm
end GoOld


/- The plain law of boxes, segments and points in shapes. No conditions. -/
set_option linter.all false
open Go Go.Rx

namespace GoOld
open GoForm
theorem map_ix {α β : Type} [Inhabited α] (g : α → β) (l : List α) : (List.range' 0 l.length).map (fun i : Nat => g (ix l (i : Int))) = l.map g := by
  apply List.ext_getElem (by simp)
  intro i h1 h2
  simp only [List.length_map, List.length_range'] at h1
  simp [ix_lt l i h1]
def vertsW (s : Shape) (t : Transform) : List Vec := if validS s ≠ 0 then [] else s.Vertices.map (applyT t)
theorem shape_Vertices_eq (s : Shape) (t : Transform) : shape_Vertices s t = some (vertsW s t) := by
  unfold shape_Vertices vertsW
  rw [shape_Validate_eq, Bind_some]
  simp only [bne_iff_ne]
  by_cases h : validS s ≠ 0
  · rw [if_pos h, if_pos h]
  rw [if_neg h, if_neg h]
  obtain ⟨-, -, hc, -⟩ := validS_count (s := s) (by omega)
  obtain ⟨l1, l8, -⟩ := countB_len hc
  have := loop_gen s.Vertices.length (fun _ => true) (fun i l => l ++ [applyT t (ix s.Vertices (i : Int))]) (fun i l => l.length = i) (fun n x j => shape_Vertices_l1 s t shape_Vertices_j2 n x j) (fun l => some l) none
    (fun n i x hi hI => by
      refine ⟨?_, fun _ => by simp [hI]⟩
      rw [shape_Vertices_l1]
      rw [if_pos (by simpa using hi), Chk_of (by omega), Let_eq, transform_Apply_eq, Bind_some, Chk_of (by simp; omega), Let_eq, Let_eq, w64_of ((i : Int) + 1) (by omega), if_pos rfl])
    (fun n x _ => by rw [shape_Vertices_l1, if_neg (by simp)]; rfl)
    fuel 0 [] (by omega) (fuel_lt _ (by omega)) rfl
  rw [Nat.sub_zero, allR_tt, if_pos rfl, foldR_list, List.nil_append, map_ix (applyT t)] at this
  exact this
theorem vertsW_len {s : Shape} {t : Transform} (h : vertsW s t ≠ []) : validS s = 0 ∧ (vertsW s t).length = s.Vertices.length ∧ 1 ≤ s.Vertices.length ∧ s.Vertices.length ≤ 8 ∧ countB s = true ∧ 1 ≤ s.Kind ∧ s.Kind ≤ 3 := by
  unfold vertsW at h ⊢
  by_cases hv : validS s ≠ 0
  · rw [if_pos hv] at h; exact absurd rfl h
  rw [if_neg hv]
  obtain ⟨k1, k3, hc, -⟩ := validS_count (s := s) (by omega)
  obtain ⟨l1, l8, -⟩ := countB_len hc
  exact ⟨by omega, by simp, l1, l8, hc, k1, k3⟩
theorem vertsW_le (s : Shape) (t : Transform) : (vertsW s t).length ≤ 8 := by
  by_cases h : vertsW s t = []
  · rw [h]; simp
  · have := vertsW_len h; omega
theorem applyT_sat (t : Transform) (v : Vec) : satV (applyT t v) = applyT t v := by
  unfold satV applyT addV addS; simp only [satsat]
theorem vertsW_sat (s : Shape) (t : Transform) : ∀ v ∈ vertsW s t, satV v = v := by
  unfold vertsW
  split
  · simp
  · intro v hv
    obtain ⟨u, -, rfl⟩ := List.mem_map.1 hv
    exact applyT_sat t u
def lowV (a b : Vec) : Vec := ⟨min a.X b.X, min a.Y b.Y⟩
def uppV (a b : Vec) : Vec := ⟨max a.X b.X, max a.Y b.Y⟩
def boxStep (ps : List Vec) (i : Nat) (b : AABB) : AABB := ⟨lowV b.Min (satV (ix ps (i : Int))), uppV b.Max (satV (ix ps (i : Int)))⟩
def boxP (ps : List Vec) : AABB × Bool :=
  if ps.length = 0 then (⟨Vec.zero, Vec.zero⟩, false) else (foldR (boxStep ps) 1 (ps.length - 1) ⟨satV (ix ps 0), satV (ix ps 0)⟩, true)
theorem ix_drop1 (ps : List Vec) (i : Nat) (h : i + 1 < ps.length) : ix (ps.drop 1) (i : Int) = ix ps ((i + 1 : Nat) : Int) := by
  rw [ix_lt _ _ (by rw [List.length_drop]; omega), ix_lt _ _ h]; simp [Nat.add_comm]
theorem aabb_FromPoints_eq (ps : List Vec) (hl : ps.length ≤ 4611686018427387904) : aabb_FromPoints ps = some (boxP ps) := by
  unfold aabb_FromPoints boxP
  simp only [beq_iff_eq]
  by_cases h : ps.length = 0
  · rw [if_pos (by omega), if_pos h]; rfl
  rw [if_neg (by omega), if_neg h, Chk_of (by omega), Let_eq, Let_eq, Let_eq, Chk_of (by omega), Let_eq]
  have := loop_gen (ps.drop 1).length (fun _ => true) (fun i b => boxStep ps (i + 1) b) (fun _ _ => True) (fun n x j => aabb_FromPoints_l1 aabb_FromPoints_j2 (ps.drop 1) n j x) (fun x => some (x, true)) none
    (fun n i x hi _ => by
      refine ⟨?_, fun _ => trivial⟩
      rw [List.length_drop] at hi
      rw [aabb_FromPoints_l1]
      rw [if_pos (by rw [List.length_drop]; simp; omega), Chk_of (by rw [List.length_drop]; omega), ix_drop1 ps i (by omega), if_pos rfl]
      simp only [Let_eq]
      rw [w64_of ((i : Int) + 1) (by omega)]; rfl)
    (fun n x _ => by rw [aabb_FromPoints_l1, if_neg (by simp)]; rfl)
    fuel 0 ⟨satV (ix ps 0), satV (ix ps 0)⟩ (by omega) (fuel_lt _ (by rw [List.length_drop]; omega)) trivial
  rw [Nat.sub_zero, allR_tt, if_pos rfl, List.length_drop, ← foldR_shift (boxStep ps)] at this
  exact this
def shapeBx (s : Shape) (t : Transform) : AABB :=
  if (vertsW s t).length = 0 then ⟨Vec.zero, Vec.zero⟩ else ⟨subV (boxP (vertsW s t)).1.Min ⟨s.Radius, s.Radius⟩, addV (boxP (vertsW s t)).1.Max ⟨s.Radius, s.Radius⟩⟩
theorem shape_Bounds_eq (s : Shape) (t : Transform) : shape_Bounds s t = some (shapeBx s t) := by
  unfold shape_Bounds shapeBx
  have hl := vertsW_le s t
  rw [shape_Vertices_eq, Bind_some, aabb_FromPoints_eq _ (by omega), Bind_some]
  simp only [Let_eq, vec2_Sub_eq, vec2_Add_eq]
  by_cases h : (vertsW s t).length = 0
  · rw [if_pos h]; unfold boxP; rw [if_pos h]; rfl
  · rw [if_neg h]; unfold boxP; rw [if_neg h]; rfl
def satd (v : Vec) : Bool := sat v.X == v.X && sat v.Y == v.Y
def okBx (b : AABB) : Bool := decide (b.Min.X ≤ b.Max.X) && decide (b.Min.Y ≤ b.Max.Y) && satd b.Min && satd b.Max
theorem aabb_Valid_eq (b : AABB) : aabb_Valid b = okBx b := by
  unfold aabb_Valid okBx aabb_saturated satd; simp only [Let_eq, cond_and, fixed_Saturate_eq]
def unionBx (a b : AABB) : AABB :=
  if okBx a = true ∧ okBx b = true then ⟨lowV a.Min b.Min, uppV a.Max b.Max⟩ else if okBx a = true then a else if okBx b = true then b else ⟨Vec.zero, Vec.zero⟩
theorem aabb_Union_eq (a b : AABB) : aabb_Union a b = unionBx a b := by
  unfold aabb_Union unionBx
  simp only [Let_eq, cond_and, aabb_Valid_eq, Bool.and_eq_true]
  rfl
def bodyBx (b : Body) : AABB × Bool :=
  if b.Fixtures.length = 0 then (⟨Vec.zero, Vec.zero⟩, false) else
  (foldR (fun i x => unionBx x (shapeBx (ix b.Fixtures (i : Int)).Shape b.Transform)) 1 (b.Fixtures.length - 1) (shapeBx (ix b.Fixtures 0).Shape b.Transform), true)
theorem body_Bounds_eq (b : Body) (hl : b.Fixtures.length ≤ 4611686018427387904) : body_Bounds b = some (bodyBx b) := by
  unfold body_Bounds bodyBx
  have st : ∀ (n i : Nat) (x : AABB), i < b.Fixtures.length → body_Bounds_l2 b (body_Bounds_j3 b) (n + 1) (i : Int) x = body_Bounds_l2 b (body_Bounds_j3 b) n ((i : Int) + 1) (if i = 0 then shapeBx (ix b.Fixtures (i : Int)).Shape b.Transform else unionBx x (shapeBx (ix b.Fixtures (i : Int)).Shape b.Transform)) := by
    intro n i x hi
    rw [body_Bounds_l2]
    rw [if_pos (by simpa using hi), Chk_of (by omega), Let_eq, shape_Bounds_eq, Bind_some]
    unfold body_Bounds_j1
    simp only [Let_eq, beq_iff_eq, aabb_Union_eq]
    rw [w64_of ((i : Int) + 1) (by omega)]
    by_cases h : i = 0
    · rw [if_pos (by omega), if_pos h]
    · rw [if_neg (by omega), if_neg h]
  have en : ∀ (n : Nat) (x : AABB), body_Bounds_l2 b (body_Bounds_j3 b) (n + 1) (b.Fixtures.length : Int) x = some (x, decide (0 < (b.Fixtures.length : Int))) := by
    intro n x
    rw [body_Bounds_l2, if_neg (by simp)]; rfl
  by_cases h : b.Fixtures.length = 0
  · rw [if_pos h]
    have := en (fuel - 1) AABB.zero
    rw [h, show fuel - 1 + 1 = fuel by have := fuel_lt 1 (by decide); omega] at this
    exact this
  rw [if_neg h]
  have := loop_gen b.Fixtures.length (fun _ => true) (fun i x => unionBx x (shapeBx (ix b.Fixtures (i : Int)).Shape b.Transform)) (fun i _ => 1 ≤ i) (fun n x j => body_Bounds_l2 b (body_Bounds_j3 b) n j x) (fun x => some (x, true)) none
    (fun n i x hi hI => ⟨by rw [st n i x hi, if_neg (by omega), if_pos rfl], fun _ => by omega⟩)
    (fun n x _ => by rw [en, decide_eq_true (by omega)])
    (fuel - 1) 1 (shapeBx (ix b.Fixtures 0).Shape b.Transform) (by omega) (by have := fuel_lt (b.Fixtures.length + 1) (by omega); omega) (by omega)
  rw [allR_tt, if_pos rfl] at this
  rw [show fuel = (fuel - 1) + 1 by have := fuel_lt 1 (by decide); omega, show (0 : Int) = ((0 : Nat) : Int) from rfl, st _ 0 _ (by omega), if_pos rfl]
  exact this
def ovlB (a b : AABB) : Bool := okBx a && okBx b && (decide (a.Min.X ≤ b.Max.X) && decide (b.Min.X ≤ a.Max.X) && decide (a.Min.Y ≤ b.Max.Y) && decide (b.Min.Y ≤ a.Max.Y))
def secB (a b c d : Vec) : Bool :=
  !(decide (0 < w64 (oriV a b c * oriV a b d)) || decide (0 < w64 (oriV c d a * oriV c d b))) && ovlB (boxP [a, b]).1 (boxP [c, d]).1
def dsq (a b : Vec) : Int := w64 (w64 (w64 (sat b.X - sat a.X) * w64 (sat b.X - sat a.X)) + w64 (w64 (sat b.Y - sat a.Y) * w64 (sat b.Y - sat a.Y)))
def lineD (c d p : Vec) : Int := w64 (w64 (w64 (d.X - c.X) * w64 (p.Y - c.Y)) - w64 (w64 (d.Y - c.Y) * w64 (p.X - c.X)))
def lineDist (c d p : Vec) : Int := max (lineD c d p) (w64 (0 - lineD c d p))
def ratio (n d : Int) : Int :=
  if d < 1 ∨ 4611686018427387904 < d ∨ n < 1 then 0 else if d ≤ n then 65536 else if d < 70368744177664 then rdv (w64 (n * 65536)) d else min (rdv n (rdv d 65536)) 65536
theorem fixed_Ratio_eq (n d : Int) : fixed_Ratio n d = some (ratio n d) := by
  unfold fixed_Ratio ratio
  simp only [Let_eq, cond_or, Bool.or_eq_true, decide_eq_true_eq, fixed_RoundDiv_eq, Bind_some]
  by_cases h : (d < 1 ∨ 4611686018427387904 < d) ∨ n < 1
  · have h' : d < 1 ∨ 4611686018427387904 < d ∨ n < 1 := by omega
    rw [if_pos h, if_pos h']
  · have h' : ¬ (d < 1 ∨ 4611686018427387904 < d ∨ n < 1) := by omega
    rw [if_neg h, if_neg h']
    split
    · rfl
    · split <;> rfl
def projN (a b p : Vec) : Int := w64 (w64 (w64 (p.X - a.X) * w64 (b.X - a.X)) + w64 (w64 (p.Y - a.Y) * w64 (b.Y - a.Y)))
def cpS (a b p : Vec) : Vec × Int :=
  let r := ratio (projN (satV a) (satV b) (satV p)) (dsq (satV a) (satV b))
  if r = 0 then (satV a, r) else if r = 65536 then (satV b, r) else (lerpV (satV a) (satV b) r, r)
def better (p q : Vec × Vec) : Vec × Vec := if dsq q.1 q.2 < dsq p.1 p.2 then q else p
def cpsS (a b c d : Vec) : Vec × Vec :=
  let a := satV a; let b := satV b; let c := satV c; let d := satV d
  if secB a b c d = true then
    let m := lerpV a b (ratio (lineDist c d a) (w64 (lineDist c d a + lineDist c d b)))
    (m, m)
  else better (better (better (a, (cpS c d a).1) (b, (cpS c d b).1)) ((cpS a b c).1, c)) ((cpS a b d).1, d)
def distS (a b c d : Vec) : Int := if secB a b c d = true then 0 else sat (isq (dsq (cpsS a b c d).1 (cpsS a b c d).2))
def insideP (v : Vec) (ps : List Vec) : Bool := allR (fun i => decide (0 ≤ oriV (ix ps (i : Int)) (ix ps (nxt ps i)) v)) 0 ps.length
def containsP (s : Shape) (t : Transform) (v : Vec) : Bool :=
  let ps := vertsW s t
  if ps.length = 0 then false else if ps.length = 1 then decide (lenV (subV v (ix ps 0)) ≤ s.Radius) else if ps.length = 2 then decide (distS v v (ix ps 0) (ix ps 1) ≤ s.Radius) else insideP v ps
end GoOld


/- The plain law of boxes, segments and points in shapes: the reference computes the same. No conditions. -/
set_option linter.all false
open Go Go.Rx

namespace GoOld
open GoForm
end GoOld

