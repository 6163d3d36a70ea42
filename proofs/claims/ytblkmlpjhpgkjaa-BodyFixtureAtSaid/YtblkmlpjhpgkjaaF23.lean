/- The plain forms of the program's functions: printed by gen2.py from the translation. No conditions. -/
import Derived.Test.YtblkmlpjhpgkjaaCxQ
set_option linter.all false
open Go Go.Cx
namespace GoForm
structure Vec where
  X : Int
  Y : Int
  deriving DecidableEq, Inhabited
def Vec.zero : Vec := ⟨0, 0⟩
structure Transform where
  Position : Vec
  Angle : Int
  deriving DecidableEq, Inhabited
def Transform.zero : Transform := ⟨Vec.zero, 0⟩
structure Shape where
  Kind : Int
  Radius : Int
  Vertices : List Vec
  deriving DecidableEq, Inhabited
def Shape.zero : Shape := ⟨0, 0, []⟩
structure Fixture where
  Shape : Shape
  Density : Int
  Friction : Int
  Restitution : Int
  Sensor : Bool
  Category : Int
  Mask : Int
  Group : Int
  deriving DecidableEq, Inhabited
def Fixture.zero : Fixture := ⟨Shape.zero, 0, 0, 0, false, 0, 0, 0⟩
structure Body where
  ID : Int
  Kind : Int
  Transform : Transform
  Velocity : Vec
  AngularVelocity : Int
  Force : Vec
  Torque : Int
  LinearDamping : Int
  AngularDamping : Int
  GravityScale : Int
  Bullet : Bool
  FixedRotation : Bool
  NoSleep : Bool
  Asleep : Bool
  IdleSteps : Int
  Fixtures : List Fixture
  deriving DecidableEq, Inhabited
def Body.zero : Body := ⟨0, 0, Transform.zero, Vec.zero, 0, Vec.zero, 0, 0, 0, 0, false, false, false, false, 0, []⟩
structure polygon_triangle where
  e : Vec
  f : Vec
  cross : Int
  deriving DecidableEq, Inhabited
def polygon_triangle.zero : polygon_triangle := ⟨Vec.zero, Vec.zero, 0⟩
structure MassData where
  Mass : Int
  Center : Vec
  Inertia : Int
  deriving DecidableEq, Inhabited
def MassData.zero : MassData := ⟨0, Vec.zero, 0⟩
structure Rot where
  Cos : Int
  Sin : Int
  deriving DecidableEq, Inhabited
def Rot.zero : Rot := ⟨0, 0⟩
structure SolverBody where
  Velocity : Vec
  AngularVelocity : Int
  InvMass : Int
  InvInertia : Int
  deriving DecidableEq, Inhabited
def SolverBody.zero : SolverBody := ⟨Vec.zero, 0, 0, 0⟩
structure AABB where
  Min : Vec
  Max : Vec
  deriving DecidableEq, Inhabited
def AABB.zero : AABB := ⟨Vec.zero, Vec.zero⟩
structure segment_candidate where
  x : Vec
  y : Vec
  deriving DecidableEq, Inhabited
def segment_candidate.zero : segment_candidate := ⟨Vec.zero, Vec.zero⟩
def Vec.beq (x y : Vec) : Bool := decide (x.X = y.X) && (decide (x.Y = y.Y))
def Transform.beq (x y : Transform) : Bool := Vec.beq x.Position y.Position && (decide (x.Angle = y.Angle))
def AABB.beq (x y : AABB) : Bool := Vec.beq x.Min y.Min && (Vec.beq x.Max y.Max)
def Vec.Wf (x : Vec) : Prop := (IntKind.i64.min ≤ x.X ∧ x.X ≤ IntKind.i64.max) ∧ (IntKind.i64.min ≤ x.Y ∧ x.Y ≤ IntKind.i64.max)
def Transform.Wf (x : Transform) : Prop := Vec.Wf x.Position ∧ (IntKind.i64.min ≤ x.Angle ∧ x.Angle ≤ IntKind.i64.max)
def Shape.Wf (x : Shape) : Prop := (IntKind.i64.min ≤ x.Kind ∧ x.Kind ≤ IntKind.i64.max) ∧ (IntKind.i64.min ≤ x.Radius ∧ x.Radius ≤ IntKind.i64.max) ∧ ((∀ a ∈ x.Vertices, Vec.Wf a) ∧ (x.Vertices).length ≤ 9223372036854775807)
def Fixture.Wf (x : Fixture) : Prop := Shape.Wf x.Shape ∧ (IntKind.i64.min ≤ x.Density ∧ x.Density ≤ IntKind.i64.max) ∧ (IntKind.i64.min ≤ x.Friction ∧ x.Friction ≤ IntKind.i64.max) ∧ (IntKind.i64.min ≤ x.Restitution ∧ x.Restitution ≤ IntKind.i64.max) ∧ True ∧ (IntKind.i64.min ≤ x.Category ∧ x.Category ≤ IntKind.i64.max) ∧ (IntKind.i64.min ≤ x.Mask ∧ x.Mask ≤ IntKind.i64.max) ∧ (IntKind.i64.min ≤ x.Group ∧ x.Group ≤ IntKind.i64.max)
def Body.Wf (x : Body) : Prop := (IntKind.i64.min ≤ x.ID ∧ x.ID ≤ IntKind.i64.max) ∧ (IntKind.i64.min ≤ x.Kind ∧ x.Kind ≤ IntKind.i64.max) ∧ Transform.Wf x.Transform ∧ Vec.Wf x.Velocity ∧ (IntKind.i64.min ≤ x.AngularVelocity ∧ x.AngularVelocity ≤ IntKind.i64.max) ∧ Vec.Wf x.Force ∧ (IntKind.i64.min ≤ x.Torque ∧ x.Torque ≤ IntKind.i64.max) ∧ (IntKind.i64.min ≤ x.LinearDamping ∧ x.LinearDamping ≤ IntKind.i64.max) ∧ (IntKind.i64.min ≤ x.AngularDamping ∧ x.AngularDamping ≤ IntKind.i64.max) ∧ (IntKind.i64.min ≤ x.GravityScale ∧ x.GravityScale ≤ IntKind.i64.max) ∧ True ∧ True ∧ True ∧ True ∧ (IntKind.i64.min ≤ x.IdleSteps ∧ x.IdleSteps ≤ IntKind.i64.max) ∧ ((∀ a ∈ x.Fixtures, Fixture.Wf a) ∧ (x.Fixtures).length ≤ 9223372036854775807)
def ref23_Small_l1 (b : Body) (kj1 : Option Bool) : Nat → Int → Option Bool
  | 0, _ => none
  | n + 1, v1 =>
    if (cond (decide (v1 < ((b.Fixtures).length : Int))) (decide (v1 < 8)) false) = true then
      Chk (0 ≤ v1 ∧ v1 < ((b.Fixtures).length : Int)) <|
      Let ((decide (20 < ((((ix b.Fixtures v1).Shape).Vertices).length : Int)))) fun x3 =>
      if x3 = true then
        some false
      else
        Let ((w64 (v1 + 1))) fun x4 =>
        (ref23_Small_l1 b kj1 n) x4
    else
      kj1
def ref23_Small_j2 (b : Body) : Option Bool :=
  Let ((decide (((b.Fixtures).length : Int) ≤ 8))) fun x5 =>
  some x5
def ref23_Small (b : Body) : Option Bool :=
  ref23_Small_l1 b (ref23_Small_j2 b) fuel 0
def body_within (x_0 : Int) (low : Int) (high : Int) : Bool :=
  Let ((cond (decide (low ≤ x_0)) (decide (x_0 ≤ high)) false)) fun x1 =>
  x1
def body_bounded (v_0 : Vec) (limit : Int) : Bool :=
  Let (body_within v_0.X (w64 (0 - limit)) limit) fun r1 =>
  Let (body_within v_0.Y (w64 (0 - limit)) limit) fun r2 =>
  Let ((cond r1 r2 false)) fun x3 =>
  x3
def transform_inWorld (x_0 : Int) : Bool :=
  Let ((cond (decide ((-268435456) ≤ x_0)) (decide (x_0 ≤ 268435456)) false)) fun x1 =>
  x1
def transform_Valid (t : Transform) : Bool :=
  Let (transform_inWorld t.Position.X) fun r1 =>
  Let (transform_inWorld t.Position.Y) fun r2 =>
  Let ((cond (cond (cond r1 r2 false) (decide ((-205888) ≤ t.Angle)) false) (decide (t.Angle < 205888)) false)) fun x3 =>
  x3
def body_inRange (b : Body) : Bool :=
  Let (body_bounded b.Velocity (16777216)) fun r1 =>
  Let (body_within b.AngularVelocity ((-4194304)) (4194304)) fun r2 =>
  Let ((cond r1 r2 false)) fun x3 =>
  Let (body_bounded b.Force (536870911)) fun r4 =>
  Let (body_within b.Torque ((-536870911)) (536870911)) fun r5 =>
  Let ((cond r4 r5 false)) fun x6 =>
  Let (body_within b.LinearDamping (0) (65536)) fun r7 =>
  Let (body_within b.AngularDamping (0) (65536)) fun r8 =>
  Let ((cond r7 r8 false)) fun x9 =>
  Let (body_within b.GravityScale ((-262144)) (262144)) fun r10 =>
  Let (body_within b.ID (1) (1099511627776)) fun r11 =>
  Let (transform_Valid b.Transform) fun r12 =>
  Let (body_within b.IdleSteps (0) (1048576)) fun r13 =>
  Let ((cond (cond (cond (cond (cond (cond r11 r12 false) x3 false) x6 false) x9 false) r10 false) r13 false)) fun x14 =>
  x14
def shape_validCount (s : Shape) : Bool :=
  Let ((s.Kind == 1)) fun x1 =>
  if x1 = true then
    Let ((((s.Vertices).length : Int) == 1)) fun x2 =>
    x2
  else
    Let ((s.Kind == 2)) fun x3 =>
    if x3 = true then
      Let ((((s.Vertices).length : Int) == 2)) fun x4 =>
      x4
    else
      Let ((cond (decide (3 ≤ ((s.Vertices).length : Int))) (decide (((s.Vertices).length : Int) ≤ 8)) false)) fun x5 =>
      x5
def slices_IndexFunc_Vec_l1 (s : List Vec) (f : Vec → Option Bool) (kj1 : Option Int) : Nat → Int → Option Int
  | 0, _ => none
  | n + 1, v1 =>
    if (decide (v1 < ((s).length : Int))) = true then
      Chk (0 ≤ v1 ∧ v1 < ((s).length : Int)) <|
      Bind (f (ix s v1)) fun r3 =>
      if r3 = true then
        some v1
      else
        Let ((w64 (v1 + 1))) fun x4 =>
        (slices_IndexFunc_Vec_l1 s f kj1 n) x4
    else
      kj1
def slices_IndexFunc_Vec_j2 : Option Int :=
  some (-1)
def slices_IndexFunc_Vec (s : List Vec) (f : Vec → Option Bool) : Option Int :=
  slices_IndexFunc_Vec_l1 s f slices_IndexFunc_Vec_j2 fuel 0
def slices_ContainsFunc_Vec (s : List Vec) (f : Vec → Option Bool) : Option Bool :=
  Bind (slices_IndexFunc_Vec s f) fun r1 =>
  Let ((decide (0 ≤ r1))) fun x2 =>
  some x2
def shape_outOfRange (n_0 : Int) : Bool :=
  Let ((cond (decide (n_0 < (-1048576))) true (decide (1048576 < n_0)))) fun x1 =>
  x1
def shape_Validate_c1 (v_0 : Vec) : Bool :=
  Let (shape_outOfRange v_0.X) fun r1 =>
  Let (shape_outOfRange v_0.Y) fun r2 =>
  Let ((cond r1 true r2)) fun x3 =>
  x3
def fixed_Saturate (x_0 : Int) : Int :=
  Let ((min (max x_0 (-536870911)) 536870911)) fun x1 =>
  x1
def fixed_Sub (a : Int) (b : Int) : Int :=
  Let (fixed_Saturate a) fun r1 =>
  Let (fixed_Saturate b) fun r2 =>
  Let (fixed_Saturate (w64 (r1 - r2))) fun r3 =>
  r3
def vec2_Sub (a : Vec) (b : Vec) : Vec :=
  Let (fixed_Sub a.X b.X) fun r1 =>
  Let (fixed_Sub a.Y b.Y) fun r2 =>
  Let ((⟨r1, r2⟩ : Vec)) fun x3 =>
  x3
def vec2_saturate (v_0 : Vec) : Vec :=
  Let (fixed_Saturate v_0.X) fun r1 =>
  Let (fixed_Saturate v_0.Y) fun r2 =>
  Let ((⟨r1, r2⟩ : Vec)) fun x3 =>
  x3
def vec2_DistanceSquared (a : Vec) (b : Vec) : Int :=
  Let (vec2_saturate a) fun r1 =>
  Let (vec2_saturate b) fun r2 =>
  Let (r1) fun x3 =>
  Let (r2) fun x4 =>
  Let ((w64 (x4.X - x3.X))) fun x5 =>
  Let ((w64 (x4.Y - x3.Y))) fun x6 =>
  Let ((w64 ((w64 (x5 * x5)) + (w64 (x6 * x6))))) fun x7 =>
  x7
def fixed_Isqrt_j1 (v3 : Int) (kn2 : Int → Int → Option Int) (v4 : Int) : Option Int :=
  Let ((bShr .i64 v3 1)) fun x7 =>
  kn2 v4 x7
def fixed_Isqrt_l2 (n_0 : Int) (kj1 : Int → Option Int) : Nat → Int → Int → Option Int
  | 0, _, _ => none
  | n + 1, v2, v3 =>
    if (decide (0 < v3)) = true then
      Let ((bOr .i64 v2 v3)) fun x5 =>
      Let ((IntKind.u64.wrap ((IntKind.u64.wrap (x5)) * (IntKind.u64.wrap (x5))))) fun x6 =>
      if (decide (x6 ≤ (IntKind.u64.wrap (n_0)))) = true then
        (fixed_Isqrt_j1 v3 (fixed_Isqrt_l2 n_0 kj1 n)) x5
      else
        (fixed_Isqrt_j1 v3 (fixed_Isqrt_l2 n_0 kj1 n)) v2
    else
      kj1 v2
def fixed_Isqrt_j3 (v1 : Int) : Option Int :=
  some v1
def fixed_Isqrt (n_0 : Int) : Option Int :=
  if (cond (decide (n_0 < 0)) true (decide (4611686018427387904 < n_0))) = true then
    some 0
  else
    fixed_Isqrt_l2 n_0 fixed_Isqrt_j3 fuel 0 2147483648
def vec2_Length (v_0 : Vec) : Option Int :=
  Let (vec2_DistanceSquared (⟨0, 0⟩ : Vec) v_0) fun r1 =>
  Bind (fixed_Isqrt r1) fun r2 =>
  some r2
def polygon_inReach (v_0 : Vec) : Bool :=
  Let ((cond (cond (cond (decide ((-1048576) ≤ v_0.X)) (decide (v_0.X ≤ 1048576)) false) (decide ((-1048576) ≤ v_0.Y)) false) (decide (v_0.Y ≤ 1048576)) false)) fun x1 =>
  x1
def polygon_allInReach_l1 (points : List Vec) (kj1 : Option Bool) : Nat → Int → Option Bool
  | 0, _ => none
  | n + 1, v1 =>
    if (decide (v1 < ((points).length : Int))) = true then
      Chk (0 ≤ v1 ∧ v1 < ((points).length : Int)) <|
      Let ((ix points v1)) fun x3 =>
      Let (polygon_inReach x3) fun r4 =>
      if (!r4) = true then
        some false
      else
        Let ((w64 (v1 + 1))) fun x5 =>
        (polygon_allInReach_l1 points kj1 n) x5
    else
      kj1
def polygon_allInReach_j2 : Option Bool :=
  some true
def polygon_allInReach (points : List Vec) : Option Bool :=
  polygon_allInReach_l1 points polygon_allInReach_j2 fuel 0
def vec2_Orientation (a : Vec) (b : Vec) (c_2 : Vec) : Int :=
  Let (vec2_saturate a) fun r1 =>
  Let (vec2_saturate b) fun r2 =>
  Let (vec2_saturate c_2) fun r3 =>
  Let (r1) fun x4 =>
  Let (r2) fun x5 =>
  Let (r3) fun x6 =>
  Let ((w64 ((w64 ((w64 (x5.X - x4.X)) * (w64 (x6.Y - x4.Y)))) - (w64 ((w64 (x5.Y - x4.Y)) * (w64 (x6.X - x4.X))))))) fun x7 =>
  Let ((min (1 : Int) (max ((-1) : Int) x7))) fun x8 =>
  x8
def polygon_IsConvex_l1 (vertices : List Vec) (v2 : Int) (kj3 : Option Bool) (x4 : Vec) (x6 : Int) : Nat → Int → Option Bool
  | 0, _ => none
  | n + 1, v7 =>
    if (decide (v7 < ((vertices).length : Int))) = true then
      Chk (0 ≤ v7 ∧ v7 < ((vertices).length : Int)) <|
      Let ((ix vertices v7)) fun x9 =>
      Chk (((cond (v7 != v2) (v7 != x6) false) == true) = true → 0 ≤ x6 ∧ x6 < ((vertices).length : Int)) <|
      Let (vec2_Orientation x4 (ix vertices x6) x9) fun r11 =>
      if (cond (cond (v7 != v2) (v7 != x6) false) (r11 != 1) false) = true then
        some false
      else
        Let ((w64 (v7 + 1))) fun x12 =>
        (polygon_IsConvex_l1 vertices v2 kj3 x4 x6 n) x12
    else
      kj3
def polygon_IsConvex_j2 (v2 : Int) (kn2 : Int → Option Bool) : Option Bool :=
  Let ((w64 (v2 + 1))) fun x13 =>
  kn2 x13
def polygon_IsConvex_l3 (vertices : List Vec) (kj1 : Option Bool) : Nat → Int → Option Bool
  | 0, _ => none
  | n + 1, v2 =>
    if (decide (v2 < ((vertices).length : Int))) = true then
      Chk (0 ≤ v2 ∧ v2 < ((vertices).length : Int)) <|
      Let ((ix vertices v2)) fun x4 =>
      Chk (((vertices).length : Int) ≠ 0) <|
      Let ((Int.tmod (w64 (v2 + 1)) ((vertices).length : Int))) fun x6 =>
      polygon_IsConvex_l1 vertices v2 (polygon_IsConvex_j2 v2 (polygon_IsConvex_l3 vertices kj1 n)) x4 x6 fuel 0
    else
      kj1
def polygon_IsConvex_j4 : Option Bool :=
  some true
def polygon_IsConvex (vertices : List Vec) : Option Bool :=
  Bind (if ((cond (decide (((vertices).length : Int) < 3)) true (decide (8 < ((vertices).length : Int)))) == false) = true then polygon_allInReach vertices else some default) fun r1 =>
  if (cond (cond (decide (((vertices).length : Int) < 3)) true (decide (8 < ((vertices).length : Int)))) true (!r1)) = true then
    some false
  else
    polygon_IsConvex_l3 vertices polygon_IsConvex_j4 fuel 0
def polygon_ShortestEdge_l1 (vertices : List Vec) (kj1 : Int → Option Int) : Nat → Int → Int → Option Int
  | 0, _, _ => none
  | n + 1, v3, v4 =>
    if (decide (v4 < ((vertices).length : Int))) = true then
      Chk (0 ≤ v4 ∧ v4 < ((vertices).length : Int)) <|
      Let ((ix vertices v4)) fun x6 =>
      Chk (((vertices).length : Int) ≠ 0) <|
      Chk (0 ≤ (Int.tmod (w64 (v4 + 1)) ((vertices).length : Int)) ∧ (Int.tmod (w64 (v4 + 1)) ((vertices).length : Int)) < ((vertices).length : Int)) <|
      Let (vec2_Sub (ix vertices (Int.tmod (w64 (v4 + 1)) ((vertices).length : Int))) x6) fun r9 =>
      Bind (vec2_Length r9) fun r10 =>
      Let ((min v3 r10)) fun x11 =>
      Let ((w64 (v4 + 1))) fun x12 =>
      (polygon_ShortestEdge_l1 vertices kj1 n) x11 x12
    else
      kj1 v3
def polygon_ShortestEdge_j2 (v2 : Int) : Option Int :=
  some v2
def polygon_ShortestEdge (vertices : List Vec) : Option Int :=
  Bind (polygon_IsConvex vertices) fun r1 =>
  if (!r1) = true then
    some 0
  else
    polygon_ShortestEdge_l1 vertices polygon_ShortestEdge_j2 fuel 536870911 0
def fixed_RoundDiv (n_0 : Int) (d : Int) : Option Int :=
  if (cond (cond (cond (decide (d < 1)) true (decide (4611686018427387904 < d))) true (decide (n_0 < (-4611686018427387904)))) true (decide (4611686018427387904 < n_0))) = true then
    some 0
  else
    Chk (d ≠ 0) <|
    Chk (d ≠ 0) <|
    Let ((w64 (Int.tdiv n_0 d))) fun x3 =>
    Let ((Int.tmod n_0 d)) fun x4 =>
    Let ((decide ((w64 (d - x4)) ≤ x4))) fun x5 =>
    if x5 = true then
      Let ((w64 (x3 + 1))) fun x6 =>
      some x6
    else
      Let ((decide ((w64 (d + x4)) ≤ (w64 (0 - x4))))) fun x7 =>
      if x7 = true then
        Let ((w64 (x3 - 1))) fun x8 =>
        some x8
      else
        some x3
def polygon_fan_l1 (vertices : List Vec) (x2 : Vec) (kj1 : List polygon_triangle → Int → Option (List polygon_triangle × Int)) : Nat → List polygon_triangle → Int → Int → Option (List polygon_triangle × Int)
  | 0, _, _, _ => none
  | n + 1, v5, v6, v7 =>
    if (decide ((w64 (v7 + 1)) < ((vertices).length : Int))) = true then
      Chk (0 ≤ v7 ∧ v7 < ((vertices).length : Int)) <|
      Chk (0 ≤ v7 ∧ v7 < ((vertices).length : Int)) <|
      Let ((⟨(w64 (((ix vertices v7).X) - x2.X)), (w64 (((ix vertices v7).Y) - x2.Y))⟩ : Vec)) fun x10 =>
      Chk (0 ≤ (w64 (v7 + 1)) ∧ (w64 (v7 + 1)) < ((vertices).length : Int)) <|
      Chk (0 ≤ (w64 (v7 + 1)) ∧ (w64 (v7 + 1)) < ((vertices).length : Int)) <|
      Let ((⟨(w64 (((ix vertices (w64 (v7 + 1))).X) - x2.X)), (w64 (((ix vertices (w64 (v7 + 1))).Y) - x2.Y))⟩ : Vec)) fun x13 =>
      Bind (fixed_RoundDiv (w64 ((w64 (x10.X * x13.Y)) - (w64 (x10.Y * x13.X)))) (65536)) fun r14 =>
      Chk (((v5).length + (([(⟨x10, x13, r14⟩ : polygon_triangle)] : List polygon_triangle)).length) * 40 ≤ 140737488355328) <|
      Let (v5 ++ ([(⟨x10, x13, r14⟩ : polygon_triangle)] : List polygon_triangle)) fun x16 =>
      Let ((w64 (v6 + r14))) fun x17 =>
      Let ((w64 (v7 + 1))) fun x18 =>
      (polygon_fan_l1 vertices x2 kj1 n) x16 x17 x18
    else
      kj1 v5 v6
def polygon_fan_j2 (v3 : List polygon_triangle) (v4 : Int) : Option (List polygon_triangle × Int) :=
  some (v3, v4)
def polygon_fan (vertices : List Vec) : Option (List polygon_triangle × Int) :=
  Chk (0 ≤ (0 : Int) ∧ 0 < ((vertices).length : Int)) <|
  Let ((ix vertices 0)) fun x2 =>
  polygon_fan_l1 vertices x2 polygon_fan_j2 fuel ([] : List polygon_triangle) 0 1
def polygon_Area (vertices : List Vec) : Option Int :=
  Bind (polygon_IsConvex vertices) fun r1 =>
  if (!r1) = true then
    some 0
  else
    Bind (polygon_fan vertices) fun r2 =>
    Bind (fixed_RoundDiv r2.2 (2)) fun r3 =>
    some r3
def shape_Validate_j1 (s : Shape) (v5 : Bool) : Option Int :=
  if v5 = true then
    some 6
  else
    Chk (((s.Kind == 2) == true) = true → 0 ≤ (1 : Int) ∧ 1 < ((s.Vertices).length : Int)) <|
    Chk (((s.Kind == 2) == true) = true → 0 ≤ (0 : Int) ∧ 0 < ((s.Vertices).length : Int)) <|
    Let (vec2_Sub (ix s.Vertices 1) (ix s.Vertices 0)) fun r10 =>
    Bind (if ((s.Kind == 2) == true) = true then vec2_Length r10 else some default) fun r11 =>
    Let ((cond (s.Kind == 2) (decide (r11 < 4096)) false)) fun x12 =>
    if x12 = true then
      some 12
    else
      Bind (if ((s.Kind == 3) == true) = true then polygon_IsConvex s.Vertices else some default) fun r13 =>
      Bind (if (((s.Kind == 3) == true) && ((!r13) == false)) = true then polygon_ShortestEdge s.Vertices else some default) fun r14 =>
      Bind (if (((s.Kind == 3) == true) && ((cond (!r13) true (decide (r14 < 4096))) == false)) = true then polygon_Area s.Vertices else some default) fun r15 =>
      Let ((cond (s.Kind == 3) (cond (cond (!r13) true (decide (r14 < 4096))) true (decide (r15 < 256))) false)) fun x16 =>
      if x16 = true then
        some 12
      else
        some 0
def shape_Validate (s : Shape) : Option Int :=
  Let ((cond (decide (s.Kind < 1)) true (decide (3 < s.Kind)))) fun x1 =>
  if x1 = true then
    some 10
  else
    Let (shape_validCount s) fun r2 =>
    Let ((!r2)) fun x3 =>
    if x3 = true then
      some 11
    else
      Bind (slices_ContainsFunc_Vec s.Vertices ((fun (y0 : Vec) => some (shape_Validate_c1 y0)))) fun r4 =>
      if r4 = true then
        some 6
      else
        Let ((cond (s.Kind == 3) (s.Radius != 0) false)) fun x6 =>
        if x6 = true then
          (shape_Validate_j1 s) x6
        else
          Let ((cond (s.Kind != 3) (cond (decide (s.Radius < 2048)) true (decide (524288 < s.Radius))) false)) fun x7 =>
          (shape_Validate_j1 s) x7
def body_ValidateFixture (f : Fixture) : Option Int :=
  Bind (shape_Validate f.Shape) fun r1 =>
  if (r1 != 0) = true then
    some r1
  else
    Let (body_within f.Density (0) (262144)) fun r2 =>
    Let (body_within f.Friction (0) (131072)) fun r3 =>
    Let (body_within f.Restitution (0) (65536)) fun r4 =>
    Let ((cond (cond r2 r3 false) r4 false)) fun x5 =>
    Let (body_within f.Category (0) (65535)) fun r6 =>
    Let (body_within f.Mask (0) (65535)) fun r7 =>
    Let (body_within f.Group ((-32)) (32)) fun r8 =>
    Let ((cond (cond r6 r7 false) r8 false)) fun x9 =>
    if (cond (!x5) true (!x9)) = true then
      some 6
    else
      some 0
def body_moving (b : Body) : Bool :=
  Let ((cond (!Vec.beq b.Velocity (⟨0, 0⟩ : Vec)) true (b.AngularVelocity != 0))) fun x1 =>
  x1
def body_consistent (b : Body) : Bool :=
  Let ((cond (!Vec.beq b.Force (⟨0, 0⟩ : Vec)) true (b.Torque != 0))) fun x1 =>
  Let (body_moving b) fun r2 =>
  Let ((cond (b.Kind == 1) (cond r2 true x1) false)) fun x3 =>
  if x3 = true then
    false
  else
    Let ((cond (b.Kind != 3) (cond b.Asleep true b.Bullet) false)) fun x4 =>
    if x4 = true then
      false
    else
      Let (body_moving b) fun r5 =>
      Let ((cond (!b.Asleep) true (!r5))) fun x6 =>
      x6
def body_Validate_l1 (b : Body) (kj1 : Option Int) : Nat → Int → Option Int
  | 0, _ => none
  | n + 1, v2 =>
    if (decide (v2 < ((b.Fixtures).length : Int))) = true then
      Chk (0 ≤ v2 ∧ v2 < ((b.Fixtures).length : Int)) <|
      Let ((ix b.Fixtures v2)) fun x4 =>
      Bind (body_ValidateFixture x4) fun r5 =>
      if (r5 != 0) = true then
        some 13
      else
        Let ((w64 (v2 + 1))) fun x6 =>
        (body_Validate_l1 b kj1 n) x6
    else
      kj1
def body_Validate_j2 (b : Body) : Option Int :=
  Let (body_consistent b) fun r7 =>
  if (!r7) = true then
    some 14
  else
    some 0
def body_Validate (b : Body) : Option Int :=
  if (cond (cond (b.Kind != 1) (b.Kind != 2) false) (b.Kind != 3) false) = true then
    some 10
  else
    Let (body_inRange b) fun r1 =>
    if (!r1) = true then
      some 6
    else
      if (decide (4 < ((b.Fixtures).length : Int))) = true then
        some 11
      else
        body_Validate_l1 b (body_Validate_j2 b) fuel 0
def law23_disk (x_0 : Int) : Body :=
  Let ((⟨1, 3, (⟨(⟨x_0, 0⟩ : Vec), 0⟩ : Transform), Vec.zero, 0, Vec.zero, 0, 0, 0, 65536, false, false, false, false, 0, ([(⟨(⟨1, 65536, ([(⟨0, 0⟩ : Vec)] : List Vec)⟩ : Shape), 65536, 0, 0, false, 1, 1, 0⟩ : Fixture)] : List Fixture)⟩ : Body)) fun x1 =>
  x1
def fixed_Mul (a : Int) (b : Int) : Option Int :=
  Let (fixed_Saturate a) fun r1 =>
  Let (fixed_Saturate b) fun r2 =>
  Bind (fixed_RoundDiv (w64 (r1 * r2)) (65536)) fun r3 =>
  Let (fixed_Saturate r3) fun r4 =>
  some r4
def massdata_ofCircle (s : Shape) (density : Int) : Option MassData :=
  Bind (fixed_Mul s.Radius s.Radius) fun r1 =>
  Bind (fixed_Mul (205888) r1) fun r2 =>
  Bind (fixed_Mul r2 density) fun r3 =>
  Chk (0 ≤ (0 : Int) ∧ 0 < ((s.Vertices).length : Int)) <|
  Bind (fixed_RoundDiv r1 (2)) fun r5 =>
  Bind (fixed_Mul r3 r5) fun r6 =>
  Let ((⟨r3, (ix s.Vertices 0), r6⟩ : MassData)) fun x7 =>
  some x7
def fixed_Add (a : Int) (b : Int) : Int :=
  Let (fixed_Saturate a) fun r1 =>
  Let (fixed_Saturate b) fun r2 =>
  Let (fixed_Saturate (w64 (r1 + r2))) fun r3 =>
  r3
def fixed_Lerp (a : Int) (b : Int) (t : Int) : Option Int :=
  Let (fixed_Sub b a) fun r1 =>
  Bind (fixed_Mul r1 t) fun r2 =>
  Let (fixed_Add a r2) fun r3 =>
  some r3
def vec2_Lerp (a : Vec) (b : Vec) (t : Int) : Option Vec :=
  Bind (fixed_Lerp a.X b.X t) fun r1 =>
  Bind (fixed_Lerp a.Y b.Y t) fun r2 =>
  Let ((⟨r1, r2⟩ : Vec)) fun x3 =>
  some x3
def massdata_ofCapsule (s : Shape) (density : Int) : Option MassData :=
  Bind (fixed_Mul s.Radius s.Radius) fun r1 =>
  Chk (0 ≤ (1 : Int) ∧ 1 < ((s.Vertices).length : Int)) <|
  Chk (0 ≤ (0 : Int) ∧ 0 < ((s.Vertices).length : Int)) <|
  Let (vec2_Sub (ix s.Vertices 1) (ix s.Vertices 0)) fun r4 =>
  Bind (vec2_Length r4) fun r5 =>
  Bind (fixed_Mul (205888) r1) fun r6 =>
  Let (fixed_Add s.Radius s.Radius) fun r7 =>
  Bind (fixed_Mul r7 r5) fun r8 =>
  Let (fixed_Add r6 r8) fun r9 =>
  Bind (fixed_Mul r9 density) fun r10 =>
  Bind (fixed_RoundDiv r1 (2)) fun r11 =>
  Bind (fixed_Mul r5 r5) fun r12 =>
  Bind (fixed_RoundDiv r12 (12)) fun r13 =>
  Let (fixed_Add r11 r13) fun r14 =>
  Chk (0 ≤ (0 : Int) ∧ 0 < ((s.Vertices).length : Int)) <|
  Chk (0 ≤ (1 : Int) ∧ 1 < ((s.Vertices).length : Int)) <|
  Bind (vec2_Lerp (ix s.Vertices 0) (ix s.Vertices 1) (32768)) fun r17 =>
  Bind (fixed_Mul r10 r14) fun r18 =>
  Let ((⟨r10, r17, r18⟩ : MassData)) fun x19 =>
  some x19
def polygon_Centroid_l1 (r3 : List polygon_triangle × Int) (kj1 : Int → Int → Option Vec) : Nat → Int → Int → Int → Option Vec
  | 0, _, _, _ => none
  | n + 1, v8, v9, v10 =>
    if (decide (v10 < ((r3.1).length : Int))) = true then
      Chk (0 ≤ v10 ∧ v10 < ((r3.1).length : Int)) <|
      Let ((ix r3.1 v10)) fun x12 =>
      Let ((w64 (v8 + (w64 ((w64 (x12.e.X + x12.f.X)) * x12.cross))))) fun x13 =>
      Let ((w64 (v9 + (w64 ((w64 (x12.e.Y + x12.f.Y)) * x12.cross))))) fun x14 =>
      Let ((w64 (v10 + 1))) fun x15 =>
      (polygon_Centroid_l1 r3 kj1 n) x13 x14 x15
    else
      kj1 v8 v9
def polygon_Centroid_j2 (vertices : List Vec) (r3 : List polygon_triangle × Int) (v6 : Int) (v7 : Int) : Option Vec :=
  Chk (0 ≤ (0 : Int) ∧ 0 < ((vertices).length : Int)) <|
  Bind (fixed_RoundDiv v6 (w64 (3 * r3.2))) fun r17 =>
  Chk (0 ≤ (0 : Int) ∧ 0 < ((vertices).length : Int)) <|
  Bind (fixed_RoundDiv v7 (w64 (3 * r3.2))) fun r19 =>
  Let ((⟨(w64 (((ix vertices 0).X) + r17)), (w64 (((ix vertices 0).Y) + r19))⟩ : Vec)) fun x20 =>
  some x20
def polygon_Centroid (vertices : List Vec) : Option Vec :=
  Bind (polygon_IsConvex vertices) fun r1 =>
  if (!r1) = true then
    Let ((⟨0, 0⟩ : Vec)) fun x2 =>
    some x2
  else
    Bind (polygon_fan vertices) fun r3 =>
    if (r3.2 == 0) = true then
      Chk (0 ≤ (0 : Int) ∧ 0 < ((vertices).length : Int)) <|
      Let ((ix vertices 0)) fun x5 =>
      some x5
    else
      polygon_Centroid_l1 r3 (polygon_Centroid_j2 vertices r3) fuel 0 0 0
def vec2_product (n_0 : Int) : Option Int :=
  Bind (fixed_RoundDiv n_0 (65536)) fun r1 =>
  Let (fixed_Saturate r1) fun r2 =>
  some r2
def vec2_Cross (a : Vec) (b : Vec) : Option Int :=
  Let (vec2_saturate a) fun r1 =>
  Let (vec2_saturate b) fun r2 =>
  Let (r1) fun x3 =>
  Let (r2) fun x4 =>
  Bind (vec2_product (w64 ((w64 (x3.X * x4.Y)) - (w64 (x3.Y * x4.X))))) fun r5 =>
  some r5
def vec2_Dot (a : Vec) (b : Vec) : Option Int :=
  Let (vec2_saturate a) fun r1 =>
  Let (vec2_saturate b) fun r2 =>
  Let (r1) fun x3 =>
  Let (r2) fun x4 =>
  Bind (vec2_product (w64 ((w64 (x3.X * x4.X)) + (w64 (x3.Y * x4.Y))))) fun r5 =>
  some r5
def massdata_ofPolygon_l1 (s : Shape) (x4 : Vec) (kj1 : Int → Int → Option MassData) : Nat → Int → Int → Int → Vec → Option MassData
  | 0, _, _, _, _ => none
  | n + 1, v10, v11, v12, v13 =>
    if (decide (v12 < ((s.Vertices).length : Int))) = true then
      Chk (0 ≤ v12 ∧ v12 < ((s.Vertices).length : Int)) <|
      Let ((ix s.Vertices v12)) fun x15 =>
      Let (vec2_Sub x15 x4) fun r16 =>
      Let (r16) fun x17 =>
      Bind (vec2_Cross v13 x17) fun r18 =>
      Bind (vec2_Dot v13 v13) fun r19 =>
      Bind (vec2_Dot v13 x17) fun r20 =>
      Bind (vec2_Dot x17 x17) fun r21 =>
      Let ((w64 (v10 + (w64 (r18 * (w64 ((w64 (r19 + r20)) + r21))))))) fun x22 =>
      Let ((w64 (v11 + r18))) fun x23 =>
      Let (x17) fun x24 =>
      Let ((w64 (v12 + 1))) fun x25 =>
      (massdata_ofPolygon_l1 s x4 kj1 n) x22 x23 x25 x24
    else
      kj1 v10 v11
def massdata_ofPolygon_j2 (r2 : Int) (x4 : Vec) (v8 : Int) (v9 : Int) : Option MassData :=
  if (decide (v9 < 1)) = true then
    Let ((⟨r2, x4, 0⟩ : MassData)) fun x26 =>
    some x26
  else
    Bind (fixed_RoundDiv v8 v9) fun r27 =>
    Bind (fixed_RoundDiv r27 (6)) fun r28 =>
    Bind (fixed_Mul r2 r28) fun r29 =>
    Let ((⟨r2, x4, r29⟩ : MassData)) fun x30 =>
    some x30
def massdata_ofPolygon (s : Shape) (density : Int) : Option MassData :=
  Bind (polygon_Area s.Vertices) fun r1 =>
  Bind (fixed_Mul r1 density) fun r2 =>
  Bind (polygon_Centroid s.Vertices) fun r3 =>
  Let (r3) fun x4 =>
  Chk (0 ≤ (w64 (((s.Vertices).length : Int) - 1)) ∧ (w64 (((s.Vertices).length : Int) - 1)) < ((s.Vertices).length : Int)) <|
  Let (vec2_Sub (ix s.Vertices (w64 (((s.Vertices).length : Int) - 1))) x4) fun r6 =>
  Let (r6) fun x7 =>
  massdata_ofPolygon_l1 s x4 (massdata_ofPolygon_j2 r2 x4) fuel 0 0 0 x7
def massdata_OfShape (s : Shape) (density : Int) : Option MassData :=
  Bind (shape_Validate s) fun r1 =>
  if (cond (cond (r1 != 0) true (decide (density < 0))) true (decide (262144 < density))) = true then
    Let ((⟨0, Vec.zero, 0⟩ : MassData)) fun x2 =>
    some x2
  else
    Let ((s.Kind == 1)) fun x3 =>
    if x3 = true then
      Bind (massdata_ofCircle s density) fun r4 =>
      Let (r4) fun x5 =>
      some x5
    else
      Let ((s.Kind == 2)) fun x6 =>
      if x6 = true then
        Bind (massdata_ofCapsule s density) fun r7 =>
        Let (r7) fun x8 =>
        some x8
      else
        Bind (massdata_ofPolygon s density) fun r9 =>
        Let (r9) fun x10 =>
        some x10
def slices_IndexFunc_MassData_l1 (s : List MassData) (f : MassData → Option Bool) (kj1 : Option Int) : Nat → Int → Option Int
  | 0, _ => none
  | n + 1, v1 =>
    if (decide (v1 < ((s).length : Int))) = true then
      Chk (0 ≤ v1 ∧ v1 < ((s).length : Int)) <|
      Bind (f (ix s v1)) fun r3 =>
      if r3 = true then
        some v1
      else
        Let ((w64 (v1 + 1))) fun x4 =>
        (slices_IndexFunc_MassData_l1 s f kj1 n) x4
    else
      kj1
def slices_IndexFunc_MassData_j2 : Option Int :=
  some (-1)
def slices_IndexFunc_MassData (s : List MassData) (f : MassData → Option Bool) : Option Int :=
  slices_IndexFunc_MassData_l1 s f slices_IndexFunc_MassData_j2 fuel 0
def slices_ContainsFunc_MassData (s : List MassData) (f : MassData → Option Bool) : Option Bool :=
  Bind (slices_IndexFunc_MassData s f) fun r1 =>
  Let ((decide (0 ≤ r1))) fun x2 =>
  some x2
def massdata_Combine_c1 (p : MassData) : Bool :=
  Let ((decide (p.Mass < 0))) fun x1 =>
  x1
def massdata_Combine_l1 (parts : List MassData) (kj1 : Int → Int → Int → MassData → Option MassData) : Nat → Int → Int → Int → Int → MassData → Option MassData
  | 0, _, _, _, _, _ => none
  | n + 1, v7, v8, v9, v10, v11 =>
    if (decide (v10 < ((parts).length : Int))) = true then
      Chk (0 ≤ v10 ∧ v10 < ((parts).length : Int)) <|
      Let ((ix parts v10)) fun x13 =>
      Let (fixed_Saturate x13.Mass) fun r14 =>
      Let (fixed_Add v11.Mass r14) fun r15 =>
      Let ({ v11 with Mass := r15 }) fun x16 =>
      Let (fixed_Saturate x13.Center.X) fun r17 =>
      Let (fixed_Saturate x13.Center.Y) fun r18 =>
      Let ((w64 (v7 + r14))) fun x19 =>
      Let ((w64 (v8 + (w64 (r14 * r17))))) fun x20 =>
      Let ((w64 (v9 + (w64 (r14 * r18))))) fun x21 =>
      Let ((w64 (v10 + 1))) fun x22 =>
      (massdata_Combine_l1 parts kj1 n) x19 x20 x21 x22 x16
    else
      kj1 v7 v8 v9 v11
def massdata_Combine_l2 (parts : List MassData) (kj4 : MassData → Option MassData) : Nat → Int → MassData → Option MassData
  | 0, _, _ => none
  | n + 1, v28, v29 =>
    if (decide (v28 < ((parts).length : Int))) = true then
      Chk (0 ≤ v28 ∧ v28 < ((parts).length : Int)) <|
      Let ((ix parts v28)) fun x31 =>
      Let (vec2_Sub x31.Center v29.Center) fun r32 =>
      Let (r32) fun x33 =>
      Let (fixed_Add v29.Inertia x31.Inertia) fun r34 =>
      Bind (vec2_Dot x33 x33) fun r35 =>
      Bind (fixed_Mul x31.Mass r35) fun r36 =>
      Let (fixed_Add r34 r36) fun r37 =>
      Let ({ v29 with Inertia := r37 }) fun x38 =>
      Let ((w64 (v28 + 1))) fun x39 =>
      (massdata_Combine_l2 parts kj4 n) x39 x38
    else
      kj4 v29
def massdata_Combine_j3 (v27 : MassData) : Option MassData :=
  Let (v27) fun x40 =>
  some x40
def massdata_Combine_j4 (parts : List MassData) (v23 : MassData) : Option MassData :=
  massdata_Combine_l2 parts massdata_Combine_j3 fuel 0 v23
def massdata_Combine_j5 (parts : List MassData) (v3 : Int) (v4 : Int) (v5 : Int) (v6 : MassData) : Option MassData :=
  if (decide (0 < v3)) = true then
    Bind (fixed_RoundDiv v4 v3) fun r24 =>
    Bind (fixed_RoundDiv v5 v3) fun r25 =>
    Let ({ v6 with Center := (⟨r24, r25⟩ : Vec) }) fun x26 =>
    (massdata_Combine_j4 parts) x26
  else
    (massdata_Combine_j4 parts) v6
def massdata_Combine (parts : List MassData) : Option MassData :=
  Bind (if ((decide (8 < ((parts).length : Int))) == false) = true then slices_ContainsFunc_MassData parts ((fun (y0 : MassData) => some (massdata_Combine_c1 y0))) else some default) fun r1 =>
  if (cond (decide (8 < ((parts).length : Int))) true r1) = true then
    Let ((⟨0, Vec.zero, 0⟩ : MassData)) fun x2 =>
    some x2
  else
    massdata_Combine_l1 parts (massdata_Combine_j5 parts) fuel 0 0 0 0 MassData.zero
def massdata_OfFixtures_j1 (v4 : Int) (kn2 : List MassData → Int → Option MassData) (v5 : List MassData) : Option MassData :=
  Let ((w64 (v4 + 1))) fun x11 =>
  kn2 v5 x11
def massdata_OfFixtures_l2 (fixtures : List Fixture) (kj1 : List MassData → Option MassData) : Nat → List MassData → Int → Option MassData
  | 0, _, _ => none
  | n + 1, v3, v4 =>
    if (decide (v4 < ((fixtures).length : Int))) = true then
      Chk (0 ≤ v4 ∧ v4 < ((fixtures).length : Int)) <|
      Let ((ix fixtures v4)) fun x7 =>
      if (!x7.Sensor) = true then
        Bind (massdata_OfShape x7.Shape x7.Density) fun r8 =>
        Chk (((v3).length + (([r8] : List MassData)).length) * 32 ≤ 140737488355328) <|
        Let (v3 ++ ([r8] : List MassData)) fun x10 =>
        (massdata_OfFixtures_j1 v4 (massdata_OfFixtures_l2 fixtures kj1 n)) x10
      else
        (massdata_OfFixtures_j1 v4 (massdata_OfFixtures_l2 fixtures kj1 n)) v3
    else
      kj1 v3
def massdata_OfFixtures_j3 (v2 : List MassData) : Option MassData :=
  Bind (massdata_Combine v2) fun r12 =>
  Let (r12) fun x13 =>
  some x13
def massdata_OfFixtures (fixtures : List Fixture) : Option MassData :=
  if (decide (4 < ((fixtures).length : Int))) = true then
    Let ((⟨0, Vec.zero, 0⟩ : MassData)) fun x1 =>
    some x1
  else
    massdata_OfFixtures_l2 fixtures massdata_OfFixtures_j3 fuel ([] : List MassData) 0
def body_MassData (b : Body) : Option MassData :=
  Bind (massdata_OfFixtures b.Fixtures) fun r1 =>
  Let (r1) fun x2 =>
  some x2
def angle_Normalize (a : Int) : Int :=
  Let ((Int.tmod a 411776)) fun x1 =>
  Let ((decide (205888 ≤ x1))) fun x2 =>
  if x2 = true then
    Let ((w64 (x1 - 411776))) fun x3 =>
    x3
  else
    Let ((decide (x1 < (-205888)))) fun x4 =>
    if x4 = true then
      Let ((w64 (x1 + 411776))) fun x5 =>
      x5
    else
      x1
def angle_abs (x_0 : Int) : Int :=
  if (decide (x_0 < 0)) = true then
    Let ((w64 (0 - x_0))) fun x1 =>
    x1
  else
    x_0
def fixed_Clamp (x_0 : Int) (low : Int) (high : Int) : Int :=
  Let ((cond (decide (high < low)) true (decide (x_0 < low)))) fun x1 =>
  if x1 = true then
    low
  else
    Let ((decide (high < x_0))) fun x2 =>
    if x2 = true then
      high
    else
      x_0
def fixed_Div (a : Int) (b : Int) : Option Int :=
  Let (fixed_Saturate a) fun r1 =>
  Let (fixed_Saturate b) fun r2 =>
  Let ((w64 (r1 * 65536))) fun x3 =>
  Let ((r2 == 0)) fun x4 =>
  if x4 = true then
    Let (fixed_Clamp x3 ((-1)) (1)) fun r5 =>
    Let ((w64 (r5 * 536870911))) fun x6 =>
    some x6
  else
    Let ((decide (r2 < 0))) fun x7 =>
    if x7 = true then
      Let ((w64 (0 - x3))) fun x8 =>
      Let ((w64 (0 - r2))) fun x9 =>
      Bind (fixed_RoundDiv x8 x9) fun r10 =>
      Let (fixed_Saturate r10) fun r11 =>
      some r11
    else
      Bind (fixed_RoundDiv x3 r2) fun r12 =>
      Let (fixed_Saturate r12) fun r13 =>
      some r13
def angle_Sin_j1 (r1 : Int) (v3 : Int) : Option Int :=
  Bind (fixed_Div v3 (102944)) fun r5 =>
  Bind (fixed_Mul r5 r5) fun r6 =>
  Bind (fixed_Mul r6 (4569)) fun r7 =>
  Let (fixed_Sub (41906) r7) fun r8 =>
  Bind (fixed_Mul r6 r8) fun r9 =>
  Let (fixed_Sub (102873) r9) fun r10 =>
  Bind (fixed_Mul r5 r10) fun r11 =>
  if (decide (r1 < 0)) = true then
    Let ((w64 (0 - r11))) fun x12 =>
    some x12
  else
    some r11
def angle_Sin (a : Int) : Option Int :=
  Let (angle_Normalize a) fun r1 =>
  Let (angle_abs r1) fun r2 =>
  if (decide (102944 < r2)) = true then
    Let ((w64 (205888 - r2))) fun x4 =>
    (angle_Sin_j1 r1) x4
  else
    (angle_Sin_j1 r1) r2
def angle_Cos (a : Int) : Option Int :=
  Let (angle_Normalize a) fun r1 =>
  Let (angle_abs r1) fun r2 =>
  Bind (angle_Sin (w64 (102944 - r2))) fun r3 =>
  some r3
def angle_Rot (a : Int) : Option Rot :=
  Bind (angle_Cos a) fun r1 =>
  Bind (angle_Sin a) fun r2 =>
  Bind (fixed_Isqrt (w64 ((w64 (r1 * r1)) + (w64 (r2 * r2))))) fun r3 =>
  Bind (fixed_Div r1 r3) fun r4 =>
  Bind (fixed_Div r2 r3) fun r5 =>
  Let ((⟨r4, r5⟩ : Rot)) fun x6 =>
  some x6
def vec2_Rotate (r_0 : Rot) (v_1 : Vec) : Option Vec :=
  Let (fixed_Saturate r_0.Cos) fun r1 =>
  Let (fixed_Saturate r_0.Sin) fun r2 =>
  Let (vec2_saturate v_1) fun r3 =>
  Let (r3) fun x4 =>
  Bind (vec2_product (w64 ((w64 (r1 * x4.X)) - (w64 (r2 * x4.Y))))) fun r5 =>
  Bind (vec2_product (w64 ((w64 (r2 * x4.X)) + (w64 (r1 * x4.Y))))) fun r6 =>
  Let ((⟨r5, r6⟩ : Vec)) fun x7 =>
  some x7
def vec2_Add (a : Vec) (b : Vec) : Vec :=
  Let (fixed_Add a.X b.X) fun r1 =>
  Let (fixed_Add a.Y b.Y) fun r2 =>
  Let ((⟨r1, r2⟩ : Vec)) fun x3 =>
  x3
def transform_Apply (t : Transform) (v_1 : Vec) : Option Vec :=
  Bind (angle_Rot t.Angle) fun r1 =>
  Bind (vec2_Rotate r1 v_1) fun r2 =>
  Let (vec2_Add r2 t.Position) fun r3 =>
  Let (r3) fun x4 =>
  some x4
def body_WorldCenter (b : Body) : Option Vec :=
  Bind (body_MassData b) fun r1 =>
  Bind (transform_Apply b.Transform r1.Center) fun r2 =>
  Let (r2) fun x3 =>
  some x3
def massdata_Inverse_j1 (m : MassData) (fixedRotation : Bool) (v1 : Int) : Option (Int × Int) :=
  if (cond (decide (0 < m.Inertia)) (!fixedRotation) false) = true then
    Bind (fixed_Div (65536) m.Inertia) fun r3 =>
    some (v1, r3)
  else
    some (v1, 0)
def massdata_Inverse (m : MassData) (kind : Int) (fixedRotation : Bool) : Option (Int × Int) :=
  if (kind != 3) = true then
    some (0, 0)
  else
    if (decide (0 < m.Mass)) = true then
      Bind (fixed_Div (65536) m.Mass) fun r2 =>
      (massdata_Inverse_j1 m fixedRotation) r2
    else
      (massdata_Inverse_j1 m fixedRotation) 65536
def body_SolverBody (b : Body) : Option SolverBody :=
  Bind (body_MassData b) fun r1 =>
  Bind (massdata_Inverse r1 b.Kind b.FixedRotation) fun r2 =>
  Let ((⟨b.Velocity, b.AngularVelocity, r2.1, r2.2⟩ : SolverBody)) fun x3 =>
  some x3
def vec2_Scale (v_0 : Vec) (k_1 : Int) : Option Vec :=
  Bind (fixed_Mul v_0.X k_1) fun r1 =>
  Bind (fixed_Mul v_0.Y k_1) fun r2 =>
  Let ((⟨r1, r2⟩ : Vec)) fun x3 =>
  some x3
def body_ClampVelocity (b : Body) : Body :=
  Let (fixed_Clamp b.Velocity.X ((-16777216)) (16777216)) fun r1 =>
  Let ({ b with Velocity := { b.Velocity with X := r1 } }) fun x2 =>
  Let (fixed_Clamp x2.Velocity.Y ((-16777216)) (16777216)) fun r3 =>
  Let ({ x2 with Velocity := { x2.Velocity with Y := r3 } }) fun x4 =>
  Let (fixed_Clamp x4.AngularVelocity ((-4194304)) (4194304)) fun r5 =>
  Let ({ x4 with AngularVelocity := r5 }) fun x6 =>
  Let (x6) fun x7 =>
  x7
def body_awake (b : Body) : Body :=
  Let (body_ClampVelocity b) fun r1 =>
  Let (r1) fun x2 =>
  Let ({ x2 with Asleep := false }) fun x3 =>
  Let ({ x3 with IdleSteps := 0 }) fun x4 =>
  Let (x4) fun x5 =>
  x5
def body_ApplyImpulse (b : Body) (point : Vec) (impulse : Vec) : Option Body :=
  if (b.Kind != 3) = true then
    Let (b) fun x1 =>
    some x1
  else
    Bind (body_SolverBody b) fun r2 =>
    Let (r2) fun x3 =>
    Bind (body_WorldCenter b) fun r4 =>
    Let (vec2_Sub point r4) fun r5 =>
    Let (r5) fun x6 =>
    Bind (vec2_Scale impulse x3.InvMass) fun r7 =>
    Let (vec2_Add b.Velocity r7) fun r8 =>
    Let ({ b with Velocity := r8 }) fun x9 =>
    Bind (vec2_Cross x6 impulse) fun r10 =>
    Bind (fixed_Mul r10 x3.InvInertia) fun r11 =>
    Let (fixed_Add x9.AngularVelocity r11) fun r12 =>
    Let ({ x9 with AngularVelocity := r12 }) fun x13 =>
    Let (body_awake x13) fun r14 =>
    Let (r14) fun x15 =>
    some x15
def shape_Vertices_l1 (s : Shape) (p : Transform) (kj1 : List Vec → Option (List Vec)) : Nat → List Vec → Int → Option (List Vec)
  | 0, _, _ => none
  | n + 1, v3, v4 =>
    if (decide (v4 < ((s.Vertices).length : Int))) = true then
      Chk (0 ≤ v4 ∧ v4 < ((s.Vertices).length : Int)) <|
      Let ((ix s.Vertices v4)) fun x6 =>
      Bind (transform_Apply p x6) fun r7 =>
      Chk (((v3).length + (([r7] : List Vec)).length) * 16 ≤ 140737488355328) <|
      Let (v3 ++ ([r7] : List Vec)) fun x9 =>
      Let ((w64 (v4 + 1))) fun x10 =>
      (shape_Vertices_l1 s p kj1 n) x9 x10
    else
      kj1 v3
def shape_Vertices_j2 (v2 : List Vec) : Option (List Vec) :=
  some v2
def shape_Vertices (s : Shape) (p : Transform) : Option (List Vec) :=
  Bind (shape_Validate s) fun r1 =>
  if (r1 != 0) = true then
    some ([] : List Vec)
  else
    shape_Vertices_l1 s p shape_Vertices_j2 fuel ([] : List Vec) 0
def aabb_saturate (v_0 : Vec) : Vec :=
  Let (fixed_Saturate v_0.X) fun r1 =>
  Let (fixed_Saturate v_0.Y) fun r2 =>
  Let ((⟨r1, r2⟩ : Vec)) fun x3 =>
  x3
def aabb_lower (a : Vec) (b : Vec) : Vec :=
  Let ((⟨(min a.X b.X), (min a.Y b.Y)⟩ : Vec)) fun x1 =>
  x1
def aabb_upper (a : Vec) (b : Vec) : Vec :=
  Let ((⟨(max a.X b.X), (max a.Y b.Y)⟩ : Vec)) fun x1 =>
  x1
def aabb_FromPoints_l1 (kj1 : AABB → Option (AABB × Bool)) (x8 : List Vec) : Nat → Int → AABB → Option (AABB × Bool)
  | 0, _, _ => none
  | n + 1, v9, v10 =>
    if (decide (v9 < ((x8).length : Int))) = true then
      Chk (0 ≤ v9 ∧ v9 < ((x8).length : Int)) <|
      Let ((ix x8 v9)) fun x12 =>
      Let (aabb_saturate x12) fun r13 =>
      Let (r13) fun x14 =>
      Let (aabb_lower v10.Min x14) fun r15 =>
      Let ({ v10 with Min := r15 }) fun x16 =>
      Let (aabb_upper x16.Max x14) fun r17 =>
      Let ({ x16 with Max := r17 }) fun x18 =>
      Let ((w64 (v9 + 1))) fun x19 =>
      (aabb_FromPoints_l1 kj1 x8 n) x19 x18
    else
      kj1 v10
def aabb_FromPoints_j2 (v6 : AABB) : Option (AABB × Bool) :=
  Let (v6) fun x20 =>
  some (x20, true)
def aabb_FromPoints (points : List Vec) : Option (AABB × Bool) :=
  if (((points).length : Int) == 0) = true then
    Let ((⟨Vec.zero, Vec.zero⟩ : AABB)) fun x1 =>
    some (x1, false)
  else
    Chk (0 ≤ (0 : Int) ∧ 0 < ((points).length : Int)) <|
    Let (aabb_saturate (ix points 0)) fun r3 =>
    Let (r3) fun x4 =>
    Let ((⟨x4, x4⟩ : AABB)) fun x5 =>
    Chk (0 ≤ (1 : Int) ∧ 1 ≤ (points.length : Int)) <|
    Let ((points.drop ((1 : Int)).toNat)) fun x8 =>
    aabb_FromPoints_l1 aabb_FromPoints_j2 x8 fuel 0 x5
def shape_Bounds (s : Shape) (p : Transform) : Option AABB :=
  Bind (shape_Vertices s p) fun r1 =>
  Bind (aabb_FromPoints r1) fun r2 =>
  Let (r2.1) fun x3 =>
  if (!r2.2) = true then
    Let ((⟨Vec.zero, Vec.zero⟩ : AABB)) fun x4 =>
    some x4
  else
    Let ((⟨s.Radius, s.Radius⟩ : Vec)) fun x5 =>
    Let (vec2_Sub x3.Min x5) fun r6 =>
    Let (vec2_Add x3.Max x5) fun r7 =>
    Let ((⟨r6, r7⟩ : AABB)) fun x8 =>
    some x8
def aabb_saturated (v_0 : Vec) : Bool :=
  Let (fixed_Saturate v_0.X) fun r1 =>
  Let (fixed_Saturate v_0.Y) fun r2 =>
  Let ((cond (r1 == v_0.X) (r2 == v_0.Y) false)) fun x3 =>
  x3
def aabb_Valid (b : AABB) : Bool :=
  Let (aabb_saturated b.Min) fun r1 =>
  Let (aabb_saturated b.Max) fun r2 =>
  Let ((cond (cond (cond (decide (b.Min.X ≤ b.Max.X)) (decide (b.Min.Y ≤ b.Max.Y)) false) r1 false) r2 false)) fun x3 =>
  x3
def aabb_Union (a : AABB) (b : AABB) : AABB :=
  Let (aabb_Valid a) fun r1 =>
  Let (aabb_Valid b) fun r2 =>
  Let ((cond r1 r2 false)) fun x3 =>
  if x3 = true then
    Let (aabb_lower a.Min b.Min) fun r4 =>
    Let (aabb_upper a.Max b.Max) fun r5 =>
    Let ((⟨r4, r5⟩ : AABB)) fun x6 =>
    x6
  else
    Let (aabb_Valid a) fun r7 =>
    if r7 = true then
      Let (a) fun x8 =>
      x8
    else
      Let (aabb_Valid b) fun r9 =>
      if r9 = true then
        Let (b) fun x10 =>
        x10
      else
        Let ((⟨Vec.zero, Vec.zero⟩ : AABB)) fun x11 =>
        x11
def body_Bounds_j1 (v2 : Int) (kn2 : Int → AABB → Option (AABB × Bool)) (v4 : AABB) : Option (AABB × Bool) :=
  Let ((w64 (v2 + 1))) fun x12 =>
  kn2 x12 v4
def body_Bounds_l2 (b : Body) (kj1 : AABB → Option (AABB × Bool)) : Nat → Int → AABB → Option (AABB × Bool)
  | 0, _, _ => none
  | n + 1, v2, v3 =>
    if (decide (v2 < ((b.Fixtures).length : Int))) = true then
      Chk (0 ≤ v2 ∧ v2 < ((b.Fixtures).length : Int)) <|
      Let ((ix b.Fixtures v2)) fun x6 =>
      Bind (shape_Bounds x6.Shape b.Transform) fun r7 =>
      Let (r7) fun x8 =>
      if (v2 == 0) = true then
        Let (x8) fun x9 =>
        (body_Bounds_j1 v2 (body_Bounds_l2 b kj1 n)) x9
      else
        Let (aabb_Union v3 x8) fun r10 =>
        Let (r10) fun x11 =>
        (body_Bounds_j1 v2 (body_Bounds_l2 b kj1 n)) x11
    else
      kj1 v3
def body_Bounds_j3 (b : Body) (v1 : AABB) : Option (AABB × Bool) :=
  Let (v1) fun x13 =>
  Let ((decide (0 < ((b.Fixtures).length : Int)))) fun x14 =>
  some (x13, x14)
def body_Bounds (b : Body) : Option (AABB × Bool) :=
  body_Bounds_l2 b (body_Bounds_j3 b) fuel 0 AABB.zero
def aabb_overlaps (a : AABB) (b : AABB) : Bool :=
  Let ((cond (cond (cond (decide (a.Min.X ≤ b.Max.X)) (decide (b.Min.X ≤ a.Max.X)) false) (decide (a.Min.Y ≤ b.Max.Y)) false) (decide (b.Min.Y ≤ a.Max.Y)) false)) fun x1 =>
  x1
def aabb_Overlaps (a : AABB) (b : AABB) : Bool :=
  Let (aabb_Valid a) fun r1 =>
  Let (aabb_Valid b) fun r2 =>
  Let (aabb_overlaps a b) fun r3 =>
  Let ((cond (cond r1 r2 false) r3 false)) fun x4 =>
  x4
def segment_Intersects (a : Vec) (b : Vec) (c_2 : Vec) (d : Vec) : Option Bool :=
  Bind (aabb_FromPoints ([a, b] : List Vec)) fun r1 =>
  Let (r1.1) fun x2 =>
  Bind (aabb_FromPoints ([c_2, d] : List Vec)) fun r3 =>
  Let (r3.1) fun x4 =>
  Let (vec2_Orientation a b c_2) fun r5 =>
  Let (vec2_Orientation a b d) fun r6 =>
  Let (vec2_Orientation c_2 d a) fun r7 =>
  Let (vec2_Orientation c_2 d b) fun r8 =>
  Let ((cond (decide (0 < (w64 (r5 * r6)))) true (decide (0 < (w64 (r7 * r8)))))) fun x9 =>
  Let (aabb_Overlaps x2 x4) fun r10 =>
  Let ((cond (!x9) r10 false)) fun x11 =>
  some x11
def segment_saturate (v_0 : Vec) : Vec :=
  Let (fixed_Saturate v_0.X) fun r1 =>
  Let (fixed_Saturate v_0.Y) fun r2 =>
  Let ((⟨r1, r2⟩ : Vec)) fun x3 =>
  x3
def segment_lineDistance (c_0 : Vec) (d : Vec) (p : Vec) : Int :=
  Let ((w64 ((w64 ((w64 (d.X - c_0.X)) * (w64 (p.Y - c_0.Y)))) - (w64 ((w64 (d.Y - c_0.Y)) * (w64 (p.X - c_0.X))))))) fun x1 =>
  Let ((max x1 (w64 (0 - x1)))) fun x2 =>
  x2
def fixed_Ratio (n_0 : Int) (d : Int) : Option Int :=
  Let ((cond (cond (decide (d < 1)) true (decide (4611686018427387904 < d))) true (decide (n_0 < 1)))) fun x1 =>
  if x1 = true then
    some 0
  else
    Let ((decide (d ≤ n_0))) fun x2 =>
    if x2 = true then
      some 65536
    else
      Let ((decide (d < 70368744177664))) fun x3 =>
      if x3 = true then
        Bind (fixed_RoundDiv (w64 (n_0 * 65536)) d) fun r4 =>
        some r4
      else
        Bind (fixed_RoundDiv d (65536)) fun r5 =>
        Bind (fixed_RoundDiv n_0 r5) fun r6 =>
        Let ((min r6 65536)) fun x7 =>
        some x7
def segment_ClosestPoint (a : Vec) (b : Vec) (p : Vec) : Option (Vec × Int) :=
  Let (segment_saturate a) fun r1 =>
  Let (segment_saturate b) fun r2 =>
  Let (segment_saturate p) fun r3 =>
  Let (r1) fun x4 =>
  Let (r2) fun x5 =>
  Let (r3) fun x6 =>
  Let ((w64 ((w64 ((w64 (x6.X - x4.X)) * (w64 (x5.X - x4.X)))) + (w64 ((w64 (x6.Y - x4.Y)) * (w64 (x5.Y - x4.Y))))))) fun x7 =>
  Let (vec2_DistanceSquared x4 x5) fun r8 =>
  Bind (fixed_Ratio x7 r8) fun r9 =>
  Let ((r9 == 0)) fun x10 =>
  if x10 = true then
    Let (x4) fun x11 =>
    some (x11, r9)
  else
    Let ((r9 == 65536)) fun x12 =>
    if x12 = true then
      Let (x5) fun x13 =>
      some (x13, r9)
    else
      Bind (vec2_Lerp x4 x5 r9) fun r14 =>
      Let (r14) fun x15 =>
      some (x15, r9)
def segment_ClosestPoints_j1 (v28 : Int) (kn2 : Int → segment_candidate → Option (Vec × Vec)) (v30 : segment_candidate) : Option (Vec × Vec) :=
  Let ((w64 (v28 + 1))) fun x36 =>
  kn2 x36 v30
def segment_ClosestPoints_l2 (kj1 : segment_candidate → Option (Vec × Vec)) (x27 : List segment_candidate) : Nat → Int → segment_candidate → Option (Vec × Vec)
  | 0, _, _ => none
  | n + 1, v28, v29 =>
    if (decide (v28 < ((x27).length : Int))) = true then
      Chk (0 ≤ v28 ∧ v28 < ((x27).length : Int)) <|
      Let ((ix x27 v28)) fun x32 =>
      Let (vec2_DistanceSquared x32.x x32.y) fun r33 =>
      Let (vec2_DistanceSquared v29.x v29.y) fun r34 =>
      if (decide (r33 < r34)) = true then
        Let (x32) fun x35 =>
        (segment_ClosestPoints_j1 v28 (segment_ClosestPoints_l2 kj1 x27 n)) x35
      else
        (segment_ClosestPoints_j1 v28 (segment_ClosestPoints_l2 kj1 x27 n)) v29
    else
      kj1 v29
def segment_ClosestPoints_j3 (v26 : segment_candidate) : Option (Vec × Vec) :=
  Let (v26.x) fun x37 =>
  Let (v26.y) fun x38 =>
  some (x37, x38)
def segment_ClosestPoints (a : Vec) (b : Vec) (c_2 : Vec) (d : Vec) : Option (Vec × Vec) :=
  Let (segment_saturate a) fun r1 =>
  Let (segment_saturate b) fun r2 =>
  Let (segment_saturate c_2) fun r3 =>
  Let (segment_saturate d) fun r4 =>
  Let (r1) fun x5 =>
  Let (r2) fun x6 =>
  Let (r3) fun x7 =>
  Let (r4) fun x8 =>
  Bind (segment_Intersects x5 x6 x7 x8) fun r9 =>
  if r9 = true then
    Let (segment_lineDistance x7 x8 x5) fun r10 =>
    Let (segment_lineDistance x7 x8 x6) fun r11 =>
    Bind (fixed_Ratio r10 (w64 (r10 + r11))) fun r12 =>
    Bind (vec2_Lerp x5 x6 r12) fun r13 =>
    Let (r13) fun x14 =>
    Let (x14) fun x15 =>
    Let (x14) fun x16 =>
    some (x15, x16)
  else
    Bind (segment_ClosestPoint x7 x8 x5) fun r17 =>
    Let (r17.1) fun x18 =>
    Bind (segment_ClosestPoint x7 x8 x6) fun r19 =>
    Let (r19.1) fun x20 =>
    Bind (segment_ClosestPoint x5 x6 x7) fun r21 =>
    Let (r21.1) fun x22 =>
    Bind (segment_ClosestPoint x5 x6 x8) fun r23 =>
    Let (r23.1) fun x24 =>
    Let ((⟨x5, x18⟩ : segment_candidate)) fun x25 =>
    Let (([(⟨x6, x20⟩ : segment_candidate), (⟨x22, x7⟩ : segment_candidate), (⟨x24, x8⟩ : segment_candidate)] : List segment_candidate)) fun x27 =>
    segment_ClosestPoints_l2 segment_ClosestPoints_j3 x27 fuel 0 x25
def segment_Distance (a : Vec) (b : Vec) (c_2 : Vec) (d : Vec) : Option Int :=
  Bind (segment_Intersects a b c_2 d) fun r1 =>
  if r1 = true then
    some 0
  else
    Bind (segment_ClosestPoints a b c_2 d) fun r2 =>
    Let (vec2_DistanceSquared r2.1 r2.2) fun r3 =>
    Bind (fixed_Isqrt r3) fun r4 =>
    Let (fixed_Saturate r4) fun r5 =>
    some r5
def shape_ContainsPoint_l1 (v_2 : Vec) (r1 : List Vec) (kj1 : Option Bool) : Nat → Int → Option Bool
  | 0, _ => none
  | n + 1, v13 =>
    if (decide (v13 < ((r1).length : Int))) = true then
      Chk (0 ≤ v13 ∧ v13 < ((r1).length : Int)) <|
      Let ((ix r1 v13)) fun x15 =>
      Chk (((r1).length : Int) ≠ 0) <|
      Chk (0 ≤ (Int.tmod (w64 (v13 + 1)) ((r1).length : Int)) ∧ (Int.tmod (w64 (v13 + 1)) ((r1).length : Int)) < ((r1).length : Int)) <|
      Let (vec2_Orientation x15 (ix r1 (Int.tmod (w64 (v13 + 1)) ((r1).length : Int))) v_2) fun r18 =>
      if (decide (r18 < 0)) = true then
        some false
      else
        Let ((w64 (v13 + 1))) fun x19 =>
        (shape_ContainsPoint_l1 v_2 r1 kj1 n) x19
    else
      kj1
def shape_ContainsPoint_j2 : Option Bool :=
  some true
def shape_ContainsPoint (s : Shape) (p : Transform) (v_2 : Vec) : Option Bool :=
  Bind (shape_Vertices s p) fun r1 =>
  Let ((((r1).length : Int) == 0)) fun x2 =>
  if x2 = true then
    some false
  else
    Let ((((r1).length : Int) == 1)) fun x3 =>
    if x3 = true then
      Chk (0 ≤ (0 : Int) ∧ 0 < ((r1).length : Int)) <|
      Let (vec2_Sub v_2 (ix r1 0)) fun r5 =>
      Bind (vec2_Length r5) fun r6 =>
      Let ((decide (r6 ≤ s.Radius))) fun x7 =>
      some x7
    else
      Let ((((r1).length : Int) == 2)) fun x8 =>
      if x8 = true then
        Chk (0 ≤ (0 : Int) ∧ 0 < ((r1).length : Int)) <|
        Chk (0 ≤ (1 : Int) ∧ 1 < ((r1).length : Int)) <|
        Bind (segment_Distance v_2 v_2 (ix r1 0) (ix r1 1)) fun r11 =>
        Let ((decide (r11 ≤ s.Radius))) fun x12 =>
        some x12
      else
        shape_ContainsPoint_l1 v_2 r1 shape_ContainsPoint_j2 fuel 0
def body_FixtureAt_l1 (b : Body) (point : Vec) (kj1 : Option Int) : Nat → Int → Option Int
  | 0, _ => none
  | n + 1, v1 =>
    if (decide (v1 < ((b.Fixtures).length : Int))) = true then
      Chk (0 ≤ v1 ∧ v1 < ((b.Fixtures).length : Int)) <|
      Let ((ix b.Fixtures v1)) fun x3 =>
      Bind (shape_ContainsPoint x3.Shape b.Transform point) fun r4 =>
      if r4 = true then
        some v1
      else
        Let ((w64 (v1 + 1))) fun x5 =>
        (body_FixtureAt_l1 b point kj1 n) x5
    else
      kj1
def body_FixtureAt_j2 : Option Int :=
  some (-1)
def body_FixtureAt (b : Body) (point : Vec) : Option Int :=
  body_FixtureAt_l1 b point body_FixtureAt_j2 fuel 0
def slices_Clone_Vec (s : List Vec) : Option (List Vec) :=
  Chk ((([] : List Vec).length + s.length) * 16 ≤ 140737488355328) <|
  some s
def shape_Clone (s : Shape) : Option Shape :=
  Bind (slices_Clone_Vec s.Vertices) fun r1 =>
  Let ({ s with Vertices := r1 }) fun x2 =>
  Let (x2) fun x3 =>
  some x3
def body_Clone_l1 (b : Body) (kj1 : List Fixture → Option Body) : Nat → List Fixture → Int → Option Body
  | 0, _, _ => none
  | n + 1, v2, v3 =>
    if (decide (v3 < ((b.Fixtures).length : Int))) = true then
      Chk (0 ≤ v3 ∧ v3 < ((b.Fixtures).length : Int)) <|
      Let ((ix b.Fixtures v3)) fun x5 =>
      Bind (shape_Clone x5.Shape) fun r6 =>
      Let ({ x5 with Shape := r6 }) fun x7 =>
      Chk (((v2).length + (([x7] : List Fixture)).length) * 96 ≤ 140737488355328) <|
      Let (v2 ++ ([x7] : List Fixture)) fun x9 =>
      Let ((w64 (v3 + 1))) fun x10 =>
      (body_Clone_l1 b kj1 n) x9 x10
    else
      kj1 v2
def body_Clone_j2 (b : Body) (v1 : List Fixture) : Option Body :=
  Let ({ b with Fixtures := v1 }) fun x11 =>
  Let (x11) fun x12 =>
  some x12
def body_Clone (b : Body) : Option Body :=
  body_Clone_l1 b (body_Clone_j2 b) fuel ([] : List Fixture) 0
def slices_Equal_Vec_l1 (s1 : List Vec) (s2 : List Vec) (kj1 : Option Bool) : Nat → Int → Option Bool
  | 0, _ => none
  | n + 1, v1 =>
    if (decide (v1 < ((s1).length : Int))) = true then
      Chk (0 ≤ v1 ∧ v1 < ((s1).length : Int)) <|
      Chk (0 ≤ v1 ∧ v1 < ((s2).length : Int)) <|
      if (!Vec.beq (ix s1 v1) (ix s2 v1)) = true then
        some false
      else
        Let ((w64 (v1 + 1))) fun x4 =>
        (slices_Equal_Vec_l1 s1 s2 kj1 n) x4
    else
      kj1
def slices_Equal_Vec_j2 : Option Bool :=
  some true
def slices_Equal_Vec (s1 : List Vec) (s2 : List Vec) : Option Bool :=
  if (((s1).length : Int) != ((s2).length : Int)) = true then
    some false
  else
    slices_Equal_Vec_l1 s1 s2 slices_Equal_Vec_j2 fuel 0
def shape_Equal (a : Shape) (b : Shape) : Option Bool :=
  Bind (if ((cond (a.Kind == b.Kind) (a.Radius == b.Radius) false) == true) = true then slices_Equal_Vec a.Vertices b.Vertices else some default) fun r1 =>
  Let ((cond (cond (a.Kind == b.Kind) (a.Radius == b.Radius) false) r1 false)) fun x2 =>
  some x2
def body_equalFixtures (a : Fixture) (b : Fixture) : Option Bool :=
  Let ((cond (cond (a.Density == b.Density) (a.Friction == b.Friction) false) (a.Restitution == b.Restitution) false)) fun x1 =>
  Let ((cond (cond (cond (a.Sensor == b.Sensor) (a.Category == b.Category) false) (a.Mask == b.Mask) false) (a.Group == b.Group) false)) fun x2 =>
  Bind (shape_Equal a.Shape b.Shape) fun r3 =>
  Let ((cond (cond r3 x1 false) x2 false)) fun x4 =>
  some x4
def body_Equal_l1 (a : Body) (b : Body) (kj1 : Option Bool) : Nat → Int → Option Bool
  | 0, _ => none
  | n + 1, v1 =>
    if (decide (v1 < ((a.Fixtures).length : Int))) = true then
      Chk (0 ≤ v1 ∧ v1 < ((a.Fixtures).length : Int)) <|
      Let ((ix a.Fixtures v1)) fun x3 =>
      Chk (0 ≤ v1 ∧ v1 < ((b.Fixtures).length : Int)) <|
      Bind (body_equalFixtures x3 (ix b.Fixtures v1)) fun r5 =>
      if (!r5) = true then
        some false
      else
        Let ((w64 (v1 + 1))) fun x6 =>
        (body_Equal_l1 a b kj1 n) x6
    else
      kj1
def body_Equal_j2 (a : Body) (b : Body) : Option Bool :=
  Let ((cond (cond (a.ID == b.ID) (a.Kind == b.Kind) false) (Transform.beq a.Transform b.Transform) false)) fun x7 =>
  Let ((cond (Vec.beq a.Velocity b.Velocity) (a.AngularVelocity == b.AngularVelocity) false)) fun x8 =>
  Let ((cond (Vec.beq a.Force b.Force) (a.Torque == b.Torque) false)) fun x9 =>
  Let ((cond (cond (a.LinearDamping == b.LinearDamping) (a.AngularDamping == b.AngularDamping) false) (a.GravityScale == b.GravityScale) false)) fun x10 =>
  Let ((cond (cond (a.Bullet == b.Bullet) (a.FixedRotation == b.FixedRotation) false) (a.NoSleep == b.NoSleep) false)) fun x11 =>
  Let ((cond (a.Asleep == b.Asleep) (a.IdleSteps == b.IdleSteps) false)) fun x12 =>
  Let ((cond (cond (cond (cond (cond x7 x8 false) x9 false) x10 false) x11 false) x12 false)) fun x13 =>
  some x13
def body_Equal (a : Body) (b : Body) : Option Bool :=
  if (((a.Fixtures).length : Int) != ((b.Fixtures).length : Int)) = true then
    some false
  else
    body_Equal_l1 a b (body_Equal_j2 a b) fuel 0
def law23_example  : Option Bool :=
  Let (law23_disk (5)) fun r1 =>
  Let (r1) fun x2 =>
  Bind (body_WorldCenter x2) fun r3 =>
  Bind (body_ApplyImpulse x2 r3 (⟨205888, 0⟩ : Vec)) fun r4 =>
  Let (r4) fun x5 =>
  Bind (body_Bounds x2) fun r6 =>
  Let (r6.1) fun x7 =>
  Bind (body_Validate x2) fun r8 =>
  Bind (if ((r8 == 0) == true) = true then body_WorldCenter x2 else some default) fun r9 =>
  Let ((AABB.beq x7 (⟨(⟨(-65531), (-65536)⟩ : Vec), (⟨65541, 65536⟩ : Vec)⟩ : AABB))) fun x10 =>
  Bind (if ((cond (cond (cond (cond (cond (cond (cond (r8 == 0) (Vec.beq r9 (⟨5, 0⟩ : Vec)) false) (decide (65527 < x5.Velocity.X)) false) (decide (x5.Velocity.X < 65545)) false) (x5.Velocity.Y == 0) false) (x5.AngularVelocity == 0) false) r6.2 false) x10 false) == true) = true then body_FixtureAt x2 (⟨5, 0⟩ : Vec) else some default) fun r11 =>
  Bind (if ((cond (cond (cond (cond (cond (cond (cond (cond (r8 == 0) (Vec.beq r9 (⟨5, 0⟩ : Vec)) false) (decide (65527 < x5.Velocity.X)) false) (decide (x5.Velocity.X < 65545)) false) (x5.Velocity.Y == 0) false) (x5.AngularVelocity == 0) false) r6.2 false) x10 false) (r11 == 0) false) == true) = true then body_Clone x2 else some default) fun r12 =>
  Bind (if ((cond (cond (cond (cond (cond (cond (cond (cond (r8 == 0) (Vec.beq r9 (⟨5, 0⟩ : Vec)) false) (decide (65527 < x5.Velocity.X)) false) (decide (x5.Velocity.X < 65545)) false) (x5.Velocity.Y == 0) false) (x5.AngularVelocity == 0) false) r6.2 false) x10 false) (r11 == 0) false) == true) = true then body_Equal x2 r12 else some default) fun r13 =>
  Bind (if ((cond (cond (cond (cond (cond (cond (cond (cond (cond (r8 == 0) (Vec.beq r9 (⟨5, 0⟩ : Vec)) false) (decide (65527 < x5.Velocity.X)) false) (decide (x5.Velocity.X < 65545)) false) (x5.Velocity.Y == 0) false) (x5.AngularVelocity == 0) false) r6.2 false) x10 false) (r11 == 0) false) r13 false) == true) = true then body_Validate (⟨0, 0, Transform.zero, Vec.zero, 0, Vec.zero, 0, 0, 0, 0, false, false, false, false, 0, []⟩ : Body) else some default) fun r14 =>
  Let ((cond (cond (cond (cond (cond (cond (cond (cond (cond (cond (r8 == 0) (Vec.beq r9 (⟨5, 0⟩ : Vec)) false) (decide (65527 < x5.Velocity.X)) false) (decide (x5.Velocity.X < 65545)) false) (x5.Velocity.Y == 0) false) (x5.AngularVelocity == 0) false) r6.2 false) x10 false) (r11 == 0) false) r13 false) (r14 == 10) false)) fun x15 =>
  some x15
def aabb_Expand (b : AABB) (margin : Int) : AABB :=
  Let (aabb_Valid b) fun r1 =>
  if (!r1) = true then
    Let ((⟨Vec.zero, Vec.zero⟩ : AABB)) fun x2 =>
    x2
  else
    Let (fixed_Sub b.Min.X margin) fun r3 =>
    Let (fixed_Sub b.Min.Y margin) fun r4 =>
    Let (fixed_Add b.Max.X margin) fun r5 =>
    Let (fixed_Add b.Max.Y margin) fun r6 =>
    Let ((⟨(⟨r3, r4⟩ : Vec), (⟨r5, r6⟩ : Vec)⟩ : AABB)) fun x7 =>
    Let (aabb_Valid x7) fun r8 =>
    if (!r8) = true then
      Let ((⟨Vec.zero, Vec.zero⟩ : AABB)) fun x9 =>
      x9
    else
      Let (x7) fun x10 =>
      x10
def aabb_ContainsPoint (b : AABB) (v_1 : Vec) : Bool :=
  Let (aabb_saturate v_1) fun r1 =>
  Let (r1) fun x2 =>
  Let (aabb_Valid b) fun r3 =>
  Let ((cond (cond (cond (cond r3 (decide (b.Min.X ≤ x2.X)) false) (decide (x2.X ≤ b.Max.X)) false) (decide (b.Min.Y ≤ x2.Y)) false) (decide (x2.Y ≤ b.Max.Y)) false)) fun x4 =>
  x4
def law23_BodyFixtureAt_l1 (b : Body) (point : Vec) (r4 : Int) (kj1 : Option Bool) : Nat → Int → Option Bool
  | 0, _ => none
  | n + 1, v7 =>
    if (decide (v7 < ((b.Fixtures).length : Int))) = true then
      Chk (0 ≤ v7 ∧ v7 < ((b.Fixtures).length : Int)) <|
      Bind (shape_ContainsPoint ((ix b.Fixtures v7).Shape) b.Transform point) fun r9 =>
      if (cond (cond r9 (cond (decide (r4 < 0)) true (decide (v7 < r4))) false) true (cond (v7 == r4) (!r9) false)) = true then
        some false
      else
        Let ((w64 (v7 + 1))) fun x10 =>
        (law23_BodyFixtureAt_l1 b point r4 kj1 n) x10
    else
      kj1
def law23_BodyFixtureAt_j2 (point : Vec) (r4 : Int) (x6 : AABB) : Option Bool :=
  Let (aabb_Expand x6 (2)) fun r11 =>
  Let (aabb_ContainsPoint r11 point) fun r12 =>
  Bind (if ((cond (decide (r4 < 0)) true r12) == true) = true then law23_example else some default) fun r13 =>
  Let ((cond (cond (decide (r4 < 0)) true r12) r13 false)) fun x14 =>
  some x14
def law23_BodyFixtureAt (b : Body) (point : Vec) : Option Bool :=
  Bind (ref23_Small b) fun r1 =>
  Bind (if ((!r1) == false) = true then body_Validate b else some default) fun r2 =>
  if (cond (!r1) true (r2 != 0)) = true then
    Bind (law23_example) fun r3 =>
    some r3
  else
    Bind (body_FixtureAt b point) fun r4 =>
    Bind (body_Bounds b) fun r5 =>
    Let (r5.1) fun x6 =>
    if (cond (cond (r5.2 != (decide (0 < ((b.Fixtures).length : Int)))) true (decide (r4 < (-1)))) true (decide (((b.Fixtures).length : Int) ≤ r4))) = true then
      some false
    else
      law23_BodyFixtureAt_l1 b point r4 (law23_BodyFixtureAt_j2 point r4 x6) fuel 0
end GoForm
