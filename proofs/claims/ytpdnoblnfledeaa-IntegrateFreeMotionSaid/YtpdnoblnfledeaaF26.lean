/- The plain forms of the program's functions: printed by gen2.py from the translation. No conditions. -/
import Derived.Test.YtpdnoblnfledeaaCxQ
set_option linter.all false
open Go Go.Cx
namespace GoForm
structure Vec where
  X : Int
  Y : Int
  deriving DecidableEq, Inhabited
def Vec.zero : Vec := ⟨0, 0⟩
structure Transform where
  Position : Vec
  Angle : Int
  deriving DecidableEq, Inhabited
def Transform.zero : Transform := ⟨Vec.zero, 0⟩
structure Shape where
  Kind : Int
  Radius : Int
  Vertices : List Vec
  deriving DecidableEq, Inhabited
def Shape.zero : Shape := ⟨0, 0, []⟩
structure Fixture where
  Shape : Shape
  Density : Int
  Friction : Int
  Restitution : Int
  Sensor : Bool
  Category : Int
  Mask : Int
  Group : Int
  deriving DecidableEq, Inhabited
def Fixture.zero : Fixture := ⟨Shape.zero, 0, 0, 0, false, 0, 0, 0⟩
structure Body where
  ID : Int
  Kind : Int
  Transform : Transform
  Velocity : Vec
  AngularVelocity : Int
  Force : Vec
  Torque : Int
  LinearDamping : Int
  AngularDamping : Int
  GravityScale : Int
  Bullet : Bool
  FixedRotation : Bool
  NoSleep : Bool
  Asleep : Bool
  IdleSteps : Int
  Fixtures : List Fixture
  deriving DecidableEq, Inhabited
def Body.zero : Body := ⟨0, 0, Transform.zero, Vec.zero, 0, Vec.zero, 0, 0, 0, 0, false, false, false, false, 0, []⟩
structure polygon_triangle where
  e : Vec
  f : Vec
  cross : Int
  deriving DecidableEq, Inhabited
def polygon_triangle.zero : polygon_triangle := ⟨Vec.zero, Vec.zero, 0⟩
structure MassData where
  Mass : Int
  Center : Vec
  Inertia : Int
  deriving DecidableEq, Inhabited
def MassData.zero : MassData := ⟨0, Vec.zero, 0⟩
structure SolverBody where
  Velocity : Vec
  AngularVelocity : Int
  InvMass : Int
  InvInertia : Int
  deriving DecidableEq, Inhabited
def SolverBody.zero : SolverBody := ⟨Vec.zero, 0, 0, 0⟩
structure Settings where
  TimeStep : Int
  Gravity : Vec
  Iterations : Int
  SleepSteps : Int
  deriving DecidableEq, Inhabited
def Settings.zero : Settings := ⟨0, Vec.zero, 0, 0⟩
structure Rot where
  Cos : Int
  Sin : Int
  deriving DecidableEq, Inhabited
def Rot.zero : Rot := ⟨0, 0⟩
def Vec.beq (x y : Vec) : Bool := decide (x.X = y.X) && (decide (x.Y = y.Y))
def Transform.beq (x y : Transform) : Bool := Vec.beq x.Position y.Position && (decide (x.Angle = y.Angle))
def Vec.Wf (x : Vec) : Prop := (IntKind.i64.min ≤ x.X ∧ x.X ≤ IntKind.i64.max) ∧ (IntKind.i64.min ≤ x.Y ∧ x.Y ≤ IntKind.i64.max)
def Transform.Wf (x : Transform) : Prop := Vec.Wf x.Position ∧ (IntKind.i64.min ≤ x.Angle ∧ x.Angle ≤ IntKind.i64.max)
def Shape.Wf (x : Shape) : Prop := (IntKind.i64.min ≤ x.Kind ∧ x.Kind ≤ IntKind.i64.max) ∧ (IntKind.i64.min ≤ x.Radius ∧ x.Radius ≤ IntKind.i64.max) ∧ ((∀ a ∈ x.Vertices, Vec.Wf a) ∧ (x.Vertices).length ≤ 9223372036854775807)
def Fixture.Wf (x : Fixture) : Prop := Shape.Wf x.Shape ∧ (IntKind.i64.min ≤ x.Density ∧ x.Density ≤ IntKind.i64.max) ∧ (IntKind.i64.min ≤ x.Friction ∧ x.Friction ≤ IntKind.i64.max) ∧ (IntKind.i64.min ≤ x.Restitution ∧ x.Restitution ≤ IntKind.i64.max) ∧ True ∧ (IntKind.i64.min ≤ x.Category ∧ x.Category ≤ IntKind.i64.max) ∧ (IntKind.i64.min ≤ x.Mask ∧ x.Mask ≤ IntKind.i64.max) ∧ (IntKind.i64.min ≤ x.Group ∧ x.Group ≤ IntKind.i64.max)
def Body.Wf (x : Body) : Prop := (IntKind.i64.min ≤ x.ID ∧ x.ID ≤ IntKind.i64.max) ∧ (IntKind.i64.min ≤ x.Kind ∧ x.Kind ≤ IntKind.i64.max) ∧ Transform.Wf x.Transform ∧ Vec.Wf x.Velocity ∧ (IntKind.i64.min ≤ x.AngularVelocity ∧ x.AngularVelocity ≤ IntKind.i64.max) ∧ Vec.Wf x.Force ∧ (IntKind.i64.min ≤ x.Torque ∧ x.Torque ≤ IntKind.i64.max) ∧ (IntKind.i64.min ≤ x.LinearDamping ∧ x.LinearDamping ≤ IntKind.i64.max) ∧ (IntKind.i64.min ≤ x.AngularDamping ∧ x.AngularDamping ≤ IntKind.i64.max) ∧ (IntKind.i64.min ≤ x.GravityScale ∧ x.GravityScale ≤ IntKind.i64.max) ∧ True ∧ True ∧ True ∧ True ∧ (IntKind.i64.min ≤ x.IdleSteps ∧ x.IdleSteps ≤ IntKind.i64.max) ∧ ((∀ a ∈ x.Fixtures, Fixture.Wf a) ∧ (x.Fixtures).length ≤ 9223372036854775807)
def Settings.Wf (x : Settings) : Prop := (IntKind.i64.min ≤ x.TimeStep ∧ x.TimeStep ≤ IntKind.i64.max) ∧ Vec.Wf x.Gravity ∧ (IntKind.i64.min ≤ x.Iterations ∧ x.Iterations ≤ IntKind.i64.max) ∧ (IntKind.i64.min ≤ x.SleepSteps ∧ x.SleepSteps ≤ IntKind.i64.max)
def ref23_Small_l1 (b : Body) (kj1 : Option Bool) : Nat → Int → Option Bool
  | 0, _ => none
  | n + 1, v1 =>
    if (cond (decide (v1 < ((b.Fixtures).length : Int))) (decide (v1 < 8)) false) = true then
      Chk (0 ≤ v1 ∧ v1 < ((b.Fixtures).length : Int)) <|
      Let ((decide (20 < ((((ix b.Fixtures v1).Shape).Vertices).length : Int)))) fun x3 =>
      if x3 = true then
        some false
      else
        Let ((w64 (v1 + 1))) fun x4 =>
        (ref23_Small_l1 b kj1 n) x4
    else
      kj1
def ref23_Small_j2 (b : Body) : Option Bool :=
  Let ((decide (((b.Fixtures).length : Int) ≤ 8))) fun x5 =>
  some x5
def ref23_Small (b : Body) : Option Bool :=
  ref23_Small_l1 b (ref23_Small_j2 b) fuel 0
def law26_disk  : Body :=
  Let ((⟨1, 3, Transform.zero, Vec.zero, 0, Vec.zero, 0, 0, 0, 65536, false, false, false, false, 0, ([(⟨(⟨1, 65536, ([(⟨0, 0⟩ : Vec)] : List Vec)⟩ : Shape), 65536, 0, 0, false, 0, 0, 0⟩ : Fixture)] : List Fixture)⟩ : Body)) fun x1 =>
  x1
def shape_validCount (s : Shape) : Bool :=
  Let ((s.Kind == 1)) fun x1 =>
  if x1 = true then
    Let ((((s.Vertices).length : Int) == 1)) fun x2 =>
    x2
  else
    Let ((s.Kind == 2)) fun x3 =>
    if x3 = true then
      Let ((((s.Vertices).length : Int) == 2)) fun x4 =>
      x4
    else
      Let ((cond (decide (3 ≤ ((s.Vertices).length : Int))) (decide (((s.Vertices).length : Int) ≤ 8)) false)) fun x5 =>
      x5
def slices_IndexFunc_Vec_l1 (s : List Vec) (f : Vec → Option Bool) (kj1 : Option Int) : Nat → Int → Option Int
  | 0, _ => none
  | n + 1, v1 =>
    if (decide (v1 < ((s).length : Int))) = true then
      Chk (0 ≤ v1 ∧ v1 < ((s).length : Int)) <|
      Bind (f (ix s v1)) fun r3 =>
      if r3 = true then
        some v1
      else
        Let ((w64 (v1 + 1))) fun x4 =>
        (slices_IndexFunc_Vec_l1 s f kj1 n) x4
    else
      kj1
def slices_IndexFunc_Vec_j2 : Option Int :=
  some (-1)
def slices_IndexFunc_Vec (s : List Vec) (f : Vec → Option Bool) : Option Int :=
  slices_IndexFunc_Vec_l1 s f slices_IndexFunc_Vec_j2 fuel 0
def slices_ContainsFunc_Vec (s : List Vec) (f : Vec → Option Bool) : Option Bool :=
  Bind (slices_IndexFunc_Vec s f) fun r1 =>
  Let ((decide (0 ≤ r1))) fun x2 =>
  some x2
def shape_outOfRange (n_0 : Int) : Bool :=
  Let ((cond (decide (n_0 < (-1048576))) true (decide (1048576 < n_0)))) fun x1 =>
  x1
def shape_Validate_c1 (v_0 : Vec) : Bool :=
  Let (shape_outOfRange v_0.X) fun r1 =>
  Let (shape_outOfRange v_0.Y) fun r2 =>
  Let ((cond r1 true r2)) fun x3 =>
  x3
def fixed_Saturate (x_0 : Int) : Int :=
  Let ((min (max x_0 (-536870911)) 536870911)) fun x1 =>
  x1
def fixed_Sub (a : Int) (b : Int) : Int :=
  Let (fixed_Saturate a) fun r1 =>
  Let (fixed_Saturate b) fun r2 =>
  Let (fixed_Saturate (w64 (r1 - r2))) fun r3 =>
  r3
def vec2_Sub (a : Vec) (b : Vec) : Vec :=
  Let (fixed_Sub a.X b.X) fun r1 =>
  Let (fixed_Sub a.Y b.Y) fun r2 =>
  Let ((⟨r1, r2⟩ : Vec)) fun x3 =>
  x3
def vec2_saturate (v_0 : Vec) : Vec :=
  Let (fixed_Saturate v_0.X) fun r1 =>
  Let (fixed_Saturate v_0.Y) fun r2 =>
  Let ((⟨r1, r2⟩ : Vec)) fun x3 =>
  x3
def vec2_DistanceSquared (a : Vec) (b : Vec) : Int :=
  Let (vec2_saturate a) fun r1 =>
  Let (vec2_saturate b) fun r2 =>
  Let (r1) fun x3 =>
  Let (r2) fun x4 =>
  Let ((w64 (x4.X - x3.X))) fun x5 =>
  Let ((w64 (x4.Y - x3.Y))) fun x6 =>
  Let ((w64 ((w64 (x5 * x5)) + (w64 (x6 * x6))))) fun x7 =>
  x7
def fixed_Isqrt_j1 (v3 : Int) (kn2 : Int → Int → Option Int) (v4 : Int) : Option Int :=
  Let ((bShr .i64 v3 1)) fun x7 =>
  kn2 v4 x7
def fixed_Isqrt_l2 (n_0 : Int) (kj1 : Int → Option Int) : Nat → Int → Int → Option Int
  | 0, _, _ => none
  | n + 1, v2, v3 =>
    if (decide (0 < v3)) = true then
      Let ((bOr .i64 v2 v3)) fun x5 =>
      Let ((IntKind.u64.wrap ((IntKind.u64.wrap (x5)) * (IntKind.u64.wrap (x5))))) fun x6 =>
      if (decide (x6 ≤ (IntKind.u64.wrap (n_0)))) = true then
        (fixed_Isqrt_j1 v3 (fixed_Isqrt_l2 n_0 kj1 n)) x5
      else
        (fixed_Isqrt_j1 v3 (fixed_Isqrt_l2 n_0 kj1 n)) v2
    else
      kj1 v2
def fixed_Isqrt_j3 (v1 : Int) : Option Int :=
  some v1
def fixed_Isqrt (n_0 : Int) : Option Int :=
  if (cond (decide (n_0 < 0)) true (decide (4611686018427387904 < n_0))) = true then
    some 0
  else
    fixed_Isqrt_l2 n_0 fixed_Isqrt_j3 fuel 0 2147483648
def vec2_Length (v_0 : Vec) : Option Int :=
  Let (vec2_DistanceSquared (⟨0, 0⟩ : Vec) v_0) fun r1 =>
  Bind (fixed_Isqrt r1) fun r2 =>
  some r2
def polygon_inReach (v_0 : Vec) : Bool :=
  Let ((cond (cond (cond (decide ((-1048576) ≤ v_0.X)) (decide (v_0.X ≤ 1048576)) false) (decide ((-1048576) ≤ v_0.Y)) false) (decide (v_0.Y ≤ 1048576)) false)) fun x1 =>
  x1
def polygon_allInReach_l1 (points : List Vec) (kj1 : Option Bool) : Nat → Int → Option Bool
  | 0, _ => none
  | n + 1, v1 =>
    if (decide (v1 < ((points).length : Int))) = true then
      Chk (0 ≤ v1 ∧ v1 < ((points).length : Int)) <|
      Let ((ix points v1)) fun x3 =>
      Let (polygon_inReach x3) fun r4 =>
      if (!r4) = true then
        some false
      else
        Let ((w64 (v1 + 1))) fun x5 =>
        (polygon_allInReach_l1 points kj1 n) x5
    else
      kj1
def polygon_allInReach_j2 : Option Bool :=
  some true
def polygon_allInReach (points : List Vec) : Option Bool :=
  polygon_allInReach_l1 points polygon_allInReach_j2 fuel 0
def vec2_Orientation (a : Vec) (b : Vec) (c_2 : Vec) : Int :=
  Let (vec2_saturate a) fun r1 =>
  Let (vec2_saturate b) fun r2 =>
  Let (vec2_saturate c_2) fun r3 =>
  Let (r1) fun x4 =>
  Let (r2) fun x5 =>
  Let (r3) fun x6 =>
  Let ((w64 ((w64 ((w64 (x5.X - x4.X)) * (w64 (x6.Y - x4.Y)))) - (w64 ((w64 (x5.Y - x4.Y)) * (w64 (x6.X - x4.X))))))) fun x7 =>
  Let ((min (1 : Int) (max ((-1) : Int) x7))) fun x8 =>
  x8
def polygon_IsConvex_l1 (vertices : List Vec) (v2 : Int) (kj3 : Option Bool) (x4 : Vec) (x6 : Int) : Nat → Int → Option Bool
  | 0, _ => none
  | n + 1, v7 =>
    if (decide (v7 < ((vertices).length : Int))) = true then
      Chk (0 ≤ v7 ∧ v7 < ((vertices).length : Int)) <|
      Let ((ix vertices v7)) fun x9 =>
      Chk (((cond (v7 != v2) (v7 != x6) false) == true) = true → 0 ≤ x6 ∧ x6 < ((vertices).length : Int)) <|
      Let (vec2_Orientation x4 (ix vertices x6) x9) fun r11 =>
      if (cond (cond (v7 != v2) (v7 != x6) false) (r11 != 1) false) = true then
        some false
      else
        Let ((w64 (v7 + 1))) fun x12 =>
        (polygon_IsConvex_l1 vertices v2 kj3 x4 x6 n) x12
    else
      kj3
def polygon_IsConvex_j2 (v2 : Int) (kn2 : Int → Option Bool) : Option Bool :=
  Let ((w64 (v2 + 1))) fun x13 =>
  kn2 x13
def polygon_IsConvex_l3 (vertices : List Vec) (kj1 : Option Bool) : Nat → Int → Option Bool
  | 0, _ => none
  | n + 1, v2 =>
    if (decide (v2 < ((vertices).length : Int))) = true then
      Chk (0 ≤ v2 ∧ v2 < ((vertices).length : Int)) <|
      Let ((ix vertices v2)) fun x4 =>
      Chk (((vertices).length : Int) ≠ 0) <|
      Let ((Int.tmod (w64 (v2 + 1)) ((vertices).length : Int))) fun x6 =>
      polygon_IsConvex_l1 vertices v2 (polygon_IsConvex_j2 v2 (polygon_IsConvex_l3 vertices kj1 n)) x4 x6 fuel 0
    else
      kj1
def polygon_IsConvex_j4 : Option Bool :=
  some true
def polygon_IsConvex (vertices : List Vec) : Option Bool :=
  Bind (if ((cond (decide (((vertices).length : Int) < 3)) true (decide (8 < ((vertices).length : Int)))) == false) = true then polygon_allInReach vertices else some default) fun r1 =>
  if (cond (cond (decide (((vertices).length : Int) < 3)) true (decide (8 < ((vertices).length : Int)))) true (!r1)) = true then
    some false
  else
    polygon_IsConvex_l3 vertices polygon_IsConvex_j4 fuel 0
def polygon_ShortestEdge_l1 (vertices : List Vec) (kj1 : Int → Option Int) : Nat → Int → Int → Option Int
  | 0, _, _ => none
  | n + 1, v3, v4 =>
    if (decide (v4 < ((vertices).length : Int))) = true then
      Chk (0 ≤ v4 ∧ v4 < ((vertices).length : Int)) <|
      Let ((ix vertices v4)) fun x6 =>
      Chk (((vertices).length : Int) ≠ 0) <|
      Chk (0 ≤ (Int.tmod (w64 (v4 + 1)) ((vertices).length : Int)) ∧ (Int.tmod (w64 (v4 + 1)) ((vertices).length : Int)) < ((vertices).length : Int)) <|
      Let (vec2_Sub (ix vertices (Int.tmod (w64 (v4 + 1)) ((vertices).length : Int))) x6) fun r9 =>
      Bind (vec2_Length r9) fun r10 =>
      Let ((min v3 r10)) fun x11 =>
      Let ((w64 (v4 + 1))) fun x12 =>
      (polygon_ShortestEdge_l1 vertices kj1 n) x11 x12
    else
      kj1 v3
def polygon_ShortestEdge_j2 (v2 : Int) : Option Int :=
  some v2
def polygon_ShortestEdge (vertices : List Vec) : Option Int :=
  Bind (polygon_IsConvex vertices) fun r1 =>
  if (!r1) = true then
    some 0
  else
    polygon_ShortestEdge_l1 vertices polygon_ShortestEdge_j2 fuel 536870911 0
def fixed_RoundDiv (n_0 : Int) (d : Int) : Option Int :=
  if (cond (cond (cond (decide (d < 1)) true (decide (4611686018427387904 < d))) true (decide (n_0 < (-4611686018427387904)))) true (decide (4611686018427387904 < n_0))) = true then
    some 0
  else
    Chk (d ≠ 0) <|
    Chk (d ≠ 0) <|
    Let ((w64 (Int.tdiv n_0 d))) fun x3 =>
    Let ((Int.tmod n_0 d)) fun x4 =>
    Let ((decide ((w64 (d - x4)) ≤ x4))) fun x5 =>
    if x5 = true then
      Let ((w64 (x3 + 1))) fun x6 =>
      some x6
    else
      Let ((decide ((w64 (d + x4)) ≤ (w64 (0 - x4))))) fun x7 =>
      if x7 = true then
        Let ((w64 (x3 - 1))) fun x8 =>
        some x8
      else
        some x3
def polygon_fan_l1 (vertices : List Vec) (x2 : Vec) (kj1 : List polygon_triangle → Int → Option (List polygon_triangle × Int)) : Nat → List polygon_triangle → Int → Int → Option (List polygon_triangle × Int)
  | 0, _, _, _ => none
  | n + 1, v5, v6, v7 =>
    if (decide ((w64 (v7 + 1)) < ((vertices).length : Int))) = true then
      Chk (0 ≤ v7 ∧ v7 < ((vertices).length : Int)) <|
      Chk (0 ≤ v7 ∧ v7 < ((vertices).length : Int)) <|
      Let ((⟨(w64 (((ix vertices v7).X) - x2.X)), (w64 (((ix vertices v7).Y) - x2.Y))⟩ : Vec)) fun x10 =>
      Chk (0 ≤ (w64 (v7 + 1)) ∧ (w64 (v7 + 1)) < ((vertices).length : Int)) <|
      Chk (0 ≤ (w64 (v7 + 1)) ∧ (w64 (v7 + 1)) < ((vertices).length : Int)) <|
      Let ((⟨(w64 (((ix vertices (w64 (v7 + 1))).X) - x2.X)), (w64 (((ix vertices (w64 (v7 + 1))).Y) - x2.Y))⟩ : Vec)) fun x13 =>
      Bind (fixed_RoundDiv (w64 ((w64 (x10.X * x13.Y)) - (w64 (x10.Y * x13.X)))) (65536)) fun r14 =>
      Chk (((v5).length + (([(⟨x10, x13, r14⟩ : polygon_triangle)] : List polygon_triangle)).length) * 40 ≤ 140737488355328) <|
      Let (v5 ++ ([(⟨x10, x13, r14⟩ : polygon_triangle)] : List polygon_triangle)) fun x16 =>
      Let ((w64 (v6 + r14))) fun x17 =>
      Let ((w64 (v7 + 1))) fun x18 =>
      (polygon_fan_l1 vertices x2 kj1 n) x16 x17 x18
    else
      kj1 v5 v6
def polygon_fan_j2 (v3 : List polygon_triangle) (v4 : Int) : Option (List polygon_triangle × Int) :=
  some (v3, v4)
def polygon_fan (vertices : List Vec) : Option (List polygon_triangle × Int) :=
  Chk (0 ≤ (0 : Int) ∧ 0 < ((vertices).length : Int)) <|
  Let ((ix vertices 0)) fun x2 =>
  polygon_fan_l1 vertices x2 polygon_fan_j2 fuel ([] : List polygon_triangle) 0 1
def polygon_Area (vertices : List Vec) : Option Int :=
  Bind (polygon_IsConvex vertices) fun r1 =>
  if (!r1) = true then
    some 0
  else
    Bind (polygon_fan vertices) fun r2 =>
    Bind (fixed_RoundDiv r2.2 (2)) fun r3 =>
    some r3
def shape_Validate_j1 (s : Shape) (v5 : Bool) : Option Int :=
  if v5 = true then
    some 6
  else
    Chk (((s.Kind == 2) == true) = true → 0 ≤ (1 : Int) ∧ 1 < ((s.Vertices).length : Int)) <|
    Chk (((s.Kind == 2) == true) = true → 0 ≤ (0 : Int) ∧ 0 < ((s.Vertices).length : Int)) <|
    Let (vec2_Sub (ix s.Vertices 1) (ix s.Vertices 0)) fun r10 =>
    Bind (if ((s.Kind == 2) == true) = true then vec2_Length r10 else some default) fun r11 =>
    Let ((cond (s.Kind == 2) (decide (r11 < 4096)) false)) fun x12 =>
    if x12 = true then
      some 12
    else
      Bind (if ((s.Kind == 3) == true) = true then polygon_IsConvex s.Vertices else some default) fun r13 =>
      Bind (if (((s.Kind == 3) == true) && ((!r13) == false)) = true then polygon_ShortestEdge s.Vertices else some default) fun r14 =>
      Bind (if (((s.Kind == 3) == true) && ((cond (!r13) true (decide (r14 < 4096))) == false)) = true then polygon_Area s.Vertices else some default) fun r15 =>
      Let ((cond (s.Kind == 3) (cond (cond (!r13) true (decide (r14 < 4096))) true (decide (r15 < 256))) false)) fun x16 =>
      if x16 = true then
        some 12
      else
        some 0
def shape_Validate (s : Shape) : Option Int :=
  Let ((cond (decide (s.Kind < 1)) true (decide (3 < s.Kind)))) fun x1 =>
  if x1 = true then
    some 10
  else
    Let (shape_validCount s) fun r2 =>
    Let ((!r2)) fun x3 =>
    if x3 = true then
      some 11
    else
      Bind (slices_ContainsFunc_Vec s.Vertices ((fun (y0 : Vec) => some (shape_Validate_c1 y0)))) fun r4 =>
      if r4 = true then
        some 6
      else
        Let ((cond (s.Kind == 3) (s.Radius != 0) false)) fun x6 =>
        if x6 = true then
          (shape_Validate_j1 s) x6
        else
          Let ((cond (s.Kind != 3) (cond (decide (s.Radius < 2048)) true (decide (524288 < s.Radius))) false)) fun x7 =>
          (shape_Validate_j1 s) x7
def fixed_Mul (a : Int) (b : Int) : Option Int :=
  Let (fixed_Saturate a) fun r1 =>
  Let (fixed_Saturate b) fun r2 =>
  Bind (fixed_RoundDiv (w64 (r1 * r2)) (65536)) fun r3 =>
  Let (fixed_Saturate r3) fun r4 =>
  some r4
def massdata_ofCircle (s : Shape) (density : Int) : Option MassData :=
  Bind (fixed_Mul s.Radius s.Radius) fun r1 =>
  Bind (fixed_Mul (205888) r1) fun r2 =>
  Bind (fixed_Mul r2 density) fun r3 =>
  Chk (0 ≤ (0 : Int) ∧ 0 < ((s.Vertices).length : Int)) <|
  Bind (fixed_RoundDiv r1 (2)) fun r5 =>
  Bind (fixed_Mul r3 r5) fun r6 =>
  Let ((⟨r3, (ix s.Vertices 0), r6⟩ : MassData)) fun x7 =>
  some x7
def fixed_Add (a : Int) (b : Int) : Int :=
  Let (fixed_Saturate a) fun r1 =>
  Let (fixed_Saturate b) fun r2 =>
  Let (fixed_Saturate (w64 (r1 + r2))) fun r3 =>
  r3
def fixed_Lerp (a : Int) (b : Int) (t : Int) : Option Int :=
  Let (fixed_Sub b a) fun r1 =>
  Bind (fixed_Mul r1 t) fun r2 =>
  Let (fixed_Add a r2) fun r3 =>
  some r3
def vec2_Lerp (a : Vec) (b : Vec) (t : Int) : Option Vec :=
  Bind (fixed_Lerp a.X b.X t) fun r1 =>
  Bind (fixed_Lerp a.Y b.Y t) fun r2 =>
  Let ((⟨r1, r2⟩ : Vec)) fun x3 =>
  some x3
def massdata_ofCapsule (s : Shape) (density : Int) : Option MassData :=
  Bind (fixed_Mul s.Radius s.Radius) fun r1 =>
  Chk (0 ≤ (1 : Int) ∧ 1 < ((s.Vertices).length : Int)) <|
  Chk (0 ≤ (0 : Int) ∧ 0 < ((s.Vertices).length : Int)) <|
  Let (vec2_Sub (ix s.Vertices 1) (ix s.Vertices 0)) fun r4 =>
  Bind (vec2_Length r4) fun r5 =>
  Bind (fixed_Mul (205888) r1) fun r6 =>
  Let (fixed_Add s.Radius s.Radius) fun r7 =>
  Bind (fixed_Mul r7 r5) fun r8 =>
  Let (fixed_Add r6 r8) fun r9 =>
  Bind (fixed_Mul r9 density) fun r10 =>
  Bind (fixed_RoundDiv r1 (2)) fun r11 =>
  Bind (fixed_Mul r5 r5) fun r12 =>
  Bind (fixed_RoundDiv r12 (12)) fun r13 =>
  Let (fixed_Add r11 r13) fun r14 =>
  Chk (0 ≤ (0 : Int) ∧ 0 < ((s.Vertices).length : Int)) <|
  Chk (0 ≤ (1 : Int) ∧ 1 < ((s.Vertices).length : Int)) <|
  Bind (vec2_Lerp (ix s.Vertices 0) (ix s.Vertices 1) (32768)) fun r17 =>
  Bind (fixed_Mul r10 r14) fun r18 =>
  Let ((⟨r10, r17, r18⟩ : MassData)) fun x19 =>
  some x19
def polygon_Centroid_l1 (r3 : List polygon_triangle × Int) (kj1 : Int → Int → Option Vec) : Nat → Int → Int → Int → Option Vec
  | 0, _, _, _ => none
  | n + 1, v8, v9, v10 =>
    if (decide (v10 < ((r3.1).length : Int))) = true then
      Chk (0 ≤ v10 ∧ v10 < ((r3.1).length : Int)) <|
      Let ((ix r3.1 v10)) fun x12 =>
      Let ((w64 (v8 + (w64 ((w64 (x12.e.X + x12.f.X)) * x12.cross))))) fun x13 =>
      Let ((w64 (v9 + (w64 ((w64 (x12.e.Y + x12.f.Y)) * x12.cross))))) fun x14 =>
      Let ((w64 (v10 + 1))) fun x15 =>
      (polygon_Centroid_l1 r3 kj1 n) x13 x14 x15
    else
      kj1 v8 v9
def polygon_Centroid_j2 (vertices : List Vec) (r3 : List polygon_triangle × Int) (v6 : Int) (v7 : Int) : Option Vec :=
  Chk (0 ≤ (0 : Int) ∧ 0 < ((vertices).length : Int)) <|
  Bind (fixed_RoundDiv v6 (w64 (3 * r3.2))) fun r17 =>
  Chk (0 ≤ (0 : Int) ∧ 0 < ((vertices).length : Int)) <|
  Bind (fixed_RoundDiv v7 (w64 (3 * r3.2))) fun r19 =>
  Let ((⟨(w64 (((ix vertices 0).X) + r17)), (w64 (((ix vertices 0).Y) + r19))⟩ : Vec)) fun x20 =>
  some x20
def polygon_Centroid (vertices : List Vec) : Option Vec :=
  Bind (polygon_IsConvex vertices) fun r1 =>
  if (!r1) = true then
    Let ((⟨0, 0⟩ : Vec)) fun x2 =>
    some x2
  else
    Bind (polygon_fan vertices) fun r3 =>
    if (r3.2 == 0) = true then
      Chk (0 ≤ (0 : Int) ∧ 0 < ((vertices).length : Int)) <|
      Let ((ix vertices 0)) fun x5 =>
      some x5
    else
      polygon_Centroid_l1 r3 (polygon_Centroid_j2 vertices r3) fuel 0 0 0
def vec2_product (n_0 : Int) : Option Int :=
  Bind (fixed_RoundDiv n_0 (65536)) fun r1 =>
  Let (fixed_Saturate r1) fun r2 =>
  some r2
def vec2_Cross (a : Vec) (b : Vec) : Option Int :=
  Let (vec2_saturate a) fun r1 =>
  Let (vec2_saturate b) fun r2 =>
  Let (r1) fun x3 =>
  Let (r2) fun x4 =>
  Bind (vec2_product (w64 ((w64 (x3.X * x4.Y)) - (w64 (x3.Y * x4.X))))) fun r5 =>
  some r5
def vec2_Dot (a : Vec) (b : Vec) : Option Int :=
  Let (vec2_saturate a) fun r1 =>
  Let (vec2_saturate b) fun r2 =>
  Let (r1) fun x3 =>
  Let (r2) fun x4 =>
  Bind (vec2_product (w64 ((w64 (x3.X * x4.X)) + (w64 (x3.Y * x4.Y))))) fun r5 =>
  some r5
def massdata_ofPolygon_l1 (s : Shape) (x4 : Vec) (kj1 : Int → Int → Option MassData) : Nat → Int → Int → Int → Vec → Option MassData
  | 0, _, _, _, _ => none
  | n + 1, v10, v11, v12, v13 =>
    if (decide (v12 < ((s.Vertices).length : Int))) = true then
      Chk (0 ≤ v12 ∧ v12 < ((s.Vertices).length : Int)) <|
      Let ((ix s.Vertices v12)) fun x15 =>
      Let (vec2_Sub x15 x4) fun r16 =>
      Let (r16) fun x17 =>
      Bind (vec2_Cross v13 x17) fun r18 =>
      Bind (vec2_Dot v13 v13) fun r19 =>
      Bind (vec2_Dot v13 x17) fun r20 =>
      Bind (vec2_Dot x17 x17) fun r21 =>
      Let ((w64 (v10 + (w64 (r18 * (w64 ((w64 (r19 + r20)) + r21))))))) fun x22 =>
      Let ((w64 (v11 + r18))) fun x23 =>
      Let (x17) fun x24 =>
      Let ((w64 (v12 + 1))) fun x25 =>
      (massdata_ofPolygon_l1 s x4 kj1 n) x22 x23 x25 x24
    else
      kj1 v10 v11
def massdata_ofPolygon_j2 (r2 : Int) (x4 : Vec) (v8 : Int) (v9 : Int) : Option MassData :=
  if (decide (v9 < 1)) = true then
    Let ((⟨r2, x4, 0⟩ : MassData)) fun x26 =>
    some x26
  else
    Bind (fixed_RoundDiv v8 v9) fun r27 =>
    Bind (fixed_RoundDiv r27 (6)) fun r28 =>
    Bind (fixed_Mul r2 r28) fun r29 =>
    Let ((⟨r2, x4, r29⟩ : MassData)) fun x30 =>
    some x30
def massdata_ofPolygon (s : Shape) (density : Int) : Option MassData :=
  Bind (polygon_Area s.Vertices) fun r1 =>
  Bind (fixed_Mul r1 density) fun r2 =>
  Bind (polygon_Centroid s.Vertices) fun r3 =>
  Let (r3) fun x4 =>
  Chk (0 ≤ (w64 (((s.Vertices).length : Int) - 1)) ∧ (w64 (((s.Vertices).length : Int) - 1)) < ((s.Vertices).length : Int)) <|
  Let (vec2_Sub (ix s.Vertices (w64 (((s.Vertices).length : Int) - 1))) x4) fun r6 =>
  Let (r6) fun x7 =>
  massdata_ofPolygon_l1 s x4 (massdata_ofPolygon_j2 r2 x4) fuel 0 0 0 x7
def massdata_OfShape (s : Shape) (density : Int) : Option MassData :=
  Bind (shape_Validate s) fun r1 =>
  if (cond (cond (r1 != 0) true (decide (density < 0))) true (decide (262144 < density))) = true then
    Let ((⟨0, Vec.zero, 0⟩ : MassData)) fun x2 =>
    some x2
  else
    Let ((s.Kind == 1)) fun x3 =>
    if x3 = true then
      Bind (massdata_ofCircle s density) fun r4 =>
      Let (r4) fun x5 =>
      some x5
    else
      Let ((s.Kind == 2)) fun x6 =>
      if x6 = true then
        Bind (massdata_ofCapsule s density) fun r7 =>
        Let (r7) fun x8 =>
        some x8
      else
        Bind (massdata_ofPolygon s density) fun r9 =>
        Let (r9) fun x10 =>
        some x10
def slices_IndexFunc_MassData_l1 (s : List MassData) (f : MassData → Option Bool) (kj1 : Option Int) : Nat → Int → Option Int
  | 0, _ => none
  | n + 1, v1 =>
    if (decide (v1 < ((s).length : Int))) = true then
      Chk (0 ≤ v1 ∧ v1 < ((s).length : Int)) <|
      Bind (f (ix s v1)) fun r3 =>
      if r3 = true then
        some v1
      else
        Let ((w64 (v1 + 1))) fun x4 =>
        (slices_IndexFunc_MassData_l1 s f kj1 n) x4
    else
      kj1
def slices_IndexFunc_MassData_j2 : Option Int :=
  some (-1)
def slices_IndexFunc_MassData (s : List MassData) (f : MassData → Option Bool) : Option Int :=
  slices_IndexFunc_MassData_l1 s f slices_IndexFunc_MassData_j2 fuel 0
def slices_ContainsFunc_MassData (s : List MassData) (f : MassData → Option Bool) : Option Bool :=
  Bind (slices_IndexFunc_MassData s f) fun r1 =>
  Let ((decide (0 ≤ r1))) fun x2 =>
  some x2
def massdata_Combine_c1 (p : MassData) : Bool :=
  Let ((decide (p.Mass < 0))) fun x1 =>
  x1
def massdata_Combine_l1 (parts : List MassData) (kj1 : Int → Int → Int → MassData → Option MassData) : Nat → Int → Int → Int → Int → MassData → Option MassData
  | 0, _, _, _, _, _ => none
  | n + 1, v7, v8, v9, v10, v11 =>
    if (decide (v10 < ((parts).length : Int))) = true then
      Chk (0 ≤ v10 ∧ v10 < ((parts).length : Int)) <|
      Let ((ix parts v10)) fun x13 =>
      Let (fixed_Saturate x13.Mass) fun r14 =>
      Let (fixed_Add v11.Mass r14) fun r15 =>
      Let ({ v11 with Mass := r15 }) fun x16 =>
      Let (fixed_Saturate x13.Center.X) fun r17 =>
      Let (fixed_Saturate x13.Center.Y) fun r18 =>
      Let ((w64 (v7 + r14))) fun x19 =>
      Let ((w64 (v8 + (w64 (r14 * r17))))) fun x20 =>
      Let ((w64 (v9 + (w64 (r14 * r18))))) fun x21 =>
      Let ((w64 (v10 + 1))) fun x22 =>
      (massdata_Combine_l1 parts kj1 n) x19 x20 x21 x22 x16
    else
      kj1 v7 v8 v9 v11
def massdata_Combine_l2 (parts : List MassData) (kj4 : MassData → Option MassData) : Nat → Int → MassData → Option MassData
  | 0, _, _ => none
  | n + 1, v28, v29 =>
    if (decide (v28 < ((parts).length : Int))) = true then
      Chk (0 ≤ v28 ∧ v28 < ((parts).length : Int)) <|
      Let ((ix parts v28)) fun x31 =>
      Let (vec2_Sub x31.Center v29.Center) fun r32 =>
      Let (r32) fun x33 =>
      Let (fixed_Add v29.Inertia x31.Inertia) fun r34 =>
      Bind (vec2_Dot x33 x33) fun r35 =>
      Bind (fixed_Mul x31.Mass r35) fun r36 =>
      Let (fixed_Add r34 r36) fun r37 =>
      Let ({ v29 with Inertia := r37 }) fun x38 =>
      Let ((w64 (v28 + 1))) fun x39 =>
      (massdata_Combine_l2 parts kj4 n) x39 x38
    else
      kj4 v29
def massdata_Combine_j3 (v27 : MassData) : Option MassData :=
  Let (v27) fun x40 =>
  some x40
def massdata_Combine_j4 (parts : List MassData) (v23 : MassData) : Option MassData :=
  massdata_Combine_l2 parts massdata_Combine_j3 fuel 0 v23
def massdata_Combine_j5 (parts : List MassData) (v3 : Int) (v4 : Int) (v5 : Int) (v6 : MassData) : Option MassData :=
  if (decide (0 < v3)) = true then
    Bind (fixed_RoundDiv v4 v3) fun r24 =>
    Bind (fixed_RoundDiv v5 v3) fun r25 =>
    Let ({ v6 with Center := (⟨r24, r25⟩ : Vec) }) fun x26 =>
    (massdata_Combine_j4 parts) x26
  else
    (massdata_Combine_j4 parts) v6
def massdata_Combine (parts : List MassData) : Option MassData :=
  Bind (if ((decide (8 < ((parts).length : Int))) == false) = true then slices_ContainsFunc_MassData parts ((fun (y0 : MassData) => some (massdata_Combine_c1 y0))) else some default) fun r1 =>
  if (cond (decide (8 < ((parts).length : Int))) true r1) = true then
    Let ((⟨0, Vec.zero, 0⟩ : MassData)) fun x2 =>
    some x2
  else
    massdata_Combine_l1 parts (massdata_Combine_j5 parts) fuel 0 0 0 0 MassData.zero
def massdata_OfFixtures_j1 (v4 : Int) (kn2 : List MassData → Int → Option MassData) (v5 : List MassData) : Option MassData :=
  Let ((w64 (v4 + 1))) fun x11 =>
  kn2 v5 x11
def massdata_OfFixtures_l2 (fixtures : List Fixture) (kj1 : List MassData → Option MassData) : Nat → List MassData → Int → Option MassData
  | 0, _, _ => none
  | n + 1, v3, v4 =>
    if (decide (v4 < ((fixtures).length : Int))) = true then
      Chk (0 ≤ v4 ∧ v4 < ((fixtures).length : Int)) <|
      Let ((ix fixtures v4)) fun x7 =>
      if (!x7.Sensor) = true then
        Bind (massdata_OfShape x7.Shape x7.Density) fun r8 =>
        Chk (((v3).length + (([r8] : List MassData)).length) * 32 ≤ 140737488355328) <|
        Let (v3 ++ ([r8] : List MassData)) fun x10 =>
        (massdata_OfFixtures_j1 v4 (massdata_OfFixtures_l2 fixtures kj1 n)) x10
      else
        (massdata_OfFixtures_j1 v4 (massdata_OfFixtures_l2 fixtures kj1 n)) v3
    else
      kj1 v3
def massdata_OfFixtures_j3 (v2 : List MassData) : Option MassData :=
  Bind (massdata_Combine v2) fun r12 =>
  Let (r12) fun x13 =>
  some x13
def massdata_OfFixtures (fixtures : List Fixture) : Option MassData :=
  if (decide (4 < ((fixtures).length : Int))) = true then
    Let ((⟨0, Vec.zero, 0⟩ : MassData)) fun x1 =>
    some x1
  else
    massdata_OfFixtures_l2 fixtures massdata_OfFixtures_j3 fuel ([] : List MassData) 0
def body_MassData (b : Body) : Option MassData :=
  Bind (massdata_OfFixtures b.Fixtures) fun r1 =>
  Let (r1) fun x2 =>
  some x2
def fixed_Clamp (x_0 : Int) (low : Int) (high : Int) : Int :=
  Let ((cond (decide (high < low)) true (decide (x_0 < low)))) fun x1 =>
  if x1 = true then
    low
  else
    Let ((decide (high < x_0))) fun x2 =>
    if x2 = true then
      high
    else
      x_0
def fixed_Div (a : Int) (b : Int) : Option Int :=
  Let (fixed_Saturate a) fun r1 =>
  Let (fixed_Saturate b) fun r2 =>
  Let ((w64 (r1 * 65536))) fun x3 =>
  Let ((r2 == 0)) fun x4 =>
  if x4 = true then
    Let (fixed_Clamp x3 ((-1)) (1)) fun r5 =>
    Let ((w64 (r5 * 536870911))) fun x6 =>
    some x6
  else
    Let ((decide (r2 < 0))) fun x7 =>
    if x7 = true then
      Let ((w64 (0 - x3))) fun x8 =>
      Let ((w64 (0 - r2))) fun x9 =>
      Bind (fixed_RoundDiv x8 x9) fun r10 =>
      Let (fixed_Saturate r10) fun r11 =>
      some r11
    else
      Bind (fixed_RoundDiv x3 r2) fun r12 =>
      Let (fixed_Saturate r12) fun r13 =>
      some r13
def massdata_Inverse_j1 (m : MassData) (fixedRotation : Bool) (v1 : Int) : Option (Int × Int) :=
  if (cond (decide (0 < m.Inertia)) (!fixedRotation) false) = true then
    Bind (fixed_Div (65536) m.Inertia) fun r3 =>
    some (v1, r3)
  else
    some (v1, 0)
def massdata_Inverse (m : MassData) (kind : Int) (fixedRotation : Bool) : Option (Int × Int) :=
  if (kind != 3) = true then
    some (0, 0)
  else
    if (decide (0 < m.Mass)) = true then
      Bind (fixed_Div (65536) m.Mass) fun r2 =>
      (massdata_Inverse_j1 m fixedRotation) r2
    else
      (massdata_Inverse_j1 m fixedRotation) 65536
def body_SolverBody (b : Body) : Option SolverBody :=
  Bind (body_MassData b) fun r1 =>
  Bind (massdata_Inverse r1 b.Kind b.FixedRotation) fun r2 =>
  Let ((⟨b.Velocity, b.AngularVelocity, r2.1, r2.2⟩ : SolverBody)) fun x3 =>
  some x3
def vec2_Scale (v_0 : Vec) (k_1 : Int) : Option Vec :=
  Bind (fixed_Mul v_0.X k_1) fun r1 =>
  Bind (fixed_Mul v_0.Y k_1) fun r2 =>
  Let ((⟨r1, r2⟩ : Vec)) fun x3 =>
  some x3
def vec2_Add (a : Vec) (b : Vec) : Vec :=
  Let (fixed_Add a.X b.X) fun r1 =>
  Let (fixed_Add a.Y b.Y) fun r2 =>
  Let ((⟨r1, r2⟩ : Vec)) fun x3 =>
  x3
def body_ClampVelocity (b : Body) : Body :=
  Let (fixed_Clamp b.Velocity.X ((-16777216)) (16777216)) fun r1 =>
  Let ({ b with Velocity := { b.Velocity with X := r1 } }) fun x2 =>
  Let (fixed_Clamp x2.Velocity.Y ((-16777216)) (16777216)) fun r3 =>
  Let ({ x2 with Velocity := { x2.Velocity with Y := r3 } }) fun x4 =>
  Let (fixed_Clamp x4.AngularVelocity ((-4194304)) (4194304)) fun r5 =>
  Let ({ x4 with AngularVelocity := r5 }) fun x6 =>
  Let (x6) fun x7 =>
  x7
def integrate_Velocity (b : Body) (s : Settings) : Option Body :=
  if (cond (b.Kind != 3) true b.Asleep) = true then
    Let (b) fun x1 =>
    some x1
  else
    Bind (body_SolverBody b) fun r2 =>
    Let (r2) fun x3 =>
    Bind (vec2_Scale s.Gravity b.GravityScale) fun r4 =>
    Bind (vec2_Scale r4 s.TimeStep) fun r5 =>
    Let (vec2_Add b.Velocity r5) fun r6 =>
    Let (r6) fun x7 =>
    Bind (vec2_Scale b.Force x3.InvMass) fun r8 =>
    Bind (vec2_Scale r8 s.TimeStep) fun r9 =>
    Let (vec2_Add x7 r9) fun r10 =>
    Let (r10) fun x11 =>
    Bind (fixed_Mul b.LinearDamping s.TimeStep) fun r12 =>
    Bind (vec2_Scale x11 r12) fun r13 =>
    Let (vec2_Sub x11 r13) fun r14 =>
    Let ({ b with Velocity := r14 }) fun x15 =>
    Bind (fixed_Mul x15.Torque x3.InvInertia) fun r16 =>
    Bind (fixed_Mul r16 s.TimeStep) fun r17 =>
    Let (fixed_Add x15.AngularVelocity r17) fun r18 =>
    Bind (fixed_Mul x15.AngularDamping s.TimeStep) fun r19 =>
    Bind (fixed_Mul r18 r19) fun r20 =>
    Let (fixed_Sub r18 r20) fun r21 =>
    Let ({ x15 with AngularVelocity := r21 }) fun x22 =>
    if x22.FixedRotation = true then
      Let ({ x22 with AngularVelocity := 0 }) fun x23 =>
      Let (body_ClampVelocity x23) fun r24 =>
      Let (r24) fun x25 =>
      some x25
    else
      Let (body_ClampVelocity x22) fun r26 =>
      Let (r26) fun x27 =>
      some x27
def angle_Normalize (a : Int) : Int :=
  Let ((Int.tmod a 411776)) fun x1 =>
  Let ((decide (205888 ≤ x1))) fun x2 =>
  if x2 = true then
    Let ((w64 (x1 - 411776))) fun x3 =>
    x3
  else
    Let ((decide (x1 < (-205888)))) fun x4 =>
    if x4 = true then
      Let ((w64 (x1 + 411776))) fun x5 =>
      x5
    else
      x1
def angle_abs (x_0 : Int) : Int :=
  if (decide (x_0 < 0)) = true then
    Let ((w64 (0 - x_0))) fun x1 =>
    x1
  else
    x_0
def angle_Sin_j1 (r1 : Int) (v3 : Int) : Option Int :=
  Bind (fixed_Div v3 (102944)) fun r5 =>
  Bind (fixed_Mul r5 r5) fun r6 =>
  Bind (fixed_Mul r6 (4569)) fun r7 =>
  Let (fixed_Sub (41906) r7) fun r8 =>
  Bind (fixed_Mul r6 r8) fun r9 =>
  Let (fixed_Sub (102873) r9) fun r10 =>
  Bind (fixed_Mul r5 r10) fun r11 =>
  if (decide (r1 < 0)) = true then
    Let ((w64 (0 - r11))) fun x12 =>
    some x12
  else
    some r11
def angle_Sin (a : Int) : Option Int :=
  Let (angle_Normalize a) fun r1 =>
  Let (angle_abs r1) fun r2 =>
  if (decide (102944 < r2)) = true then
    Let ((w64 (205888 - r2))) fun x4 =>
    (angle_Sin_j1 r1) x4
  else
    (angle_Sin_j1 r1) r2
def angle_Cos (a : Int) : Option Int :=
  Let (angle_Normalize a) fun r1 =>
  Let (angle_abs r1) fun r2 =>
  Bind (angle_Sin (w64 (102944 - r2))) fun r3 =>
  some r3
def angle_Rot (a : Int) : Option Rot :=
  Bind (angle_Cos a) fun r1 =>
  Bind (angle_Sin a) fun r2 =>
  Bind (fixed_Isqrt (w64 ((w64 (r1 * r1)) + (w64 (r2 * r2))))) fun r3 =>
  Bind (fixed_Div r1 r3) fun r4 =>
  Bind (fixed_Div r2 r3) fun r5 =>
  Let ((⟨r4, r5⟩ : Rot)) fun x6 =>
  some x6
def vec2_Rotate (r_0 : Rot) (v_1 : Vec) : Option Vec :=
  Let (fixed_Saturate r_0.Cos) fun r1 =>
  Let (fixed_Saturate r_0.Sin) fun r2 =>
  Let (vec2_saturate v_1) fun r3 =>
  Let (r3) fun x4 =>
  Bind (vec2_product (w64 ((w64 (r1 * x4.X)) - (w64 (r2 * x4.Y))))) fun r5 =>
  Bind (vec2_product (w64 ((w64 (r2 * x4.X)) + (w64 (r1 * x4.Y))))) fun r6 =>
  Let ((⟨r5, r6⟩ : Vec)) fun x7 =>
  some x7
def transform_Apply (t : Transform) (v_1 : Vec) : Option Vec :=
  Bind (angle_Rot t.Angle) fun r1 =>
  Bind (vec2_Rotate r1 v_1) fun r2 =>
  Let (vec2_Add r2 t.Position) fun r3 =>
  Let (r3) fun x4 =>
  some x4
def transform_rotate (a : Int) (difference : Int) : Int :=
  Let (angle_Normalize a) fun r1 =>
  Let (angle_Normalize (w64 (r1 + difference))) fun r2 =>
  r2
def transform_Integrate (t : Transform) (center : Vec) (velocity : Vec) (angularVelocity : Int) (dt : Int) : Option Transform :=
  Bind (transform_Apply t center) fun r1 =>
  Bind (vec2_Scale velocity dt) fun r2 =>
  Let (vec2_Add r1 r2) fun r3 =>
  Let (r3) fun x4 =>
  Bind (fixed_Mul angularVelocity dt) fun r5 =>
  Let (transform_rotate t.Angle r5) fun r6 =>
  Bind (angle_Rot r6) fun r7 =>
  Bind (vec2_Rotate r7 center) fun r8 =>
  Let (vec2_Sub x4 r8) fun r9 =>
  Let ((⟨r9, r6⟩ : Transform)) fun x10 =>
  some x10
def integrate_confine (coordinate : Int) (velocity : Int) : Int × Int :=
  Let (fixed_Clamp coordinate ((-268435456)) (268435456)) fun r1 =>
  if (r1 != coordinate) = true then
    (r1, 0)
  else
    (coordinate, velocity)
def integrate_Position (b : Body) (dt : Int) : Option Body :=
  if (cond (b.Kind == 1) true b.Asleep) = true then
    Let (b) fun x1 =>
    some x1
  else
    Bind (body_MassData b) fun r2 =>
    Let (r2.Center) fun x3 =>
    Bind (transform_Integrate b.Transform x3 b.Velocity b.AngularVelocity dt) fun r4 =>
    Let ({ b with Transform := r4 }) fun x5 =>
    Let (integrate_confine x5.Transform.Position.X x5.Velocity.X) fun r6 =>
    Let ({ x5 with Transform := { x5.Transform with Position := { x5.Transform.Position with X := r6.1 } } }) fun x7 =>
    Let ({ x7 with Velocity := { x7.Velocity with X := r6.2 } }) fun x8 =>
    Let (integrate_confine x8.Transform.Position.Y x8.Velocity.Y) fun r9 =>
    Let ({ x8 with Transform := { x8.Transform with Position := { x8.Transform.Position with Y := r9.1 } } }) fun x10 =>
    Let ({ x10 with Velocity := { x10.Velocity with Y := r9.2 } }) fun x11 =>
    Let (x11) fun x12 =>
    some x12
def integrate_ClearForces (b : Body) : Body :=
  Let ({ b with Force := (⟨0, 0⟩ : Vec) }) fun x1 =>
  Let ({ x1 with Torque := 0 }) fun x2 =>
  Let (x2) fun x3 =>
  x3
def law26_example  : Option Bool :=
  Let (law26_disk) fun r1 =>
  Bind (integrate_Velocity r1 (⟨8192, (⟨0, (-655360)⟩ : Vec), 0, 0⟩ : Settings)) fun r2 =>
  Let (r2) fun x3 =>
  Bind (integrate_Position x3 (8192)) fun r4 =>
  Let (r4) fun x5 =>
  Let ((Transform.beq x5.Transform (⟨(⟨0, (-10240)⟩ : Vec), 0⟩ : Transform))) fun x6 =>
  Let (integrate_ClearForces (⟨3, 0, Transform.zero, Vec.zero, 0, (⟨1, 0⟩ : Vec), 2, 0, 0, 0, false, false, false, false, 0, []⟩ : Body)) fun r7 =>
  Let ((cond (cond (cond (cond (Vec.beq x3.Velocity (⟨0, (-81920)⟩ : Vec)) (x3.AngularVelocity == 0) false) x6 false) (Vec.beq x5.Velocity x3.Velocity) false) (r7.ID == 3) false)) fun x8 =>
  some x8
def slices_Equal_Vec_l1 (s1 : List Vec) (s2 : List Vec) (kj1 : Option Bool) : Nat → Int → Option Bool
  | 0, _ => none
  | n + 1, v1 =>
    if (decide (v1 < ((s1).length : Int))) = true then
      Chk (0 ≤ v1 ∧ v1 < ((s1).length : Int)) <|
      Chk (0 ≤ v1 ∧ v1 < ((s2).length : Int)) <|
      if (!Vec.beq (ix s1 v1) (ix s2 v1)) = true then
        some false
      else
        Let ((w64 (v1 + 1))) fun x4 =>
        (slices_Equal_Vec_l1 s1 s2 kj1 n) x4
    else
      kj1
def slices_Equal_Vec_j2 : Option Bool :=
  some true
def slices_Equal_Vec (s1 : List Vec) (s2 : List Vec) : Option Bool :=
  if (((s1).length : Int) != ((s2).length : Int)) = true then
    some false
  else
    slices_Equal_Vec_l1 s1 s2 slices_Equal_Vec_j2 fuel 0
def shape_Equal (a : Shape) (b : Shape) : Option Bool :=
  Bind (if ((cond (a.Kind == b.Kind) (a.Radius == b.Radius) false) == true) = true then slices_Equal_Vec a.Vertices b.Vertices else some default) fun r1 =>
  Let ((cond (cond (a.Kind == b.Kind) (a.Radius == b.Radius) false) r1 false)) fun x2 =>
  some x2
def body_equalFixtures (a : Fixture) (b : Fixture) : Option Bool :=
  Let ((cond (cond (a.Density == b.Density) (a.Friction == b.Friction) false) (a.Restitution == b.Restitution) false)) fun x1 =>
  Let ((cond (cond (cond (a.Sensor == b.Sensor) (a.Category == b.Category) false) (a.Mask == b.Mask) false) (a.Group == b.Group) false)) fun x2 =>
  Bind (shape_Equal a.Shape b.Shape) fun r3 =>
  Let ((cond (cond r3 x1 false) x2 false)) fun x4 =>
  some x4
def body_Equal_l1 (a : Body) (b : Body) (kj1 : Option Bool) : Nat → Int → Option Bool
  | 0, _ => none
  | n + 1, v1 =>
    if (decide (v1 < ((a.Fixtures).length : Int))) = true then
      Chk (0 ≤ v1 ∧ v1 < ((a.Fixtures).length : Int)) <|
      Let ((ix a.Fixtures v1)) fun x3 =>
      Chk (0 ≤ v1 ∧ v1 < ((b.Fixtures).length : Int)) <|
      Bind (body_equalFixtures x3 (ix b.Fixtures v1)) fun r5 =>
      if (!r5) = true then
        some false
      else
        Let ((w64 (v1 + 1))) fun x6 =>
        (body_Equal_l1 a b kj1 n) x6
    else
      kj1
def body_Equal_j2 (a : Body) (b : Body) : Option Bool :=
  Let ((cond (cond (a.ID == b.ID) (a.Kind == b.Kind) false) (Transform.beq a.Transform b.Transform) false)) fun x7 =>
  Let ((cond (Vec.beq a.Velocity b.Velocity) (a.AngularVelocity == b.AngularVelocity) false)) fun x8 =>
  Let ((cond (Vec.beq a.Force b.Force) (a.Torque == b.Torque) false)) fun x9 =>
  Let ((cond (cond (a.LinearDamping == b.LinearDamping) (a.AngularDamping == b.AngularDamping) false) (a.GravityScale == b.GravityScale) false)) fun x10 =>
  Let ((cond (cond (a.Bullet == b.Bullet) (a.FixedRotation == b.FixedRotation) false) (a.NoSleep == b.NoSleep) false)) fun x11 =>
  Let ((cond (a.Asleep == b.Asleep) (a.IdleSteps == b.IdleSteps) false)) fun x12 =>
  Let ((cond (cond (cond (cond (cond x7 x8 false) x9 false) x10 false) x11 false) x12 false)) fun x13 =>
  some x13
def body_Equal (a : Body) (b : Body) : Option Bool :=
  if (((a.Fixtures).length : Int) != ((b.Fixtures).length : Int)) = true then
    some false
  else
    body_Equal_l1 a b (body_Equal_j2 a b) fuel 0
def law26_IntegrateUnchanged (b : Body) (s : Settings) (dt : Int) : Option Bool :=
  Bind (ref23_Small b) fun r1 =>
  if (!r1) = true then
    Bind (law26_example) fun r2 =>
    some r2
  else
    Bind (if ((cond (b.Kind != 3) true b.Asleep) == true) = true then integrate_Velocity b s else some default) fun r3 =>
    Bind (if ((cond (b.Kind != 3) true b.Asleep) == true) = true then body_Equal r3 b else some default) fun r4 =>
    if (cond (cond (b.Kind != 3) true b.Asleep) (!r4) false) = true then
      some false
    else
      Bind (if ((cond (b.Kind == 1) true b.Asleep) == true) = true then integrate_Position b dt else some default) fun r5 =>
      Bind (if ((cond (b.Kind == 1) true b.Asleep) == true) = true then body_Equal r5 b else some default) fun r6 =>
      if (cond (cond (b.Kind == 1) true b.Asleep) (!r6) false) = true then
        some false
      else
        Let (integrate_ClearForces b) fun r7 =>
        Let (r7) fun x8 =>
        Let ({ x8 with Force := b.Force }) fun x9 =>
        Let ({ x9 with Torque := b.Torque }) fun x10 =>
        Bind (body_Equal x10 b) fun r11 =>
        Bind (if (r11 == true) = true then law26_example else some default) fun r12 =>
        Let ((cond r11 r12 false)) fun x13 =>
        some x13
def body_within (x_0 : Int) (low : Int) (high : Int) : Bool :=
  Let ((cond (decide (low ≤ x_0)) (decide (x_0 ≤ high)) false)) fun x1 =>
  x1
def body_bounded (v_0 : Vec) (limit : Int) : Bool :=
  Let (body_within v_0.X (w64 (0 - limit)) limit) fun r1 =>
  Let (body_within v_0.Y (w64 (0 - limit)) limit) fun r2 =>
  Let ((cond r1 r2 false)) fun x3 =>
  x3
def transform_inWorld (x_0 : Int) : Bool :=
  Let ((cond (decide ((-268435456) ≤ x_0)) (decide (x_0 ≤ 268435456)) false)) fun x1 =>
  x1
def transform_Valid (t : Transform) : Bool :=
  Let (transform_inWorld t.Position.X) fun r1 =>
  Let (transform_inWorld t.Position.Y) fun r2 =>
  Let ((cond (cond (cond r1 r2 false) (decide ((-205888) ≤ t.Angle)) false) (decide (t.Angle < 205888)) false)) fun x3 =>
  x3
def body_inRange (b : Body) : Bool :=
  Let (body_bounded b.Velocity (16777216)) fun r1 =>
  Let (body_within b.AngularVelocity ((-4194304)) (4194304)) fun r2 =>
  Let ((cond r1 r2 false)) fun x3 =>
  Let (body_bounded b.Force (536870911)) fun r4 =>
  Let (body_within b.Torque ((-536870911)) (536870911)) fun r5 =>
  Let ((cond r4 r5 false)) fun x6 =>
  Let (body_within b.LinearDamping (0) (65536)) fun r7 =>
  Let (body_within b.AngularDamping (0) (65536)) fun r8 =>
  Let ((cond r7 r8 false)) fun x9 =>
  Let (body_within b.GravityScale ((-262144)) (262144)) fun r10 =>
  Let (body_within b.ID (1) (1099511627776)) fun r11 =>
  Let (transform_Valid b.Transform) fun r12 =>
  Let (body_within b.IdleSteps (0) (1048576)) fun r13 =>
  Let ((cond (cond (cond (cond (cond (cond r11 r12 false) x3 false) x6 false) x9 false) r10 false) r13 false)) fun x14 =>
  x14
def body_ValidateFixture (f : Fixture) : Option Int :=
  Bind (shape_Validate f.Shape) fun r1 =>
  if (r1 != 0) = true then
    some r1
  else
    Let (body_within f.Density (0) (262144)) fun r2 =>
    Let (body_within f.Friction (0) (131072)) fun r3 =>
    Let (body_within f.Restitution (0) (65536)) fun r4 =>
    Let ((cond (cond r2 r3 false) r4 false)) fun x5 =>
    Let (body_within f.Category (0) (65535)) fun r6 =>
    Let (body_within f.Mask (0) (65535)) fun r7 =>
    Let (body_within f.Group ((-32)) (32)) fun r8 =>
    Let ((cond (cond r6 r7 false) r8 false)) fun x9 =>
    if (cond (!x5) true (!x9)) = true then
      some 6
    else
      some 0
def body_moving (b : Body) : Bool :=
  Let ((cond (!Vec.beq b.Velocity (⟨0, 0⟩ : Vec)) true (b.AngularVelocity != 0))) fun x1 =>
  x1
def body_consistent (b : Body) : Bool :=
  Let ((cond (!Vec.beq b.Force (⟨0, 0⟩ : Vec)) true (b.Torque != 0))) fun x1 =>
  Let (body_moving b) fun r2 =>
  Let ((cond (b.Kind == 1) (cond r2 true x1) false)) fun x3 =>
  if x3 = true then
    false
  else
    Let ((cond (b.Kind != 3) (cond b.Asleep true b.Bullet) false)) fun x4 =>
    if x4 = true then
      false
    else
      Let (body_moving b) fun r5 =>
      Let ((cond (!b.Asleep) true (!r5))) fun x6 =>
      x6
def body_Validate_l1 (b : Body) (kj1 : Option Int) : Nat → Int → Option Int
  | 0, _ => none
  | n + 1, v2 =>
    if (decide (v2 < ((b.Fixtures).length : Int))) = true then
      Chk (0 ≤ v2 ∧ v2 < ((b.Fixtures).length : Int)) <|
      Let ((ix b.Fixtures v2)) fun x4 =>
      Bind (body_ValidateFixture x4) fun r5 =>
      if (r5 != 0) = true then
        some 13
      else
        Let ((w64 (v2 + 1))) fun x6 =>
        (body_Validate_l1 b kj1 n) x6
    else
      kj1
def body_Validate_j2 (b : Body) : Option Int :=
  Let (body_consistent b) fun r7 =>
  if (!r7) = true then
    some 14
  else
    some 0
def body_Validate (b : Body) : Option Int :=
  if (cond (cond (b.Kind != 1) (b.Kind != 2) false) (b.Kind != 3) false) = true then
    some 10
  else
    Let (body_inRange b) fun r1 =>
    if (!r1) = true then
      some 6
    else
      if (decide (4 < ((b.Fixtures).length : Int))) = true then
        some 11
      else
        body_Validate_l1 b (body_Validate_j2 b) fuel 0
def law26_IntegrateValid (b : Body) (s : Settings) (dt : Int) : Option Bool :=
  Bind (ref23_Small b) fun r1 =>
  Bind (if ((!r1) == false) = true then body_Validate b else some default) fun r2 =>
  if (cond (!r1) true (r2 != 0)) = true then
    Bind (law26_example) fun r3 =>
    some r3
  else
    Bind (integrate_Velocity b s) fun r4 =>
    Let (r4) fun x5 =>
    Bind (integrate_Position x5 dt) fun r6 =>
    Let (r6) fun x7 =>
    Let (integrate_ClearForces x7) fun r8 =>
    Let (r8) fun x9 =>
    Bind (body_Validate x5) fun r10 =>
    Bind (if ((r10 == 0) == true) = true then body_Validate x7 else some default) fun r11 =>
    Bind (if ((cond (r10 == 0) (r11 == 0) false) == true) = true then body_Validate x9 else some default) fun r12 =>
    Bind (if ((cond (cond (cond (cond (cond (r10 == 0) (r11 == 0) false) (r12 == 0) false) (Vec.beq x9.Force (⟨0, 0⟩ : Vec)) false) (x9.Torque == 0) false) (Transform.beq x5.Transform b.Transform) false) == true) = true then law26_example else some default) fun r13 =>
    Let ((cond (cond (cond (cond (cond (cond (r10 == 0) (r11 == 0) false) (r12 == 0) false) (Vec.beq x9.Force (⟨0, 0⟩ : Vec)) false) (x9.Torque == 0) false) (Transform.beq x5.Transform b.Transform) false) r13 false)) fun x14 =>
    some x14
def law26_displacement (v_0 : Int) (dt : Int) : Int :=
  Let ((w64 (v_0 * dt))) fun x1 =>
  if (decide (x1 < 0)) = true then
    Let ((w64 (0 - (w64 (Int.tdiv (w64 ((w64 (0 - x1)) + 32768)) 65536))))) fun x2 =>
    x2
  else
    Let ((w64 (Int.tdiv (w64 (x1 + 32768)) 65536))) fun x3 =>
    x3
def law26_IntegrateStraight_l1 (x8 : Arr2 Int) (x9 : Arr2 Int) (x10 : Arr2 Int) (x11 : Arr2 Int) (kj1 : Option Bool) : Nat → Int → Option Bool
  | 0, _ => none
  | n + 1, v12 =>
    if (decide (v12 < 2)) = true then
      Chk (0 ≤ v12 ∧ v12 < 2) <|
      Chk (((decide ((x8.get v12) < (-268435456))) == false) = true → 0 ≤ v12 ∧ v12 < 2) <|
      Let ((cond (decide ((x8.get v12) < (-268435456))) true (decide (268435456 < (x8.get v12))))) fun x15 =>
      Chk (0 ≤ v12 ∧ v12 < 2) <|
      Chk (0 ≤ v12 ∧ v12 < 2) <|
      Let (((x9.get v12) != (max (min (x8.get v12) 268435456) (-268435456)))) fun x18 =>
      Chk (((x18 == false) && (x15 == true)) = true → 0 ≤ v12 ∧ v12 < 2) <|
      Chk ((((cond x18 true (cond x15 ((x10.get v12) != 0) false)) == false) && ((!x15) == true)) = true → 0 ≤ v12 ∧ v12 < 2) <|
      Chk ((((cond x18 true (cond x15 ((x10.get v12) != 0) false)) == false) && ((!x15) == true)) = true → 0 ≤ v12 ∧ v12 < 2) <|
      if (cond (cond x18 true (cond x15 ((x10.get v12) != 0) false)) true (cond (!x15) ((x10.get v12) != (x11.get v12)) false)) = true then
        some false
      else
        Let ((w64 (v12 + 1))) fun x22 =>
        (law26_IntegrateStraight_l1 x8 x9 x10 x11 kj1 n) x22
    else
      kj1
def law26_IntegrateStraight_j2 (b : Body) (x5 : Body) : Option Bool :=
  Bind (if ((cond (x5.Transform.Angle == b.Transform.Angle) (x5.AngularVelocity == 0) false) == true) = true then law26_example else some default) fun r23 =>
  Let ((cond (cond (x5.Transform.Angle == b.Transform.Angle) (x5.AngularVelocity == 0) false) r23 false)) fun x24 =>
  some x24
def law26_IntegrateStraight (b : Body) (dt : Int) : Option Bool :=
  Bind (ref23_Small b) fun r1 =>
  Bind (if ((!r1) == false) = true then body_Validate b else some default) fun r2 =>
  if (cond (cond (cond (cond (cond (cond (!r1) true (r2 != 0)) true (b.AngularVelocity != 0)) true (b.Kind == 1)) true b.Asleep) true (decide (dt < 0))) true (decide (8192 < dt))) = true then
    Bind (law26_example) fun r3 =>
    some r3
  else
    Bind (integrate_Position b dt) fun r4 =>
    Let (r4) fun x5 =>
    Let (law26_displacement b.Velocity.X dt) fun r6 =>
    Let (law26_displacement b.Velocity.Y dt) fun r7 =>
    Let ((⟨(w64 (b.Transform.Position.X + r6)), (w64 (b.Transform.Position.Y + r7))⟩ : Arr2 Int)) fun x8 =>
    Let ((⟨x5.Transform.Position.X, x5.Transform.Position.Y⟩ : Arr2 Int)) fun x9 =>
    Let ((⟨x5.Velocity.X, x5.Velocity.Y⟩ : Arr2 Int)) fun x10 =>
    Let ((⟨b.Velocity.X, b.Velocity.Y⟩ : Arr2 Int)) fun x11 =>
    law26_IntegrateStraight_l1 x8 x9 x10 x11 (law26_IntegrateStraight_j2 b x5) fuel 0
def law26_IntegrateDamping_l1 (x7 : Arr3 Int) (x8 : Arr3 Int) (kj1 : Option Bool) : Nat → Int → Option Bool
  | 0, _ => none
  | n + 1, v9 =>
    if (decide (v9 < 3)) = true then
      Chk (0 ≤ v9 ∧ v9 < 3) <|
      Chk (((decide (0 ≤ (x8.get v9))) == true) = true → 0 ≤ v9 ∧ v9 < 3) <|
      Chk ((((decide (0 ≤ (x8.get v9))) == true) && ((decide ((x7.get v9) < 0)) == false)) = true → 0 ≤ v9 ∧ v9 < 3) <|
      Chk ((((decide (0 ≤ (x8.get v9))) == true) && ((decide ((x7.get v9) < 0)) == false)) = true → 0 ≤ v9 ∧ v9 < 3) <|
      Chk (((cond (decide (0 ≤ (x8.get v9))) (cond (decide ((x7.get v9) < 0)) true (decide ((x8.get v9) < (x7.get v9)))) false) == false) = true → 0 ≤ v9 ∧ v9 < 3) <|
      Chk ((((cond (decide (0 ≤ (x8.get v9))) (cond (decide ((x7.get v9) < 0)) true (decide ((x8.get v9) < (x7.get v9)))) false) == false) && ((decide ((x8.get v9) ≤ 0)) == true)) = true → 0 ≤ v9 ∧ v9 < 3) <|
      Chk (((((cond (decide (0 ≤ (x8.get v9))) (cond (decide ((x7.get v9) < 0)) true (decide ((x8.get v9) < (x7.get v9)))) false) == false) && ((decide ((x8.get v9) ≤ 0)) == true)) && ((decide (0 < (x7.get v9))) == false)) = true → 0 ≤ v9 ∧ v9 < 3) <|
      Chk (((((cond (decide (0 ≤ (x8.get v9))) (cond (decide ((x7.get v9) < 0)) true (decide ((x8.get v9) < (x7.get v9)))) false) == false) && ((decide ((x8.get v9) ≤ 0)) == true)) && ((decide (0 < (x7.get v9))) == false)) = true → 0 ≤ v9 ∧ v9 < 3) <|
      if (cond (cond (decide (0 ≤ (x8.get v9))) (cond (decide ((x7.get v9) < 0)) true (decide ((x8.get v9) < (x7.get v9)))) false) true (cond (decide ((x8.get v9) ≤ 0)) (cond (decide (0 < (x7.get v9))) true (decide ((x7.get v9) < (x8.get v9)))) false)) = true then
        some false
      else
        Let ((w64 (v9 + 1))) fun x18 =>
        (law26_IntegrateDamping_l1 x7 x8 kj1 n) x18
    else
      kj1
def law26_IntegrateDamping_j2 : Option Bool :=
  Bind (law26_example) fun r19 =>
  some r19
def law26_IntegrateDamping (b : Body) (dt : Int) : Option Bool :=
  Bind (ref23_Small b) fun r1 =>
  Bind (if ((!r1) == false) = true then body_Validate b else some default) fun r2 =>
  if (cond (cond (cond (!r1) true (r2 != 0)) true (decide (dt < 0))) true (decide (8192 < dt))) = true then
    Bind (law26_example) fun r3 =>
    some r3
  else
    Let (integrate_ClearForces b) fun r4 =>
    Bind (integrate_Velocity r4 (⟨dt, Vec.zero, 0, 0⟩ : Settings)) fun r5 =>
    Let (r5) fun x6 =>
    Let ((⟨x6.Velocity.X, x6.Velocity.Y, x6.AngularVelocity⟩ : Arr3 Int)) fun x7 =>
    Let ((⟨b.Velocity.X, b.Velocity.Y, b.AngularVelocity⟩ : Arr3 Int)) fun x8 =>
    law26_IntegrateDamping_l1 x7 x8 law26_IntegrateDamping_j2 fuel 0
def slices_Clone_Vec (s : List Vec) : Option (List Vec) :=
  Chk ((([] : List Vec).length + s.length) * 16 ≤ 140737488355328) <|
  some s
def shape_Clone (s : Shape) : Option Shape :=
  Bind (slices_Clone_Vec s.Vertices) fun r1 =>
  Let ({ s with Vertices := r1 }) fun x2 =>
  Let (x2) fun x3 =>
  some x3
def body_Clone_l1 (b : Body) (kj1 : List Fixture → Option Body) : Nat → List Fixture → Int → Option Body
  | 0, _, _ => none
  | n + 1, v2, v3 =>
    if (decide (v3 < ((b.Fixtures).length : Int))) = true then
      Chk (0 ≤ v3 ∧ v3 < ((b.Fixtures).length : Int)) <|
      Let ((ix b.Fixtures v3)) fun x5 =>
      Bind (shape_Clone x5.Shape) fun r6 =>
      Let ({ x5 with Shape := r6 }) fun x7 =>
      Chk (((v2).length + (([x7] : List Fixture)).length) * 96 ≤ 140737488355328) <|
      Let (v2 ++ ([x7] : List Fixture)) fun x9 =>
      Let ((w64 (v3 + 1))) fun x10 =>
      (body_Clone_l1 b kj1 n) x9 x10
    else
      kj1 v2
def body_Clone_j2 (b : Body) (v1 : List Fixture) : Option Body :=
  Let ({ b with Fixtures := v1 }) fun x11 =>
  Let (x11) fun x12 =>
  some x12
def body_Clone (b : Body) : Option Body :=
  body_Clone_l1 b (body_Clone_j2 b) fuel ([] : List Fixture) 0
def law26_IntegrateFreeMotion_j1 (x8 : Body) (x10 : Body) (v11 : Int) : Option Bool :=
  Bind (if ((cond (cond (Vec.beq x10.Velocity x8.Velocity) (x10.AngularVelocity == v11) false) (Transform.beq x10.Transform x8.Transform) false) == true) = true then law26_example else some default) fun r12 =>
  Let ((cond (cond (cond (Vec.beq x10.Velocity x8.Velocity) (x10.AngularVelocity == v11) false) (Transform.beq x10.Transform x8.Transform) false) r12 false)) fun x13 =>
  some x13
def law26_IntegrateFreeMotion (b : Body) (dt : Int) : Option Bool :=
  Bind (ref23_Small b) fun r1 =>
  Bind (if ((!r1) == false) = true then body_Validate b else some default) fun r2 =>
  if (cond (!r1) true (r2 != 0)) = true then
    Bind (law26_example) fun r3 =>
    some r3
  else
    Bind (body_Clone b) fun r4 =>
    Let (integrate_ClearForces r4) fun r5 =>
    Let (r5) fun x6 =>
    Let ({ x6 with LinearDamping := 0 }) fun x7 =>
    Let ({ x7 with AngularDamping := 0 }) fun x8 =>
    Bind (integrate_Velocity x8 (⟨dt, Vec.zero, 0, 0⟩ : Settings)) fun r9 =>
    Let (r9) fun x10 =>
    if (cond x8.FixedRotation (x8.Kind == 3) false) = true then
      (law26_IntegrateFreeMotion_j1 x8 x10) 0
    else
      (law26_IntegrateFreeMotion_j1 x8 x10) x8.AngularVelocity
end GoForm
