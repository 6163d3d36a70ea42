/- Plain laws, joined from several texts. No conditions. -/
import Derived.Test.YtelkhkmeoahhlaaGreatDoorRzP
import Derived.Test.YtelkhkmeoahhlaaGreatDoorF52T
import Derived.Test.YtelkhkmeoahhlaaGreatDoorF52D
import Derived.Test.YtelkhkmeoahhlaaGreatDoorRzQ
import Derived.Test.YtelkhkmeoahhlaaGreatDoorF52S
/- The plain forms of the program's functions: printed by gen2.py from the translation. No conditions. -/
set_option linter.all false
open Go Go.Rx

namespace GoOld
open GoForm
def Vec.zero : Vec := ⟨0, 0⟩
def Transform.zero : Transform := ⟨Vec.zero, 0⟩
def Shape.zero : Shape := ⟨0, 0, []⟩
def Fixture.zero : Fixture := ⟨Shape.zero, 0, 0, 0, false, 0, 0, 0⟩
def Body.zero : Body := ⟨0, 0, Transform.zero, Vec.zero, 0, Vec.zero, 0, 0, 0, 0, false, false, false, false, 0, []⟩
def polygon_triangle.zero : polygon_triangle := ⟨Vec.zero, Vec.zero, 0⟩
def Vec.beq (x y : Vec) : Bool := decide (x.X = y.X) && (decide (x.Y = y.Y))
def Transform.beq (x y : Transform) : Bool := Vec.beq x.Position y.Position && (decide (x.Angle = y.Angle))
def Vec.Wf (x : Vec) : Prop := (IntKind.i64.min ≤ x.X ∧ x.X ≤ IntKind.i64.max) ∧ (IntKind.i64.min ≤ x.Y ∧ x.Y ≤ IntKind.i64.max)
def Transform.Wf (x : Transform) : Prop := Vec.Wf x.Position ∧ (IntKind.i64.min ≤ x.Angle ∧ x.Angle ≤ IntKind.i64.max)
def Shape.Wf (x : Shape) : Prop := (IntKind.i64.min ≤ x.Kind ∧ x.Kind ≤ IntKind.i64.max) ∧ (IntKind.i64.min ≤ x.Radius ∧ x.Radius ≤ IntKind.i64.max) ∧ ((∀ a ∈ x.Vertices, Vec.Wf a) ∧ (x.Vertices).length ≤ 9223372036854775807)
def Fixture.Wf (x : Fixture) : Prop := Shape.Wf x.Shape ∧ (IntKind.i64.min ≤ x.Density ∧ x.Density ≤ IntKind.i64.max) ∧ (IntKind.i64.min ≤ x.Friction ∧ x.Friction ≤ IntKind.i64.max) ∧ (IntKind.i64.min ≤ x.Restitution ∧ x.Restitution ≤ IntKind.i64.max) ∧ True ∧ (IntKind.i64.min ≤ x.Category ∧ x.Category ≤ IntKind.i64.max) ∧ (IntKind.i64.min ≤ x.Mask ∧ x.Mask ≤ IntKind.i64.max) ∧ (IntKind.i64.min ≤ x.Group ∧ x.Group ≤ IntKind.i64.max)
def Body.Wf (x : Body) : Prop := (IntKind.i64.min ≤ x.ID ∧ x.ID ≤ IntKind.i64.max) ∧ (IntKind.i64.min ≤ x.Kind ∧ x.Kind ≤ IntKind.i64.max) ∧ Transform.Wf x.Transform ∧ Vec.Wf x.Velocity ∧ (IntKind.i64.min ≤ x.AngularVelocity ∧ x.AngularVelocity ≤ IntKind.i64.max) ∧ Vec.Wf x.Force ∧ (IntKind.i64.min ≤ x.Torque ∧ x.Torque ≤ IntKind.i64.max) ∧ (IntKind.i64.min ≤ x.LinearDamping ∧ x.LinearDamping ≤ IntKind.i64.max) ∧ (IntKind.i64.min ≤ x.AngularDamping ∧ x.AngularDamping ≤ IntKind.i64.max) ∧ (IntKind.i64.min ≤ x.GravityScale ∧ x.GravityScale ≤ IntKind.i64.max) ∧ True ∧ True ∧ True ∧ True ∧ (IntKind.i64.min ≤ x.IdleSteps ∧ x.IdleSteps ≤ IntKind.i64.max) ∧ ((∀ a ∈ x.Fixtures, Fixture.Wf a) ∧ (x.Fixtures).length ≤ 9223372036854775807)
def body_within (x_0 : Int) (low : Int) (high : Int) : Bool :=
  Let ((cond (decide (low ≤ x_0)) (decide (x_0 ≤ high)) false)) fun x1 =>
  x1
def body_bounded (v_0 : Vec) (limit : Int) : Bool :=
  Let (body_within v_0.X (w64 (0 - limit)) limit) fun r1 =>
  Let (body_within v_0.Y (w64 (0 - limit)) limit) fun r2 =>
  Let ((cond r1 r2 false)) fun x3 =>
  x3
def transform_inWorld (x_0 : Int) : Bool :=
  Let ((cond (decide ((-268435456) ≤ x_0)) (decide (x_0 ≤ 268435456)) false)) fun x1 =>
  x1
def transform_Valid (t : Transform) : Bool :=
  Let (transform_inWorld t.Position.X) fun r1 =>
  Let (transform_inWorld t.Position.Y) fun r2 =>
  Let ((cond (cond (cond r1 r2 false) (decide ((-205888) ≤ t.Angle)) false) (decide (t.Angle < 205888)) false)) fun x3 =>
  x3
def body_inRange (b : Body) : Bool :=
  Let (body_bounded b.Velocity (16777216)) fun r1 =>
  Let (body_within b.AngularVelocity ((-4194304)) (4194304)) fun r2 =>
  Let ((cond r1 r2 false)) fun x3 =>
  Let (body_bounded b.Force (536870911)) fun r4 =>
  Let (body_within b.Torque ((-536870911)) (536870911)) fun r5 =>
  Let ((cond r4 r5 false)) fun x6 =>
  Let (body_within b.LinearDamping (0) (65536)) fun r7 =>
  Let (body_within b.AngularDamping (0) (65536)) fun r8 =>
  Let ((cond r7 r8 false)) fun x9 =>
  Let (body_within b.GravityScale ((-262144)) (262144)) fun r10 =>
  Let (body_within b.ID (1) (1099511627776)) fun r11 =>
  Let (transform_Valid b.Transform) fun r12 =>
  Let (body_within b.IdleSteps (0) (1048576)) fun r13 =>
  Let ((cond (cond (cond (cond (cond (cond r11 r12 false) x3 false) x6 false) x9 false) r10 false) r13 false)) fun x14 =>
  x14
def shape_validCount (s : Shape) : Bool :=
  Let ((s.Kind == 1)) fun x1 =>
  if x1 = true then
    Let ((((s.Vertices).length : Int) == 1)) fun x2 =>
    x2
  else
    Let ((s.Kind == 2)) fun x3 =>
    if x3 = true then
      Let ((((s.Vertices).length : Int) == 2)) fun x4 =>
      x4
    else
      Let ((cond (decide (3 ≤ ((s.Vertices).length : Int))) (decide (((s.Vertices).length : Int) ≤ 8)) false)) fun x5 =>
      x5
def slices_IndexFunc_Vec_l1 (s : List Vec) (f : Vec → Option Bool) (kj1 : Option Int) : Nat → Int → Option Int
  | 0, _ => none
  | n + 1, v1 =>
    if (decide (v1 < ((s).length : Int))) = true then
      Chk (0 ≤ v1 ∧ v1 < ((s).length : Int)) <|
      Bind (f (ix s v1)) fun r3 =>
      if r3 = true then
        some v1
      else
        Let ((w64 (v1 + 1))) fun x4 =>
        (slices_IndexFunc_Vec_l1 s f kj1 n) x4
    else
      kj1
def slices_IndexFunc_Vec_j2 : Option Int :=
  some (-1)
def slices_IndexFunc_Vec (s : List Vec) (f : Vec → Option Bool) : Option Int :=
  slices_IndexFunc_Vec_l1 s f slices_IndexFunc_Vec_j2 fuel 0
def slices_ContainsFunc_Vec (s : List Vec) (f : Vec → Option Bool) : Option Bool :=
  Bind (slices_IndexFunc_Vec s f) fun r1 =>
  Let ((decide (0 ≤ r1))) fun x2 =>
  some x2
def shape_outOfRange (n_0 : Int) : Bool :=
  Let ((cond (decide (n_0 < (-1048576))) true (decide (1048576 < n_0)))) fun x1 =>
  x1
def shape_Validate_c1 (v_0 : Vec) : Bool :=
  Let (shape_outOfRange v_0.X) fun r1 =>
  Let (shape_outOfRange v_0.Y) fun r2 =>
  Let ((cond r1 true r2)) fun x3 =>
  x3
def fixed_Saturate (x_0 : Int) : Int :=
  Let ((min (max x_0 (-536870911)) 536870911)) fun x1 =>
  x1
def fixed_Sub (a : Int) (b : Int) : Int :=
  Let (fixed_Saturate a) fun r1 =>
  Let (fixed_Saturate b) fun r2 =>
  Let (fixed_Saturate (w64 (r1 - r2))) fun r3 =>
  r3
def vec2_Sub (a : Vec) (b : Vec) : Vec :=
  Let (fixed_Sub a.X b.X) fun r1 =>
  Let (fixed_Sub a.Y b.Y) fun r2 =>
  Let ((⟨r1, r2⟩ : Vec)) fun x3 =>
  x3
def vec2_saturate (v_0 : Vec) : Vec :=
  Let (fixed_Saturate v_0.X) fun r1 =>
  Let (fixed_Saturate v_0.Y) fun r2 =>
  Let ((⟨r1, r2⟩ : Vec)) fun x3 =>
  x3
def vec2_DistanceSquared (a : Vec) (b : Vec) : Int :=
  Let (vec2_saturate a) fun r1 =>
  Let (vec2_saturate b) fun r2 =>
  Let (r1) fun x3 =>
  Let (r2) fun x4 =>
  Let ((w64 (x4.X - x3.X))) fun x5 =>
  Let ((w64 (x4.Y - x3.Y))) fun x6 =>
  Let ((w64 ((w64 (x5 * x5)) + (w64 (x6 * x6))))) fun x7 =>
  x7
def fixed_Isqrt_j1 (v3 : Int) (kn2 : Int → Int → Option Int) (v4 : Int) : Option Int :=
  Let ((bShr .i64 v3 1)) fun x7 =>
  kn2 v4 x7
def fixed_Isqrt_l2 (n_0 : Int) (kj1 : Int → Option Int) : Nat → Int → Int → Option Int
  | 0, _, _ => none
  | n + 1, v2, v3 =>
    if (decide (0 < v3)) = true then
      Let ((bOr .i64 v2 v3)) fun x5 =>
      Let ((IntKind.u64.wrap ((IntKind.u64.wrap (x5)) * (IntKind.u64.wrap (x5))))) fun x6 =>
      if (decide (x6 ≤ (IntKind.u64.wrap (n_0)))) = true then
        (fixed_Isqrt_j1 v3 (fixed_Isqrt_l2 n_0 kj1 n)) x5
      else
        (fixed_Isqrt_j1 v3 (fixed_Isqrt_l2 n_0 kj1 n)) v2
    else
      kj1 v2
def fixed_Isqrt_j3 (v1 : Int) : Option Int :=
  some v1
def fixed_Isqrt (n_0 : Int) : Option Int :=
  if (cond (decide (n_0 < 0)) true (decide (4611686018427387904 < n_0))) = true then
    some 0
  else
    fixed_Isqrt_l2 n_0 fixed_Isqrt_j3 fuel 0 2147483648
def vec2_Length (v_0 : Vec) : Option Int :=
  Let (vec2_DistanceSquared (⟨0, 0⟩ : Vec) v_0) fun r1 =>
  Bind (fixed_Isqrt r1) fun r2 =>
  some r2
def polygon_inReach (v_0 : Vec) : Bool :=
  Let ((cond (cond (cond (decide ((-1048576) ≤ v_0.X)) (decide (v_0.X ≤ 1048576)) false) (decide ((-1048576) ≤ v_0.Y)) false) (decide (v_0.Y ≤ 1048576)) false)) fun x1 =>
  x1
def polygon_allInReach_l1 (points : List Vec) (kj1 : Option Bool) : Nat → Int → Option Bool
  | 0, _ => none
  | n + 1, v1 =>
    if (decide (v1 < ((points).length : Int))) = true then
      Chk (0 ≤ v1 ∧ v1 < ((points).length : Int)) <|
      Let ((ix points v1)) fun x3 =>
      Let (polygon_inReach x3) fun r4 =>
      if (!r4) = true then
        some false
      else
        Let ((w64 (v1 + 1))) fun x5 =>
        (polygon_allInReach_l1 points kj1 n) x5
    else
      kj1
def polygon_allInReach_j2 : Option Bool :=
  some true
def polygon_allInReach (points : List Vec) : Option Bool :=
  polygon_allInReach_l1 points polygon_allInReach_j2 fuel 0
def vec2_Orientation (a : Vec) (b : Vec) (c_2 : Vec) : Int :=
  Let (vec2_saturate a) fun r1 =>
  Let (vec2_saturate b) fun r2 =>
  Let (vec2_saturate c_2) fun r3 =>
  Let (r1) fun x4 =>
  Let (r2) fun x5 =>
  Let (r3) fun x6 =>
  Let ((w64 ((w64 ((w64 (x5.X - x4.X)) * (w64 (x6.Y - x4.Y)))) - (w64 ((w64 (x5.Y - x4.Y)) * (w64 (x6.X - x4.X))))))) fun x7 =>
  Let ((min (1 : Int) (max ((-1) : Int) x7))) fun x8 =>
  x8
def polygon_IsConvex_l1 (vertices : List Vec) (v2 : Int) (kj3 : Option Bool) (x4 : Vec) (x6 : Int) : Nat → Int → Option Bool
  | 0, _ => none
  | n + 1, v7 =>
    if (decide (v7 < ((vertices).length : Int))) = true then
      Chk (0 ≤ v7 ∧ v7 < ((vertices).length : Int)) <|
      Let ((ix vertices v7)) fun x9 =>
      Chk (((cond (v7 != v2) (v7 != x6) false) == true) = true → 0 ≤ x6 ∧ x6 < ((vertices).length : Int)) <|
      Let (vec2_Orientation x4 (ix vertices x6) x9) fun r11 =>
      if (cond (cond (v7 != v2) (v7 != x6) false) (r11 != 1) false) = true then
        some false
      else
        Let ((w64 (v7 + 1))) fun x12 =>
        (polygon_IsConvex_l1 vertices v2 kj3 x4 x6 n) x12
    else
      kj3
def polygon_IsConvex_j2 (v2 : Int) (kn2 : Int → Option Bool) : Option Bool :=
  Let ((w64 (v2 + 1))) fun x13 =>
  kn2 x13
def polygon_IsConvex_l3 (vertices : List Vec) (kj1 : Option Bool) : Nat → Int → Option Bool
  | 0, _ => none
  | n + 1, v2 =>
    if (decide (v2 < ((vertices).length : Int))) = true then
      Chk (0 ≤ v2 ∧ v2 < ((vertices).length : Int)) <|
      Let ((ix vertices v2)) fun x4 =>
      Chk (((vertices).length : Int) ≠ 0) <|
      Let ((Int.tmod (w64 (v2 + 1)) ((vertices).length : Int))) fun x6 =>
      polygon_IsConvex_l1 vertices v2 (polygon_IsConvex_j2 v2 (polygon_IsConvex_l3 vertices kj1 n)) x4 x6 fuel 0
    else
      kj1
def polygon_IsConvex_j4 : Option Bool :=
  some true
def polygon_IsConvex (vertices : List Vec) : Option Bool :=
  Bind (if ((cond (decide (((vertices).length : Int) < 3)) true (decide (8 < ((vertices).length : Int)))) == false) = true then polygon_allInReach vertices else some default) fun r1 =>
  if (cond (cond (decide (((vertices).length : Int) < 3)) true (decide (8 < ((vertices).length : Int)))) true (!r1)) = true then
    some false
  else
    polygon_IsConvex_l3 vertices polygon_IsConvex_j4 fuel 0
def polygon_ShortestEdge_l1 (vertices : List Vec) (kj1 : Int → Option Int) : Nat → Int → Int → Option Int
  | 0, _, _ => none
  | n + 1, v3, v4 =>
    if (decide (v4 < ((vertices).length : Int))) = true then
      Chk (0 ≤ v4 ∧ v4 < ((vertices).length : Int)) <|
      Let ((ix vertices v4)) fun x6 =>
      Chk (((vertices).length : Int) ≠ 0) <|
      Chk (0 ≤ (Int.tmod (w64 (v4 + 1)) ((vertices).length : Int)) ∧ (Int.tmod (w64 (v4 + 1)) ((vertices).length : Int)) < ((vertices).length : Int)) <|
      Let (vec2_Sub (ix vertices (Int.tmod (w64 (v4 + 1)) ((vertices).length : Int))) x6) fun r9 =>
      Bind (vec2_Length r9) fun r10 =>
      Let ((min v3 r10)) fun x11 =>
      Let ((w64 (v4 + 1))) fun x12 =>
      (polygon_ShortestEdge_l1 vertices kj1 n) x11 x12
    else
      kj1 v3
def polygon_ShortestEdge_j2 (v2 : Int) : Option Int :=
  some v2
def polygon_ShortestEdge (vertices : List Vec) : Option Int :=
  Bind (polygon_IsConvex vertices) fun r1 =>
  if (!r1) = true then
    some 0
  else
    polygon_ShortestEdge_l1 vertices polygon_ShortestEdge_j2 fuel 536870911 0
def fixed_RoundDiv (n_0 : Int) (d : Int) : Option Int :=
  if (cond (cond (cond (decide (d < 1)) true (decide (4611686018427387904 < d))) true (decide (n_0 < (-4611686018427387904)))) true (decide (4611686018427387904 < n_0))) = true then
    some 0
  else
    Chk (d ≠ 0) <|
    Chk (d ≠ 0) <|
    Let ((w64 (Int.tdiv n_0 d))) fun x3 =>
    Let ((Int.tmod n_0 d)) fun x4 =>
    Let ((decide ((w64 (d - x4)) ≤ x4))) fun x5 =>
    if x5 = true then
      Let ((w64 (x3 + 1))) fun x6 =>
      some x6
    else
      Let ((decide ((w64 (d + x4)) ≤ (w64 (0 - x4))))) fun x7 =>
      if x7 = true then
        Let ((w64 (x3 - 1))) fun x8 =>
        some x8
      else
        some x3
def polygon_fan_l1 (vertices : List Vec) (x2 : Vec) (kj1 : List polygon_triangle → Int → Option (List polygon_triangle × Int)) : Nat → List polygon_triangle → Int → Int → Option (List polygon_triangle × Int)
  | 0, _, _, _ => none
  | n + 1, v5, v6, v7 =>
    if (decide ((w64 (v7 + 1)) < ((vertices).length : Int))) = true then
      Chk (0 ≤ v7 ∧ v7 < ((vertices).length : Int)) <|
      Chk (0 ≤ v7 ∧ v7 < ((vertices).length : Int)) <|
      Let ((⟨(w64 (((ix vertices v7).X) - x2.X)), (w64 (((ix vertices v7).Y) - x2.Y))⟩ : Vec)) fun x10 =>
      Chk (0 ≤ (w64 (v7 + 1)) ∧ (w64 (v7 + 1)) < ((vertices).length : Int)) <|
      Chk (0 ≤ (w64 (v7 + 1)) ∧ (w64 (v7 + 1)) < ((vertices).length : Int)) <|
      Let ((⟨(w64 (((ix vertices (w64 (v7 + 1))).X) - x2.X)), (w64 (((ix vertices (w64 (v7 + 1))).Y) - x2.Y))⟩ : Vec)) fun x13 =>
      Bind (fixed_RoundDiv (w64 ((w64 (x10.X * x13.Y)) - (w64 (x10.Y * x13.X)))) (65536)) fun r14 =>
      Chk (((v5).length + (([(⟨x10, x13, r14⟩ : polygon_triangle)] : List polygon_triangle)).length) * 40 ≤ 140737488355328) <|
      Let (v5 ++ ([(⟨x10, x13, r14⟩ : polygon_triangle)] : List polygon_triangle)) fun x16 =>
      Let ((w64 (v6 + r14))) fun x17 =>
      Let ((w64 (v7 + 1))) fun x18 =>
      (polygon_fan_l1 vertices x2 kj1 n) x16 x17 x18
    else
      kj1 v5 v6
def polygon_fan_j2 (v3 : List polygon_triangle) (v4 : Int) : Option (List polygon_triangle × Int) :=
  some (v3, v4)
def polygon_fan (vertices : List Vec) : Option (List polygon_triangle × Int) :=
  Chk (0 ≤ (0 : Int) ∧ 0 < ((vertices).length : Int)) <|
  Let ((ix vertices 0)) fun x2 =>
  polygon_fan_l1 vertices x2 polygon_fan_j2 fuel ([] : List polygon_triangle) 0 1
def polygon_Area (vertices : List Vec) : Option Int :=
  Bind (polygon_IsConvex vertices) fun r1 =>
  if (!r1) = true then
    some 0
  else
    Bind (polygon_fan vertices) fun r2 =>
    Bind (fixed_RoundDiv r2.2 (2)) fun r3 =>
    some r3
def shape_Validate_j1 (s : Shape) (v5 : Bool) : Option Int :=
  if v5 = true then
    some 6
  else
    Chk (((s.Kind == 2) == true) = true → 0 ≤ (1 : Int) ∧ 1 < ((s.Vertices).length : Int)) <|
    Chk (((s.Kind == 2) == true) = true → 0 ≤ (0 : Int) ∧ 0 < ((s.Vertices).length : Int)) <|
    Let (vec2_Sub (ix s.Vertices 1) (ix s.Vertices 0)) fun r10 =>
    Bind (if ((s.Kind == 2) == true) = true then vec2_Length r10 else some default) fun r11 =>
    Let ((cond (s.Kind == 2) (decide (r11 < 4096)) false)) fun x12 =>
    if x12 = true then
      some 12
    else
      Bind (if ((s.Kind == 3) == true) = true then polygon_IsConvex s.Vertices else some default) fun r13 =>
      Bind (if (((s.Kind == 3) == true) && ((!r13) == false)) = true then polygon_ShortestEdge s.Vertices else some default) fun r14 =>
      Bind (if (((s.Kind == 3) == true) && ((cond (!r13) true (decide (r14 < 4096))) == false)) = true then polygon_Area s.Vertices else some default) fun r15 =>
      Let ((cond (s.Kind == 3) (cond (cond (!r13) true (decide (r14 < 4096))) true (decide (r15 < 256))) false)) fun x16 =>
      if x16 = true then
        some 12
      else
        some 0
def shape_Validate (s : Shape) : Option Int :=
  Let ((cond (decide (s.Kind < 1)) true (decide (3 < s.Kind)))) fun x1 =>
  if x1 = true then
    some 10
  else
    Let (shape_validCount s) fun r2 =>
    Let ((!r2)) fun x3 =>
    if x3 = true then
      some 11
    else
      Bind (slices_ContainsFunc_Vec s.Vertices ((fun (y0 : Vec) => some (shape_Validate_c1 y0)))) fun r4 =>
      if r4 = true then
        some 6
      else
        Let ((cond (s.Kind == 3) (s.Radius != 0) false)) fun x6 =>
        if x6 = true then
          (shape_Validate_j1 s) x6
        else
          Let ((cond (s.Kind != 3) (cond (decide (s.Radius < 2048)) true (decide (524288 < s.Radius))) false)) fun x7 =>
          (shape_Validate_j1 s) x7
def body_ValidateFixture (f : Fixture) : Option Int :=
  Bind (shape_Validate f.Shape) fun r1 =>
  if (r1 != 0) = true then
    some r1
  else
    Let (body_within f.Density (0) (262144)) fun r2 =>
    Let (body_within f.Friction (0) (131072)) fun r3 =>
    Let (body_within f.Restitution (0) (65536)) fun r4 =>
    Let ((cond (cond r2 r3 false) r4 false)) fun x5 =>
    Let (body_within f.Category (0) (65535)) fun r6 =>
    Let (body_within f.Mask (0) (65535)) fun r7 =>
    Let (body_within f.Group ((-32)) (32)) fun r8 =>
    Let ((cond (cond r6 r7 false) r8 false)) fun x9 =>
    if (cond (!x5) true (!x9)) = true then
      some 6
    else
      some 0
def body_moving (b : Body) : Bool :=
  Let ((cond (!Vec.beq b.Velocity (⟨0, 0⟩ : Vec)) true (b.AngularVelocity != 0))) fun x1 =>
  x1
def body_consistent (b : Body) : Bool :=
  Let ((cond (!Vec.beq b.Force (⟨0, 0⟩ : Vec)) true (b.Torque != 0))) fun x1 =>
  Let (body_moving b) fun r2 =>
  Let ((cond (b.Kind == 1) (cond r2 true x1) false)) fun x3 =>
  if x3 = true then
    false
  else
    Let ((cond (b.Kind != 3) (cond b.Asleep true b.Bullet) false)) fun x4 =>
    if x4 = true then
      false
    else
      Let (body_moving b) fun r5 =>
      Let ((cond (!b.Asleep) true (!r5))) fun x6 =>
      x6
def body_Validate_l1 (b : Body) (kj1 : Option Int) : Nat → Int → Option Int
  | 0, _ => none
  | n + 1, v2 =>
    if (decide (v2 < ((b.Fixtures).length : Int))) = true then
      Chk (0 ≤ v2 ∧ v2 < ((b.Fixtures).length : Int)) <|
      Let ((ix b.Fixtures v2)) fun x4 =>
      Bind (body_ValidateFixture x4) fun r5 =>
      if (r5 != 0) = true then
        some 13
      else
        Let ((w64 (v2 + 1))) fun x6 =>
        (body_Validate_l1 b kj1 n) x6
    else
      kj1
def body_Validate_j2 (b : Body) : Option Int :=
  Let (body_consistent b) fun r7 =>
  if (!r7) = true then
    some 14
  else
    some 0
def body_Validate (b : Body) : Option Int :=
  if (cond (cond (b.Kind != 1) (b.Kind != 2) false) (b.Kind != 3) false) = true then
    some 10
  else
    Let (body_inRange b) fun r1 =>
    if (!r1) = true then
      some 6
    else
      if (decide (4 < ((b.Fixtures).length : Int))) = true then
        some 11
      else
        body_Validate_l1 b (body_Validate_j2 b) fuel 0
def ref23_in (x_0 : Int) (low : Int) (high : Int) : Bool :=
  Let ((cond (decide (low ≤ x_0)) (decide (x_0 ≤ high)) false)) fun x1 =>
  x1
def ref04_outside (x_0 : Int) : Bool :=
  Let ((cond (decide (x_0 < (-268435456))) true (decide (268435456 < x_0)))) fun x1 =>
  x1
def ref04_Valid (p : Transform) : Bool :=
  Let (ref04_outside p.Position.X) fun r1 =>
  Let (ref04_outside p.Position.Y) fun r2 =>
  Let ((cond (cond (cond (!r1) (!r2) false) (decide ((-205888) ≤ p.Angle)) false) (decide (p.Angle < 205888)) false)) fun x3 =>
  x3
def ref23_inRange (b : Body) : Bool :=
  Let (ref23_in b.ID (1) (1099511627776)) fun r1 =>
  Let (ref04_Valid b.Transform) fun r2 =>
  Let (ref23_in b.Velocity.X ((-16777216)) (16777216)) fun r3 =>
  Let (ref23_in b.Velocity.Y ((-16777216)) (16777216)) fun r4 =>
  Let (ref23_in b.AngularVelocity ((-4194304)) (4194304)) fun r5 =>
  if (cond (cond (cond (cond (!r1) true (!r2)) true (!r3)) true (!r4)) true (!r5)) = true then
    false
  else
    Let (ref23_in b.Force.X ((-536870911)) (536870911)) fun r6 =>
    Let (ref23_in b.Force.Y ((-536870911)) (536870911)) fun r7 =>
    Let (ref23_in b.Torque ((-536870911)) (536870911)) fun r8 =>
    if (cond (cond (!r6) true (!r7)) true (!r8)) = true then
      false
    else
      Let (ref23_in b.LinearDamping (0) (65536)) fun r9 =>
      Let (ref23_in b.AngularDamping (0) (65536)) fun r10 =>
      Let (ref23_in b.GravityScale ((-262144)) (262144)) fun r11 =>
      Let (ref23_in b.IdleSteps (0) (1048576)) fun r12 =>
      Let ((cond (cond (cond r9 r10 false) r11 false) r12 false)) fun x13 =>
      x13
def ref12_countMatches (s : Shape) : Bool :=
  if (s.Kind == 3) = true then
    Let ((cond (decide (3 ≤ ((s.Vertices).length : Int))) (decide (((s.Vertices).length : Int) ≤ 8)) false)) fun x1 =>
    x1
  else
    Let ((((s.Vertices).length : Int) == s.Kind)) fun x2 =>
    x2
def ref12_within (x_0 : Int) (m : Int) : Bool :=
  Let ((cond (decide ((w64 (0 - m)) ≤ x_0)) (decide (x_0 ≤ m)) false)) fun x1 =>
  x1
def ref01_Saturate (x_0 : Int) : Int :=
  if (decide (536870911 < x_0)) = true then
    536870911
  else
    if (decide (x_0 < (-536870911))) = true then
      (-536870911)
    else
      x_0
def ref01_Sub (a : Int) (b : Int) : Int :=
  Let (ref01_Saturate a) fun r1 =>
  Let (ref01_Saturate b) fun r2 =>
  Let (ref01_Saturate (w64 (r1 - r2))) fun r3 =>
  r3
def ref03_Sub (a : Vec) (b : Vec) : Vec :=
  Let (ref01_Sub a.X b.X) fun r1 =>
  Let (ref01_Sub a.Y b.Y) fun r2 =>
  Let ((⟨r1, r2⟩ : Vec)) fun x3 =>
  x3
def ref03_Saturated (v_0 : Vec) : Vec :=
  Let (ref01_Saturate v_0.X) fun r1 =>
  Let (ref01_Saturate v_0.Y) fun r2 =>
  Let ((⟨r1, r2⟩ : Vec)) fun x3 =>
  x3
def ref01_outOfRange (n_0 : Int) : Bool :=
  Let ((cond (decide (4611686018427387904 < n_0)) true (decide (n_0 < (-4611686018427387904))))) fun x1 =>
  x1
def ref01_Isqrt_j1 (v4 : Int) (kn2 : Int → Int → Option Int) (v5 : Int) : Option Int :=
  Let ((w64 (Int.tdiv v4 2))) fun x9 =>
  kn2 v5 x9
def ref01_Isqrt_l2 (n_0 : Int) (kj1 : Int → Option Int) : Nat → Int → Int → Option Int
  | 0, _, _ => none
  | n + 1, v3, v4 =>
    if (decide (0 < v4)) = true then
      Chk ((w64 (v3 + v4)) ≠ 0) <|
      Let ((decide ((w64 (v3 + v4)) ≤ (w64 (Int.tdiv n_0 (w64 (v3 + v4))))))) fun x7 =>
      if x7 = true then
        Let ((w64 (v3 + v4))) fun x8 =>
        (ref01_Isqrt_j1 v4 (ref01_Isqrt_l2 n_0 kj1 n)) x8
      else
        (ref01_Isqrt_j1 v4 (ref01_Isqrt_l2 n_0 kj1 n)) v3
    else
      kj1 v3
def ref01_Isqrt_j3 (v2 : Int) : Option Int :=
  some v2
def ref01_Isqrt (n_0 : Int) : Option Int :=
  Let (ref01_outOfRange n_0) fun r1 =>
  if (cond (decide (n_0 < 0)) true r1) = true then
    some 0
  else
    ref01_Isqrt_l2 n_0 ref01_Isqrt_j3 fuel 0 2147483648
def ref03_Length (v_0 : Vec) : Option Int :=
  Let (ref03_Saturated v_0) fun r1 =>
  Let (r1) fun x2 =>
  Bind (ref01_Isqrt (w64 ((w64 (x2.X * x2.X)) + (w64 (x2.Y * x2.Y))))) fun r3 =>
  some r3
def ref11_inRange (v_0 : Vec) : Bool :=
  Let ((cond (cond (cond (decide ((-1048576) ≤ v_0.X)) (decide (v_0.X ≤ 1048576)) false) (decide ((-1048576) ≤ v_0.Y)) false) (decide (v_0.Y ≤ 1048576)) false)) fun x1 =>
  x1
def ref03_Orientation (a : Vec) (b : Vec) (c_2 : Vec) : Int :=
  Let (ref03_Saturated a) fun r1 =>
  Let (r1) fun x2 =>
  Let (ref03_Saturated b) fun r3 =>
  Let (r3) fun x4 =>
  Let (ref03_Saturated c_2) fun r5 =>
  Let (r5) fun x6 =>
  Let ((w64 ((w64 ((w64 (x4.X - x2.X)) * (w64 (x6.Y - x2.Y)))) - (w64 ((w64 (x4.Y - x2.Y)) * (w64 (x6.X - x2.X))))))) fun x7 =>
  if (decide (0 < x7)) = true then
    1
  else
    if (decide (x7 < 0)) = true then
      (-1)
    else
      0
def ref11_IsConvex_l1 (vertices : List Vec) (kj1 : Option Bool) : Nat → Int → Option Bool
  | 0, _ => none
  | n + 1, v1 =>
    if (decide (v1 < ((vertices).length : Int))) = true then
      Chk (0 ≤ v1 ∧ v1 < ((vertices).length : Int)) <|
      Let (ref11_inRange (ix vertices v1)) fun r3 =>
      if (!r3) = true then
        some false
      else
        Let ((w64 (v1 + 1))) fun x4 =>
        (ref11_IsConvex_l1 vertices kj1 n) x4
    else
      kj1
def ref11_IsConvex_l2 (vertices : List Vec) (v5 : Int) (kj5 : Option Bool) (x7 : Int) : Nat → Int → Option Bool
  | 0, _ => none
  | n + 1, v8 =>
    if (decide (v8 < ((vertices).length : Int))) = true then
      Chk (((cond (v8 != v5) (v8 != x7) false) == true) = true → 0 ≤ v5 ∧ v5 < ((vertices).length : Int)) <|
      Chk (((cond (v8 != v5) (v8 != x7) false) == true) = true → 0 ≤ x7 ∧ x7 < ((vertices).length : Int)) <|
      Chk (((cond (v8 != v5) (v8 != x7) false) == true) = true → 0 ≤ v8 ∧ v8 < ((vertices).length : Int)) <|
      Let (ref03_Orientation (ix vertices v5) (ix vertices x7) (ix vertices v8)) fun r12 =>
      if (cond (cond (v8 != v5) (v8 != x7) false) (r12 != 1) false) = true then
        some false
      else
        Let ((w64 (v8 + 1))) fun x13 =>
        (ref11_IsConvex_l2 vertices v5 kj5 x7 n) x13
    else
      kj5
def ref11_IsConvex_j3 (v5 : Int) (kn4 : Int → Option Bool) : Option Bool :=
  Let ((w64 (v5 + 1))) fun x14 =>
  kn4 x14
def ref11_IsConvex_l4 (vertices : List Vec) (kj3 : Option Bool) : Nat → Int → Option Bool
  | 0, _ => none
  | n + 1, v5 =>
    if (decide (v5 < ((vertices).length : Int))) = true then
      Chk (((vertices).length : Int) ≠ 0) <|
      Let ((Int.tmod (w64 (v5 + 1)) ((vertices).length : Int))) fun x7 =>
      ref11_IsConvex_l2 vertices v5 (ref11_IsConvex_j3 v5 (ref11_IsConvex_l4 vertices kj3 n)) x7 fuel 0
    else
      kj3
def ref11_IsConvex_j5 : Option Bool :=
  some true
def ref11_IsConvex_j6 (vertices : List Vec) : Option Bool :=
  ref11_IsConvex_l4 vertices ref11_IsConvex_j5 fuel 0
def ref11_IsConvex (vertices : List Vec) : Option Bool :=
  if (cond (decide (((vertices).length : Int) < 3)) true (decide (8 < ((vertices).length : Int)))) = true then
    some false
  else
    ref11_IsConvex_l1 vertices (ref11_IsConvex_j6 vertices) fuel 0
def ref11_ShortestEdge_j1 (v4 : Int) (kn2 : Int → Int → Option Int) (v5 : Int) : Option Int :=
  Let ((w64 (v4 + 1))) fun x11 =>
  kn2 v5 x11
def ref11_ShortestEdge_l2 (vertices : List Vec) (kj1 : Int → Option Int) : Nat → Int → Int → Option Int
  | 0, _, _ => none
  | n + 1, v3, v4 =>
    if (decide (v4 < ((vertices).length : Int))) = true then
      Chk (((vertices).length : Int) ≠ 0) <|
      Chk (0 ≤ (Int.tmod (w64 (v4 + 1)) ((vertices).length : Int)) ∧ (Int.tmod (w64 (v4 + 1)) ((vertices).length : Int)) < ((vertices).length : Int)) <|
      Chk (0 ≤ v4 ∧ v4 < ((vertices).length : Int)) <|
      Let (ref03_Sub (ix vertices (Int.tmod (w64 (v4 + 1)) ((vertices).length : Int))) (ix vertices v4)) fun r9 =>
      Bind (ref03_Length r9) fun r10 =>
      if (cond (decide (v3 < 0)) true (decide (r10 < v3))) = true then
        (ref11_ShortestEdge_j1 v4 (ref11_ShortestEdge_l2 vertices kj1 n)) r10
      else
        (ref11_ShortestEdge_j1 v4 (ref11_ShortestEdge_l2 vertices kj1 n)) v3
    else
      kj1 v3
def ref11_ShortestEdge_j3 (v2 : Int) : Option Int :=
  some v2
def ref11_ShortestEdge (vertices : List Vec) : Option Int :=
  Bind (ref11_IsConvex vertices) fun r1 =>
  if (!r1) = true then
    some 0
  else
    ref11_ShortestEdge_l2 vertices ref11_ShortestEdge_j3 fuel (-1) 0
def ref01_RoundDiv_j1 (n_0 : Int) (v8 : Int) : Option Int :=
  if (decide (n_0 < 0)) = true then
    Let ((w64 (0 - v8))) fun x10 =>
    some x10
  else
    some v8
def ref01_RoundDiv_j2 (n_0 : Int) (d : Int) (v3 : Int) : Option Int :=
  Chk (d ≠ 0) <|
  Let ((w64 (Int.tdiv v3 d))) fun x6 =>
  Let ((w64 (v3 - (w64 (x6 * d))))) fun x7 =>
  if (decide ((w64 (d - x7)) ≤ x7)) = true then
    Let ((w64 (x6 + 1))) fun x9 =>
    (ref01_RoundDiv_j1 n_0) x9
  else
    (ref01_RoundDiv_j1 n_0) x6
def ref01_RoundDiv (n_0 : Int) (d : Int) : Option Int :=
  Let (ref01_outOfRange d) fun r1 =>
  Let (ref01_outOfRange n_0) fun r2 =>
  if (cond (cond (decide (d < 1)) true r1) true r2) = true then
    some 0
  else
    if (decide (n_0 < 0)) = true then
      Let ((w64 (0 - n_0))) fun x4 =>
      (ref01_RoundDiv_j2 n_0 d) x4
    else
      (ref01_RoundDiv_j2 n_0 d) n_0
def ref11_cross (v_0 : List Vec) (i : Int) : Option Int :=
  Chk (0 ≤ i ∧ i < ((v_0).length : Int)) <|
  Chk (0 ≤ (0 : Int) ∧ 0 < ((v_0).length : Int)) <|
  Chk (0 ≤ i ∧ i < ((v_0).length : Int)) <|
  Chk (0 ≤ (0 : Int) ∧ 0 < ((v_0).length : Int)) <|
  Let ((⟨(w64 (((ix v_0 i).X) - ((ix v_0 0).X))), (w64 (((ix v_0 i).Y) - ((ix v_0 0).Y)))⟩ : Vec)) fun x5 =>
  Chk (0 ≤ (w64 (i + 1)) ∧ (w64 (i + 1)) < ((v_0).length : Int)) <|
  Chk (0 ≤ (0 : Int) ∧ 0 < ((v_0).length : Int)) <|
  Chk (0 ≤ (w64 (i + 1)) ∧ (w64 (i + 1)) < ((v_0).length : Int)) <|
  Chk (0 ≤ (0 : Int) ∧ 0 < ((v_0).length : Int)) <|
  Let ((⟨(w64 (((ix v_0 (w64 (i + 1))).X) - ((ix v_0 0).X))), (w64 (((ix v_0 (w64 (i + 1))).Y) - ((ix v_0 0).Y)))⟩ : Vec)) fun x10 =>
  Bind (ref01_RoundDiv (w64 ((w64 (x5.X * x10.Y)) - (w64 (x5.Y * x10.X)))) (65536)) fun r11 =>
  some r11
def ref11_Area_l1 (vertices : List Vec) (kj1 : Int → Option Int) : Nat → Int → Int → Option Int
  | 0, _, _ => none
  | n + 1, v3, v4 =>
    if (decide ((w64 (v4 + 1)) < ((vertices).length : Int))) = true then
      Bind (ref11_cross vertices v4) fun r5 =>
      Let ((w64 (v3 + r5))) fun x6 =>
      Let ((w64 (v4 + 1))) fun x7 =>
      (ref11_Area_l1 vertices kj1 n) x6 x7
    else
      kj1 v3
def ref11_Area_j2 (v2 : Int) : Option Int :=
  Bind (ref01_RoundDiv v2 (2)) fun r8 =>
  some r8
def ref11_Area (vertices : List Vec) : Option Int :=
  Bind (ref11_IsConvex vertices) fun r1 =>
  if (!r1) = true then
    some 0
  else
    ref11_Area_l1 vertices ref11_Area_j2 fuel 0 1
def ref12_Validate_l1 (s : Shape) (kj1 : Option Int) : Nat → Int → Option Int
  | 0, _ => none
  | n + 1, v2 =>
    if (decide (v2 < ((s.Vertices).length : Int))) = true then
      Chk (0 ≤ v2 ∧ v2 < ((s.Vertices).length : Int)) <|
      Let (ref12_within ((ix s.Vertices v2).X) (1048576)) fun r4 =>
      Chk (((!r4) == false) = true → 0 ≤ v2 ∧ v2 < ((s.Vertices).length : Int)) <|
      Let (ref12_within ((ix s.Vertices v2).Y) (1048576)) fun r6 =>
      if (cond (!r4) true (!r6)) = true then
        some 6
      else
        Let ((w64 (v2 + 1))) fun x7 =>
        (ref12_Validate_l1 s kj1 n) x7
    else
      kj1
def ref12_Validate_j2 (s : Shape) : Option Int :=
  if (cond (cond (s.Kind == 3) (s.Radius != 0) false) true (cond (s.Kind != 3) (cond (decide (s.Radius < 2048)) true (decide (524288 < s.Radius))) false)) = true then
    some 6
  else
    Chk (((s.Kind == 2) == true) = true → 0 ≤ (1 : Int) ∧ 1 < ((s.Vertices).length : Int)) <|
    Chk (((s.Kind == 2) == true) = true → 0 ≤ (0 : Int) ∧ 0 < ((s.Vertices).length : Int)) <|
    Let (ref03_Sub (ix s.Vertices 1) (ix s.Vertices 0)) fun r10 =>
    Bind (if ((s.Kind == 2) == true) = true then ref03_Length r10 else some default) fun r11 =>
    if (cond (s.Kind == 2) (decide (r11 < 4096)) false) = true then
      some 12
    else
      Bind (if ((s.Kind == 3) == true) = true then ref11_IsConvex s.Vertices else some default) fun r12 =>
      Bind (if (((s.Kind == 3) == true) && ((!r12) == false)) = true then ref11_ShortestEdge s.Vertices else some default) fun r13 =>
      Bind (if (((s.Kind == 3) == true) && ((cond (!r12) true (decide (r13 < 4096))) == false)) = true then ref11_Area s.Vertices else some default) fun r14 =>
      if (cond (s.Kind == 3) (cond (cond (!r12) true (decide (r13 < 4096))) true (decide (r14 < 256))) false) = true then
        some 12
      else
        some 0
def ref12_Validate (s : Shape) : Option Int :=
  if (cond (decide (s.Kind < 1)) true (decide (3 < s.Kind))) = true then
    some 10
  else
    Let (ref12_countMatches s) fun r1 =>
    if (!r1) = true then
      some 11
    else
      ref12_Validate_l1 s (ref12_Validate_j2 s) fuel 0
def ref23_ValidateFixture (f : Fixture) : Option Int :=
  Bind (ref12_Validate f.Shape) fun r1 =>
  if (r1 != 0) = true then
    some r1
  else
    Let (ref23_in f.Density (0) (262144)) fun r2 =>
    Let (ref23_in f.Friction (0) (131072)) fun r3 =>
    Let (ref23_in f.Restitution (0) (65536)) fun r4 =>
    Let (ref23_in f.Category (0) (65535)) fun r5 =>
    Let (ref23_in f.Mask (0) (65535)) fun r6 =>
    Let (ref23_in f.Group ((-32)) (32)) fun r7 =>
    if (cond (cond (cond (cond (cond (!r2) true (!r3)) true (!r4)) true (!r5)) true (!r6)) true (!r7)) = true then
      some 6
    else
      some 0
def ref23_Validate_l1 (b : Body) (kj1 : Option Int) : Nat → Int → Option Int
  | 0, _ => none
  | n + 1, v2 =>
    if (decide (v2 < ((b.Fixtures).length : Int))) = true then
      Chk (0 ≤ v2 ∧ v2 < ((b.Fixtures).length : Int)) <|
      Bind (ref23_ValidateFixture (ix b.Fixtures v2)) fun r4 =>
      if (r4 != 0) = true then
        some 13
      else
        Let ((w64 (v2 + 1))) fun x5 =>
        (ref23_Validate_l1 b kj1 n) x5
    else
      kj1
def ref23_Validate_j2 (b : Body) : Option Int :=
  Let ((cond (!Vec.beq b.Velocity (⟨0, 0⟩ : Vec)) true (b.AngularVelocity != 0))) fun x6 =>
  Let ((cond (!Vec.beq b.Force (⟨0, 0⟩ : Vec)) true (b.Torque != 0))) fun x7 =>
  if (cond (cond (cond (b.Kind == 1) (cond x6 true x7) false) true (cond (b.Kind != 3) (cond b.Asleep true b.Bullet) false)) true (cond b.Asleep x6 false)) = true then
    some 14
  else
    some 0
def ref23_Validate (b : Body) : Option Int :=
  if (cond (cond (b.Kind != 1) (b.Kind != 2) false) (b.Kind != 3) false) = true then
    some 10
  else
    Let (ref23_inRange b) fun r1 =>
    if (!r1) = true then
      some 6
    else
      if (decide (4 < ((b.Fixtures).length : Int))) = true then
        some 11
      else
        ref23_Validate_l1 b (ref23_Validate_j2 b) fuel 0
def slices_Equal_Vec_l1 (s1 : List Vec) (s2 : List Vec) (kj1 : Option Bool) : Nat → Int → Option Bool
  | 0, _ => none
  | n + 1, v1 =>
    if (decide (v1 < ((s1).length : Int))) = true then
      Chk (0 ≤ v1 ∧ v1 < ((s1).length : Int)) <|
      Chk (0 ≤ v1 ∧ v1 < ((s2).length : Int)) <|
      if (!Vec.beq (ix s1 v1) (ix s2 v1)) = true then
        some false
      else
        Let ((w64 (v1 + 1))) fun x4 =>
        (slices_Equal_Vec_l1 s1 s2 kj1 n) x4
    else
      kj1
def slices_Equal_Vec_j2 : Option Bool :=
  some true
def slices_Equal_Vec (s1 : List Vec) (s2 : List Vec) : Option Bool :=
  if (((s1).length : Int) != ((s2).length : Int)) = true then
    some false
  else
    slices_Equal_Vec_l1 s1 s2 slices_Equal_Vec_j2 fuel 0
def shape_Equal (a : Shape) (b : Shape) : Option Bool :=
  Bind (if ((cond (a.Kind == b.Kind) (a.Radius == b.Radius) false) == true) = true then slices_Equal_Vec a.Vertices b.Vertices else some default) fun r1 =>
  Let ((cond (cond (a.Kind == b.Kind) (a.Radius == b.Radius) false) r1 false)) fun x2 =>
  some x2
def body_equalFixtures (a : Fixture) (b : Fixture) : Option Bool :=
  Let ((cond (cond (a.Density == b.Density) (a.Friction == b.Friction) false) (a.Restitution == b.Restitution) false)) fun x1 =>
  Let ((cond (cond (cond (a.Sensor == b.Sensor) (a.Category == b.Category) false) (a.Mask == b.Mask) false) (a.Group == b.Group) false)) fun x2 =>
  Bind (shape_Equal a.Shape b.Shape) fun r3 =>
  Let ((cond (cond r3 x1 false) x2 false)) fun x4 =>
  some x4
def body_Equal_l1 (a : Body) (b : Body) (kj1 : Option Bool) : Nat → Int → Option Bool
  | 0, _ => none
  | n + 1, v1 =>
    if (decide (v1 < ((a.Fixtures).length : Int))) = true then
      Chk (0 ≤ v1 ∧ v1 < ((a.Fixtures).length : Int)) <|
      Let ((ix a.Fixtures v1)) fun x3 =>
      Chk (0 ≤ v1 ∧ v1 < ((b.Fixtures).length : Int)) <|
      Bind (body_equalFixtures x3 (ix b.Fixtures v1)) fun r5 =>
      if (!r5) = true then
        some false
      else
        Let ((w64 (v1 + 1))) fun x6 =>
        (body_Equal_l1 a b kj1 n) x6
    else
      kj1
def body_Equal_j2 (a : Body) (b : Body) : Option Bool :=
  Let ((cond (cond (a.ID == b.ID) (a.Kind == b.Kind) false) (Transform.beq a.Transform b.Transform) false)) fun x7 =>
  Let ((cond (Vec.beq a.Velocity b.Velocity) (a.AngularVelocity == b.AngularVelocity) false)) fun x8 =>
  Let ((cond (Vec.beq a.Force b.Force) (a.Torque == b.Torque) false)) fun x9 =>
  Let ((cond (cond (a.LinearDamping == b.LinearDamping) (a.AngularDamping == b.AngularDamping) false) (a.GravityScale == b.GravityScale) false)) fun x10 =>
  Let ((cond (cond (a.Bullet == b.Bullet) (a.FixedRotation == b.FixedRotation) false) (a.NoSleep == b.NoSleep) false)) fun x11 =>
  Let ((cond (a.Asleep == b.Asleep) (a.IdleSteps == b.IdleSteps) false)) fun x12 =>
  Let ((cond (cond (cond (cond (cond x7 x8 false) x9 false) x10 false) x11 false) x12 false)) fun x13 =>
  some x13
def body_Equal (a : Body) (b : Body) : Option Bool :=
  if (((a.Fixtures).length : Int) != ((b.Fixtures).length : Int)) = true then
    some false
  else
    body_Equal_l1 a b (body_Equal_j2 a b) fuel 0
end GoOld


/- The plain law of the numbers and vectors: what fixed, vec2 compute. No conditions. -/
set_option linter.all false
open Go Go.Rx

namespace GoOld
open GoForm

theorem mul_bd {x y : Int} (M N : Int) (hx : -M ≤ x ∧ x ≤ M) (hy : -N ≤ y ∧ y ≤ N) : -(M * N) ≤ x * y ∧ x * y ≤ M * N := by
  have h1 : x.natAbs ≤ M.natAbs := by omega
  have h2 : y.natAbs ≤ N.natAbs := by omega
  have h3 := Nat.mul_le_mul h1 h2
  rw [← Int.natAbs_mul, ← Int.natAbs_mul] at h3
  have h4 : 0 ≤ M * N := Int.mul_nonneg (by omega) (by omega)
  omega

def sat (x : Int) : Int := min (max x (-536870911)) 536870911
theorem sat_bd (x : Int) : -536870911 ≤ sat x ∧ sat x ≤ 536870911 := by unfold sat; omega
theorem sat_id {x : Int} (h : -536870911 ≤ x ∧ x ≤ 536870911) : sat x = x := by unfold sat; omega
theorem sat_mul (a b : Int) : -288230375077969921 ≤ sat a * sat b ∧ sat a * sat b ≤ 288230375077969921 := by
  have := mul_bd 536870911 536870911 (sat_bd a) (sat_bd b)
  omega
def addS (a b : Int) : Int := sat (sat a + sat b)
def subS (a b : Int) : Int := sat (sat a - sat b)
def rdv (n d : Int) : Int :=
  if d < 1 ∨ 4611686018427387904 < d ∨ n < -4611686018427387904 ∨ 4611686018427387904 < n then 0 else
  if d - Int.tmod n d ≤ Int.tmod n d then Int.tdiv n d + 1 else if d + Int.tmod n d ≤ - Int.tmod n d then Int.tdiv n d - 1 else Int.tdiv n d
theorem tdm (n d : Int) (hd : 0 < d) : d * Int.tdiv n d + Int.tmod n d = n ∧ -d < Int.tmod n d ∧ Int.tmod n d < d ∧ (0 ≤ n → 0 ≤ Int.tmod n d ∧ 0 ≤ Int.tdiv n d ∧ Int.tdiv n d ≤ n) ∧ (n ≤ 0 → Int.tmod n d ≤ 0 ∧ n ≤ Int.tdiv n d ∧ Int.tdiv n d ≤ 0) := by
  have pos : ∀ n : Int, 0 ≤ n → 0 ≤ Int.tmod n d ∧ Int.tmod n d < d ∧ 0 ≤ Int.tdiv n d ∧ Int.tdiv n d ≤ n := by
    intro n hn
    refine ⟨Int.tmod_nonneg d hn, Int.tmod_lt_of_pos n hd, Int.tdiv_nonneg hn (by omega), ?_⟩
    rw [Int.tdiv_eq_ediv_of_nonneg hn]
    exact Int.ediv_le_self d hn
  refine ⟨Int.mul_tdiv_add_tmod n d, ?_⟩
  by_cases h : 0 ≤ n
  · have := pos n h
    refine ⟨by omega, by omega, fun _ => ⟨by omega, by omega, by omega⟩, fun h0 => ?_⟩
    have : n = 0 := by omega
    subst this; simp
  · have := pos (-n) (by omega)
    rw [Int.neg_tmod, Int.neg_tdiv] at this
    exact ⟨by omega, by omega, fun _ => by omega, fun _ => by omega⟩
theorem fixed_RoundDiv_eq (n d : Int) : fixed_RoundDiv n d = some (rdv n d) := by
  unfold fixed_RoundDiv rdv
  simp only [Let_eq, cond_or, Bool.or_eq_true, decide_eq_true_eq]
  by_cases h : ((d < 1 ∨ 4611686018427387904 < d) ∨ n < -4611686018427387904) ∨ 4611686018427387904 < n
  · rw [if_pos h, if_pos (by omega)]
  have h' : ¬ (d < 1 ∨ 4611686018427387904 < d ∨ n < -4611686018427387904 ∨ 4611686018427387904 < n) := by omega
  rw [if_neg h, if_neg h', Chk_of (by omega), Chk_of (by omega)]
  obtain ⟨h1, h2, h3, h4, h5⟩ := tdm n d (by omega)
  have hq : -4611686018427387904 ≤ Int.tdiv n d ∧ Int.tdiv n d ≤ 4611686018427387904 := by
    by_cases hn : 0 ≤ n
    · have := h4 hn; omega
    · have := h5 (by omega); omega
  generalize Int.tdiv n d = q at *
  generalize Int.tmod n d = r at *
  rw [w64_of q (by omega), w64_of (d - r) (by omega), w64_of (d + r) (by omega), w64_of (0 - r) (by omega), w64_of (q + 1) (by omega), w64_of (q - 1) (by omega)]
  by_cases c1 : d - r ≤ r
  · rw [if_pos c1, if_pos c1]
  rw [if_neg c1, if_neg c1]
  by_cases c2 : d + r ≤ 0 - r
  · rw [if_pos c2, if_pos (by omega)]
  · rw [if_neg c2, if_neg (by omega)]
theorem rdv_neg (n d : Int) : rdv (-n) d = - rdv n d := by
  unfold rdv
  by_cases h : d < 1 ∨ 4611686018427387904 < d ∨ n < -4611686018427387904 ∨ 4611686018427387904 < n
  · rw [if_pos h, if_pos (by omega)]; rfl
  rw [if_neg h, if_neg (by omega), Int.neg_tmod, Int.neg_tdiv]
  obtain ⟨h1, h2, h3, h4, h5⟩ := tdm n d (by omega)
  generalize Int.tdiv n d = q at *
  generalize Int.tmod n d = r at *
  split <;> split <;> (try split) <;> omega
theorem rdv_le {n d : Int} (hn : 0 ≤ n) : 0 ≤ rdv n d ∧ rdv n d ≤ n := by
  unfold rdv
  split
  · omega
  obtain ⟨h1, h2, h3, h4, h5⟩ := tdm n d (by omega)
  have h4 := h4 hn
  split
  · rename_i hh c
    by_cases hq : Int.tdiv n d < n
    · omega
    · have hq2 : Int.tdiv n d = n := by omega
      rw [hq2] at h1
      by_cases hd : d = 1
      · omega
      · have : 2 * n ≤ d * n := Int.mul_le_mul_of_nonneg_right (by omega) hn
        omega
  · rw [if_neg (by omega)]; omega
theorem fixed_Saturate_eq (x : Int) : fixed_Saturate x = sat x := rfl
theorem fixed_Sub_eq (a b : Int) : fixed_Sub a b = subS a b := by
  unfold fixed_Sub; simp only [Let_eq, fixed_Saturate_eq]
  have := sat_bd a; have := sat_bd b
  rw [w64_of _ (by omega)]; rfl
/-- The square root, bit by bit. -/
def isqL (n : Int) : Nat → Int → Int
  | 0, v => v
  | k + 1, v => if (v + 2 ^ k) * (v + 2 ^ k) ≤ n then isqL n k (v + 2 ^ k) else isqL n k v
def isq (n : Int) : Int := if n < 0 ∨ 4611686018427387904 < n then 0 else isqL n 32 0
def bitAt (k : Nat) : Int := match k with | 0 => 0 | k + 1 => 2 ^ k
theorem isqL_bd (n : Int) : ∀ (k : Nat) (v : Int), 0 ≤ v → v * v ≤ n → 0 ≤ isqL n k v ∧ isqL n k v * isqL n k v ≤ n ∧ isqL n k v < v + 2 ^ k
  | 0, v, h, h2 => ⟨h, h2, by simp [isqL]; omega⟩
  | k + 1, v, h, h2 => by
    have hp : (0 : Int) < 2 ^ k := Int.pow_pos (by omega)
    unfold isqL
    rw [Int.pow_succ]
    split
    · rename_i c
      have := isqL_bd n k (v + 2 ^ k) (by omega) c
      omega
    · have := isqL_bd n k v h h2
      omega
theorem isq_bd (n : Int) : 0 ≤ isq n ∧ isq n < 4294967296 ∧ (0 ≤ n → isq n * isq n ≤ n) := by
  unfold isq
  split
  · omega
  · have := isqL_bd n 32 0 (by omega) (by omega)
    omega
theorem bor_bit (k : Nat) (a : Int) (ha : 0 ≤ a) (hk : a * 2 ^ (k + 1) + 2 ^ (k + 1) ≤ 4294967296) : bOr .i64 (a * 2 ^ (k + 1)) (2 ^ k) = a * 2 ^ (k + 1) + 2 ^ k := by
  obtain ⟨m, rfl⟩ := Int.eq_ofNat_of_zero_le ha
  have e1 : ((m : Int) * 2 ^ (k + 1)) = ((m * 2 ^ (k + 1) : Nat) : Int) := by push_cast; rfl
  have e2 : ((2 : Int) ^ k) = ((2 ^ k : Nat) : Int) := by push_cast; rfl
  have e2' : ((2 : Int) ^ (k + 1)) = ((2 ^ (k + 1) : Nat) : Int) := by push_cast; rfl
  rw [e1, e2'] at hk
  have hlt : 2 ^ k < 2 ^ (k + 1) := Nat.pow_lt_pow_right (by omega) (by omega)
  rw [e1, e2]
  unfold bOr
  show IntKind.i64.wrap ((BitVec.ofInt 64 ((m * 2 ^ (k + 1) : Nat) : Int) ||| BitVec.ofInt 64 ((2 ^ k : Nat) : Int)).toNat : Nat) = _
  rw [BitVec.toNat_or]
  have e3 : (BitVec.ofInt 64 ((m * 2 ^ (k + 1) : Nat) : Int)).toNat = m * 2 ^ (k + 1) := by
    rw [BitVec.toNat_ofInt]; omega
  have e4 : (BitVec.ofInt 64 ((2 ^ k : Nat) : Int)).toNat = 2 ^ k := by
    rw [BitVec.toNat_ofInt]; omega
  rw [e3, e4]
  have e5 := Nat.shiftLeft_add_eq_or_of_lt hlt m
  rw [Nat.shiftLeft_eq] at e5
  rw [← e5]
  have := w64_of ((m * 2 ^ (k + 1) + 2 ^ k : Nat) : Int) (by omega)
  rw [show IntKind.i64.wrap ((m * 2 ^ (k + 1) + 2 ^ k : Nat) : Int) = w64 ((m * 2 ^ (k + 1) + 2 ^ k : Nat) : Int) from rfl, this]
  push_cast; rfl
theorem bitAt_half (k : Nat) : bShr .i64 (2 ^ k) 1 = bitAt k := by
  unfold bShr
  show Int.fdiv (2 ^ k) (2 ^ 1) = _
  rw [Int.fdiv_eq_ediv_of_nonneg _ (by decide)]
  cases k with
  | zero => rfl
  | succ k => rw [Int.pow_succ]; show _ = (2 : Int) ^ k; omega
theorem isq_l2 (n : Int) (hn : 0 ≤ n ∧ n ≤ 4611686018427387904) (kj : Int → Option Int) : ∀ (k m : Nat) (a : Int), k < m → 0 ≤ a → a * 2 ^ k + 2 ^ k ≤ 4294967296 →
    fixed_Isqrt_l2 n kj m (a * 2 ^ k) (bitAt k) = kj (isqL n k (a * 2 ^ k))
  | k, 0, a, h, _, _ => by omega
  | 0, m + 1, a, h, h0, h1 => by
    unfold fixed_Isqrt_l2
    rw [if_neg (by simp [bitAt])]; rfl
  | k + 1, m + 1, a, h, h0, h1 => by
    have hp : (0 : Int) < 2 ^ k := Int.pow_pos (by omega)
    have hpos : 0 ≤ a * 2 ^ (k + 1) := Int.mul_nonneg h0 (Int.le_of_lt (Int.pow_pos (by omega)))
    unfold fixed_Isqrt_l2
    rw [show bitAt (k + 1) = 2 ^ k from rfl, if_pos (decide_eq_true hp)]
    rw [bor_bit k a h0 h1, Let_eq, Let_eq, u64_eq, u64_eq, u64_eq]
    have hx : 0 ≤ a * 2 ^ (k + 1) + 2 ^ k ∧ a * 2 ^ (k + 1) + 2 ^ k < 4294967296 := by
      rw [Int.pow_succ] at h1 ⊢; rw [Int.pow_succ] at hpos; omega
    have hsq : (a * 2 ^ (k + 1) + 2 ^ k) * (a * 2 ^ (k + 1) + 2 ^ k) ≤ 4294967295 * 4294967295 := (mul_bd 4294967295 4294967295 (by omega) (by omega)).2
    have hsq0 : 0 ≤ (a * 2 ^ (k + 1) + 2 ^ k) * (a * 2 ^ (k + 1) + 2 ^ k) := Int.mul_nonneg hx.1 hx.1
    rw [Int.emod_eq_of_lt hx.1 (by omega), Int.emod_eq_of_lt hsq0 (by omega), Int.emod_eq_of_lt hn.1 (by omega)]
    have ea : a * 2 ^ (k + 1) + 2 ^ k = (2 * a + 1) * 2 ^ k := by rw [Int.pow_succ, Int.add_mul]; rw [Int.mul_comm 2 a, Int.mul_assoc, Int.mul_comm 2]; omega
    have eb : a * 2 ^ (k + 1) = (2 * a) * 2 ^ k := by rw [Int.pow_succ, Int.mul_comm 2 a, Int.mul_assoc, Int.mul_comm 2]
    unfold isqL fixed_Isqrt_j1
    simp only [Let_eq, decide_eq_true_eq]
    rw [bitAt_half]
    have h1' : (2 * a + 1) * 2 ^ k + 2 ^ k ≤ 4294967296 := by rw [← ea]; rw [Int.pow_succ] at h1 ⊢; omega
    have h1'' : (2 * a) * 2 ^ k + 2 ^ k ≤ 4294967296 := by rw [← eb]; rw [Int.pow_succ] at h1 ⊢; omega
    by_cases c : (a * 2 ^ (k + 1) + 2 ^ k) * (a * 2 ^ (k + 1) + 2 ^ k) ≤ n
    · rw [if_pos c, if_pos c, ea]
      exact isq_l2 n hn kj k m (2 * a + 1) (by omega) (by omega) h1'
    · rw [if_neg c, if_neg c, eb]
      exact isq_l2 n hn kj k m (2 * a) (by omega) (by omega) h1''
theorem fixed_Isqrt_eq (n : Int) : fixed_Isqrt n = some (isq n) := by
  unfold fixed_Isqrt isq
  simp only [cond_or, Bool.or_eq_true, decide_eq_true_eq]
  by_cases h : n < 0 ∨ 4611686018427387904 < n
  · rw [if_pos h, if_pos h]
  · rw [if_neg h, if_neg h]
    have := isq_l2 n (by omega) fixed_Isqrt_j3 32 fuel 0 (fuel_lt _ (by decide)) (by omega) (by decide)
    simpa [bitAt, fixed_Isqrt_j3] using this
def subV (a b : Vec) : Vec := ⟨subS a.X b.X, subS a.Y b.Y⟩
def satV (a : Vec) : Vec := ⟨sat a.X, sat a.Y⟩
def lenV (v : Vec) : Int := isq (sat v.X * sat v.X + sat v.Y * sat v.Y)
def oriV (a b c : Vec) : Int := min 1 (max (-1) ((sat b.X - sat a.X) * (sat c.Y - sat a.Y) - (sat b.Y - sat a.Y) * (sat c.X - sat a.X)))
theorem vec2_Sub_eq (a b : Vec) : vec2_Sub a b = subV a b := by unfold vec2_Sub; simp only [Let_eq, fixed_Sub_eq]; rfl
theorem vec2_saturate_eq (a : Vec) : vec2_saturate a = satV a := rfl
theorem diff_mul (a b c d : Int) : -1152921500311879684 ≤ (sat a - sat b) * (sat c - sat d) ∧ (sat a - sat b) * (sat c - sat d) ≤ 1152921500311879684 := by
  have h1 := sat_bd a; have h2 := sat_bd b; have h3 := sat_bd c; have h4 := sat_bd d
  have := mul_bd (x := sat a - sat b) (y := sat c - sat d) 1073741822 1073741822 (by omega) (by omega)
  omega
theorem vec2_Orientation_eq (a b c : Vec) : vec2_Orientation a b c = oriV a b c := by
  unfold vec2_Orientation; simp only [vec2_saturate_eq, Let_eq, satV]
  have h1 := diff_mul b.X a.X c.Y a.Y; have h2 := diff_mul b.Y a.Y c.X a.X
  have k1 := sat_bd a.X; have k2 := sat_bd a.Y; have k3 := sat_bd b.X; have k4 := sat_bd b.Y; have k5 := sat_bd c.X; have k6 := sat_bd c.Y
  rw [w64_of (sat b.X - sat a.X) (by omega), w64_of (sat c.Y - sat a.Y) (by omega), w64_of (sat b.Y - sat a.Y) (by omega), w64_of (sat c.X - sat a.X) (by omega), w64_of ((sat b.X - sat a.X) * (sat c.Y - sat a.Y)) (by omega), w64_of ((sat b.Y - sat a.Y) * (sat c.X - sat a.X)) (by omega), w64_of _ (by omega)]
  rfl
theorem vec2_Length_eq (v : Vec) : vec2_Length v = some (lenV v) := by
  unfold vec2_Length vec2_DistanceSquared; simp only [vec2_saturate_eq, Let_eq, satV]
  have h1 := sat_mul v.X v.X; have h2 := sat_mul v.Y v.Y
  have k1 := sat_bd v.X; have k2 := sat_bd v.Y
  rw [show sat 0 = 0 from rfl, w64_of (sat v.X - 0) (by omega), w64_of (sat v.Y - 0) (by omega), Int.sub_zero, Int.sub_zero, w64_of (sat v.X * sat v.X) (by omega), w64_of (sat v.Y * sat v.Y) (by omega), w64_of _ (by omega), fixed_Isqrt_eq]
  rfl
end GoOld


/- The plain law of the numbers and vectors: the reference computes the same. No conditions. -/
set_option linter.all false
open Go Go.Rx

namespace GoOld
open GoForm
theorem ref01_Saturate_eq (x : Int) : ref01_Saturate x = sat x := by
  unfold ref01_Saturate sat
  simp only [decide_eq_true_eq]
  split
  · omega
  · split <;> omega
theorem ref01_Sub_eq (a b : Int) : ref01_Sub a b = subS a b := by
  unfold ref01_Sub; simp only [Let_eq, ref01_Saturate_eq]
  have := sat_bd a; have := sat_bd b
  rw [w64_of _ (by omega)]; rfl
theorem ref01_RoundDiv_eq (n d : Int) : ref01_RoundDiv n d = some (rdv n d) := by
  unfold ref01_RoundDiv ref01_outOfRange
  simp only [Let_eq, cond_or, Bool.or_eq_true, decide_eq_true_eq]
  by_cases h : (d < 1 ∨ 4611686018427387904 < d ∨ d < -4611686018427387904) ∨ 4611686018427387904 < n ∨ n < -4611686018427387904
  · unfold rdv; rw [if_pos h, if_pos (by omega)]
  rw [if_neg h]
  have core : ∀ m : Int, 0 ≤ m → m ≤ 4611686018427387904 → ref01_RoundDiv_j2 n d m = ref01_RoundDiv_j1 n (rdv m d) := by
    intro m h0 h1
    unfold ref01_RoundDiv_j2 rdv
    simp only [Let_eq, decide_eq_true_eq]
    obtain ⟨t1, t2, t3, t4, t5⟩ := tdm m d (by omega)
    have t4 := t4 h0
    have hm : ¬ (d < 1 ∨ 4611686018427387904 < d ∨ m < -4611686018427387904 ∨ 4611686018427387904 < m) := by omega
    rw [if_neg hm]
    rw [Chk_of (by omega)]
    generalize Int.tdiv m d = q at *
    generalize Int.tmod m d = r at *
    have hq : d * q = m - r := by omega
    rw [w64_of q (by omega), Int.mul_comm q d, hq, w64_of (m - r) (by omega), w64_of (m - (m - r)) (by omega)]
    have e : m - (m - r) = r := by omega
    rw [e, w64_of (d - r) (by omega), w64_of (q + 1) (by omega)]
    by_cases c : d - r ≤ r
    · rw [if_pos c, if_pos c]
    · rw [if_neg c, if_neg c]
      have c2 : ¬ (d + r ≤ -r) := by omega
      rw [if_neg c2]
  by_cases hn : n < 0
  · rw [if_pos hn, w64_of _ (by omega), core _ (by omega) (by omega)]
    unfold ref01_RoundDiv_j1
    simp only [Let_eq, decide_eq_true_eq]
    have e : 0 - n = -n := by omega
    have b := rdv_le (n := -n) (d := d) (by omega)
    rw [rdv_neg] at b
    rw [if_pos hn, e, rdv_neg, w64_of _ (by omega)]
    congr 1; omega
  · rw [if_neg hn, core _ (by omega) (by omega)]
    unfold ref01_RoundDiv_j1
    rw [if_neg (by simpa using hn)]
theorem bit_half (k : Nat) (hk : (2 : Int) ^ k ≤ 4294967296) : w64 (Int.tdiv (2 ^ k) 2) = bitAt k := by
  cases k with
  | zero => rfl
  | succ k =>
    have hp : (0 : Int) < 2 ^ k := Int.pow_pos (by omega)
    rw [Int.pow_succ] at hk ⊢
    rw [Int.mul_tdiv_cancel _ (by decide), w64_of _ (by omega)]; rfl
theorem le_div (x n : Int) (hx : 0 < x) (hn : 0 ≤ n) : x ≤ Int.tdiv n x ↔ x * x ≤ n := by
  rw [Int.tdiv_eq_ediv_of_nonneg hn]
  exact Int.le_ediv_iff_mul_le hx
theorem ref_isq_l2 (n : Int) (hn : 0 ≤ n ∧ n ≤ 4611686018427387904) (kj : Int → Option Int) : ∀ (k m : Nat) (v : Int), k < m → 0 ≤ v → v + 2 ^ k ≤ 4294967296 →
    ref01_Isqrt_l2 n kj m v (bitAt k) = kj (isqL n k v)
  | k, 0, v, h, _, _ => by omega
  | 0, m + 1, v, h, h0, h1 => by
    unfold ref01_Isqrt_l2
    rw [if_neg (by simp [bitAt])]; rfl
  | k + 1, m + 1, v, h, h0, h1 => by
    have hp : (0 : Int) < 2 ^ k := Int.pow_pos (by omega)
    rw [Int.pow_succ] at h1
    unfold ref01_Isqrt_l2
    rw [show bitAt (k + 1) = 2 ^ k from rfl, if_pos (decide_eq_true hp), w64_of (v + 2 ^ k) (by omega), Chk_of (by omega)]
    have hq : 0 ≤ Int.tdiv n (v + 2 ^ k) ∧ Int.tdiv n (v + 2 ^ k) ≤ n := by
      have := (tdm n (v + 2 ^ k) (by omega)).2.2.2.1 hn.1
      omega
    simp only [Let_eq, decide_eq_true_eq]
    rw [w64_of _ (by omega)]
    unfold isqL ref01_Isqrt_j1
    simp only [Let_eq]
    rw [bit_half k (by omega)]
    by_cases c : (v + 2 ^ k) * (v + 2 ^ k) ≤ n
    · rw [if_pos c, if_pos ((le_div _ _ (by omega) hn.1).2 c)]
      exact ref_isq_l2 n hn kj k m (v + 2 ^ k) (by omega) (by omega) (by omega)
    · rw [if_neg c, if_neg (fun h => c ((le_div _ _ (by omega) hn.1).1 h))]
      exact ref_isq_l2 n hn kj k m v (by omega) h0 (by omega)
theorem ref01_Isqrt_eq (n : Int) : ref01_Isqrt n = some (isq n) := by
  unfold ref01_Isqrt isq ref01_outOfRange
  simp only [Let_eq, cond_or, Bool.or_eq_true, decide_eq_true_eq]
  by_cases h : n < 0 ∨ 4611686018427387904 < n
  · rw [if_pos h, if_pos (by omega)]
  · rw [if_neg h, if_neg (by omega)]
    exact ref_isq_l2 n (by omega) ref01_Isqrt_j3 32 fuel 0 (fuel_lt _ (by decide)) (by omega) (by decide)
theorem ref03_Sub_eq (a b : Vec) : ref03_Sub a b = subV a b := by unfold ref03_Sub; simp only [Let_eq, ref01_Sub_eq]; rfl
theorem ref03_Saturated_eq (a : Vec) : ref03_Saturated a = satV a := by unfold ref03_Saturated; simp only [Let_eq, ref01_Saturate_eq]; rfl
theorem ref03_Orientation_eq (a b c : Vec) : ref03_Orientation a b c = oriV a b c := by
  unfold ref03_Orientation; simp only [ref03_Saturated_eq, Let_eq, satV, decide_eq_true_eq]
  have h1 := diff_mul b.X a.X c.Y a.Y; have h2 := diff_mul b.Y a.Y c.X a.X
  have k1 := sat_bd a.X; have k2 := sat_bd a.Y; have k3 := sat_bd b.X; have k4 := sat_bd b.Y; have k5 := sat_bd c.X; have k6 := sat_bd c.Y
  rw [w64_of (sat b.X - sat a.X) (by omega), w64_of (sat c.Y - sat a.Y) (by omega), w64_of (sat b.Y - sat a.Y) (by omega), w64_of (sat c.X - sat a.X) (by omega), w64_of ((sat b.X - sat a.X) * (sat c.Y - sat a.Y)) (by omega), w64_of ((sat b.Y - sat a.Y) * (sat c.X - sat a.X)) (by omega), w64_of _ (by omega)]
  unfold oriV
  split
  · omega
  · split <;> omega
theorem ref03_Length_eq (v : Vec) : ref03_Length v = some (lenV v) := by
  unfold ref03_Length; simp only [ref03_Saturated_eq, Let_eq, satV]
  have h1 := sat_mul v.X v.X; have h2 := sat_mul v.Y v.Y
  rw [w64_of (sat v.X * sat v.X) (by omega), w64_of (sat v.Y * sat v.Y) (by omega), w64_of _ (by omega), ref01_Isqrt_eq]
  rfl
end GoOld


/- The plain law of angles and transforms. No conditions. -/
set_option linter.all false
open Go Go.Rx

namespace GoOld
open GoForm
end GoOld


/- The plain law of angles and transforms: the reference computes the same. No conditions. -/
set_option linter.all false
open Go Go.Rx

namespace GoOld
open GoForm
end GoOld


/- The plain law of polygons and shapes. No conditions. -/
set_option linter.all false
open Go Go.Rx

namespace GoOld
open GoForm
def inRng (lim : Int) (v : Vec) : Bool := decide (-lim ≤ v.X) && decide (v.X ≤ lim) && decide (-lim ≤ v.Y) && decide (v.Y ≤ lim)
theorem inRng_iff (lim : Int) (v : Vec) : inRng lim v = true ↔ -lim ≤ v.X ∧ v.X ≤ lim ∧ -lim ≤ v.Y ∧ v.Y ≤ lim := by
  unfold inRng; simp only [Bool.and_eq_true, decide_eq_true_eq]; exact ⟨fun h => ⟨h.1.1.1, h.1.1.2, h.1.2, h.2⟩, fun h => ⟨⟨⟨h.1, h.2.1⟩, h.2.2.1⟩, h.2.2.2⟩⟩
theorem polygon_inReach_eq (v : Vec) : polygon_inReach v = inRng 1048576 v := by
  unfold polygon_inReach inRng; simp only [Let_eq, cond_and]
theorem polygon_allInReach_eq (vs : List Vec) (h : vs.length ≤ 4611686018427387904) : polygon_allInReach vs = some (vs.all (inRng 1048576)) := by
  unfold polygon_allInReach
  have := loop_gen vs.length (fun j => inRng 1048576 (ix vs (j : Int))) (fun _ (s : Unit) => s) (fun _ _ => True) (fun n _ i => polygon_allInReach_l1 vs polygon_allInReach_j2 n i) (fun _ => some true) (some false)
    (fun n i s hi _ => by
      refine ⟨?_, fun _ => trivial⟩
      rw [polygon_allInReach_l1]
      rw [if_pos (by simpa using hi), Chk_of (by omega), Let_eq, Let_eq, Let_eq, polygon_inReach_eq, w64_of _ (by omega)]
      cases inRng 1048576 (ix vs (i : Int)) <;> rfl)
    (fun n s _ => by rw [polygon_allInReach_l1, if_neg (by simp)]; rfl)
    fuel 0 () (by omega) (fuel_lt _ (by omega)) trivial
  rw [Nat.sub_zero, allR_all] at this
  rw [show polygon_allInReach_l1 vs polygon_allInReach_j2 fuel 0 = polygon_allInReach_l1 vs polygon_allInReach_j2 fuel ((0 : Nat) : Int) from rfl, this]
  cases vs.all (inRng 1048576) <;> rfl
def nxt (vs : List Vec) (i : Nat) : Int := Int.tmod ((i : Int) + 1) vs.length
theorem nxt_bd (vs : List Vec) (i : Nat) (h : 0 < vs.length) : 0 ≤ nxt vs i ∧ nxt vs i < vs.length := by
  have := tdm ((i : Int) + 1) vs.length (by omega)
  unfold nxt; omega
def leftOf (vs : List Vec) (i : Nat) (j : Nat) : Bool := (j : Int) == (i : Int) || (j : Int) == nxt vs i || oriV (ix vs (i : Int)) (ix vs (nxt vs i)) (ix vs (j : Int)) == 1
def convexB (vs : List Vec) : Bool :=
  decide (3 ≤ vs.length) && decide (vs.length ≤ 8) && vs.all (inRng 1048576) && allR (fun i => allR (leftOf vs i) 0 vs.length) 0 vs.length
theorem convexB_len {vs : List Vec} (h : convexB vs = true) : 3 ≤ vs.length ∧ vs.length ≤ 8 ∧ ∀ v ∈ vs, inRng 1048576 v = true := by
  unfold convexB at h
  simp only [Bool.and_eq_true, decide_eq_true_eq, List.all_eq_true] at h
  exact ⟨h.1.1.1, h.1.1.2, h.1.2⟩
theorem IsConvex_in (vs : List Vec) (h8 : 3 ≤ vs.length ∧ vs.length ≤ 8) (i : Nat) (hi : i < vs.length) (kj : Option Bool) :
    polygon_IsConvex_l1 vs (i : Int) kj (ix vs (i : Int)) (nxt vs i) fuel 0 = if allR (leftOf vs i) 0 vs.length = true then kj else some false := by
  have hb := nxt_bd vs i (by omega)
  have := loop_gen vs.length (leftOf vs i) (fun _ (s : Unit) => s) (fun _ _ => True) (fun n _ j => polygon_IsConvex_l1 vs (i : Int) kj (ix vs (i : Int)) (nxt vs i) n j) (fun _ => kj) (some false)
    (fun n j s hj _ => by
      refine ⟨?_, fun _ => trivial⟩
      rw [polygon_IsConvex_l1]
      rw [if_pos (by simpa using hj), Chk_of (by omega), Let_eq, Chk_of (by intro _; omega), Let_eq, Let_eq, vec2_Orientation_eq, w64_of _ (by omega)]
      unfold leftOf
      by_cases h1 : (j : Int) = (i : Int)
      · simp [h1]
      · by_cases h2 : (j : Int) = nxt vs i
        · simp [h1, h2]
        · by_cases h3 : oriV (ix vs (i : Int)) (ix vs (nxt vs i)) (ix vs (j : Int)) = 1
          · simp [h1, h2, h3]
          · simp [h1, h2, h3])
    (fun n s _ => by rw [polygon_IsConvex_l1, if_neg (by simp)])
    fuel 0 () (by omega) (fuel_lt _ (by omega)) trivial
  simpa using this
theorem polygon_IsConvex_eq (vs : List Vec) : polygon_IsConvex vs = some (convexB vs) := by
  unfold polygon_IsConvex
  simp only [cond_or]
  by_cases h : (vs.length : Int) < 3 ∨ 8 < (vs.length : Int)
  · have e : (decide ((vs.length : Int) < 3) || decide (8 < (vs.length : Int))) = true := by simpa using h
    rw [e, if_neg (by simp), Bind_some, if_pos (by simp)]
    unfold convexB
    have : (decide (3 ≤ vs.length) && decide (vs.length ≤ 8)) = false := by
      simp only [Bool.and_eq_false_iff, decide_eq_false_iff_not]; omega
    rw [this]; rfl
  · have e : (decide ((vs.length : Int) < 3) || decide (8 < (vs.length : Int))) = false := by simp; omega
    rw [e, if_pos (by simp), polygon_allInReach_eq vs (by omega), Bind_some]
    unfold convexB
    have : (decide (3 ≤ vs.length) && decide (vs.length ≤ 8)) = true := by simp; omega
    rw [this, Bool.true_and]
    cases hA : vs.all (inRng 1048576)
    · rfl
    rw [if_neg (by simp)]
    have := loop_gen vs.length (fun i => allR (leftOf vs i) 0 vs.length) (fun _ (s : Unit) => s) (fun _ _ => True) (fun n _ j => polygon_IsConvex_l3 vs polygon_IsConvex_j4 n j) (fun _ => some true) (some false)
      (fun n i s hi _ => by
        refine ⟨?_, fun _ => trivial⟩
        rw [polygon_IsConvex_l3]
        rw [if_pos (by simpa using hi), Chk_of (by omega), Let_eq, Chk_of (by omega), Let_eq, w64_of ((i : Int) + 1) (by omega)]
        rw [show Int.tmod ((i : Int) + 1) (vs.length : Int) = nxt vs i from rfl, IsConvex_in vs (by omega) i hi]
        unfold polygon_IsConvex_j2
        rw [Let_eq, w64_of ((i : Int) + 1) (by omega)])
      (fun n s _ => by rw [polygon_IsConvex_l3, if_neg (by simp)]; rfl)
      fuel 0 () (by omega) (fuel_lt _ (by omega)) trivial
    rw [show polygon_IsConvex_l3 vs polygon_IsConvex_j4 fuel 0 = polygon_IsConvex_l3 vs polygon_IsConvex_j4 fuel ((0 : Nat) : Int) from rfl, this, Nat.sub_zero, Bool.true_and]
    cases allR (fun i => allR (leftOf vs i) 0 vs.length) 0 vs.length <;> rfl
def edgeL (vs : List Vec) (i : Nat) : Int := lenV (subV (ix vs (nxt vs i)) (ix vs (i : Int)))
def shortE (vs : List Vec) : Int := if convexB vs = true then foldR (fun i m => min m (edgeL vs i)) 0 vs.length 536870911 else 0
theorem polygon_ShortestEdge_eq (vs : List Vec) : polygon_ShortestEdge vs = some (shortE vs) := by
  unfold polygon_ShortestEdge shortE
  rw [polygon_IsConvex_eq, Bind_some]
  cases hc : convexB vs
  · rfl
  obtain ⟨h3, h8, -⟩ := convexB_len hc
  rw [if_neg (by simp), if_pos rfl]
  have := loop_gen vs.length (fun _ => true) (fun i m => min m (edgeL vs i)) (fun _ _ => True) (fun n m j => polygon_ShortestEdge_l1 vs polygon_ShortestEdge_j2 n m j) (fun m => some m) (some 0)
    (fun n i m hi _ => by
      refine ⟨?_, fun _ => trivial⟩
      have hb := nxt_bd vs i (by omega)
      rw [polygon_ShortestEdge_l1]
      rw [if_pos (by simpa using hi), Chk_of (by omega), Let_eq, Chk_of (by omega), w64_of ((i : Int) + 1) (by omega)]
      rw [show Int.tmod ((i : Int) + 1) (vs.length : Int) = nxt vs i from rfl, Chk_of hb, Let_eq, vec2_Sub_eq, vec2_Length_eq, Bind_some, Let_eq, Let_eq, if_pos rfl]; rfl)
    (fun n s _ => by rw [polygon_ShortestEdge_l1, if_neg (by simp)]; rfl)
    fuel 0 536870911 (by omega) (fuel_lt _ (by omega)) trivial
  rw [Nat.sub_zero, allR_tt, if_pos rfl] at this
  exact this
def crossAt (vs : List Vec) (i : Nat) : Int :=
  rdv (w64 (((ix vs (i : Int)).X - (ix vs 0).X) * ((ix vs ((i : Int) + 1)).Y - (ix vs 0).Y) - ((ix vs (i : Int)).Y - (ix vs 0).Y) * ((ix vs ((i : Int) + 1)).X - (ix vs 0).X))) 65536
def triAt (vs : List Vec) (i : Nat) : polygon_triangle :=
  ⟨⟨w64 ((ix vs (i : Int)).X - (ix vs 0).X), w64 ((ix vs (i : Int)).Y - (ix vs 0).Y)⟩, ⟨w64 ((ix vs ((i : Int) + 1)).X - (ix vs 0).X), w64 ((ix vs ((i : Int) + 1)).Y - (ix vs 0).Y)⟩, crossAt vs i⟩
def crossSum (vs : List Vec) : Int := foldR (fun i a => w64 (a + crossAt vs i)) 1 (vs.length - 2) 0
theorem polygon_fan_eq (vs : List Vec) (h : 3 ≤ vs.length ∧ vs.length ≤ 8) : polygon_fan vs = some ((List.range' 1 (vs.length - 2)).map (triAt vs), crossSum vs) := by
  unfold polygon_fan
  rw [Chk_of (by omega), Let_eq]
  have := loop_gen (vs.length - 1) (fun _ => true) (fun i (s : List polygon_triangle × Int) => (s.1 ++ [triAt vs i], w64 (s.2 + crossAt vs i))) (fun i s => 1 ≤ i ∧ s.1.length + 1 = i)
    (fun n s j => polygon_fan_l1 vs (ix vs 0) polygon_fan_j2 n s.1 s.2 j) (fun s => some s) none
    (fun n i s hi hI => by
      refine ⟨?_, fun _ => ⟨by omega, by simp; omega⟩⟩
      rw [polygon_fan_l1]
      rw [w64_of ((i : Int) + 1) (by omega), if_pos (by simp; omega), Chk_of (by omega), Chk_of (by omega), Let_eq, Chk_of (by omega), Chk_of (by omega), Let_eq, fixed_RoundDiv_eq, Bind_some, Chk_of (by simp; omega), Let_eq, Let_eq, Let_eq, if_pos rfl]
      simp only [w64_ml, w64_mr, w64_sl, w64_sr]
      rfl)
    (fun n s hI => by rw [polygon_fan_l1, w64_of _ (by omega), if_neg (by simp; omega)]; rfl)
    fuel 1 ([], 0) (by omega) (fuel_lt _ (by omega)) ⟨by omega, rfl⟩
  rw [allR_tt, if_pos rfl, show vs.length - 1 - 1 = vs.length - 2 by omega, foldR_pair (fun i (l : List polygon_triangle) => l ++ [triAt vs i]) (fun i a => w64 (a + crossAt vs i)), foldR_list] at this
  exact this
def areaV (vs : List Vec) : Int := if convexB vs = true then rdv (crossSum vs) 2 else 0
theorem polygon_Area_eq (vs : List Vec) : polygon_Area vs = some (areaV vs) := by
  unfold polygon_Area areaV
  rw [polygon_IsConvex_eq, Bind_some]
  cases hc : convexB vs
  · rfl
  obtain ⟨h3, h8, -⟩ := convexB_len hc
  rw [if_neg (by simp), if_pos rfl, polygon_fan_eq vs ⟨h3, h8⟩, Bind_some, fixed_RoundDiv_eq]; rfl
def countB (s : Shape) : Bool := if s.Kind = 1 then s.Vertices.length == 1 else if s.Kind = 2 then s.Vertices.length == 2 else decide (3 ≤ s.Vertices.length) && decide (s.Vertices.length ≤ 8)
theorem shape_validCount_eq (s : Shape) : shape_validCount s = countB s := by
  unfold shape_validCount countB
  simp only [Let_eq, beq_iff_eq, cond_and]
  split
  · rw [Bool.eq_iff_iff]; simp only [beq_iff_eq]; omega
  · split
    · rw [Bool.eq_iff_iff]; simp only [beq_iff_eq]; omega
    · rw [Bool.eq_iff_iff]; simp only [Bool.and_eq_true, decide_eq_true_eq]; omega
theorem countB_len {s : Shape} (h : countB s = true) : 1 ≤ s.Vertices.length ∧ s.Vertices.length ≤ 8 ∧ (s.Kind = 2 → s.Vertices.length = 2) := by
  unfold countB at h
  by_cases h1 : s.Kind = 1
  · rw [if_pos h1] at h; simp only [beq_iff_eq] at h; omega
  rw [if_neg h1] at h
  by_cases h2 : s.Kind = 2
  · rw [if_pos h2] at h; simp only [beq_iff_eq] at h; omega
  rw [if_neg h2] at h; simp only [Bool.and_eq_true, decide_eq_true_eq] at h; omega
theorem IndexFunc_Vec_eq (l : List Vec) (p : Vec → Bool) (hl : l.length ≤ 4611686018427387904) : slices_ContainsFunc_Vec l (fun y => some (p y)) = some (l.any p) := by
  have key : ∀ n i : Nat, i ≤ l.length → l.length - i < n → ∃ r, slices_IndexFunc_Vec_l1 l (fun y => some (p y)) slices_IndexFunc_Vec_j2 n (i : Int) = some r ∧ (decide (0 ≤ r)) = (l.drop i).any p := by
    intro n
    induction n with
    | zero => intro i _ h; omega
    | succ n ih =>
      intro i hi h
      unfold slices_IndexFunc_Vec_l1
      by_cases hlt : i < l.length
      · rw [if_pos (by simpa using hlt), Chk_of (by omega), Bind_some, drop_ix l i hlt, List.any_cons]
        cases hp : p (ix l (i : Int))
        · rw [if_neg (by simp), Let_eq, w64_of _ (by omega), Bool.false_or]
          exact ih (i + 1) (by omega) (by omega)
        · rw [if_pos rfl]
          exact ⟨i, rfl, by simp⟩
      · rw [if_neg (by simpa using hlt)]
        refine ⟨-1, rfl, ?_⟩
        rw [List.drop_of_length_le (by omega)]; rfl
  obtain ⟨r, h1, h2⟩ := key fuel 0 (by omega) (fuel_lt _ (by omega))
  unfold slices_ContainsFunc_Vec slices_IndexFunc_Vec
  rw [show slices_IndexFunc_Vec_l1 l (fun y => some (p y)) slices_IndexFunc_Vec_j2 fuel 0 = some r from h1, Bind_some, Let_eq, h2]; rfl
def radiusBad (s : Shape) : Bool := if s.Kind = 3 then s.Radius != 0 else decide (s.Radius < 2048) || decide (524288 < s.Radius)
def validS (s : Shape) : Int :=
  if s.Kind < 1 ∨ 3 < s.Kind then 10 else if countB s = false then 11 else if s.Vertices.all (inRng 1048576) = false then 6 else if radiusBad s = true then 6 else
  if s.Kind = 2 ∧ lenV (subV (ix s.Vertices 1) (ix s.Vertices 0)) < 4096 then 12 else
  if s.Kind = 3 ∧ (convexB s.Vertices = false ∨ shortE s.Vertices < 4096 ∨ areaV s.Vertices < 256) then 12 else 0
theorem shape_Validate_c1_eq (v : Vec) : shape_Validate_c1 v = !inRng 1048576 v := by
  unfold shape_Validate_c1 shape_outOfRange inRng
  simp only [Let_eq, cond_or]
  rw [Bool.eq_iff_iff]
  simp only [Bool.or_eq_true, decide_eq_true_eq, Bool.not_eq_true', Bool.and_eq_false_iff, decide_eq_false_iff_not]
  omega
theorem any_not (l : List Vec) (p : Vec → Bool) : l.any (fun v => !p v) = !l.all p := by
  induction l with
  | nil => rfl
  | cons a l ih => rw [List.any_cons, List.all_cons, ih]; cases p a <;> rfl
theorem shape_Validate_eq (s : Shape) : shape_Validate s = some (validS s) := by
  unfold shape_Validate validS
  simp only [Let_eq, cond_or, Bool.or_eq_true, decide_eq_true_eq, shape_validCount_eq]
  by_cases h1 : s.Kind < 1 ∨ 3 < s.Kind
  · rw [if_pos h1, if_pos h1]
  rw [if_neg h1, if_neg h1]
  cases hc : countB s
  · rfl
  obtain ⟨l1, l8, l2⟩ := countB_len hc
  rw [if_neg (by simp), if_neg (show ¬ true = false by simp)]
  have ef : (fun (y0 : Vec) => some (shape_Validate_c1 y0)) = fun y => some (!inRng 1048576 y) := funext fun y => by rw [shape_Validate_c1_eq]
  rw [ef, IndexFunc_Vec_eq _ (fun y => !inRng 1048576 y) (by omega), Bind_some, any_not]
  cases ha : s.Vertices.all (inRng 1048576)
  · rfl
  rw [if_neg (by simp), if_neg (show ¬ true = false by simp)]
  have j : ∀ v5, shape_Validate_j1 s v5 = some (if v5 = true then 6 else if s.Kind = 2 ∧ lenV (subV (ix s.Vertices 1) (ix s.Vertices 0)) < 4096 then 12 else
      if s.Kind = 3 ∧ (convexB s.Vertices = false ∨ shortE s.Vertices < 4096 ∨ areaV s.Vertices < 256) then 12 else 0) := by
    intro v5
    unfold shape_Validate_j1
    by_cases hv : v5 = true
    · rw [if_pos hv, if_pos hv]
    rw [if_neg hv, if_neg hv, Chk_of (by intro h; simp at h; have := l2 h; omega), Chk_of (by intro h; simp at h; have := l2 h; omega), Let_eq, vec2_Sub_eq]
    simp only [vec2_Length_eq, polygon_IsConvex_eq, polygon_ShortestEdge_eq, polygon_Area_eq, Let_eq, cond_and, cond_or, Bool.and_eq_true, decide_eq_true_eq, beq_iff_eq]
    by_cases k2 : s.Kind = 2
    · by_cases hl : lenV (subV (ix s.Vertices 1) (ix s.Vertices 0)) < 4096
      · simp [k2, hl]
      · simp [k2, hl]
    · by_cases k3 : s.Kind = 3
      · cases hcx : convexB s.Vertices
        · simp [k3]
        · by_cases hsE : shortE s.Vertices < 4096
          · simp [k3, hsE, show ¬ (4096 ≤ shortE s.Vertices) by omega]
          · by_cases hA : areaV s.Vertices < 256 <;> simp [k3, hsE, hA, show (4096 ≤ shortE s.Vertices) by omega]
      · simp [k2, k3]
  simp only [cond_and, cond_or]
  unfold radiusBad
  by_cases k3 : s.Kind = 3
  · have e1 : (s.Kind == 3) = true := by simpa using k3
    have e2 : (s.Kind != 3) = false := by simpa using k3
    rw [e2, Bool.false_and, if_pos k3]
    cases h0 : (s.Radius != 0)
    · simp [k3, h0, j]
    · simp [k3, h0, j]
  · have e1 : (s.Kind == 3) = false := by simpa using k3
    have e2 : (s.Kind != 3) = true := by simpa using k3
    rw [e2, Bool.true_and, if_neg k3]; simp [k3, j]
end GoOld


/- The plain law of polygons and shapes: the reference computes the same. No conditions. -/
set_option linter.all false
open Go Go.Rx

namespace GoOld
open GoForm
theorem ref11_inRange_eq (v : Vec) : ref11_inRange v = inRng 1048576 v := by
  unfold ref11_inRange inRng; simp only [Let_eq, cond_and]
theorem ref_IsConvex_in (vs : List Vec) (h8 : 3 ≤ vs.length ∧ vs.length ≤ 8) (i : Nat) (hi : i < vs.length) (kj : Option Bool) :
    ref11_IsConvex_l2 vs (i : Int) kj (nxt vs i) fuel 0 = if allR (leftOf vs i) 0 vs.length = true then kj else some false := by
  have hb := nxt_bd vs i (by omega)
  have := loop_gen vs.length (leftOf vs i) (fun _ (s : Unit) => s) (fun _ _ => True) (fun n _ j => ref11_IsConvex_l2 vs (i : Int) kj (nxt vs i) n j) (fun _ => kj) (some false)
    (fun n j s hj _ => by
      refine ⟨?_, fun _ => trivial⟩
      rw [ref11_IsConvex_l2]
      rw [if_pos (by simpa using hj), Chk_of (by intro _; omega), Chk_of (by intro _; omega), Chk_of (by intro _; omega), Let_eq, Let_eq, ref03_Orientation_eq, w64_of _ (by omega)]
      unfold leftOf
      by_cases h1 : (j : Int) = (i : Int)
      · simp [h1]
      · by_cases h2 : (j : Int) = nxt vs i
        · simp [h1, h2]
        · by_cases h3 : oriV (ix vs (i : Int)) (ix vs (nxt vs i)) (ix vs (j : Int)) = 1
          · simp [h1, h2, h3]
          · simp [h1, h2, h3])
    (fun n s _ => by rw [ref11_IsConvex_l2, if_neg (by simp)])
    fuel 0 () (by omega) (fuel_lt _ (by omega)) trivial
  simpa using this
theorem ref11_IsConvex_eq (vs : List Vec) : ref11_IsConvex vs = some (convexB vs) := by
  unfold ref11_IsConvex
  simp only [cond_or]
  by_cases h : (vs.length : Int) < 3 ∨ 8 < (vs.length : Int)
  · rw [if_pos (by simpa using h)]
    unfold convexB
    have : (decide (3 ≤ vs.length) && decide (vs.length ≤ 8)) = false := by
      simp only [Bool.and_eq_false_iff, decide_eq_false_iff_not]; omega
    rw [this]; rfl
  · rw [if_neg (by simpa using h)]
    unfold convexB
    have : (decide (3 ≤ vs.length) && decide (vs.length ≤ 8)) = true := by simp; omega
    rw [this, Bool.true_and]
    have := loop_gen vs.length (fun j => inRng 1048576 (ix vs (j : Int))) (fun _ (s : Unit) => s) (fun _ _ => True) (fun n _ i => ref11_IsConvex_l1 vs (ref11_IsConvex_j6 vs) n i) (fun _ => ref11_IsConvex_j6 vs) (some false)
      (fun n i s hi _ => by
        refine ⟨?_, fun _ => trivial⟩
        rw [ref11_IsConvex_l1]
        rw [if_pos (by simpa using hi), Chk_of (by omega), Let_eq, Let_eq, ref11_inRange_eq, w64_of _ (by omega)]
        cases inRng 1048576 (ix vs (i : Int)) <;> rfl)
      (fun n s _ => by rw [ref11_IsConvex_l1, if_neg (by simp)])
      fuel 0 () (by omega) (fuel_lt _ (by omega)) trivial
    rw [Nat.sub_zero, allR_all] at this
    rw [show ref11_IsConvex_l1 vs (ref11_IsConvex_j6 vs) fuel 0 = ref11_IsConvex_l1 vs (ref11_IsConvex_j6 vs) fuel ((0 : Nat) : Int) from rfl, this]
    cases hA : vs.all (inRng 1048576)
    · rfl
    rw [if_pos rfl]
    unfold ref11_IsConvex_j6
    have := loop_gen vs.length (fun i => allR (leftOf vs i) 0 vs.length) (fun _ (s : Unit) => s) (fun _ _ => True) (fun n _ j => ref11_IsConvex_l4 vs ref11_IsConvex_j5 n j) (fun _ => some true) (some false)
      (fun n i s hi _ => by
        refine ⟨?_, fun _ => trivial⟩
        rw [ref11_IsConvex_l4]
        rw [if_pos (by simpa using hi), Chk_of (by omega), Let_eq, w64_of ((i : Int) + 1) (by omega)]
        rw [show Int.tmod ((i : Int) + 1) (vs.length : Int) = nxt vs i from rfl, ref_IsConvex_in vs (by omega) i hi]
        unfold ref11_IsConvex_j3
        rw [Let_eq, w64_of ((i : Int) + 1) (by omega)])
      (fun n s _ => by rw [ref11_IsConvex_l4, if_neg (by simp)]; rfl)
      fuel 0 () (by omega) (fuel_lt _ (by omega)) trivial
    rw [show ref11_IsConvex_l4 vs ref11_IsConvex_j5 fuel 0 = ref11_IsConvex_l4 vs ref11_IsConvex_j5 fuel ((0 : Nat) : Int) from rfl, this, Nat.sub_zero, Bool.true_and]
    cases allR (fun i => allR (leftOf vs i) 0 vs.length) 0 vs.length <;> rfl
theorem lenV_bd (v : Vec) (h : -2097152 ≤ v.X ∧ v.X ≤ 2097152) (h2 : -2097152 ≤ v.Y ∧ v.Y ≤ 2097152) : 0 ≤ lenV v ∧ lenV v ≤ 4194304 := by
  have h3 := mul_bd 2097152 2097152 h h
  have h4 := mul_bd 2097152 2097152 h2 h2
  unfold lenV
  rw [sat_id (x := v.X) (by omega), sat_id (x := v.Y) (by omega)]
  have h5 := isq_bd (v.X * v.X + v.Y * v.Y)
  have p1 : 0 ≤ v.X * v.X := by rw [← Int.natAbs_mul_self]; exact Int.natCast_nonneg _
  have p2 : 0 ≤ v.Y * v.Y := by rw [← Int.natAbs_mul_self]; exact Int.natCast_nonneg _
  have h6 := h5.2.2 (by omega)
  refine ⟨h5.1, ?_⟩
  by_cases c : isq (v.X * v.X + v.Y * v.Y) ≤ 4194304
  · exact c
  · have := Int.mul_le_mul (show (4194305 : Int) ≤ isq (v.X * v.X + v.Y * v.Y) by omega) (show (4194305 : Int) ≤ isq (v.X * v.X + v.Y * v.Y) by omega) (by omega) (by omega)
    omega
theorem edgeL_bd {vs : List Vec} (hc : convexB vs = true) (i : Nat) (hi : i < vs.length) : 0 ≤ edgeL vs i ∧ edgeL vs i ≤ 4194304 := by
  obtain ⟨h3, h8, hr⟩ := convexB_len hc
  have hb := nxt_bd vs i (by omega)
  have h1 := (inRng_iff _ _).1 (hr _ (ix_mem vs (nxt vs i) hb))
  have h2 := (inRng_iff _ _).1 (hr _ (ix_mem vs (i : Int) (by omega)))
  have s : ∀ a b : Int, -1048576 ≤ a ∧ a ≤ 1048576 → -1048576 ≤ b ∧ b ≤ 1048576 → -2097152 ≤ subS a b ∧ subS a b ≤ 2097152 := by
    intro a b ha hb
    unfold subS
    rw [sat_id (x := a) (by omega), sat_id (x := b) (by omega), sat_id (by omega)]; omega
  exact lenV_bd _ (s _ _ (by omega) (by omega)) (s _ _ (by omega) (by omega))
theorem ref11_ShortestEdge_eq (vs : List Vec) : ref11_ShortestEdge vs = some (shortE vs) := by
  unfold ref11_ShortestEdge shortE
  rw [ref11_IsConvex_eq, Bind_some]
  cases hc : convexB vs
  · rfl
  obtain ⟨h3, h8, -⟩ := convexB_len hc
  rw [if_neg (by simp), if_pos rfl]
  have step : ∀ (n i : Nat) (m : Int), i < vs.length → ref11_ShortestEdge_l2 vs ref11_ShortestEdge_j3 (n + 1) m (i : Int) = ref11_ShortestEdge_l2 vs ref11_ShortestEdge_j3 n (if m < 0 ∨ edgeL vs i < m then edgeL vs i else m) ((i : Int) + 1) := by
    intro n i m hi
    have hb := nxt_bd vs i (by omega)
    rw [ref11_ShortestEdge_l2]
    rw [if_pos (by simpa using hi), Chk_of (by omega), w64_of ((i : Int) + 1) (by omega)]
    rw [show Int.tmod ((i : Int) + 1) (vs.length : Int) = nxt vs i from rfl, Chk_of hb, Chk_of (by omega), Let_eq, ref03_Sub_eq, ref03_Length_eq, Bind_some]
    unfold ref11_ShortestEdge_j1
    simp only [Let_eq, cond_or, Bool.or_eq_true, decide_eq_true_eq]
    rw [show lenV (subV (ix vs (nxt vs i)) (ix vs (i : Int))) = edgeL vs i from rfl, w64_of ((i : Int) + 1) (by omega)]
    split <;> rfl
  have := loop_gen vs.length (fun _ => true) (fun i m => min m (edgeL vs i)) (fun i m => 1 ≤ i ∧ 0 ≤ m) (fun n m j => ref11_ShortestEdge_l2 vs ref11_ShortestEdge_j3 n m j) (fun m => some m) (some 0)
    (fun n i m hi hI => by
      have he := edgeL_bd hc i hi
      refine ⟨?_, fun _ => ⟨by omega, by omega⟩⟩
      rw [step n i m hi, if_pos rfl]
      congr 1
      split <;> omega)
    (fun n s _ => by rw [ref11_ShortestEdge_l2, if_neg (by simp)]; rfl)
    (fuel - 1) 1 (edgeL vs 0) (by omega) (by have := fuel_lt (vs.length + 1) (by omega); omega) ⟨by omega, (edgeL_bd hc 0 (by omega)).1⟩
  rw [allR_tt, if_pos rfl] at this
  have he := edgeL_bd hc 0 (by omega)
  have e : fuel = (fuel - 1) + 1 := by have := fuel_lt 1 (by decide); omega
  rw [e, show ref11_ShortestEdge_l2 vs ref11_ShortestEdge_j3 (fuel - 1 + 1) (-1) 0 = ref11_ShortestEdge_l2 vs ref11_ShortestEdge_j3 (fuel - 1 + 1) (-1) ((0 : Nat) : Int) from rfl, step _ 0 (-1) (by omega), if_pos (by omega)]
  refine Eq.trans this ?_
  have e2 : vs.length = (vs.length - 1) + 1 := by omega
  rw [show foldR (fun i m => min m (edgeL vs i)) 0 vs.length 536870911 = foldR (fun i m => min m (edgeL vs i)) 0 (vs.length - 1 + 1) 536870911 by rw [← e2]]
  show _ = some (foldR _ 1 (vs.length - 1) (min 536870911 (edgeL vs 0)))
  rw [show min 536870911 (edgeL vs 0) = edgeL vs 0 by omega]
theorem ref11_cross_eq (vs : List Vec) (i : Nat) (h : i + 1 < vs.length) (h2 : vs.length ≤ 4611686018427387904) : ref11_cross vs (i : Int) = some (crossAt vs i) := by
  unfold ref11_cross
  rw [Chk_of (by omega), Chk_of (by omega), Chk_of (by omega), Chk_of (by omega), Let_eq, w64_of ((i : Int) + 1) (by omega), Chk_of (by omega), Chk_of (by omega), Chk_of (by omega), Chk_of (by omega), Let_eq, ref01_RoundDiv_eq, Bind_some]
  simp only [w64_ml, w64_mr, w64_sl, w64_sr]
  rfl
theorem ref11_Area_eq (vs : List Vec) : ref11_Area vs = some (areaV vs) := by
  unfold ref11_Area areaV
  rw [ref11_IsConvex_eq, Bind_some]
  cases hc : convexB vs
  · rfl
  obtain ⟨h3, h8, -⟩ := convexB_len hc
  rw [if_neg (by simp), if_pos rfl]
  have := loop_gen (vs.length - 1) (fun _ => true) (fun i a => w64 (a + crossAt vs i)) (fun _ _ => True) (fun n a j => ref11_Area_l1 vs ref11_Area_j2 n a j) (fun a => some (rdv a 2)) none
    (fun n i a hi _ => by
      refine ⟨?_, fun _ => trivial⟩
      rw [ref11_Area_l1]
      rw [w64_of ((i : Int) + 1) (by omega), if_pos (by simp; omega), ref11_cross_eq vs i (by omega) (by omega), Bind_some, Let_eq, Let_eq, if_pos rfl])
    (fun n s _ => by rw [ref11_Area_l1, w64_of _ (by omega), if_neg (by simp; omega)]; unfold ref11_Area_j2; rw [ref01_RoundDiv_eq]; rfl)
    fuel 1 0 (by omega) (fuel_lt _ (by omega)) trivial
  rw [allR_tt, if_pos rfl, show vs.length - 1 - 1 = vs.length - 2 by omega] at this
  exact this
theorem ref12_countMatches_eq (s : Shape) (h : 1 ≤ s.Kind ∧ s.Kind ≤ 3) : ref12_countMatches s = countB s := by
  unfold ref12_countMatches countB
  simp only [Let_eq, beq_iff_eq, cond_and]
  by_cases h3 : s.Kind = 3
  · rw [if_pos h3, if_neg (by omega), if_neg (by omega), Bool.eq_iff_iff]; simp only [Bool.and_eq_true, decide_eq_true_eq]; omega
  · rw [if_neg h3]
    by_cases h1 : s.Kind = 1
    · rw [if_pos h1, Bool.eq_iff_iff]; simp only [beq_iff_eq]; omega
    · rw [if_neg h1, if_pos (by omega), Bool.eq_iff_iff]; simp only [beq_iff_eq]; omega
theorem ref12_Validate_eq (s : Shape) : ref12_Validate s = some (validS s) := by
  unfold ref12_Validate validS
  simp only [Let_eq, cond_or, Bool.or_eq_true, decide_eq_true_eq]
  by_cases h1 : s.Kind < 1 ∨ 3 < s.Kind
  · rw [if_pos h1, if_pos h1]
  rw [if_neg h1, if_neg h1, ref12_countMatches_eq s (by omega)]
  cases hc : countB s
  · rfl
  obtain ⟨l1, l8, l2⟩ := countB_len hc
  rw [if_neg (by simp), if_neg (show ¬ true = false by simp)]
  have := loop_gen s.Vertices.length (fun j => inRng 1048576 (ix s.Vertices (j : Int))) (fun _ (s : Unit) => s) (fun _ _ => True) (fun n _ i => ref12_Validate_l1 s (ref12_Validate_j2 s) n i) (fun _ => ref12_Validate_j2 s) (some 6)
    (fun n i _ hi _ => by
      refine ⟨?_, fun _ => trivial⟩
      rw [ref12_Validate_l1]
      rw [if_pos (by simpa using hi), Chk_of (by omega), Let_eq, Chk_of (by omega), Let_eq, Let_eq, w64_of ((i : Int) + 1) (by omega)]
      unfold ref12_within inRng
      simp only [Let_eq, cond_and, cond_or]
      rw [show w64 (0 - 1048576) = -1048576 from rfl]
      cases h1 : decide (-1048576 ≤ (ix s.Vertices (i : Int)).X) <;> cases h2 : decide ((ix s.Vertices (i : Int)).X ≤ 1048576) <;> cases h3 : decide (-1048576 ≤ (ix s.Vertices (i : Int)).Y) <;> cases h4 : decide ((ix s.Vertices (i : Int)).Y ≤ 1048576) <;> rfl)
    (fun n s _ => by rw [ref12_Validate_l1, if_neg (by simp)])
    fuel 0 () (by omega) (fuel_lt _ (by omega)) trivial
  rw [Nat.sub_zero, allR_all] at this
  rw [show ref12_Validate_l1 s (ref12_Validate_j2 s) fuel 0 = ref12_Validate_l1 s (ref12_Validate_j2 s) fuel ((0 : Nat) : Int) from rfl, this]
  cases ha : s.Vertices.all (inRng 1048576)
  · rfl
  rw [if_pos rfl, if_neg (show ¬ true = false by simp)]
  unfold ref12_Validate_j2 radiusBad
  simp only [cond_and, cond_or, Let_eq]
  have er : ((s.Kind == 3) && (s.Radius != 0) || (s.Kind != 3) && (decide (s.Radius < 2048) || decide (524288 < s.Radius))) = (if s.Kind = 3 then s.Radius != 0 else decide (s.Radius < 2048) || decide (524288 < s.Radius)) := by
    by_cases k3 : s.Kind = 3
    · simp [k3]
    · have e1 : (s.Kind == 3) = false := by simpa using k3
      have e2 : (s.Kind != 3) = true := by simpa using k3
      rw [e1, e2, if_neg k3, Bool.false_and, Bool.true_and, Bool.false_or]
  rw [er]
  cases hR : (if s.Kind = 3 then s.Radius != 0 else decide (s.Radius < 2048) || decide (524288 < s.Radius))
  case true => rfl
  rw [if_neg (show ¬ false = true by simp), if_neg (show ¬ false = true by simp), Chk_of (by intro h; simp at h; have := l2 h; omega), Chk_of (by intro h; simp at h; have := l2 h; omega), ref03_Sub_eq]
  simp only [ref03_Length_eq, ref11_IsConvex_eq, ref11_ShortestEdge_eq, ref11_Area_eq, Let_eq, cond_and, cond_or, Bool.and_eq_true, decide_eq_true_eq, beq_iff_eq]
  by_cases k2 : s.Kind = 2
  · by_cases hl : lenV (subV (ix s.Vertices 1) (ix s.Vertices 0)) < 4096
    · simp [k2, hl]
    · simp [k2, hl]
  · by_cases k3 : s.Kind = 3
    · cases hcx : convexB s.Vertices
      · simp [k3]
      · by_cases hsE : shortE s.Vertices < 4096
        · simp [k3, hsE, show ¬ (4096 ≤ shortE s.Vertices) by omega]
        · by_cases hA : areaV s.Vertices < 256 <;> simp [k3, hsE, hA, show (4096 ≤ shortE s.Vertices) by omega]
    · simp [k2, k3]
end GoOld


/- The plain law of mass data. No conditions. -/
set_option linter.all false
open Go Go.Rx

namespace GoOld
open GoForm
end GoOld


/- The plain law of mass data: the reference computes the same. No conditions. -/
set_option linter.all false
open Go Go.Rx

namespace GoOld
open GoForm
end GoOld


/- The plain law of bodies that are compared and moved. No conditions. -/
set_option linter.all false
open Go Go.Rx

namespace GoOld
open GoForm
theorem Vec_beq_eq (x y : Vec) : Vec.beq x y = decide (x = y) := by
  cases x; cases y; unfold Vec.beq; rw [Bool.eq_iff_iff]; simp
theorem Transform_beq_eq (x y : Transform) : Transform.beq x y = decide (x = y) := by
  cases x; cases y; unfold Transform.beq; rw [Vec_beq_eq, Bool.eq_iff_iff]; simp
theorem slices_Equal_Vec_eq (a b : List Vec) (h : a.length ≤ 4611686018427387904) : slices_Equal_Vec a b = some (decide (a = b)) := by
  unfold slices_Equal_Vec
  by_cases hl : a.length = b.length
  · rw [if_neg (by simp [hl])]
    have := loop_gen a.length (fun i => decide (ix a (i : Int) = ix b (i : Int))) (fun _ (s : Unit) => s) (fun _ _ => True) (fun n _ i => slices_Equal_Vec_l1 a b slices_Equal_Vec_j2 n i) (fun _ => some true) (some false)
      (fun n i s hi _ => by
        refine ⟨?_, fun _ => trivial⟩
        rw [slices_Equal_Vec_l1]
        rw [if_pos (by simpa using hi), Chk_of (by omega), Chk_of (by omega), Let_eq, Vec_beq_eq, w64_of _ (by omega)]
        by_cases e : ix a (i : Int) = ix b (i : Int)
        · rw [decide_eq_true e]; rfl
        · rw [decide_eq_false e]; rfl)
      (fun n s _ => by rw [slices_Equal_Vec_l1, if_neg (by simp)]; rfl)
      fuel 0 () (by omega) (fuel_lt _ (by omega)) trivial
    rw [Nat.sub_zero, allR_eq a b hl] at this
    rw [show slices_Equal_Vec_l1 a b slices_Equal_Vec_j2 fuel 0 = slices_Equal_Vec_l1 a b slices_Equal_Vec_j2 fuel ((0 : Nat) : Int) from rfl, this]
    by_cases e : a = b
    · rw [decide_eq_true e]; rfl
    · rw [decide_eq_false e]; rfl
  · rw [if_pos (by simpa using fun h => hl (by omega)), decide_eq_false (fun h => hl (by rw [h]))]
theorem shape_Equal_eq (a b : Shape) (h : a.Vertices.length ≤ 4611686018427387904) : shape_Equal a b = some (decide (a = b)) := by
  unfold shape_Equal
  rw [slices_Equal_Vec_eq _ _ h]
  cases a with | mk ak ar av => cases b with | mk bk br bv =>
  simp only [cond_and, Let_eq]
  by_cases h1 : ak = bk
  · by_cases h2 : ar = br
    · subst h1 h2; simp
    · simp [h1, h2]
  · simp [h1]
theorem body_equalFixtures_eq (a b : Fixture) (h : a.Shape.Vertices.length ≤ 4611686018427387904) : body_equalFixtures a b = some (decide (a = b)) := by
  unfold body_equalFixtures
  rw [shape_Equal_eq _ _ h]
  cases a; cases b
  simp only [cond_and, Let_eq, Bind_some]
  congr 1
  rw [Bool.eq_iff_iff]
  simp only [Bool.and_eq_true, decide_eq_true_eq, beq_iff_eq, Fixture.mk.injEq]
  grind
def FixOk (b : Body) : Prop := b.Fixtures.length ≤ 4611686018427387904 ∧ ∀ f ∈ b.Fixtures, f.Shape.Vertices.length ≤ 4611686018427387904
theorem body_Equal_eq (a b : Body) (h : FixOk a) : body_Equal a b = some (decide (a = b)) := by
  obtain ⟨h1, h2⟩ := h
  unfold body_Equal
  by_cases hl : a.Fixtures.length = b.Fixtures.length
  · rw [if_neg (by simp [hl])]
    have := loop_gen a.Fixtures.length (fun i => decide (ix a.Fixtures (i : Int) = ix b.Fixtures (i : Int))) (fun _ (s : Unit) => s) (fun _ _ => True) (fun n _ i => body_Equal_l1 a b (body_Equal_j2 a b) n i) (fun _ => body_Equal_j2 a b) (some false)
      (fun n i s hi _ => by
        refine ⟨?_, fun _ => trivial⟩
        rw [body_Equal_l1]
        rw [if_pos (by simpa using hi), Chk_of (by omega), Let_eq, Chk_of (by omega), body_equalFixtures_eq _ _ (h2 _ (ix_mem _ _ (by omega))), Bind_some, Let_eq, w64_of _ (by omega)]
        by_cases e : ix a.Fixtures (i : Int) = ix b.Fixtures (i : Int)
        · rw [decide_eq_true e]; rfl
        · rw [decide_eq_false e]; rfl)
      (fun n s _ => by rw [body_Equal_l1, if_neg (by simp)])
      fuel 0 () (by omega) (fuel_lt _ (by omega)) trivial
    rw [Nat.sub_zero, allR_eq _ _ hl] at this
    rw [show body_Equal_l1 a b (body_Equal_j2 a b) fuel 0 = body_Equal_l1 a b (body_Equal_j2 a b) fuel ((0 : Nat) : Int) from rfl, this]
    by_cases e : a.Fixtures = b.Fixtures
    · rw [if_pos (decide_eq_true e)]
      unfold body_Equal_j2
      simp only [Let_eq, cond_and, Vec_beq_eq, Transform_beq_eq]
      congr 1
      cases a; cases b
      rw [Bool.eq_iff_iff]
      simp only [Bool.and_eq_true, decide_eq_true_eq, beq_iff_eq, Body.mk.injEq] at e ⊢
      grind
    · rw [if_neg (by simpa using e), decide_eq_false (fun h => e (by rw [h]))]
  · rw [if_pos (by simpa using fun h => hl (by omega)), decide_eq_false (fun h => hl (by rw [h]))]
end GoOld


/- The plain law of bodies: the reference compares and clamps them as the program does. No conditions. -/
set_option linter.all false
open Go Go.Rx

namespace GoOld
open GoForm
end GoOld


/- The plain law of bodies that are valid. No conditions. -/
set_option linter.all false
open Go Go.Rx

namespace GoOld
open GoForm
def Wn (x lo hi : Int) : Prop := lo ≤ x ∧ x ≤ hi
instance (x lo hi : Int) : Decidable (Wn x lo hi) := inferInstanceAs (Decidable (_ ∧ _))
def Bd (v : Vec) (lim : Int) : Prop := Wn v.X (-lim) lim ∧ Wn v.Y (-lim) lim
instance (v : Vec) (lim : Int) : Decidable (Bd v lim) := inferInstanceAs (Decidable (_ ∧ _))
theorem body_within_eq (x lo hi : Int) : body_within x lo hi = decide (Wn x lo hi) := by
  unfold body_within; rw [Let_eq, cond_and, Bool.eq_iff_iff]; simp only [Bool.and_eq_true, decide_eq_true_eq]; exact Iff.rfl
theorem body_bounded_eq (v : Vec) (lim : Int) (h : 0 ≤ lim ∧ lim ≤ 9223372036854775807) : body_bounded v lim = decide (Bd v lim) := by
  unfold body_bounded; simp only [Let_eq, cond_and, body_within_eq]
  rw [w64_of _ (by omega), show 0 - lim = -lim by omega, Bool.eq_iff_iff]; simp only [Bool.and_eq_true, decide_eq_true_eq]; exact Iff.rfl
def TrOk (t : Transform) : Prop := Bd t.Position 268435456 ∧ -205888 ≤ t.Angle ∧ t.Angle < 205888
instance (t : Transform) : Decidable (TrOk t) := inferInstanceAs (Decidable (_ ∧ _))
theorem transform_Valid_eq (t : Transform) : transform_Valid t = decide (TrOk t) := by
  unfold transform_Valid transform_inWorld TrOk Bd Wn; simp only [Let_eq, cond_and, Bool.decide_and]
  rw [Bool.eq_iff_iff]; simp only [Bool.and_eq_true, decide_eq_true_eq]; grind
def RngOk (b : Body) : Prop :=
  Wn b.ID 1 1099511627776 ∧ TrOk b.Transform ∧ Bd b.Velocity 16777216 ∧ Wn b.AngularVelocity (-4194304) 4194304 ∧ Bd b.Force 536870911 ∧ Wn b.Torque (-536870911) 536870911 ∧
  Wn b.LinearDamping 0 65536 ∧ Wn b.AngularDamping 0 65536 ∧ Wn b.GravityScale (-262144) 262144 ∧ Wn b.IdleSteps 0 1048576
instance (b : Body) : Decidable (RngOk b) := inferInstanceAs (Decidable (_ ∧ _))
theorem body_inRange_eq (b : Body) : body_inRange b = decide (RngOk b) := by
  unfold body_inRange RngOk
  simp only [Let_eq, cond_and, body_within_eq, transform_Valid_eq]
  rw [body_bounded_eq _ _ (by omega), body_bounded_eq _ _ (by omega)]
  rw [Bool.eq_iff_iff]; simp only [Bool.and_eq_true, decide_eq_true_eq]; grind
def validF (f : Fixture) : Int :=
  if validS f.Shape ≠ 0 then validS f.Shape else
  if Wn f.Density 0 262144 ∧ Wn f.Friction 0 131072 ∧ Wn f.Restitution 0 65536 ∧ Wn f.Category 0 65535 ∧ Wn f.Mask 0 65535 ∧ Wn f.Group (-32) 32 then 0 else 6
theorem body_ValidateFixture_eq (f : Fixture) : body_ValidateFixture f = some (validF f) := by
  unfold body_ValidateFixture validF
  rw [shape_Validate_eq, Bind_some]
  simp only [bne_iff_ne, Let_eq, cond_and, cond_or, body_within_eq]
  by_cases h : validS f.Shape ≠ 0
  · rw [if_pos h, if_pos h]
  rw [if_neg h, if_neg h]
  by_cases c : Wn f.Density 0 262144 ∧ Wn f.Friction 0 131072 ∧ Wn f.Restitution 0 65536 ∧ Wn f.Category 0 65535 ∧ Wn f.Mask 0 65535 ∧ Wn f.Group (-32) 32
  · rw [if_pos c, if_neg (by simp only [Bool.or_eq_true, Bool.not_eq_true', Bool.and_eq_false_iff, decide_eq_false_iff_not]; grind)]
  · rw [if_neg c, if_pos (by simp only [Bool.or_eq_true, Bool.not_eq_true', Bool.and_eq_false_iff, decide_eq_false_iff_not]; grind)]
def consB (b : Body) : Bool :=
  if b.Kind = 1 ∧ (b.Velocity ≠ ⟨0, 0⟩ ∨ b.AngularVelocity ≠ 0 ∨ b.Force ≠ ⟨0, 0⟩ ∨ b.Torque ≠ 0) then false else
  if b.Kind ≠ 3 ∧ (b.Asleep = true ∨ b.Bullet = true) then false else
  decide (b.Asleep = true → b.Velocity = ⟨0, 0⟩ ∧ b.AngularVelocity = 0)
theorem body_consistent_eq (b : Body) : body_consistent b = consB b := by
  unfold body_consistent consB body_moving
  simp only [Let_eq, cond_and, cond_or, Vec_beq_eq]
  by_cases h1 : b.Kind = 1 ∧ (b.Velocity ≠ ⟨0, 0⟩ ∨ b.AngularVelocity ≠ 0 ∨ b.Force ≠ ⟨0, 0⟩ ∨ b.Torque ≠ 0)
  · rw [if_pos h1, if_pos (by simp only [Bool.and_eq_true, Bool.or_eq_true, beq_iff_eq, bne_iff_ne, Bool.not_eq_true', decide_eq_false_iff_not]; grind)]
  rw [if_neg h1, if_neg (by simp only [Bool.and_eq_true, Bool.or_eq_true, beq_iff_eq, bne_iff_ne, Bool.not_eq_true', decide_eq_false_iff_not]; grind)]
  by_cases h2 : b.Kind ≠ 3 ∧ (b.Asleep = true ∨ b.Bullet = true)
  · rw [if_pos h2, if_pos (by simp only [Bool.and_eq_true, Bool.or_eq_true, bne_iff_ne]; exact h2)]
  rw [if_neg h2, if_neg (by simp only [Bool.and_eq_true, Bool.or_eq_true, bne_iff_ne]; exact h2), Bool.eq_iff_iff]
  simp only [Bool.or_eq_true, Bool.not_eq_true', decide_eq_true_eq, Bool.or_eq_false_iff, Bool.not_eq_false', bne_eq_false_iff_eq]
  cases b.Asleep <;> simp
def validB (b : Body) : Int :=
  if b.Kind ≠ 1 ∧ b.Kind ≠ 2 ∧ b.Kind ≠ 3 then 10 else if ¬ RngOk b then 6 else if 4 < b.Fixtures.length then 11 else
  if b.Fixtures.all (fun f => decide (validF f = 0)) = false then 13 else if consB b = false then 14 else 0
theorem body_Validate_eq (b : Body) : body_Validate b = some (validB b) := by
  unfold body_Validate validB
  simp only [Let_eq, cond_and, Bool.and_eq_true, bne_iff_ne, body_inRange_eq, Bool.not_eq_true', decide_eq_false_iff_not, decide_eq_true_eq, and_assoc]
  by_cases h1 : b.Kind ≠ 1 ∧ b.Kind ≠ 2 ∧ b.Kind ≠ 3
  · rw [if_pos h1, if_pos h1]
  rw [if_neg h1, if_neg h1]
  by_cases h2 : RngOk b
  · have h2' : ¬ ¬ RngOk b := fun h => h h2
    rw [if_neg h2', if_neg h2']
    by_cases h3 : 4 < b.Fixtures.length
    · rw [if_pos (show 4 < (b.Fixtures.length : Int) by omega), if_pos h3]
    rw [if_neg (show ¬ 4 < (b.Fixtures.length : Int) by omega), if_neg h3]
    have := loop_gen b.Fixtures.length (fun i => decide (validF (ix b.Fixtures (i : Int)) = 0)) (fun _ (s : Unit) => s) (fun _ _ => True) (fun n _ i => body_Validate_l1 b (body_Validate_j2 b) n i) (fun _ => body_Validate_j2 b) (some 13)
      (fun n i s hi _ => by
        refine ⟨?_, fun _ => trivial⟩
        rw [body_Validate_l1]
        rw [if_pos (by simpa using hi), Chk_of (by omega), Let_eq, body_ValidateFixture_eq, Bind_some, Let_eq, w64_of _ (by omega)]
        by_cases e : validF (ix b.Fixtures (i : Int)) = 0
        · rw [if_neg (by simp [e]), if_pos (decide_eq_true e)]
        · rw [if_pos (by simp [e]), if_neg (by simpa using e)])
      (fun n s _ => by rw [body_Validate_l1, if_neg (by simp)])
      fuel 0 () (by omega) (fuel_lt _ (by omega)) trivial
    rw [Nat.sub_zero, allR_all (fun f => decide (validF f = 0))] at this
    refine Eq.trans this ?_
    cases hA : b.Fixtures.all (fun f => decide (validF f = 0))
    · rfl
    rw [if_pos rfl, if_neg (by simp)]
    unfold body_Validate_j2
    simp only [Let_eq, body_consistent_eq]
    cases consB b <;> rfl
  · rw [if_pos h2, if_pos h2]
end GoOld


/- The plain law of bodies that are valid: the reference says the same. No conditions. -/
set_option linter.all false
open Go Go.Rx

namespace GoOld
open GoForm
theorem ref23_in_eq (x lo hi : Int) : ref23_in x lo hi = decide (Wn x lo hi) := by
  unfold ref23_in; rw [Let_eq, cond_and, Bool.eq_iff_iff]; simp only [Bool.and_eq_true, decide_eq_true_eq]; exact Iff.rfl
theorem ref04_Valid_eq (t : Transform) : ref04_Valid t = decide (TrOk t) := by
  unfold ref04_Valid ref04_outside TrOk Bd Wn; simp only [Let_eq, cond_and, cond_or]
  rw [Bool.eq_iff_iff]; simp only [Bool.and_eq_true, Bool.not_eq_true', Bool.or_eq_false_iff, decide_eq_true_eq, decide_eq_false_iff_not]; grind
theorem ref23_inRange_eq (b : Body) : ref23_inRange b = decide (RngOk b) := by
  unfold ref23_inRange
  simp only [Let_eq, cond_and, cond_or, ref23_in_eq, ref04_Valid_eq]
  have e : decide (RngOk b) = (decide (Wn b.ID 1 1099511627776) && decide (TrOk b.Transform) && decide (Wn b.Velocity.X (-16777216) 16777216) && decide (Wn b.Velocity.Y (-16777216) 16777216) && decide (Wn b.AngularVelocity (-4194304) 4194304) &&
      (decide (Wn b.Force.X (-536870911) 536870911) && decide (Wn b.Force.Y (-536870911) 536870911) && decide (Wn b.Torque (-536870911) 536870911)) &&
      (decide (Wn b.LinearDamping 0 65536) && decide (Wn b.AngularDamping 0 65536) && decide (Wn b.GravityScale (-262144) 262144) && decide (Wn b.IdleSteps 0 1048576))) := by
    rw [Bool.eq_iff_iff]; simp only [Bool.and_eq_true, decide_eq_true_eq]; unfold RngOk Bd; grind
  rw [e]
  have n3 : ∀ a b c d e : Bool, (!a || !b || !c || !d || !e) = !(a && b && c && d && e) := by intro a b c d e; cases a <;> cases b <;> cases c <;> cases d <;> cases e <;> rfl
  have n2 : ∀ a b c : Bool, (!a || !b || !c) = !(a && b && c) := by intro a b c; cases a <;> cases b <;> cases c <;> rfl
  rw [n3, n2]
  generalize (decide (Wn b.ID 1 1099511627776) && decide (TrOk b.Transform) && decide (Wn b.Velocity.X (-16777216) 16777216) && decide (Wn b.Velocity.Y (-16777216) 16777216) && decide (Wn b.AngularVelocity (-4194304) 4194304)) = P
  generalize (decide (Wn b.Force.X (-536870911) 536870911) && decide (Wn b.Force.Y (-536870911) 536870911) && decide (Wn b.Torque (-536870911) 536870911)) = Q
  cases P
  · rfl
  · cases Q
    · rfl
    · simp
theorem ref23_ValidateFixture_eq (f : Fixture) : ref23_ValidateFixture f = some (validF f) := by
  unfold ref23_ValidateFixture validF
  rw [ref12_Validate_eq, Bind_some]
  simp only [bne_iff_ne, Let_eq, cond_or, ref23_in_eq]
  by_cases h : validS f.Shape ≠ 0
  · rw [if_pos h, if_pos h]
  rw [if_neg h, if_neg h]
  by_cases c : Wn f.Density 0 262144 ∧ Wn f.Friction 0 131072 ∧ Wn f.Restitution 0 65536 ∧ Wn f.Category 0 65535 ∧ Wn f.Mask 0 65535 ∧ Wn f.Group (-32) 32
  · rw [if_pos c, if_neg (by simp only [Bool.or_eq_true, Bool.not_eq_true', decide_eq_false_iff_not]; grind)]
  · rw [if_neg c, if_pos (by simp only [Bool.or_eq_true, Bool.not_eq_true', decide_eq_false_iff_not]; grind)]
theorem ref23_Validate_eq (b : Body) : ref23_Validate b = some (validB b) := by
  unfold ref23_Validate validB
  simp only [Let_eq, cond_and, Bool.and_eq_true, bne_iff_ne, ref23_inRange_eq, Bool.not_eq_true', decide_eq_false_iff_not, decide_eq_true_eq, and_assoc]
  by_cases h1 : b.Kind ≠ 1 ∧ b.Kind ≠ 2 ∧ b.Kind ≠ 3
  · rw [if_pos h1, if_pos h1]
  rw [if_neg h1, if_neg h1]
  by_cases h2 : RngOk b
  · have h2' : ¬ ¬ RngOk b := fun h => h h2
    rw [if_neg h2', if_neg h2']
    by_cases h3 : 4 < b.Fixtures.length
    · rw [if_pos (show 4 < (b.Fixtures.length : Int) by omega), if_pos h3]
    rw [if_neg (show ¬ 4 < (b.Fixtures.length : Int) by omega), if_neg h3]
    have := loop_gen b.Fixtures.length (fun i => decide (validF (ix b.Fixtures (i : Int)) = 0)) (fun _ (s : Unit) => s) (fun _ _ => True) (fun n _ i => ref23_Validate_l1 b (ref23_Validate_j2 b) n i) (fun _ => ref23_Validate_j2 b) (some 13)
      (fun n i s hi _ => by
        refine ⟨?_, fun _ => trivial⟩
        rw [ref23_Validate_l1]
        rw [if_pos (by simpa using hi), Chk_of (by omega), ref23_ValidateFixture_eq, Bind_some, Let_eq, w64_of _ (by omega)]
        by_cases e : validF (ix b.Fixtures (i : Int)) = 0
        · rw [if_neg (by simp [e]), if_pos (decide_eq_true e)]
        · rw [if_pos (by simp [e]), if_neg (by simpa using e)])
      (fun n s _ => by rw [ref23_Validate_l1, if_neg (by simp)])
      fuel 0 () (by omega) (fuel_lt _ (by omega)) trivial
    rw [Nat.sub_zero, allR_all (fun f => decide (validF f = 0))] at this
    refine Eq.trans this ?_
    cases hA : b.Fixtures.all (fun f => decide (validF f = 0))
    · rfl
    rw [if_pos rfl, if_neg (by simp)]
    unfold ref23_Validate_j2 consB
    simp only [Let_eq, cond_and, cond_or, Vec_beq_eq]
    by_cases c1 : b.Kind = 1 ∧ (b.Velocity ≠ ⟨0, 0⟩ ∨ b.AngularVelocity ≠ 0 ∨ b.Force ≠ ⟨0, 0⟩ ∨ b.Torque ≠ 0)
    · rw [if_pos c1, if_pos rfl, if_pos (by simp only [Bool.and_eq_true, Bool.or_eq_true, beq_iff_eq, bne_iff_ne, Bool.not_eq_true', decide_eq_false_iff_not]; grind)]
    rw [if_neg c1]
    by_cases c2 : b.Kind ≠ 3 ∧ (b.Asleep = true ∨ b.Bullet = true)
    · rw [if_pos c2, if_pos rfl, if_pos (by simp only [Bool.and_eq_true, Bool.or_eq_true, beq_iff_eq, bne_iff_ne, Bool.not_eq_true', decide_eq_false_iff_not]; grind)]
    rw [if_neg c2]
    by_cases c3 : b.Asleep = true → b.Velocity = ⟨0, 0⟩ ∧ b.AngularVelocity = 0
    · rw [if_neg (show ¬ decide _ = false by simpa using c3), if_neg (by simp only [Bool.and_eq_true, Bool.or_eq_true, beq_iff_eq, bne_iff_ne, Bool.not_eq_true', decide_eq_false_iff_not]; grind)]
    · rw [if_pos (show decide _ = false by simpa using c3), if_pos (by simp only [Bool.and_eq_true, Bool.or_eq_true, beq_iff_eq, bne_iff_ne, Bool.not_eq_true', decide_eq_false_iff_not]; grind)]
  · rw [if_pos h2, if_pos h2]
end GoOld


/- The plain law of impulses. No conditions. -/
set_option linter.all false
open Go Go.Rx

namespace GoOld
open GoForm
end GoOld


/- The plain law of impulses: the reference computes the same. No conditions. -/
set_option linter.all false
open Go Go.Rx

namespace GoOld
open GoForm
end GoOld


/- The plain law of boxes, segments and points in shapes. No conditions. -/
set_option linter.all false
open Go Go.Rx

namespace GoOld
open GoForm
end GoOld


/- The plain law of boxes, segments and points in shapes: the reference computes the same. No conditions. -/
set_option linter.all false
open Go Go.Rx

namespace GoOld
open GoForm
end GoOld


set_option linter.all false
set_option maxRecDepth 100000
open Go Go.Rx

namespace GoForm
theorem Bind_br {α β : Type} {m : Option α} {k k' : α → Option β} (h : ∀ x, k x = k' x) : Rx.Bind m k = Rx.Bind m k' := by rw [funext h]
theorem ite_br {α : Type} {c : Prop} [Decidable c] {a b a' b' : α} (h1 : a = a') (h2 : b = b') : (if c then a else b) = (if c then a' else b') := by rw [h1, h2]
theorem Chk_br {α : Type} {c : Prop} [Decidable c] {k k' : Option α} (h : k = k') : Chk c k = Chk c k' := by rw [h]
theorem LOOP_br1 {A X : Type} {step : (A → Option X) → A → Option X} {g : Nat → A → Option X} (h0 : ∀ a, g 0 a = none) (hs : ∀ n (r : A → Option X), (∀ a, r a = g n a) → ∀ a, step r a = g (n + 1) a) : ∀ n a, LOOP step n a = g n a
  | 0, a => (h0 a).symm
  | n + 1, a => hs n _ (LOOP_br1 h0 hs n) a
theorem LOOP_br2 {A B X : Type} {step : (A × B → Option X) → A × B → Option X} {g : Nat → A → B → Option X} (h0 : ∀ a b, g 0 a b = none) (hs : ∀ n (r : A × B → Option X), (∀ a b, r (a, b) = g n a b) → ∀ a b, step r (a, b) = g (n + 1) a b) : ∀ n a b, LOOP step n (a, b) = g n a b
  | 0, a, b => (h0 a b).symm
  | n + 1, a, b => hs n _ (LOOP_br2 h0 hs n) a b
theorem LOOP_br3 {A B C X : Type} {step : (A × B × C → Option X) → A × B × C → Option X} {g : Nat → A → B → C → Option X} (h0 : ∀ a b c, g 0 a b c = none) (hs : ∀ n (r : A × B × C → Option X), (∀ a b c, r (a, b, c) = g n a b c) → ∀ a b c, step r (a, b, c) = g (n + 1) a b c) : ∀ n a b c, LOOP step n (a, b, c) = g n a b c
  | 0, a, b, c => (h0 a b c).symm
  | n + 1, a, b, c => hs n _ (LOOP_br3 h0 hs n) a b c
theorem br_body_within (x0 : Int) (low1 : Int) (high2 : Int) : body_within x0 low1 high2 = some (GoOld.body_within x0 low1 high2) := by
  unfold body_within GoOld.body_within
  try simp only [Let_nr, Bind_snr, Bind_if, gd1, gd2, gd3, gd4, gd5, gd6, w64, gt_iff_lt, ge_iff_le, Join_nr]
  first | done | rfl | ((try simp only [cond_or, cond_and]); first | done | rfl | grind | (((repeat' split) <;> simp_all); done))

theorem br_body_bounded (v0 : Vec) (limit1 : Int) : body_bounded v0 limit1 = some (GoOld.body_bounded v0 limit1) := by
  unfold body_bounded GoOld.body_bounded
  try simp only [Let_nr, Bind_snr, Bind_if, gd1, gd2, gd3, gd4, gd5, gd6, w64, gt_iff_lt, ge_iff_le, Join_nr, GoOld.Vec.beq, GoOld.Transform.beq, br_body_within]
  first | done | rfl | ((try simp only [cond_or, cond_and]); first | done | rfl | grind | (((repeat' split) <;> simp_all); done))

theorem br_transform_inWorld (x0 : Int) : transform_inWorld x0 = some (GoOld.transform_inWorld x0) := by
  unfold transform_inWorld GoOld.transform_inWorld
  try simp only [Let_nr, Bind_snr, Bind_if, gd1, gd2, gd3, gd4, gd5, gd6, w64, gt_iff_lt, ge_iff_le, Join_nr]
  first | done | rfl | ((try simp only [cond_or, cond_and]); first | done | rfl | grind | (((repeat' split) <;> simp_all); done))

theorem br_transform_Valid (t0 : Transform) : transform_Valid t0 = some (GoOld.transform_Valid t0) := by
  unfold transform_Valid GoOld.transform_Valid
  try simp only [Let_nr, Bind_snr, Bind_if, gd1, gd2, gd3, gd4, gd5, gd6, w64, gt_iff_lt, ge_iff_le, Join_nr, GoOld.Vec.beq, GoOld.Transform.beq, br_transform_inWorld]
  first | done | rfl | ((try simp only [cond_or, cond_and]); first | done | rfl | grind | (((repeat' split) <;> simp_all); done))

theorem br_body_inRange (b0 : Body) : body_inRange b0 = some (GoOld.body_inRange b0) := by
  unfold body_inRange GoOld.body_inRange
  try simp only [Let_nr, Bind_snr, Bind_if, gd1, gd2, gd3, gd4, gd5, gd6, w64, gt_iff_lt, ge_iff_le, Join_nr, GoOld.Vec.beq, GoOld.Transform.beq, br_body_within, br_body_bounded, br_transform_Valid]
  first | done | rfl | ((try simp only [cond_or, cond_and]); first | done | rfl | grind | (((repeat' split) <;> simp_all); done))

theorem br_shape_validCount (s0 : Shape) : shape_validCount s0 = some (GoOld.shape_validCount s0) := by
  unfold shape_validCount GoOld.shape_validCount
  try simp only [Let_nr, Bind_snr, Bind_if, gd1, gd2, gd3, gd4, gd5, gd6, w64, gt_iff_lt, ge_iff_le, Join_nr, GoOld.Vec.beq, GoOld.Transform.beq]
  first | done | rfl | ((try simp only [cond_or, cond_and]); first | done | rfl | grind | (((repeat' split) <;> simp_all); done))

theorem br_slices_IndexFunc_200 (s0 : (List Vec)) (f1 : (Vec → Option Bool)) : slices_IndexFunc_200 s0 f1 = GoOld.slices_IndexFunc_Vec s0 f1 := by
  unfold slices_IndexFunc_200 GoOld.slices_IndexFunc_Vec
  generalize fuel = N
  try simp only [Let_nr, Bind_snr, Bind_if, gd1, gd2, gd3, gd4, gd5, gd6, w64, gt_iff_lt, ge_iff_le, Join_nr, GoOld.slices_IndexFunc_Vec_j2]
  (repeat (first | refine LOOP_br1 (fun _ => rfl) ?_ _ _ | refine Chk_br ?_ | refine Bind_br (fun _ => ?_) | refine ite_br ?_ ?_ | rfl))
  all_goals first | rfl | (intro n r ih v0; (first | rw [GoOld.slices_IndexFunc_Vec_l1]); (try simp only [ih, Let_nr, Bind_snr, Bind_if, gd1, gd2, gd3, gd4, gd5, gd6, w64, gt_iff_lt, ge_iff_le, Join_nr, GoOld.slices_IndexFunc_Vec_j2]); first | done | rfl | ((repeat (first | refine LOOP_br1 (fun _ => rfl) ?_ _ _ | refine Chk_br ?_ | refine Bind_br (fun _ => ?_) | refine ite_br ?_ ?_ | rfl)); all_goals first | rfl))

theorem br_slices_ContainsFunc_174 (s0 : (List Vec)) (f1 : (Vec → Option Bool)) : slices_ContainsFunc_174 s0 f1 = GoOld.slices_ContainsFunc_Vec s0 f1 := by
  unfold slices_ContainsFunc_174 GoOld.slices_ContainsFunc_Vec
  try simp only [Let_nr, Bind_snr, Bind_if, gd1, gd2, gd3, gd4, gd5, gd6, w64, gt_iff_lt, ge_iff_le, Join_nr, br_slices_IndexFunc_200]
  first | done | rfl | ((try simp only [cond_or, cond_and]); first | done | rfl | grind | (((repeat' split) <;> simp_all); done))

theorem br_shape_outOfRange (n0 : Int) : shape_outOfRange n0 = some (GoOld.shape_outOfRange n0) := by
  unfold shape_outOfRange GoOld.shape_outOfRange
  try simp only [Let_nr, Bind_snr, Bind_if, gd1, gd2, gd3, gd4, gd5, gd6, w64, gt_iff_lt, ge_iff_le, Join_nr]
  first | done | rfl | ((try simp only [cond_or, cond_and]); first | done | rfl | grind | (((repeat' split) <;> simp_all); done))

theorem br_shape_Validate_1 (v0 : Vec) : shape_Validate_1 v0 = some (GoOld.shape_Validate_c1 v0) := by
  unfold shape_Validate_1 GoOld.shape_Validate_c1
  try simp only [Let_nr, Bind_snr, Bind_if, gd1, gd2, gd3, gd4, gd5, gd6, w64, gt_iff_lt, ge_iff_le, Join_nr, GoOld.Vec.beq, GoOld.Transform.beq, br_shape_outOfRange]
  first | done | rfl | ((try simp only [cond_or, cond_and]); first | done | rfl | grind | (((repeat' split) <;> simp_all); done))

theorem br_fixed_Saturate (x0 : Int) : fixed_Saturate x0 = some (GoOld.fixed_Saturate x0) := by
  unfold fixed_Saturate GoOld.fixed_Saturate
  try simp only [Let_nr, Bind_snr, Bind_if, gd1, gd2, gd3, gd4, gd5, gd6, w64, gt_iff_lt, ge_iff_le, Join_nr]
  first | done | rfl | ((try simp only [cond_or, cond_and]); first | done | rfl | grind | (((repeat' split) <;> simp_all); done))

theorem br_fixed_Sub (a0 : Int) (b1 : Int) : fixed_Sub a0 b1 = some (GoOld.fixed_Sub a0 b1) := by
  unfold fixed_Sub GoOld.fixed_Sub
  try simp only [Let_nr, Bind_snr, Bind_if, gd1, gd2, gd3, gd4, gd5, gd6, w64, gt_iff_lt, ge_iff_le, Join_nr, br_fixed_Saturate]
  first | done | rfl | ((try simp only [cond_or, cond_and]); first | done | rfl | grind | (((repeat' split) <;> simp_all); done))

theorem br_vec2_Sub (a0 : Vec) (b1 : Vec) : vec2_Sub a0 b1 = some (GoOld.vec2_Sub a0 b1) := by
  unfold vec2_Sub GoOld.vec2_Sub
  try simp only [Let_nr, Bind_snr, Bind_if, gd1, gd2, gd3, gd4, gd5, gd6, w64, gt_iff_lt, ge_iff_le, Join_nr, br_fixed_Sub]
  first | done | rfl | ((try simp only [cond_or, cond_and]); first | done | rfl | grind | (((repeat' split) <;> simp_all); done))

theorem br_vec2_saturate (v0 : Vec) : vec2_saturate v0 = some (GoOld.vec2_saturate v0) := by
  unfold vec2_saturate GoOld.vec2_saturate
  try simp only [Let_nr, Bind_snr, Bind_if, gd1, gd2, gd3, gd4, gd5, gd6, w64, gt_iff_lt, ge_iff_le, Join_nr, br_fixed_Saturate]
  first | done | rfl | ((try simp only [cond_or, cond_and]); first | done | rfl | grind | (((repeat' split) <;> simp_all); done))

theorem br_vec2_DistanceSquared (a0 : Vec) (b1 : Vec) : vec2_DistanceSquared a0 b1 = some (GoOld.vec2_DistanceSquared a0 b1) := by
  unfold vec2_DistanceSquared GoOld.vec2_DistanceSquared
  try simp only [Let_nr, Bind_snr, Bind_if, gd1, gd2, gd3, gd4, gd5, gd6, w64, gt_iff_lt, ge_iff_le, Join_nr, br_vec2_saturate]
  first | done | rfl | ((try simp only [cond_or, cond_and]); first | done | rfl | grind | (((repeat' split) <;> simp_all); done))

theorem br_fixed_Isqrt (n0 : Int) : fixed_Isqrt n0 = GoOld.fixed_Isqrt n0 := by
  unfold fixed_Isqrt GoOld.fixed_Isqrt
  generalize fuel = N
  try simp only [Let_nr, Bind_snr, Bind_if, gd1, gd2, gd3, gd4, gd5, gd6, w64, gt_iff_lt, ge_iff_le, Join_nr, GoOld.fixed_Isqrt_j1, GoOld.fixed_Isqrt_j3]
  (repeat (first | refine LOOP_br2 (fun _ _ => rfl) ?_ _ _ _ | refine Chk_br ?_ | refine Bind_br (fun _ => ?_) | refine ite_br ?_ ?_ | rfl))
  all_goals first | rfl | (intro n r ih v0 v1; (first | rw [GoOld.fixed_Isqrt_l2]); (try simp only [ih, Let_nr, Bind_snr, Bind_if, gd1, gd2, gd3, gd4, gd5, gd6, w64, gt_iff_lt, ge_iff_le, Join_nr, GoOld.fixed_Isqrt_j1, GoOld.fixed_Isqrt_j3]); first | done | rfl | ((repeat (first | refine LOOP_br2 (fun _ _ => rfl) ?_ _ _ _ | refine Chk_br ?_ | refine Bind_br (fun _ => ?_) | refine ite_br ?_ ?_ | rfl)); all_goals first | rfl))

theorem br_vec2_Length (v0 : Vec) : vec2_Length v0 = GoOld.vec2_Length v0 := by
  unfold vec2_Length GoOld.vec2_Length
  try simp only [Let_nr, Bind_snr, Bind_if, gd1, gd2, gd3, gd4, gd5, gd6, w64, gt_iff_lt, ge_iff_le, Join_nr, br_vec2_DistanceSquared, br_fixed_Isqrt]
  first | done | rfl | ((try simp only [cond_or, cond_and]); first | done | rfl | grind | (((repeat' split) <;> simp_all); done))

theorem br_polygon_inReach (v0 : Vec) : polygon_inReach v0 = some (GoOld.polygon_inReach v0) := by
  unfold polygon_inReach GoOld.polygon_inReach
  try simp only [Let_nr, Bind_snr, Bind_if, gd1, gd2, gd3, gd4, gd5, gd6, w64, gt_iff_lt, ge_iff_le, Join_nr]
  first | done | rfl | ((try simp only [cond_or, cond_and]); first | done | rfl | grind | (((repeat' split) <;> simp_all); done))

theorem br_polygon_allInReach (points0 : (List Vec)) : polygon_allInReach points0 = GoOld.polygon_allInReach points0 := by
  unfold polygon_allInReach GoOld.polygon_allInReach
  generalize fuel = N
  try simp only [Let_nr, Bind_snr, Bind_if, gd1, gd2, gd3, gd4, gd5, gd6, w64, gt_iff_lt, ge_iff_le, Join_nr, br_polygon_inReach, GoOld.polygon_allInReach_j2]
  (repeat (first | refine LOOP_br1 (fun _ => rfl) ?_ _ _ | refine Chk_br ?_ | refine Bind_br (fun _ => ?_) | refine ite_br ?_ ?_ | rfl))
  all_goals first | rfl | (intro n r ih v0; (first | rw [GoOld.polygon_allInReach_l1]); (try simp only [ih, Let_nr, Bind_snr, Bind_if, gd1, gd2, gd3, gd4, gd5, gd6, w64, gt_iff_lt, ge_iff_le, Join_nr, br_polygon_inReach, GoOld.polygon_allInReach_j2]); first | done | rfl | ((repeat (first | refine LOOP_br1 (fun _ => rfl) ?_ _ _ | refine Chk_br ?_ | refine Bind_br (fun _ => ?_) | refine ite_br ?_ ?_ | rfl)); all_goals first | rfl))

theorem br_vec2_Orientation (a0 : Vec) (b1 : Vec) (c2 : Vec) : vec2_Orientation a0 b1 c2 = some (GoOld.vec2_Orientation a0 b1 c2) := by
  unfold vec2_Orientation GoOld.vec2_Orientation
  try simp only [Let_nr, Bind_snr, Bind_if, gd1, gd2, gd3, gd4, gd5, gd6, w64, gt_iff_lt, ge_iff_le, Join_nr, br_vec2_saturate]
  first | done | rfl | ((try simp only [cond_or, cond_and]); first | done | rfl | grind | (((repeat' split) <;> simp_all); done))

theorem br_polygon_IsConvex (vertices0 : (List Vec)) : polygon_IsConvex vertices0 = GoOld.polygon_IsConvex vertices0 := by
  unfold polygon_IsConvex GoOld.polygon_IsConvex
  simp only [Let_nr, Bind_snr, Bind_if, gd1, gd2, gd3, gd4, gd5, gd6, w64, gt_iff_lt, ge_iff_le, Join_nr, br_polygon_allInReach, br_vec2_Orientation]
  refine Bind_br (fun q => ?_)
  refine ite_br rfl ?_
  refine LOOP_br1 (fun _ => rfl) ?_ _ _
  intro n r ih v
  rw [GoOld.polygon_IsConvex_l3]
  simp only [ih, Let_nr, Bind_snr, Bind_if, gd1, gd2, gd3, gd4, gd5, gd6, w64, gt_iff_lt, ge_iff_le, Join_nr, GoOld.polygon_IsConvex_j4]
  refine ite_br ?_ rfl
  refine Chk_br ?_
  refine Chk_br ?_
  refine LOOP_br1 (fun _ => rfl) ?_ _ _
  intro n' r' ih' v'
  rw [GoOld.polygon_IsConvex_l1]
  simp only [ih', Let_nr, Bind_snr, Bind_if, gd1, gd2, gd3, gd4, gd5, gd6, w64, gt_iff_lt, ge_iff_le, Join_nr, GoOld.polygon_IsConvex_j2]

theorem br_polygon_ShortestEdge (vertices0 : (List Vec)) : polygon_ShortestEdge vertices0 = GoOld.polygon_ShortestEdge vertices0 := by
  unfold polygon_ShortestEdge GoOld.polygon_ShortestEdge
  generalize fuel = N
  try simp only [Let_nr, Bind_snr, Bind_if, gd1, gd2, gd3, gd4, gd5, gd6, w64, gt_iff_lt, ge_iff_le, Join_nr, br_vec2_Sub, br_vec2_Length, br_polygon_IsConvex, GoOld.polygon_ShortestEdge_j2]
  (repeat (first | refine LOOP_br2 (fun _ _ => rfl) ?_ _ _ _ | refine Chk_br ?_ | refine Bind_br (fun _ => ?_) | refine ite_br ?_ ?_ | rfl))
  all_goals first | rfl | (intro n r ih v0 v1; (first | rw [GoOld.polygon_ShortestEdge_l1]); (try simp only [ih, Let_nr, Bind_snr, Bind_if, gd1, gd2, gd3, gd4, gd5, gd6, w64, gt_iff_lt, ge_iff_le, Join_nr, br_vec2_Sub, br_vec2_Length, br_polygon_IsConvex, GoOld.polygon_ShortestEdge_j2]); first | done | rfl | ((repeat (first | refine LOOP_br2 (fun _ _ => rfl) ?_ _ _ _ | refine Chk_br ?_ | refine Bind_br (fun _ => ?_) | refine ite_br ?_ ?_ | rfl)); all_goals first | rfl))

theorem br_fixed_RoundDiv (n0 : Int) (d1 : Int) : fixed_RoundDiv n0 d1 = GoOld.fixed_RoundDiv n0 d1 := by
  unfold fixed_RoundDiv GoOld.fixed_RoundDiv
  try simp only [Let_nr, Bind_snr, Bind_if, gd1, gd2, gd3, gd4, gd5, gd6, w64, gt_iff_lt, ge_iff_le, Join_nr]
  first | done | rfl | ((try simp only [cond_or, cond_and]); first | done | rfl | grind | (((repeat' split) <;> simp_all); done))

theorem br_polygon_fan (vertices0 : (List Vec)) : polygon_fan vertices0 = GoOld.polygon_fan vertices0 := by
  unfold polygon_fan GoOld.polygon_fan
  generalize fuel = N
  try simp only [Let_nr, Bind_snr, Bind_if, gd1, gd2, gd3, gd4, gd5, gd6, w64, gt_iff_lt, ge_iff_le, Join_nr, br_fixed_RoundDiv, GoOld.polygon_fan_j2]
  (repeat (first | refine LOOP_br3 (fun _ _ _ => rfl) ?_ _ _ _ _ | refine Chk_br ?_ | refine Bind_br (fun _ => ?_) | refine ite_br ?_ ?_ | rfl))
  all_goals first | rfl | (intro n r ih v0 v1 v2; (first | rw [GoOld.polygon_fan_l1]); (try simp only [ih, Let_nr, Bind_snr, Bind_if, gd1, gd2, gd3, gd4, gd5, gd6, w64, gt_iff_lt, ge_iff_le, Join_nr, br_fixed_RoundDiv, GoOld.polygon_fan_j2]); first | done | rfl | ((repeat (first | refine LOOP_br3 (fun _ _ _ => rfl) ?_ _ _ _ _ | refine Chk_br ?_ | refine Bind_br (fun _ => ?_) | refine ite_br ?_ ?_ | rfl)); all_goals first | rfl))

theorem br_polygon_Area (vertices0 : (List Vec)) : polygon_Area vertices0 = GoOld.polygon_Area vertices0 := by
  unfold polygon_Area GoOld.polygon_Area
  try simp only [Let_nr, Bind_snr, Bind_if, gd1, gd2, gd3, gd4, gd5, gd6, w64, gt_iff_lt, ge_iff_le, Join_nr, br_polygon_IsConvex, br_fixed_RoundDiv, br_polygon_fan]
  first | done | rfl | ((try simp only [cond_or, cond_and]); first | done | rfl | grind | (((repeat' split) <;> simp_all); done))

theorem br_shape_Validate (s0 : Shape) : shape_Validate s0 = GoOld.shape_Validate s0 := by
  unfold shape_Validate GoOld.shape_Validate
  have hc : slices_ContainsFunc_174 s0.Vertices (fun (a : Tup tb [Ix.tVec]) => shape_Validate_1 a) = GoOld.slices_ContainsFunc_Vec s0.Vertices (fun y0 => some (GoOld.shape_Validate_c1 y0)) := (br_slices_ContainsFunc_174 s0.Vertices (fun a => shape_Validate_1 a)).trans (congrArg (GoOld.slices_ContainsFunc_Vec s0.Vertices) (funext br_shape_Validate_1))
  have gs : ∀ (c : Prop) [Decidable c] (a d : Vec) (e : Option Int), (if c then GoOld.vec2_Length (if c then a else d) else e) = if c then GoOld.vec2_Length a else e := by intro c _ a d e; by_cases h : c <;> simp [h]
  simp only [hc, gs, Let_nr, Bind_snr, Bind_if, gd1, gd2, gd3, gd4, gd5, gd6, w64, gt_iff_lt, ge_iff_le, Join_nr, br_shape_validCount, br_vec2_Sub, br_vec2_Length, br_polygon_IsConvex, br_polygon_ShortestEdge, br_polygon_Area, GoOld.shape_Validate_j1]

theorem br_body_ValidateFixture (f0 : Fixture) : body_ValidateFixture f0 = GoOld.body_ValidateFixture f0 := by
  unfold body_ValidateFixture GoOld.body_ValidateFixture
  try simp only [Let_nr, Bind_snr, Bind_if, gd1, gd2, gd3, gd4, gd5, gd6, w64, gt_iff_lt, ge_iff_le, Join_nr, GoOld.Vec.beq, GoOld.Transform.beq, br_body_within, br_shape_Validate]
  first | done | rfl | ((try simp only [cond_or, cond_and]); first | done | rfl | grind | (((repeat' split) <;> simp_all); done))

theorem br_body_moving (b0 : Body) : body_moving b0 = some (GoOld.body_moving b0) := by
  unfold body_moving GoOld.body_moving
  try simp only [Let_nr, Bind_snr, Bind_if, gd1, gd2, gd3, gd4, gd5, gd6, w64, gt_iff_lt, ge_iff_le, Join_nr]
  first | done | rfl | ((try simp only [cond_or, cond_and]); first | done | rfl | grind | (((repeat' split) <;> simp_all); done))

theorem br_body_consistent (b0 : Body) : body_consistent b0 = some (GoOld.body_consistent b0) := by
  unfold body_consistent GoOld.body_consistent
  try simp only [Let_nr, Bind_snr, Bind_if, gd1, gd2, gd3, gd4, gd5, gd6, w64, gt_iff_lt, ge_iff_le, Join_nr, GoOld.Vec.beq, GoOld.Transform.beq, br_body_moving]
  first | done | rfl | ((try simp only [cond_or, cond_and]); first | done | rfl | grind | (((repeat' split) <;> simp_all); done))

theorem br_body_Validate (b0 : Body) : body_Validate b0 = GoOld.body_Validate b0 := by
  unfold body_Validate GoOld.body_Validate
  generalize fuel = N
  try simp only [Let_nr, Bind_snr, Bind_if, gd1, gd2, gd3, gd4, gd5, gd6, w64, gt_iff_lt, ge_iff_le, Join_nr, br_body_inRange, br_body_ValidateFixture, br_body_consistent, GoOld.body_Validate_j2]
  (repeat (first | refine LOOP_br1 (fun _ => rfl) ?_ _ _ | refine Chk_br ?_ | refine Bind_br (fun _ => ?_) | refine ite_br ?_ ?_ | rfl))
  all_goals first | rfl | (intro n r ih v0; (first | rw [GoOld.body_Validate_l1]); (try simp only [ih, Let_nr, Bind_snr, Bind_if, gd1, gd2, gd3, gd4, gd5, gd6, w64, gt_iff_lt, ge_iff_le, Join_nr, br_body_inRange, br_body_ValidateFixture, br_body_consistent, GoOld.body_Validate_j2]); first | done | rfl | ((repeat (first | refine LOOP_br1 (fun _ => rfl) ?_ _ _ | refine Chk_br ?_ | refine Bind_br (fun _ => ?_) | refine ite_br ?_ ?_ | rfl)); all_goals first | rfl))

theorem br_caromref23_in (x0 : Int) (low1 : Int) (high2 : Int) : caromref23_in x0 low1 high2 = some (GoOld.ref23_in x0 low1 high2) := by
  unfold caromref23_in GoOld.ref23_in
  try simp only [Let_nr, Bind_snr, Bind_if, gd1, gd2, gd3, gd4, gd5, gd6, w64, gt_iff_lt, ge_iff_le, Join_nr]
  first | done | rfl | ((try simp only [cond_or, cond_and]); first | done | rfl | grind | (((repeat' split) <;> simp_all); done))

theorem br_caromref04_outside (x0 : Int) : caromref04_outside x0 = some (GoOld.ref04_outside x0) := by
  unfold caromref04_outside GoOld.ref04_outside
  try simp only [Let_nr, Bind_snr, Bind_if, gd1, gd2, gd3, gd4, gd5, gd6, w64, gt_iff_lt, ge_iff_le, Join_nr]
  first | done | rfl | ((try simp only [cond_or, cond_and]); first | done | rfl | grind | (((repeat' split) <;> simp_all); done))

theorem br_caromref04_Valid (p0 : Transform) : caromref04_Valid p0 = some (GoOld.ref04_Valid p0) := by
  unfold caromref04_Valid GoOld.ref04_Valid
  try simp only [Let_nr, Bind_snr, Bind_if, gd1, gd2, gd3, gd4, gd5, gd6, w64, gt_iff_lt, ge_iff_le, Join_nr, GoOld.Vec.beq, GoOld.Transform.beq, br_caromref04_outside]
  first | done | rfl | ((try simp only [cond_or, cond_and]); first | done | rfl | grind | (((repeat' split) <;> simp_all); done))

theorem br_caromref23_inRange (b0 : Body) : caromref23_inRange b0 = some (GoOld.ref23_inRange b0) := by
  unfold caromref23_inRange GoOld.ref23_inRange
  try simp only [Let_nr, Bind_snr, Bind_if, gd1, gd2, gd3, gd4, gd5, gd6, w64, gt_iff_lt, ge_iff_le, Join_nr, GoOld.Vec.beq, GoOld.Transform.beq, br_caromref23_in, br_caromref04_Valid]
  first | done | rfl | ((try simp only [cond_or, cond_and]); first | done | rfl | grind | (((repeat' split) <;> simp_all); done))

theorem br_caromref12_countMatches (s0 : Shape) : caromref12_countMatches s0 = some (GoOld.ref12_countMatches s0) := by
  unfold caromref12_countMatches GoOld.ref12_countMatches
  try simp only [Let_nr, Bind_snr, Bind_if, gd1, gd2, gd3, gd4, gd5, gd6, w64, gt_iff_lt, ge_iff_le, Join_nr, GoOld.Vec.beq, GoOld.Transform.beq]
  first | done | rfl | ((try simp only [cond_or, cond_and]); first | done | rfl | grind | (((repeat' split) <;> simp_all); done))

theorem br_caromref12_within (x0 : Int) (m1 : Int) : caromref12_within x0 m1 = some (GoOld.ref12_within x0 m1) := by
  unfold caromref12_within GoOld.ref12_within
  try simp only [Let_nr, Bind_snr, Bind_if, gd1, gd2, gd3, gd4, gd5, gd6, w64, gt_iff_lt, ge_iff_le, Join_nr]
  first | done | rfl | ((try simp only [cond_or, cond_and]); first | done | rfl | grind | (((repeat' split) <;> simp_all); done))

theorem br_caromref01_Saturate (x0 : Int) : caromref01_Saturate x0 = some (GoOld.ref01_Saturate x0) := by
  unfold caromref01_Saturate GoOld.ref01_Saturate
  try simp only [Let_nr, Bind_snr, Bind_if, gd1, gd2, gd3, gd4, gd5, gd6, w64, gt_iff_lt, ge_iff_le, Join_nr]
  first | done | rfl | ((try simp only [cond_or, cond_and]); first | done | rfl | grind | (((repeat' split) <;> simp_all); done))

theorem br_caromref01_Sub (a0 : Int) (b1 : Int) : caromref01_Sub a0 b1 = some (GoOld.ref01_Sub a0 b1) := by
  unfold caromref01_Sub GoOld.ref01_Sub
  try simp only [Let_nr, Bind_snr, Bind_if, gd1, gd2, gd3, gd4, gd5, gd6, w64, gt_iff_lt, ge_iff_le, Join_nr, br_caromref01_Saturate]
  first | done | rfl | ((try simp only [cond_or, cond_and]); first | done | rfl | grind | (((repeat' split) <;> simp_all); done))

theorem br_caromref03_Sub (a0 : Vec) (b1 : Vec) : caromref03_Sub a0 b1 = some (GoOld.ref03_Sub a0 b1) := by
  unfold caromref03_Sub GoOld.ref03_Sub
  try simp only [Let_nr, Bind_snr, Bind_if, gd1, gd2, gd3, gd4, gd5, gd6, w64, gt_iff_lt, ge_iff_le, Join_nr, br_caromref01_Sub]
  first | done | rfl | ((try simp only [cond_or, cond_and]); first | done | rfl | grind | (((repeat' split) <;> simp_all); done))

theorem br_caromref03_Saturated (v0 : Vec) : caromref03_Saturated v0 = some (GoOld.ref03_Saturated v0) := by
  unfold caromref03_Saturated GoOld.ref03_Saturated
  try simp only [Let_nr, Bind_snr, Bind_if, gd1, gd2, gd3, gd4, gd5, gd6, w64, gt_iff_lt, ge_iff_le, Join_nr, br_caromref01_Saturate]
  first | done | rfl | ((try simp only [cond_or, cond_and]); first | done | rfl | grind | (((repeat' split) <;> simp_all); done))

theorem br_caromref01_outOfRange (n0 : Int) : caromref01_outOfRange n0 = some (GoOld.ref01_outOfRange n0) := by
  unfold caromref01_outOfRange GoOld.ref01_outOfRange
  try simp only [Let_nr, Bind_snr, Bind_if, gd1, gd2, gd3, gd4, gd5, gd6, w64, gt_iff_lt, ge_iff_le, Join_nr]
  first | done | rfl | ((try simp only [cond_or, cond_and]); first | done | rfl | grind | (((repeat' split) <;> simp_all); done))

theorem br_caromref01_Isqrt (n0 : Int) : caromref01_Isqrt n0 = GoOld.ref01_Isqrt n0 := by
  unfold caromref01_Isqrt GoOld.ref01_Isqrt
  generalize fuel = N
  try simp only [Let_nr, Bind_snr, Bind_if, gd1, gd2, gd3, gd4, gd5, gd6, w64, gt_iff_lt, ge_iff_le, Join_nr, GoOld.Vec.beq, GoOld.Transform.beq, br_caromref01_outOfRange, GoOld.ref01_Isqrt_j1, GoOld.ref01_Isqrt_j3]
  (repeat (first | refine LOOP_br2 (fun _ _ => rfl) ?_ _ _ _ | refine Chk_br ?_ | refine Bind_br (fun _ => ?_) | refine ite_br ?_ ?_ | rfl))
  all_goals first | rfl | (intro n r ih v0 v1; (first | rw [GoOld.ref01_Isqrt_l2]); (try simp only [ih, Let_nr, Bind_snr, Bind_if, gd1, gd2, gd3, gd4, gd5, gd6, w64, gt_iff_lt, ge_iff_le, Join_nr, GoOld.Vec.beq, GoOld.Transform.beq, br_caromref01_outOfRange, GoOld.ref01_Isqrt_j1, GoOld.ref01_Isqrt_j3]); first | done | rfl | ((repeat (first | refine LOOP_br2 (fun _ _ => rfl) ?_ _ _ _ | refine Chk_br ?_ | refine Bind_br (fun _ => ?_) | refine ite_br ?_ ?_ | rfl)); all_goals first | rfl))

theorem br_caromref03_Length (v0 : Vec) : caromref03_Length v0 = GoOld.ref03_Length v0 := by
  unfold caromref03_Length GoOld.ref03_Length
  try simp only [Let_nr, Bind_snr, Bind_if, gd1, gd2, gd3, gd4, gd5, gd6, w64, gt_iff_lt, ge_iff_le, Join_nr, br_caromref03_Saturated, br_caromref01_Isqrt]
  first | done | rfl | ((try simp only [cond_or, cond_and]); first | done | rfl | grind | (((repeat' split) <;> simp_all); done))

theorem br_caromref11_inRange (v0 : Vec) : caromref11_inRange v0 = some (GoOld.ref11_inRange v0) := by
  unfold caromref11_inRange GoOld.ref11_inRange
  try simp only [Let_nr, Bind_snr, Bind_if, gd1, gd2, gd3, gd4, gd5, gd6, w64, gt_iff_lt, ge_iff_le, Join_nr]
  first | done | rfl | ((try simp only [cond_or, cond_and]); first | done | rfl | grind | (((repeat' split) <;> simp_all); done))

theorem br_caromref03_Orientation (a0 : Vec) (b1 : Vec) (c2 : Vec) : caromref03_Orientation a0 b1 c2 = some (GoOld.ref03_Orientation a0 b1 c2) := by
  unfold caromref03_Orientation GoOld.ref03_Orientation
  try simp only [Let_nr, Bind_snr, Bind_if, gd1, gd2, gd3, gd4, gd5, gd6, w64, gt_iff_lt, ge_iff_le, Join_nr, br_caromref03_Saturated]
  first | done | rfl | ((try simp only [cond_or, cond_and]); first | done | rfl | grind | (((repeat' split) <;> simp_all); done))

theorem br_caromref11_IsConvex (vertices0 : (List Vec)) : caromref11_IsConvex vertices0 = GoOld.ref11_IsConvex vertices0 := by
  unfold caromref11_IsConvex GoOld.ref11_IsConvex
  simp only [Let_nr, Bind_snr, Bind_if, gd1, gd2, gd3, gd4, gd5, gd6, w64, gt_iff_lt, ge_iff_le, Join_nr, br_caromref11_inRange, br_caromref03_Orientation]
  refine ite_br rfl ?_
  refine LOOP_br1 (fun _ => rfl) ?_ _ _
  intro n r ih v
  rw [GoOld.ref11_IsConvex_l1]
  simp only [ih, Let_nr, Bind_snr, Bind_if, gd1, gd2, gd3, gd4, gd5, gd6, w64, gt_iff_lt, ge_iff_le, Join_nr, GoOld.ref11_IsConvex_j6]
  refine ite_br rfl ?_
  refine LOOP_br1 (fun _ => rfl) ?_ _ _
  intro n' r' ih' v'
  rw [GoOld.ref11_IsConvex_l4]
  simp only [ih', Let_nr, Bind_snr, Bind_if, gd1, gd2, gd3, gd4, gd5, gd6, w64, gt_iff_lt, ge_iff_le, Join_nr, GoOld.ref11_IsConvex_j5]
  refine ite_br ?_ rfl
  refine Chk_br ?_
  refine LOOP_br1 (fun _ => rfl) ?_ _ _
  intro n2 r2 ih2 v2
  rw [GoOld.ref11_IsConvex_l2]
  simp only [ih2, Let_nr, Bind_snr, Bind_if, gd1, gd2, gd3, gd4, gd5, gd6, w64, gt_iff_lt, ge_iff_le, Join_nr, GoOld.ref11_IsConvex_j3]

theorem br_caromref11_ShortestEdge (vertices0 : (List Vec)) : caromref11_ShortestEdge vertices0 = GoOld.ref11_ShortestEdge vertices0 := by
  unfold caromref11_ShortestEdge GoOld.ref11_ShortestEdge
  generalize fuel = N
  try simp only [Let_nr, Bind_snr, Bind_if, gd1, gd2, gd3, gd4, gd5, gd6, w64, gt_iff_lt, ge_iff_le, Join_nr, br_caromref03_Sub, br_caromref03_Length, br_caromref11_IsConvex, GoOld.ref11_ShortestEdge_j1, GoOld.ref11_ShortestEdge_j3]
  (repeat (first | refine LOOP_br2 (fun _ _ => rfl) ?_ _ _ _ | refine Chk_br ?_ | refine Bind_br (fun _ => ?_) | refine ite_br ?_ ?_ | rfl))
  all_goals first | rfl | (intro n r ih v0 v1; (first | rw [GoOld.ref11_ShortestEdge_l2]); (try simp only [ih, Let_nr, Bind_snr, Bind_if, gd1, gd2, gd3, gd4, gd5, gd6, w64, gt_iff_lt, ge_iff_le, Join_nr, br_caromref03_Sub, br_caromref03_Length, br_caromref11_IsConvex, GoOld.ref11_ShortestEdge_j1, GoOld.ref11_ShortestEdge_j3]); first | done | rfl | ((repeat (first | refine LOOP_br2 (fun _ _ => rfl) ?_ _ _ _ | refine Chk_br ?_ | refine Bind_br (fun _ => ?_) | refine ite_br ?_ ?_ | rfl)); all_goals first | rfl))

theorem br_caromref01_RoundDiv (n0 : Int) (d1 : Int) : caromref01_RoundDiv n0 d1 = GoOld.ref01_RoundDiv n0 d1 := by
  unfold caromref01_RoundDiv GoOld.ref01_RoundDiv
  try simp only [Let_nr, Bind_snr, Bind_if, gd1, gd2, gd3, gd4, gd5, gd6, w64, gt_iff_lt, ge_iff_le, Join_nr, GoOld.Vec.beq, GoOld.Transform.beq, br_caromref01_outOfRange, GoOld.ref01_RoundDiv_j1, GoOld.ref01_RoundDiv_j2]
  first | done | rfl | ((try simp only [cond_or, cond_and]); first | done | rfl | grind | (((repeat' split) <;> simp_all); done))

theorem br_caromref11_cross (v0 : (List Vec)) (i1 : Int) : caromref11_cross v0 i1 = GoOld.ref11_cross v0 i1 := by
  unfold caromref11_cross GoOld.ref11_cross
  try simp only [Let_nr, Bind_snr, Bind_if, gd1, gd2, gd3, gd4, gd5, gd6, w64, gt_iff_lt, ge_iff_le, Join_nr, br_caromref01_RoundDiv]
  first | done | rfl | ((try simp only [cond_or, cond_and]); first | done | rfl | grind | (((repeat' split) <;> simp_all); done))

theorem br_caromref11_Area (vertices0 : (List Vec)) : caromref11_Area vertices0 = GoOld.ref11_Area vertices0 := by
  unfold caromref11_Area GoOld.ref11_Area
  generalize fuel = N
  try simp only [Let_nr, Bind_snr, Bind_if, gd1, gd2, gd3, gd4, gd5, gd6, w64, gt_iff_lt, ge_iff_le, Join_nr, br_caromref11_IsConvex, br_caromref01_RoundDiv, br_caromref11_cross, GoOld.ref11_Area_j2]
  (repeat (first | refine LOOP_br2 (fun _ _ => rfl) ?_ _ _ _ | refine Chk_br ?_ | refine Bind_br (fun _ => ?_) | refine ite_br ?_ ?_ | rfl))
  all_goals first | rfl | (intro n r ih v0 v1; (first | rw [GoOld.ref11_Area_l1]); (try simp only [ih, Let_nr, Bind_snr, Bind_if, gd1, gd2, gd3, gd4, gd5, gd6, w64, gt_iff_lt, ge_iff_le, Join_nr, br_caromref11_IsConvex, br_caromref01_RoundDiv, br_caromref11_cross, GoOld.ref11_Area_j2]); first | done | rfl | ((repeat (first | refine LOOP_br2 (fun _ _ => rfl) ?_ _ _ _ | refine Chk_br ?_ | refine Bind_br (fun _ => ?_) | refine ite_br ?_ ?_ | rfl)); all_goals first | rfl))

theorem br_caromref12_Validate (s0 : Shape) : caromref12_Validate s0 = GoOld.ref12_Validate s0 := by
  have gs : ∀ (c : Prop) [Decidable c] (a d : Vec) (e : Option Int), (if c then GoOld.ref03_Length (if c then a else d) else e) = if c then GoOld.ref03_Length a else e := by intro c _ a d e; by_cases h : c <;> simp [h]
  unfold caromref12_Validate GoOld.ref12_Validate
  simp only [gs, Let_nr, Bind_snr, Bind_if, gd1, gd2, gd3, gd4, gd5, gd6, w64, gt_iff_lt, ge_iff_le, Join_nr, br_caromref12_countMatches, br_caromref12_within, br_caromref03_Sub, br_caromref03_Length, br_caromref11_IsConvex, br_caromref11_ShortestEdge, br_caromref11_Area, GoOld.ref12_Validate_j2]
  refine ite_br rfl ?_
  refine ite_br rfl ?_
  refine LOOP_br1 (fun _ => rfl) ?_ _ _
  intro n r ih v
  rw [GoOld.ref12_Validate_l1]
  simp only [ih, Let_nr, Bind_snr, Bind_if, gd1, gd2, gd3, gd4, gd5, gd6, w64, gt_iff_lt, ge_iff_le, Join_nr, GoOld.ref12_Validate_j2]

theorem br_caromref23_ValidateFixture (f0 : Fixture) : caromref23_ValidateFixture f0 = GoOld.ref23_ValidateFixture f0 := by
  unfold caromref23_ValidateFixture GoOld.ref23_ValidateFixture
  try simp only [Let_nr, Bind_snr, Bind_if, gd1, gd2, gd3, gd4, gd5, gd6, w64, gt_iff_lt, ge_iff_le, Join_nr, GoOld.Vec.beq, GoOld.Transform.beq, br_caromref23_in, br_caromref12_Validate]
  first | done | rfl | ((try simp only [cond_or, cond_and]); first | done | rfl | grind | (((repeat' split) <;> simp_all); done))

theorem br_caromref23_Validate (b0 : Body) : caromref23_Validate b0 = GoOld.ref23_Validate b0 := by
  unfold caromref23_Validate GoOld.ref23_Validate
  generalize fuel = N
  try simp only [Let_nr, Bind_snr, Bind_if, gd1, gd2, gd3, gd4, gd5, gd6, w64, gt_iff_lt, ge_iff_le, Join_nr, GoOld.Vec.beq, GoOld.Transform.beq, br_caromref23_inRange, br_caromref23_ValidateFixture, GoOld.ref23_Validate_j2]
  (repeat (first | refine LOOP_br1 (fun _ => rfl) ?_ _ _ | refine Chk_br ?_ | refine Bind_br (fun _ => ?_) | refine ite_br ?_ ?_ | rfl))
  all_goals first | rfl | (intro n r ih v0; (first | rw [GoOld.ref23_Validate_l1]); (try simp only [ih, Let_nr, Bind_snr, Bind_if, gd1, gd2, gd3, gd4, gd5, gd6, w64, gt_iff_lt, ge_iff_le, Join_nr, GoOld.Vec.beq, GoOld.Transform.beq, br_caromref23_inRange, br_caromref23_ValidateFixture, GoOld.ref23_Validate_j2]); first | done | rfl | ((repeat (first | refine LOOP_br1 (fun _ => rfl) ?_ _ _ | refine Chk_br ?_ | refine Bind_br (fun _ => ?_) | refine ite_br ?_ ?_ | rfl)); all_goals first | rfl))

theorem br_slices_Equal_171 (s10 : (List Vec)) (s21 : (List Vec)) : slices_Equal_171 s10 s21 = GoOld.slices_Equal_Vec s10 s21 := by
  unfold slices_Equal_171 GoOld.slices_Equal_Vec
  generalize fuel = N
  try simp only [Let_nr, Bind_snr, Bind_if, gd1, gd2, gd3, gd4, gd5, gd6, w64, gt_iff_lt, ge_iff_le, Join_nr, GoOld.slices_Equal_Vec_j2]
  (repeat (first | refine LOOP_br1 (fun _ => rfl) ?_ _ _ | refine Chk_br ?_ | refine Bind_br (fun _ => ?_) | refine ite_br ?_ ?_ | rfl))
  all_goals first | rfl | (intro n r ih v0; (first | rw [GoOld.slices_Equal_Vec_l1]); (try simp only [ih, Let_nr, Bind_snr, Bind_if, gd1, gd2, gd3, gd4, gd5, gd6, w64, gt_iff_lt, ge_iff_le, Join_nr, GoOld.slices_Equal_Vec_j2]); first | done | rfl | ((repeat (first | refine LOOP_br1 (fun _ => rfl) ?_ _ _ | refine Chk_br ?_ | refine Bind_br (fun _ => ?_) | refine ite_br ?_ ?_ | rfl)); all_goals first | rfl))

theorem br_shape_Equal (a0 : Shape) (b1 : Shape) : shape_Equal a0 b1 = GoOld.shape_Equal a0 b1 := by
  unfold shape_Equal GoOld.shape_Equal
  try simp only [Let_nr, Bind_snr, Bind_if, gd1, gd2, gd3, gd4, gd5, gd6, w64, gt_iff_lt, ge_iff_le, Join_nr, GoOld.Vec.beq, GoOld.Transform.beq, br_slices_Equal_171]
  first | done | rfl | ((try simp only [cond_or, cond_and]); first | done | rfl | grind | (((repeat' split) <;> simp_all); done))

theorem br_body_equalFixtures (a0 : Fixture) (b1 : Fixture) : body_equalFixtures a0 b1 = GoOld.body_equalFixtures a0 b1 := by
  unfold body_equalFixtures GoOld.body_equalFixtures
  try simp only [Let_nr, Bind_snr, Bind_if, gd1, gd2, gd3, gd4, gd5, gd6, w64, gt_iff_lt, ge_iff_le, Join_nr, GoOld.Vec.beq, GoOld.Transform.beq, br_shape_Equal]
  first | done | rfl | ((try simp only [cond_or, cond_and]); first | done | rfl | grind | (((repeat' split) <;> simp_all); done))

theorem br_body_Equal (a0 : Body) (b1 : Body) : body_Equal a0 b1 = GoOld.body_Equal a0 b1 := by
  unfold body_Equal GoOld.body_Equal
  generalize fuel = N
  try simp only [Let_nr, Bind_snr, Bind_if, gd1, gd2, gd3, gd4, gd5, gd6, w64, gt_iff_lt, ge_iff_le, Join_nr, GoOld.Vec.beq, GoOld.Transform.beq, br_body_equalFixtures, GoOld.body_Equal_j2]
  (repeat (first | refine LOOP_br1 (fun _ => rfl) ?_ _ _ | refine Chk_br ?_ | refine Bind_br (fun _ => ?_) | refine ite_br ?_ ?_ | rfl))
  all_goals first | rfl | (intro n r ih v0; (first | rw [GoOld.body_Equal_l1]); (try simp only [ih, Let_nr, Bind_snr, Bind_if, gd1, gd2, gd3, gd4, gd5, gd6, w64, gt_iff_lt, ge_iff_le, Join_nr, GoOld.Vec.beq, GoOld.Transform.beq, br_body_equalFixtures, GoOld.body_Equal_j2]); first | done | rfl | ((repeat (first | refine LOOP_br1 (fun _ => rfl) ?_ _ _ | refine Chk_br ?_ | refine Bind_br (fun _ => ?_) | refine ite_br ?_ ?_ | rfl)); all_goals first | rfl))

end GoForm


/-
  Plain laws of world: what validation computes. No conditions.
-/
set_option linter.all false
set_option maxRecDepth 100000
open Go Go.Rx

namespace GoForm
theorem bodyV (b : Body) : body_Validate b = caromref23_Validate b := by rw [br_body_Validate, br_caromref23_Validate, GoOld.body_Validate_eq, GoOld.ref23_Validate_eq]
theorem bodyV' (b : Body) : caromref23_Validate b = some (GoOld.validB b) := by rw [br_caromref23_Validate, GoOld.ref23_Validate_eq]
def inb (x a b : Int) : Bool := decide (a ≤ x) && decide (x ≤ b)
theorem world_in_eq (x a b : Int) : world_in x a b = some (inb x a b) := by
  unfold world_in inb; simp only [Let_nr, ge_iff_le, cond_and]
theorem joint_in_eq (x a b : Int) : joint_inRange x a b = some (inb x a b) := by
  unfold joint_inRange inb; simp only [Let_nr, ge_iff_le, cond_and]
def vset (s : Settings) : Int := if (inb s.TimeStep 64 8192 && inb s.Gravity.X (-16777216) 16777216 && inb s.Gravity.Y (-16777216) 16777216 && inb s.Iterations 1 32 && inb s.SleepSteps 0 1048576) = true then 0 else 6
theorem world_set_eq (s : Settings) : world_ValidateSettings s = some (vset s) := by
  unfold world_ValidateSettings vset
  simp only [world_in_eq, Let_nr, Bind_snr, Bind_if]
  generalize inb s.TimeStep 64 8192 = b1
  generalize inb s.Gravity.X (-16777216) 16777216 = b2
  generalize inb s.Gravity.Y (-16777216) 16777216 = b3
  generalize inb s.Iterations 1 32 = b4
  generalize inb s.SleepSteps 0 1048576 = b5
  cases b1 <;> cases b2 <;> cases b3 <;> cases b4 <;> cases b5 <;> rfl
/-! FindBody -/
def fb (w : World_) (id : Int) : Int := idx (fun b : Body => b.ID == id) w.Bodies 0
theorem world_Find_eq (w : World_) (id : Int) (h : Sm w.Bodies) : world_FindBody w id = some (fb w id) := by
  unfold world_FindBody slices_IndexFunc fb
  simp only [Let_nr]
  rw [show LOOP _ fuel (0 : Int) = _ from LOOP_l0 w.Bodies (fun t i => some (idx (fun b : Body => b.ID == id) t i)) _ h ?_ ?_]
  · exact Bind_snr _ _
  · intro r i t hw hc hm hr
    simp only [dlt hc, if_true, hw, Chk_of hc, world_FindBody_1, Let_nr, Bind_snr, hr, idx]
    split <;> rfl
  · intro r; simp only [dll, ff, if_false, idx]
theorem fb_bd (w : World_) (id : Int) : fb w id = -1 ∨ (0 ≤ fb w id ∧ fb w id < (w.Bodies.length : Int)) := by
  have := idx_bd (fun b : Body => b.ID == id) w.Bodies 0; unfold fb; simpa using this
/-! bodies -/
def vbs (N : Int) : List Body → Nat → Int → Bool
  | [], _, _ => true
  | b :: t, i, p => if (GoOld.validB b != 0 || decide (N ≤ b.ID) || decide (b.ID ≤ p)) = true then false else vbs N t (i + 1) b.ID
theorem world_bodies_eq (w : World_) (h : Sm w.Bodies) : world_validBodies w = some (vbs w.NextID w.Bodies 0 0) := by
  unfold world_validBodies
  simp only [Let_nr]
  refine LOOP_l1 w.Bodies (fun t i p => some (vbs w.NextID t i p)) _ 0 h ?_ ?_
  · intro r i t s hw hc hm hr
    simp only [dlt hc, if_true, hw, Chk_of hc, Let_nr, bodyV, bodyV', Bind_snr, hr, vbs, cond_or, ge_iff_le]
    split <;> rfl
  · intro r s; simp only [dll, ff, if_false, vbs]
/-! joints -/
def inv4 (v : Vec) (m : Int) : Bool := inb v.X (-m) m && inb v.Y (-m) m
theorem joint_pt_eq (v : Vec) (m : Int) (h : 0 ≤ m ∧ m ≤ 1000000000000) : joint_pointInRange v m = some (inv4 v m) := by
  unfold joint_pointInRange inv4
  have e : IntKind.i64.wrap ((0 : Int) - m) = -m := by rw [wrap_in _ (by omega) (by omega)]; omega
  simp only [Let_nr, joint_in_eq, Bind_snr, Bind_if, e, cond_and, ga1]
def reach (k : Int) : Int := if (k == 5) = true then 268435456 else 1048576
def limR (k : Int) : Int × Int := if (k == 1) = true then (0, 268435456) else if (k == 2) = true then (-205888, 205888) else (-268435456, 268435456)
theorem joint_lim_eq (k : Int) : joint_limitRange k = some (limR k) := by
  unfold joint_limitRange limR; simp only [Let_nr]; split <;> (try split) <;> rfl
def impOk (j : Joint) : Bool := [j.Impulses.fst, j.Impulses.snd.fst, j.Impulses.snd.snd.fst, j.Impulses.snd.snd.snd].all fun x => inb x (-536870911) 536870911
def numOk (j : Joint) : Bool := impOk j && (inb j.ID 1 1099511627776 && inv4 j.AnchorA (reach j.Kind) && inv4 j.AnchorB 1048576 && inb j.ReferenceAngle (-205888) 205887 && inb j.Lower (limR j.Kind).1 (limR j.Kind).2 && inb j.Upper (limR j.Kind).1 (limR j.Kind).2 && decide (j.Lower ≤ j.Upper) && inb j.MotorSpeed (-16777216) 16777216 && inb j.MaxForce 0 536870911 && inb j.Softness 0 536870911 && inb j.BreakForce 0 536870911)
theorem reach_bd (k : Int) : 0 ≤ reach k ∧ reach k ≤ 1000000000000 := by unfold reach; split <;> omega
theorem sm4 (a b c d : Int) : Sm [a, b, c, d] := by unfold Sm; simp
def all4 (fin : Bool) : List Int → Bool
  | [] => fin
  | a :: t => if (!inb a (-536870911) 536870911) = true then false else all4 fin t
theorem all4_eq (fin : Bool) : ∀ l : List Int, all4 fin l = (l.all (fun x => inb x (-536870911) 536870911) && fin)
  | [] => rfl
  | a :: t => by unfold all4; rw [all4_eq fin t]; cases h : inb a (-536870911) 536870911 <;> simp [h]
theorem joint_num_eq (j : Joint) : joint_numbersInRange j = some (numOk j) := by
  unfold joint_numbersInRange numOk impOk
  rw [← all4_eq]
  have h1 : ∀ m : Int, 0 ≤ m ∧ m ≤ 1000000000000 → joint_pointInRange j.AnchorA m = some (inv4 j.AnchorA m) := fun m => joint_pt_eq _ m
  have h2 := joint_pt_eq j.AnchorB 1048576 (by omega)
  have hK : ∀ m : Int, reach j.Kind = m → 0 ≤ m ∧ m ≤ 1000000000000 := fun m h => h ▸ reach_bd _
  by_cases hk : (j.Kind == 5) = true <;> simp only [Join_nr, Let_nr, hk, ff, if_true, if_false, joint_lim_eq, Bind_snr, joint_in_eq, h2, h1 268435456 (by omega), h1 1048576 (by omega), Bind_if, cond_and, ga1, reach]
  all_goals
    refine LOOP_l0 [j.Impulses.fst, j.Impulses.snd.fst, j.Impulses.snd.snd.fst, j.Impulses.snd.snd.snd] (fun t _ => some (all4 _ t)) _ (sm4 _ _ _ _) ?_ ?_
    · intro r i t hw hc hm hr
      have hc4 : (0 : Int) ≤ (i : Int) ∧ (i : Int) < ((4 : Nat) : Int) := hc
      have hd4 : decide ((i : Int) < (4 : Int)) = true := dlt hc
      simp only [hd4, if_true, hw, Chk_of hc4, hr, all4]
      split <;> rfl
    · intro r
      have : decide (([j.Impulses.fst, j.Impulses.snd.fst, j.Impulses.snd.snd.fst, j.Impulses.snd.snd.snd].length : Int) < (4 : Int)) = false := rfl
      simp only [this, ff, if_false, all4]
def jbOk (j : Joint) : Bool := if (j.Kind == 5) = true then (j.BodyA == 0 && inb j.BodyB 1 1099511627776) else (inb j.BodyA 1 1099511627776 && inb j.BodyB 1 1099511627776 && (j.BodyA != j.BodyB))
theorem joint_bod_eq (j : Joint) : joint_validBodies j = some (jbOk j) := by
  unfold joint_validBodies jbOk
  simp only [Let_nr, joint_in_eq, Bind_snr, Bind_if, cond_and, ga1]
  split <;> rfl
def plainA (j : Joint) : Bool := decide (j.Axis.X = 0) && decide (j.Axis.Y = 0)
def jinc (j : Joint) : Bool := if (j.Kind == 3) = true then !inb (GoOld.lenV j.Axis) 65520 65552 else if (j.Kind == 1) = true then (!plainA j || j.EnableMotor || !j.EnableLimit) else if (j.Kind == 4) = true then (!plainA j || j.EnableMotor || j.EnableLimit) else if (j.Kind == 5) = true then (!plainA j || j.EnableMotor || j.EnableLimit) else !plainA j
theorem joint_inc_eq (j : Joint) : joint_inconsistent j = some (jinc j) := by
  unfold joint_inconsistent jinc plainA
  simp only [Let_nr, Join_nr, br_vec2_Length, GoOld.vec2_Length_eq, joint_in_eq, Bind_snr, Bind_if, cond_and, cond_or]
  repeat' split
  all_goals rfl
def jv (j : Joint) : Int := if (decide (j.Kind < 1) || decide (5 < j.Kind)) = true then 10 else if (!numOk j) = true then 6 else if (!jbOk j) = true then 14 else if jinc j = true then 15 else 0
theorem joint_Val_eq (j : Joint) : joint_Validate j = some (jv j) := by
  unfold joint_Validate jv
  simp only [Let_nr, joint_num_eq, joint_bod_eq, joint_inc_eq, Bind_snr, cond_or, gt_iff_lt]
  repeat' split
  all_goals rfl
end GoForm


/-
  Plain laws of world: what validation of joints and contacts computes. No conditions.
-/
set_option linter.all false
set_option maxRecDepth 100000
open Go Go.Rx

namespace GoForm
def jex (w : World_) (j : Joint) : Bool := decide (0 ≤ fb w j.BodyB) && (j.Kind == 5 || decide (0 ≤ fb w j.BodyA))
theorem world_ex_eq (w : World_) (j : Joint) (h : Sm w.Bodies) : world_bodiesExist w j = some (jex w j) := by
  unfold world_bodiesExist jex
  simp only [Let_nr, world_Find_eq w _ h, Bind_snr, Bind_if, cond_and, cond_or, ge_iff_le, ga8]
def jcon (w : World_) (j : Joint) : Bool := (j.BodyA == 0 || decide (0 ≤ fb w j.BodyA)) && (j.BodyB == 0 || decide (0 ≤ fb w j.BodyB))
theorem jv_zero {j : Joint} (h : jv j = 0) : numOk j = true ∧ jbOk j = true ∧ jinc j = false ∧ 1 ≤ j.Kind ∧ j.Kind ≤ 5 := by
  unfold jv at h
  split at h
  · omega
  · split at h
    · omega
    · split at h
      · omega
      · split at h
        · omega
        · simp_all
theorem jex_con {w : World_} {j : Joint} (h : jv j = 0) : jex w j = jcon w j := by
  have h2 := (jv_zero h).2.1
  unfold jbOk inb at h2
  unfold jex jcon
  by_cases hk : j.Kind = 5
  · simp [hk] at h2 ⊢
    have : ¬ j.BodyB = 0 := by omega
    simp [h2.1, this]
  · simp [hk] at h2 ⊢
    have : ¬ j.BodyB = 0 := by omega
    have : ¬ j.BodyA = 0 := by omega
    have e1 : (j.BodyA == 0) = false := by simpa using this
    have e2 : (j.BodyB == 0) = false := by simp; omega
    have e3 : (j.Kind == 5) = false := by simpa using hk
    rw [e1, e2, e3]; simp only [Bool.false_or]; exact Bool.and_comm _ _
def vjs (w : World_) : List Joint → Nat → Int → Bool
  | [], _, _ => true
  | j :: t, i, p => if (jv j != 0 || decide (w.NextID ≤ j.ID) || decide (j.ID ≤ p) || !jcon w j || decide (0 ≤ fb w j.ID)) = true then false else vjs w t (i + 1) j.ID
theorem world_joints_eq (w : World_) (h : Sm w.Joints) (hb : Sm w.Bodies) : world_validJoints w = some (vjs w w.Joints 0 0) := by
  unfold world_validJoints
  simp only [Let_nr]
  refine LOOP_l1 w.Joints (fun t i p => some (vjs w t i p)) _ 0 h ?_ ?_
  · intro r i t s hw hc hm hr
    simp only [dlt hc, if_true, hw, Chk_of hc, Let_nr, joint_Val_eq, world_ex_eq w _ hb, world_Find_eq w _ hb, Bind_snr, Bind_if, hr, vjs, cond_or, ge_iff_le, ga3, ga5]
    by_cases hj : jv (ix w.Joints (i : Int)) = 0
    · rw [jex_con hj]; split <;> rfl
    · simp [hj]
  · intro r s; simp only [dll, ff, if_false, vjs]
end GoForm


/-
  Plain laws of world: what validation of contacts computes. No conditions.
-/
set_option linter.all false
set_option maxRecDepth 100000
open Go Go.Rx

namespace GoForm
theorem cmp_nan (x : Int) : cmp_isNaN x = some false := by unfold cmp_isNaN; simp [Let_nr]
def cmpZ (x y : Int) : Int := if x < y then -1 else if y < x then 1 else 0
theorem cmp_eq (x y : Int) : cmp_Compare x y = some (cmpZ x y) := by
  unfold cmp_Compare cmpZ
  simp only [cmp_nan, Bind_snr, ff, if_false, Let_nr, decide_eq_true_eq, gt_iff_lt]
  split
  · rfl
  · split <;> rfl
def orZ : List Int → Int
  | [] => 0
  | a :: t => if (a != 0) = true then a else orZ t
theorem or_eq (l : List Int) (h : Sm l) : cmp_Or l = some (orZ l) := by
  unfold cmp_Or
  simp only [Let_nr]
  refine LOOP_l0 l (fun t _ => some (orZ t)) _ h ?_ ?_
  · intro r i t hw hc hm hr
    simp only [dlt hc, if_true, hw, Chk_of hc, Let_nr, hr, orZ]
    split <;> rfl
  · intro r; simp only [dll, ff, if_false, orZ]
def lessK (a b : PairKey) : Bool := if a.BodyA ≠ b.BodyA then decide (a.BodyA < b.BodyA) else if a.FixtureA ≠ b.FixtureA then decide (a.FixtureA < b.FixtureA) else if a.BodyB ≠ b.BodyB then decide (a.BodyB < b.BodyB) else decide (a.FixtureB < b.FixtureB)
theorem cmpZ_0 (x y : Int) : cmpZ x y = 0 ↔ x = y := by unfold cmpZ; split <;> (try split) <;> omega
theorem cmpZ_n (x y : Int) : cmpZ x y < 0 ↔ x < y := by unfold cmpZ; split <;> (try split) <;> omega
theorem less_eq (a b : PairKey) : broadphase_Less a b = some (lessK a b) := by
  unfold broadphase_Less broadphase_compare lessK
  simp only [cmp_eq, Bind_snr]
  rw [or_eq _ (sm4 _ _ _ _)]
  simp only [Bind_snr, Let_nr, orZ, bne_iff_ne, ne_eq, cmpZ_0]
  by_cases h1 : a.BodyA = b.BodyA
  · by_cases h2 : a.FixtureA = b.FixtureA
    · by_cases h3 : a.BodyB = b.BodyB
      · by_cases h4 : a.FixtureB = b.FixtureB
        · simp [h1, h2, h3, h4]
        · simp [h1, h2, h3, h4, cmpZ_n]
      · simp [h1, h2, h3, cmpZ_n]
    · simp [h1, h2, cmpZ_n]
  · simp [h1, cmpZ_n]
theorem lessK_irr (a : PairKey) : lessK a a = false := by unfold lessK; simp
def okK (k : PairKey) : Bool := decide (k.BodyA < k.BodyB) && decide (0 ≤ k.FixtureA) && decide (k.FixtureA < 4) && decide (0 ≤ k.FixtureB) && decide (k.FixtureB < 4)
theorem valid_eq (k : PairKey) : broadphase_valid k = some (okK k) := by
  unfold broadphase_valid okK; simp only [Let_nr, cond_and, ge_iff_le]
def vks : List PairKey → Nat → PairKey → Bool
  | [], _, _ => true
  | k :: t, i, p => if (!okK k || (decide (0 < (i : Int)) && !lessK p k)) = true then false else vks t (i + 1) k
theorem keq (a b : PairKey) : (decide (a.BodyA = b.BodyA) && (decide (a.FixtureA = b.FixtureA) && (decide (a.BodyB = b.BodyB) && decide (a.FixtureB = b.FixtureB)))) = decide (a = b) := by
  rw [Bool.eq_iff_iff]; cases a; cases b; simp
theorem vk_eq (l : List PairKey) (h : Sm l) : broadphase_ValidKeys l = some (vks l 0 ⟨0, 0, 0, 0⟩) := by
  unfold broadphase_ValidKeys
  simp only [Let_nr, keq]
  refine LOOP_l2 l (fun t i p => some (vks t i p)) _ _ h ?_ ?_
  · intro r i t s hw hc hm hr
    have g : ∀ (c e f a d : Bool), (c || (e && (f || !(if (c == false && e == true && f == false) = true then a else d)))) = (c || (e && (f || !a))) := by intro c e f a d; cases c <;> cases e <;> cases f <;> rfl
    simp only [dlt hc, if_true, hw, Chk_of hc, Let_nr, valid_eq, less_eq, Bind_snr, Bind_if, hr, vks, cond_or, cond_and, gt_iff_lt, g]
    have e : (decide (ix l (i : Int) = s) || !lessK s (ix l (i : Int))) = !lessK s (ix l (i : Int)) := by
      by_cases hh : ix l (i : Int) = s
      · rw [hh, lessK_irr]; simp
      · simp [hh]
    rw [e]; split <;> rfl
  · intro r s; simp only [dll, ff, if_false, vks]
end GoForm


/-
  Plain laws of world: what validation of contacts computes. No conditions.
-/
set_option linter.all false
set_option maxRecDepth 100000
open Go Go.Rx

namespace GoForm
/-! the standard library's searches -/
theorem ixf_int (l : List Int) (f : Int → Option Bool) (g : Int → Bool) (h : Sm l) (hf : ∀ a ∈ l, f a = some (g a)) : slices_IndexFunc_183 l f = some (idx g l 0) := by
  unfold slices_IndexFunc_183
  simp only [Let_nr]
  refine LOOP_l0 l (fun t i => some (idx g t i)) _ h ?_ ?_
  · intro r i t hw hc hm hr
    simp only [dlt hc, if_true, hw, Chk_of hc, Let_nr, hf _ hm, Bind_snr, hr, idx]
    split <;> rfl
  · intro r; simp only [dll, ff, if_false, idx]
theorem ixf_pt (l : List ContactPoint) (f : ContactPoint → Option Bool) (g : ContactPoint → Bool) (h : Sm l) (hf : ∀ a ∈ l, f a = some (g a)) : slices_IndexFunc_151 l f = some (idx g l 0) := by
  unfold slices_IndexFunc_151
  simp only [Let_nr]
  refine LOOP_l0 l (fun t i => some (idx g t i)) _ h ?_ ?_
  · intro r i t hw hc hm hr
    simp only [dlt hc, if_true, hw, Chk_of hc, Let_nr, hf _ hm, Bind_snr, hr, idx]
    split <;> rfl
  · intro r; simp only [dll, ff, if_false, idx]
theorem ixf_key (l : List PairKey) (f : PairKey → Option Bool) (g : PairKey → Bool) (h : Sm l) (hf : ∀ a ∈ l, f a = some (g a)) : slices_IndexFunc_117 l f = some (idx g l 0) := by
  unfold slices_IndexFunc_117
  simp only [Let_nr]
  refine LOOP_l0 l (fun t i => some (idx g t i)) _ h ?_ ?_
  · intro r i t hw hc hm hr
    simp only [dlt hc, if_true, hw, Chk_of hc, Let_nr, hf _ hm, Bind_snr, hr, idx]
    split <;> rfl
  · intro r; simp only [dll, ff, if_false, idx]
theorem ctf_int (l : List Int) (f : Int → Option Bool) (g : Int → Bool) (h : Sm l) (hf : ∀ a ∈ l, f a = some (g a)) : slices_ContainsFunc_149 l f = some (l.any g) := by
  unfold slices_ContainsFunc_149; simp only [ixf_int l f g h hf, Bind_snr, Let_nr, ge_iff_le, idx_any]
theorem ctf_pt (l : List ContactPoint) (f : ContactPoint → Option Bool) (g : ContactPoint → Bool) (h : Sm l) (hf : ∀ a ∈ l, f a = some (g a)) : slices_ContainsFunc_113 l f = some (l.any g) := by
  unfold slices_ContainsFunc_113; simp only [ixf_pt l f g h hf, Bind_snr, Let_nr, ge_iff_le, idx_any]
theorem ctf_key (l : List PairKey) (f : PairKey → Option Bool) (g : PairKey → Bool) (h : Sm l) (hf : ∀ a ∈ l, f a = some (g a)) : slices_ContainsFunc l f = some (l.any g) := by
  unfold slices_ContainsFunc; simp only [ixf_key l f g h hf, Bind_snr, Let_nr, ge_iff_le, idx_any]
/-! manifolds -/
def sat (x : Int) : Bool := inb x (-536870911) 536870911
theorem world_sat_eq (l : List Int) (h : Sm l) : world_saturated l = some (l.all sat) := by
  unfold world_saturated
  show Rx.Bind (slices_ContainsFunc_149 l world_saturated_1) (fun r => Let (!r) fun x => some x) = _
  rw [ctf_int l _ (fun n => !sat n) h (fun a _ => by unfold world_saturated_1 sat; simp only [world_in_eq, Bind_snr, Let_nr])]
  simp only [Bind_snr, Let_nr, List.any_eq_not_all_not, Bool.not_not]
def pOk (p : ContactPoint) : Bool := !decide (p.NormalImpulse < 0) && (sat p.Point.X && (sat p.Point.Y && (sat p.Separation && (sat p.ID && (sat p.NormalImpulse && sat p.TangentImpulse)))))
def mOk (m : Manifold) : Bool := !(decide ((m.Points.length : Int) < 1) || decide (2 < (m.Points.length : Int)) || ((m.Points.length : Int) == 2 && (ix m.Points 0).ID == (ix m.Points 1).ID) || !(sat m.Normal.X && sat m.Normal.Y)) && m.Points.all pOk
theorem world_pt1 (p : ContactPoint) : world_validManifold_1 p = some (!pOk p) := by
  have h6 : ∀ a b c d e f : Int, Sm [a, b, c, d, e, f] := by intros; unfold Sm; simp
  unfold world_validManifold_1 pOk
  simp only [Let_nr, world_sat_eq _ (h6 _ _ _ _ _ _), Bind_snr, Bind_if, cond_or, ga3, List.all_cons, List.all_nil, Bool.and_true, Bool.not_and, Bool.not_not]
theorem chkP {l : List ContactPoint} {a : Bool} : ((!a && ((l.length : Int) == 2)) = true → (0 : Int) ≤ (0 : Int) ∧ (0 : Int) < (l.length : Int)) ∧ ((!a && ((l.length : Int) == 2)) = true → (0 : Int) ≤ (1 : Int) ∧ (1 : Int) < (l.length : Int)) := by
  constructor <;> intro h <;> simp at h <;> omega
theorem world_man_eq (m : Manifold) (h : Sm m.Points) : world_validManifold m = some (mOk m) := by
  have h2 : ∀ a b : Int, Sm [a, b] := by intros; unfold Sm; simp
  have hg : ∀ a b : Bool, (a == false && b == true) = (!a && b) := by intro a b; cases a <;> cases b <;> rfl
  unfold world_validManifold mOk
  simp only [Let_nr, hg]
  rw [Chk_of chkP.1, Chk_of chkP.2]
  simp only [world_sat_eq _ (h2 _ _), Bind_snr, Bind_if, cond_or, cond_and, ga3, List.all_cons, List.all_nil, Bool.and_true, gt_iff_lt]
  rw [ctf_pt m.Points _ (fun p => !pOk p) h (fun p _ => world_pt1 p)]
  simp only [Bind_snr, List.any_eq_not_all_not, Bool.not_not]
  generalize (decide ((m.Points.length : Int) < 1) || decide (2 < (m.Points.length : Int)) || ((m.Points.length : Int) == 2 && (ix m.Points 0).ID == (ix m.Points 1).ID) || !(sat m.Normal.X && sat m.Normal.Y)) = c
  cases c <;> simp
end GoForm


/-
  Plain laws of world: validation agrees with the reference. No conditions.
-/
set_option linter.all false
set_option maxRecDepth 100000
open Go Go.Rx

namespace GoForm
def exw (w : World_) (id n : Int) : Bool := decide (0 ≤ fb w id) && decide (0 ≤ n) && decide (n < ((ix w.Bodies (fb w id)).Fixtures.length : Int))
def exk (w : World_) (k : PairKey) : Bool := exw w k.BodyA k.FixtureA && exw w k.BodyB k.FixtureB
theorem world_fix_eq (w : World_) (k : PairKey) (h : Sm w.Bodies) (hk : okK k = true) : world_fixturesExist w k = some (exk w k) := by
  unfold world_fixturesExist exk exw
  simp only [Let_nr, world_Find_eq w _ h, Bind_snr, ge_iff_le, cond_and]
  have h1 := fb_bd w k.BodyA
  have h2 := fb_bd w k.BodyB
  rw [Chk_of (by intro hh; simp at hh; omega), Chk_of (by intro hh; simp at hh; omega)]
  refine congrArg some ?_
  unfold okK at hk; simp at hk
  rw [Bool.eq_iff_iff]; simp; omega
theorem concat_eq (a b : List PairKey) (ha : a.length ≤ 10000) (hb : b.length ≤ 10000) : slices_Concat [a, b] = some (a ++ b) := by
  obtain ⟨n, hn⟩ : ∃ n, fuel = n + 3 := ⟨2 ^ 70 - 3, rfl⟩
  have w1 : IntKind.i64.wrap ((0 : Int) + (a.length : Int)) = (a.length : Int) := by rw [wrap_in _ (by omega) (by omega)]; omega
  have w2 : IntKind.i64.wrap ((a.length : Int) + (b.length : Int)) = (a.length : Int) + (b.length : Int) := wrap_in _ (by omega) (by omega)
  have w3 : IntKind.i64.wrap ((0 : Int) + (1 : Int)) = 1 := rfl
  have w4 : IntKind.i64.wrap ((1 : Int) + (1 : Int)) = 2 := rfl
  have w5 : IntKind.i64.wrap ((0 : Int) - (0 : Int)) = 0 := rfl
  have w6 : IntKind.i64.wrap ((a.length : Int) + (b.length : Int) - 0) = (a.length : Int) + (b.length : Int) := by rw [wrap_in _ (by omega) (by omega)]; omega
  have x0 : ix [a, b] (0 : Int) = a := rfl
  have x1 : ix [a, b] (1 : Int) = b := rfl
  have l2 : (([a, b] : List (List PairKey)).length : Int) = 2 := rfl
  have d0 : decide ((0 : Int) < 2) = true := rfl
  have d1 : decide ((1 : Int) < 2) = true := rfl
  have d2 : decide ((2 : Int) < 2) = false := rfl
  have e1 : decide ((a.length : Int) < 0) = false := decide_eq_false (by omega)
  have e2 : decide ((a.length : Int) + (b.length : Int) < 0) = false := decide_eq_false (by omega)
  have c0 : (0 : Int) ≤ (0 : Int) ∧ (0 : Int) < 2 := by omega
  have c1 : (0 : Int) ≤ (1 : Int) ∧ (1 : Int) < 2 := by omega
  have inner : ∀ v : List PairKey, v = [] → LOOP (fun (rec688 : List PairKey × Int → Option (List PairKey)) (s689 : List PairKey × Int) =>
      if decide (s689.snd < (2 : Int)) = true then Chk ((0 : Int) ≤ s689.snd ∧ s689.snd < (2 : Int))
      (Chk ((List.length s689.fst + (ix [a, b] s689.snd).length) * (32 : Nat) ≤ (140737488355328 : Nat)) (rec688 (s689.fst ++ ix [a, b] s689.snd, IntKind.i64.wrap (s689.snd + (1 : Int))))) else some s689.fst) (n + 3) (v, (0 : Int)) = some (a ++ b) := by
    intro v hv; subst hv
    have b1 : (List.length ([] : List PairKey) + a.length) * 32 ≤ 140737488355328 := by simp; omega
    have b2 : (a.length + b.length) * 32 ≤ 140737488355328 := by omega
    simp only [LOOP_s, d0, d1, d2, if_true, ff, if_false, Chk_of c0, Chk_of c1, x0, x1, w3, w4, Chk_of b1, List.nil_append, Chk_of b2]
  unfold slices_Concat
  rw [hn]
  simp only [Let_nr, Join_nr, l2]
  rw [LOOP_s]
  simp only [d0, if_true, Chk_of c0, x0, w1, e1, ff, if_false, w3]
  rw [LOOP_s]
  simp only [d1, if_true, Chk_of c1, x1, w2, e2, ff, if_false, w4]
  rw [LOOP_s]
  simp only [d2, ff, if_false, e2, w5, w6]
  by_cases hz : (a.length : Int) + (b.length : Int) > 0
  · rw [if_pos (decide_eq_true hz)]
    rw [Chk_true, Chk_of ⟨hz, by omega, by omega⟩, Chk_of (by simp), Chk_of (by simp)]
    exact inner _ (by simp)
  · rw [if_neg (by simpa using hz)]
    exact inner _ rfl
end GoForm


/-
  Plain laws of world: validation agrees with the reference. No conditions.
-/
set_option linter.all false
set_option maxRecDepth 100000
open Go Go.Rx

namespace GoForm
/-- A world that is small enough. -/
structure Few (w : World_) : Prop where
  bodies : w.Bodies.length ≤ 40
  joints : w.Joints.length ≤ 40
  contacts : w.Contacts.length ≤ 80
  overlaps : w.Overlaps.length ≤ 80
  points : ∀ c ∈ w.Contacts, c.Manifold.Points.length ≤ 8
  fixtures : ∀ b ∈ w.Bodies, b.Fixtures.length ≤ 8
  vertices : ∀ b ∈ w.Bodies, ∀ f ∈ b.Fixtures, f.Shape.Vertices.length ≤ 20
theorem Few.sb {w : World_} (h : Few w) : Sm w.Bodies := sm_of h.bodies (by omega)
theorem Few.sj {w : World_} (h : Few w) : Sm w.Joints := sm_of h.joints (by omega)
theorem Few.sc {w : World_} (h : Few w) : Sm w.Contacts := sm_of h.contacts (by omega)
theorem Few.so {w : World_} (h : Few w) : Sm w.Overlaps := sm_of h.overlaps (by omega)
def keysOf (w : World_) : List PairKey := w.Contacts.map (·.Key)
def k0 : PairKey := ⟨0, 0, 0, 0⟩
def cOk (w : World_) : Bool := w.Contacts.all (fun c => mOk c.Manifold) && (vks (keysOf w) 0 k0 && vks w.Overlaps 0 k0 && ((keysOf w).all (exk w) && w.Overlaps.all (exk w)))
theorem vks_ok : ∀ (l : List PairKey) (i : Nat) (p : PairKey), vks l i p = true → ∀ k ∈ l, okK k = true
  | [], _, _, _, _, h => by simp at h
  | a :: t, i, p, h, k, hk => by
    unfold vks at h
    split at h
    · exact absurd h (by simp)
    · rename_i hh
      rcases List.mem_cons.1 hk with e | e
      · subst e; simp at hh; exact hh.1
      · exact vks_ok t _ _ h k e
def vcs (fin : List PairKey → Bool) : List Contact → List PairKey → Bool
  | [], s => fin s
  | c :: t, s => if (!mOk c.Manifold) = true then false else vcs fin t (s ++ [c.Key])
theorem vcs_eq (fin : List PairKey → Bool) : ∀ (l : List Contact) (s : List PairKey), vcs fin l s = (l.all (fun c => mOk c.Manifold) && fin (s ++ l.map (·.Key)))
  | [], s => by simp [vcs]
  | c :: t, s => by unfold vcs; rw [vcs_eq fin t]; cases h : mOk c.Manifold <;> simp [h]
theorem world_con_eq (w : World_) (h : Few w) : world_validContacts w = some (cOk w) := by
  have hf : ∀ s : List PairKey, s.length ≤ 80 → (Rx.Bind (broadphase_ValidKeys s) fun (r726 : Bool) =>
      Rx.Bind (if ((!r726) == false) = true then broadphase_ValidKeys w.Overlaps else some default) fun (r728 : Bool) =>
      if (bif !r726 then true else !r728) = true then some false
      else
      Rx.Bind (slices_Concat [s, w.Overlaps]) fun (r731 : List PairKey) =>
      Rx.Bind (slices_ContainsFunc r731 fun a => world_validContacts_1 a w) fun (r732 : Bool) => some !r732) = some (vks s 0 k0 && vks w.Overlaps 0 k0 && (s.all (exk w) && w.Overlaps.all (exk w))) := by
    intro s hs
    simp only [vk_eq s (sm_of hs (by omega)), vk_eq _ h.so, Bind_snr, Bind_if, cond_or, ga3]
    show (if (!vks s 0 k0 || !vks w.Overlaps 0 k0) = true then some false else _) = _
    cases h1 : vks s 0 k0
    · rfl
    · cases h2 : vks w.Overlaps 0 k0
      · rfl
      · simp only [Bool.not_true, Bool.or_false, ff, if_false, Bool.true_and]
        rw [concat_eq s w.Overlaps (by omega) (by have := h.overlaps; omega), Bind_snr]
        rw [ctf_key (s ++ w.Overlaps) _ (fun k => !exk w k) (sm_of (n := 200) (by have := h.overlaps; simp; omega) (by omega))]
        · rw [Bind_snr, List.any_append, List.any_eq_not_all_not, List.any_eq_not_all_not]
          simp only [Bool.not_not, Bool.not_or]
        · intro k hk
          have : okK k = true := by
            rcases List.mem_append.1 hk with e | e
            · exact vks_ok _ _ _ h1 k e
            · exact vks_ok _ _ _ h2 k e
          unfold world_validContacts_1
          rw [world_fix_eq w k h.sb this, Bind_snr, Let_nr]
  unfold world_validContacts
  simp only [Let_nr]
  have hc0 : cOk w = vcs (fun s => vks s 0 k0 && vks w.Overlaps 0 k0 && (s.all (exk w) && w.Overlaps.all (exk w))) w.Contacts [] := by rw [vcs_eq]; rfl
  rw [hc0]
  refine (LOOP_i w.Contacts (fun i s => s.length = i) (fun t _ s => some (vcs (fun s => vks s 0 k0 && vks w.Overlaps 0 k0 && (s.all (exk w) && w.Overlaps.all (exk w))) t s)) _ _ h.sc rfl ?_ ?_)
  · intro r i t s hp hw hc hm hr
    have hl := h.contacts
    have hp2 : (s ++ [(ix w.Contacts (i : Int)).Key]).length = i + 1 := by simp [hp]
    have hb : (List.length s + [(ix w.Contacts (i : Int)).Key].length) * 32 ≤ 140737488355328 := by simp [hp]; omega
    simp only [dlt hc, if_true, hw, Chk_of hc, Chk_of hb, world_man_eq _ (sm_of (h.points _ hm) (by omega)), Bind_snr, Let_nr, hr _ hp2, vcs]
    split <;> rfl
  · intro r s hp
    have hl := h.contacts
    simp only [dll, ff, if_false]
    exact hf s (by omega)
def wv (w : World_) : Int := if (vset w.Settings != 0) = true then 17 else if (decide (32 < (w.Bodies.length : Int)) || decide (32 < (w.Joints.length : Int)) || decide (8192 < (w.Contacts.length : Int)) || decide (8192 < (w.Overlaps.length : Int))) = true then 11 else if (!inb w.NextID 1 1099511627776 || !inb w.Frame 0 1099511627776) = true then 6 else if (!vbs w.NextID w.Bodies 0 0) = true then 14 else if (!vjs w w.Joints 0 0) = true then 15 else if (!cOk w) = true then 16 else 0
theorem world_Val_eq (w : World_) (h : Few w) : world_Validate w = some (wv w) := by
  unfold world_Validate wv
  simp only [Let_nr, world_set_eq, world_in_eq, world_bodies_eq w h.sb, world_joints_eq w h.sj h.sb, world_con_eq w h, Bind_snr, Bind_if, cond_or, ga3, gt_iff_lt]
  repeat' split
  all_goals rfl
end GoForm


/-
  Plain laws of world: a clone equals what it was made of. No conditions.
-/
set_option linter.all false
set_option maxRecDepth 100000
open Go Go.Rx

namespace GoForm
/-- A body that is small enough. -/
def SmB (b : Body) : Prop := b.Fixtures.length ≤ 10000 ∧ ∀ f ∈ b.Fixtures, f.Shape.Vertices.length ≤ 10000
theorem Few.smb {w : World_} (h : Few w) : ∀ b ∈ w.Bodies, SmB b := fun b hb => ⟨Nat.le_trans (h.fixtures b hb) (by omega), fun f hf => Nat.le_trans (h.vertices b hb f hf) (by omega)⟩
/-- A world that is small enough to be cloned. -/
structure SmW (w : World_) : Prop where
  bodies : w.Bodies.length ≤ 10000
  joints : w.Joints.length ≤ 10000
  contacts : w.Contacts.length ≤ 10000
  overlaps : w.Overlaps.length ≤ 10000
  points : ∀ c ∈ w.Contacts, c.Manifold.Points.length ≤ 10000
  body : ∀ b ∈ w.Bodies, SmB b
theorem Few.smw {w : World_} (h : Few w) : SmW w := ⟨Nat.le_trans h.bodies (by omega), Nat.le_trans h.joints (by omega), Nat.le_trans h.contacts (by omega), Nat.le_trans h.overlaps (by omega), fun c hc => Nat.le_trans (h.points c hc) (by omega), h.smb⟩
end GoForm


/-
  WorldValidation in plain Lean: the law holds of every world. No conditions.
-/
set_option linter.all false
set_option maxRecDepth 100000
open Go Go.Rx

namespace GoForm
def fewB (b : Body) : Bool := decide ((b.Fixtures.length : Int) ≤ 8) && b.Fixtures.all (fun f => decide ((f.Shape.Vertices.length : Int) ≤ 20))
def allF {X : Type} (fin bad : X) : List Fixture → X
  | [] => fin
  | f :: t => if decide ((f.Shape.Vertices.length : Int) > 20) = true then bad else allF fin bad t
theorem allF_eq {X : Type} (fin bad : X) : ∀ l : List Fixture, allF fin bad l = if l.all (fun f => decide ((f.Shape.Vertices.length : Int) ≤ 20)) = true then fin else bad
  | [] => rfl
  | f :: t => by
    unfold allF; rw [allF_eq fin bad t]
    by_cases h : (f.Shape.Vertices.length : Int) > 20
    · have : decide ((f.Shape.Vertices.length : Int) ≤ 20) = false := decide_eq_false (by omega)
      simp only [h, decide_true, if_true, List.all_cons, this, Bool.false_and, ff, if_false]
    · have : decide ((f.Shape.Vertices.length : Int) ≤ 20) = true := decide_eq_true (by omega)
      simp only [decide_eq_false h, ff, if_false, List.all_cons, this, Bool.true_and]
def allB : List Body → Bool
  | [] => true
  | b :: t => if decide ((b.Fixtures.length : Int) > 8) = true then false else if b.Fixtures.all (fun f => decide ((f.Shape.Vertices.length : Int) ≤ 20)) = true then allB t else false
theorem allB_eq : ∀ l : List Body, allB l = l.all fewB
  | [] => rfl
  | b :: t => by
    unfold allB fewB; rw [allB_eq t]
    by_cases h : (b.Fixtures.length : Int) > 8
    · have : decide ((b.Fixtures.length : Int) ≤ 8) = false := decide_eq_false (by omega)
      simp only [h, decide_true, if_true, List.all_cons, this, Bool.false_and]
    · have : decide ((b.Fixtures.length : Int) ≤ 8) = true := decide_eq_true (by omega)
      simp only [decide_eq_false h, ff, if_false, List.all_cons, this, Bool.true_and]
      cases b.Fixtures.all (fun f => decide ((f.Shape.Vertices.length : Int) ≤ 20)) <;> rfl
theorem ref22_Few_eq (l : List Body) (n : Nat) (hn : n ≤ 10000) : caromref22_Few l (n : Int) = some (decide ((l.length : Int) ≤ (n : Int)) && l.all fewB) := by
  unfold caromref22_Few
  simp only [Let_nr]
  by_cases h : (l.length : Int) > (n : Int)
  · have : decide ((l.length : Int) ≤ (n : Int)) = false := decide_eq_false (by omega)
    simp only [h, decide_true, if_true, this, Bool.false_and]
  · have hh : decide ((l.length : Int) ≤ (n : Int)) = true := decide_eq_true (by omega)
    simp only [decide_eq_false h, ff, if_false, hh, Bool.true_and]
    rw [← allB_eq]
    refine LOOP_l0 l (fun t _ => some (allB t)) _ (sm_of (n := 10000) (by omega) (by omega)) ?_ ?_
    · intro r i t hw hc hm hr
      simp only [dlt hc, if_true, Chk_of hc, allB]
      by_cases h8 : ((ix l (i : Int)).Fixtures.length : Int) > 8
      · simp only [h8, decide_true, if_true]
      · simp only [decide_eq_false h8, ff, if_false]
        refine (LOOP_l0 (ix l (i : Int)).Fixtures (fun t _ => allF (r ((i : Int) + 1)) (some false) t) _ (sm_of (n := 8) (by omega) (by omega)) ?_ ?_).trans ?_
        · intro r2 j u hw2 hc2 hm2 hr2
          simp only [dlt hc2, if_true, Chk_of hc2, hw2, hr2, allF]
        · intro r2; simp only [dll, ff, if_false, hw, allF]
        · rw [allF_eq, hr]; split <;> rfl
    · intro r; simp only [dll, ff, if_false, allB]
def few (w : World_) : Bool := decide ((w.Joints.length : Int) ≤ 40) && decide ((w.Contacts.length : Int) ≤ 80) && decide ((w.Overlaps.length : Int) ≤ 80) && (decide ((w.Bodies.length : Int) ≤ 40) && w.Bodies.all fewB) && w.Contacts.all (fun c => decide ((c.Manifold.Points.length : Int) ≤ 8))
def allC : List Contact → Bool
  | [] => true
  | c :: t => if decide ((c.Manifold.Points.length : Int) > 8) = true then false else allC t
theorem allC_eq : ∀ l : List Contact, allC l = l.all (fun c => decide ((c.Manifold.Points.length : Int) ≤ 8))
  | [] => rfl
  | c :: t => by
    unfold allC; rw [allC_eq t]
    by_cases h : (c.Manifold.Points.length : Int) > 8
    · have : decide ((c.Manifold.Points.length : Int) ≤ 8) = false := decide_eq_false (by omega)
      simp only [h, decide_true, if_true, List.all_cons, this, Bool.false_and]
    · have : decide ((c.Manifold.Points.length : Int) ≤ 8) = true := decide_eq_true (by omega)
      simp only [decide_eq_false h, ff, if_false, List.all_cons, this, Bool.true_and]
theorem ref25_Few_eq (w : World_) : caromref25_Few w = some (few w) := by
  have hB := ref22_Few_eq w.Bodies 40 (by omega)
  have e1 : decide ((w.Joints.length : Int) > 40) = !decide ((w.Joints.length : Int) ≤ 40) := by rw [Bool.eq_iff_iff]; simp
  have e2 : decide ((w.Contacts.length : Int) > 80) = !decide ((w.Contacts.length : Int) ≤ 80) := by rw [Bool.eq_iff_iff]; simp
  have e3 : decide ((w.Overlaps.length : Int) > 80) = !decide ((w.Overlaps.length : Int) ≤ 80) := by rw [Bool.eq_iff_iff]; simp
  have hB' : caromref22_Few w.Bodies (40 : Int) = some (decide ((w.Bodies.length : Int) ≤ 40) && w.Bodies.all fewB) := hB
  unfold caromref25_Few few
  simp only [Let_nr, hB', Bind_snr, Bind_if, cond_or, ga3, e1, e2, e3]
  by_cases hc : (w.Contacts.length : Int) ≤ 80
  · have hL : LOOP (fun (rec32 : Int → Option Bool) (s33 : Int) =>
        if decide (s33 < (w.Contacts.length : Int)) = true then Chk ((0 : Int) ≤ s33 ∧ s33 < (w.Contacts.length : Int))
        (if decide (((ix w.Contacts s33).Manifold.Points.length : Int) > 8) = true then some false else rec32 (IntKind.i64.wrap (s33 + (1 : Int)))) else some true) fuel (0 : Int) = some (w.Contacts.all (fun c => decide ((c.Manifold.Points.length : Int) ≤ 8))) := by
      rw [← allC_eq]
      refine LOOP_l0 w.Contacts (fun t _ => some (allC t)) _ (sm_of (n := 80) (by omega) (by omega)) ?_ ?_
      · intro r i t hw hc hm hr
        simp only [dlt hc, if_true, Chk_of hc, hw, hr, allC]
        split <;> rfl
      · intro r; simp only [dll, ff, if_false, allC]
    rw [hL]
    generalize decide ((w.Joints.length : Int) ≤ 40) = b1
    generalize decide ((w.Contacts.length : Int) ≤ 80) = b2
    generalize decide ((w.Overlaps.length : Int) ≤ 80) = b3
    generalize decide ((w.Bodies.length : Int) ≤ 40) = b4
    generalize w.Bodies.all fewB = b5
    cases b1 <;> cases b2 <;> cases b3 <;> cases b4 <;> cases b5 <;> rfl
  · have e : decide ((w.Contacts.length : Int) ≤ 80) = false := decide_eq_false hc
    simp only [e, Bool.not_false, Bool.or_true, Bool.true_or, if_true, Bool.and_false, Bool.false_and]
theorem few_Few {w : World_} (h : few w = true) : Few w := by
  unfold few fewB at h
  simp only [Bool.and_eq_true, decide_eq_true_eq, List.all_eq_true] at h
  obtain ⟨⟨⟨⟨h1, h2⟩, h3⟩, h4, h5⟩, h6⟩ := h
  exact ⟨by omega, by omega, by omega, by omega, fun c hc => by have := h6 c hc; omega, fun b hb => by have := (h5 b hb).1; omega, fun b hb f hf => by have := (h5 b hb).2 f hf; omega⟩
def b9 : Body := { ID := 1, Kind := 1, Transform := ⟨⟨0, 0⟩, 0⟩, Velocity := ⟨0, 0⟩, AngularVelocity := 0, Force := ⟨0, 0⟩, Torque := 0, LinearDamping := 0, AngularDamping := 0, GravityScale := 0, Bullet := false, FixedRotation := false, NoSleep := false, Asleep := false, IdleSteps := 0, Fixtures := [] }
end GoForm


/-
  Plain laws of world: equality; WorldAddBody. No conditions.
-/
set_option linter.all false
set_option maxRecDepth 100000
open Go Go.Rx

namespace GoForm
theorem veq (a b : Vec) : (decide (a.X = b.X) && decide (a.Y = b.Y)) = decide (a = b) := by
  rw [Bool.eq_iff_iff]; cases a; cases b; simp
theorem jeq (x y : Joint) : (decide (x.ID = y.ID) && (decide (x.Kind = y.Kind) && (decide (x.BodyA = y.BodyA) && (decide (x.BodyB = y.BodyB) && (decide (x.AnchorA = y.AnchorA) && (decide (x.AnchorB = y.AnchorB) && (decide (x.Axis = y.Axis) && (decide (x.ReferenceAngle = y.ReferenceAngle) && (decide (x.EnableLimit = y.EnableLimit) && (decide (x.Lower = y.Lower) && (decide (x.Upper = y.Upper) && (decide (x.EnableMotor = y.EnableMotor) && (decide (x.MotorSpeed = y.MotorSpeed) && (decide (x.MaxForce = y.MaxForce) && (decide (x.Softness = y.Softness) && (decide (x.BreakForce = y.BreakForce) && (decide (x.CollideConnected = y.CollideConnected) && (decide (x.Impulses.fst = y.Impulses.fst) && (decide (x.Impulses.snd.fst = y.Impulses.snd.fst) && (decide (x.Impulses.snd.snd.fst = y.Impulses.snd.snd.fst) && decide (x.Impulses.snd.snd.snd = y.Impulses.snd.snd.snd))))))))))))))))))))) = decide (x = y) := by
  obtain ⟨x1, x2, x3, x4, ⟨x5, x6⟩, ⟨x7, x8⟩, ⟨x9, x10⟩, x11, x12, x13, x14, x15, x16, x17, x18, x19, x20, ⟨x21, x22, x23, x24⟩⟩ := x
  obtain ⟨y1, y2, y3, y4, ⟨y5, y6⟩, ⟨y7, y8⟩, ⟨y9, y10⟩, y11, y12, y13, y14, y15, y16, y17, y18, y19, y20, ⟨y21, y22, y23, y24⟩⟩ := y
  rw [Bool.eq_iff_iff]; simp [and_assoc]
theorem peq (x y : ContactPoint) : (decide (x.Point = y.Point) && (decide (x.Separation = y.Separation) && (decide (x.ID = y.ID) && (decide (x.NormalImpulse = y.NormalImpulse) && decide (x.TangentImpulse = y.TangentImpulse))))) = decide (x = y) := by
  obtain ⟨⟨x5, x6⟩, x1, x2, x3, x4⟩ := x
  obtain ⟨⟨y5, y6⟩, y1, y2, y3, y4⟩ := y
  rw [Bool.eq_iff_iff]; simp [and_assoc]
theorem steq (x y : Settings) : (decide (x.TimeStep = y.TimeStep) && (decide (x.Gravity = y.Gravity) && (decide (x.Iterations = y.Iterations) && decide (x.SleepSteps = y.SleepSteps)))) = decide (x = y) := by
  obtain ⟨x1, ⟨x5, x6⟩, x2, x3⟩ := x
  obtain ⟨y1, ⟨y5, y6⟩, y2, y3⟩ := y
  rw [Bool.eq_iff_iff]; simp [and_assoc]
theorem len_bne {α : Type} (l m : List α) : ((l.length : Int) != (m.length : Int)) = !decide (l.length = m.length) := by rw [Bool.eq_iff_iff]; simp; omega
theorem if_not_dec {α : Type} {p : Prop} [Decidable p] (a b : α) : (if (!decide p) = true then a else b) = if p then b else a := by by_cases h : p <;> simp [h]
theorem fixok {b : Body} (h : SmB b) : GoOld.FixOk b := ⟨Nat.le_trans h.1 (by omega), fun f hf => Nat.le_trans (h.2 f hf) (by omega)⟩
theorem body_Equal_eq' (a b : Body) (h : SmB a) : body_Equal a b = some (decide (a = b)) := by rw [br_body_Equal, GoOld.body_Equal_eq a b (fixok h)]
end GoForm


/-
  Plain laws of package scene: the chapter's example. No conditions.
-/
set_option linter.all false
set_option maxRecDepth 100000
open Go Go.Rx

namespace GoForm
theorem example52 : caromlaw52_example = some true := by kernel_rfl
end GoForm


/-
  Plain laws of package scene: numbers of a line. No conditions.
-/
set_option linter.all false
set_option maxRecDepth 100000
open Go Go.Rx

namespace GoForm
/-- Is it 0 or 1? -/
def b01 (s : List UInt8) : Bool := decide (s = [48]) || decide (s = [49])
def badB (f : List (List UInt8)) (bl : List Int) : Bool := bl.any fun b => !b01 (ix f (1 + b))
def syn (l : List (List UInt8)) : Bool := l.any fun s => decide ((pInt s).2 = 3)
def big (l : List (List UInt8)) : Bool := l.any fun s => decide ((pInt s).2 ≠ 0)
def vals (l : List (List UInt8)) : List Int := l.map fun s => (pInt s).1
/-- The numbers of a line. -/
def nums (f : List (List UInt8)) (bl : List Int) : List Int × Int := if syn f.tail = true ∨ badB f bl = true then ([], 3) else if big f.tail = true then ([], 6) else (vals f.tail, 0)

end GoForm


/-
  Plain laws of package scene: numbers of a line, the reference. No conditions.
-/
set_option linter.all false
set_option maxRecDepth 100000
open Go Go.Rx

namespace GoForm
end GoForm


/-
  Plain laws of package scene: the parsers of bodies, fixtures, joints; SceneFields. No conditions.
-/
set_option linter.all false
set_option maxRecDepth 100000
open Go Go.Rx

namespace GoForm
/-- What both readings of a line come to. -/
def line (f : List (List UInt8)) (kw : List UInt8) (ok : Bool) (bl : List Int) : List Int × Int := if f = [] ∨ ix f 0 ≠ kw ∨ ok = false then ([], 3) else nums f bl
def bl1 : List Int := [14, 15, 16, 17]
def kBody : List UInt8 := #[(98 : UInt8), (111 : UInt8), (100 : UInt8), (121 : UInt8)].toList
def kFix : List UInt8 := #[(102 : UInt8), (105 : UInt8), (120 : UInt8), (116 : UInt8), (117 : UInt8), (114 : UInt8), (101 : UInt8)].toList
def kJoint : List UInt8 := #[(106 : UInt8), (111 : UInt8), (105 : UInt8), (110 : UInt8), (116 : UInt8)].toList
end GoForm


/-
  Plain laws of package scene: the parsers of fixtures and joints; SceneFields. No conditions.
-/
set_option linter.all false
set_option maxRecDepth 100000
open Go Go.Rx

namespace GoForm
end GoForm


/-
  SceneFields. No conditions.
-/
set_option linter.all false
set_option maxRecDepth 100000
open Go Go.Rx

namespace GoForm
end GoForm


/-
  Plain laws of package scene: the lines of a world. No conditions.
-/
set_option linter.all false
set_option maxRecDepth 100000
open Go Go.Rx

namespace GoForm
def I64 (n : Int) : Prop := IntKind.i64.min ≤ n ∧ n ≤ IntKind.i64.max
/-- A line's text. -/
def lineT (kw : List UInt8) (l : List Int) : List UInt8 := kw ++ l.flatMap (fun n => 32 :: fmtInt n)
theorem joinTail_map (l : List Int) : Lib.joinTail [32] (l.map fmtInt) = l.flatMap (fun n => 32 :: fmtInt n) := by
  induction l with
  | nil => rfl
  | cons n l ih => rw [List.map_cons, joinTail_cons, ih, List.flatMap_cons]
theorem lineT_join (kw : List UInt8) (l : List Int) : Lib.join (kw :: l.map fmtInt) [32] = lineT kw l := by rw [Lib.join_cons, joinTail_map]; rfl
theorem nums_txt_len (l : List Int) (h : ∀ n ∈ l, I64 n) : (l.flatMap (fun n => 32 :: fmtInt n)).length ≤ 21 * l.length := by
  induction l with
  | nil => simp
  | cons n l ih =>
    have h1 := ih fun n hn => h n (List.mem_cons_of_mem _ hn)
    obtain ⟨a, b⟩ := h n (by simp)
    have h2 := (fmtInt_len n a b).1
    rw [List.flatMap_cons, List.length_append, List.length_cons, List.length_cons]
    omega
theorem lineT_len (kw : List UInt8) (l : List Int) (h : ∀ n ∈ l, I64 n) : (lineT kw l).length ≤ kw.length + 21 * l.length := by
  have := nums_txt_len l h
  unfold lineT
  rw [List.length_append]; omega
theorem flat1 {α β : Type} (f : α → β) (l : List α) : l.flatMap (fun n => [f n]) = l.map f := by
  induction l with
  | nil => rfl
  | cons a l ih => rw [List.flatMap_cons, ih]; rfl
/-- A loop that appends. -/
theorem LOOP_app {α β X : Type} [Inhabited α] (l : List α) (g : α → List β) (s0 : List β) (B : Nat) (R : Option X) (step : (List β × Int → Option X) → List β × Int → Option X) (hl : Sm l) (hB : (s0 ++ l.flatMap g).length ≤ B)
    (hs : ∀ (r : List β × Int → Option X) (i : Nat) (s : List β), IntKind.i64.wrap ((i : Int) + 1) = (i : Int) + 1 → (0 ≤ (i : Int) ∧ (i : Int) < (l.length : Int)) → ix l (i : Int) ∈ l → s.length + (g (ix l (i : Int))).length ≤ B → step r (s, (i : Int)) = r (s ++ g (ix l (i : Int)), (i : Int) + 1))
    (he : ∀ (r : List β × Int → Option X), step r (s0 ++ l.flatMap g, (l.length : Int)) = R) : LOOP step fuel (s0, (0 : Int)) = R := by
  refine (LOOP_i l (fun i s => s = s0 ++ (l.take i).flatMap g) (fun _ _ _ => R) step s0 hl (by simp) ?_ ?_)
  · intro r i t s hp hw hc hm hr
    have hi : i < l.length := by omega
    have e : s ++ g (ix l (i : Int)) = s0 ++ (l.take (i + 1)).flatMap g := by
      have h1 : l.take (i + 1) = l.take i ++ [ix l (i : Int)] := by
        rw [ix_lt l i hi, List.take_succ, List.getElem?_eq_getElem hi]; rfl
      rw [h1, List.flatMap_append, hp, List.append_assoc]; simp
    have hlen : (s ++ g (ix l (i : Int))).length ≤ B := by
      rw [e]
      refine Nat.le_trans ?_ hB
      have h2 : l.flatMap g = (l.take (i + 1)).flatMap g ++ (l.drop (i + 1)).flatMap g := by rw [← List.flatMap_append, List.take_append_drop]
      rw [h2, List.length_append, List.length_append, List.length_append]; omega
    rw [List.length_append] at hlen
    rw [hs r i s hw hc hm hlen, hr _ e]
  · intro r s hp
    rw [List.take_length] at hp
    rw [hp, he]
theorem FormatLine_eq (kw : List UInt8) (l : List Int) (hk : kw.length ≤ 1000) (hl : l.length ≤ 1000) (h : ∀ n ∈ l, I64 n) : scene_FormatLine kw l = some (lineT kw l) := by
  unfold scene_FormatLine
  simp only [Let_nr]
  rw [← lineT_join]
  refine LOOP_app l (fun n => [fmtInt n]) [kw] 2000 _ _ (sm_of hl (by decide)) ?_ ?_ ?_
  · rw [flat1]; simp; omega
  · intro r i s hw hc hm hb
    have hb : s.length + 1 ≤ 2000 := hb
    obtain ⟨q1, q2⟩ := h _ hm
    simp only [dlt hc, if_true, Chk_of hc, FormatInt_eq _ q1 q2, Bind_snr, hw]
    rw [Chk_of (by simp; omega)]
  · intro r
    simp only [dll, ff, if_false]
    rw [flat1, show [kw] ++ l.map fmtInt = kw :: l.map fmtInt from rfl]
    rw [JoinFields_eq _ (by simp; omega) (by
      rw [lineT_join]
      have := lineT_len kw l h
      omega)]
    rfl
end GoForm


/-
  Plain laws of package scene: the numbers of a world, line by line. No conditions.
-/
set_option linter.all false
set_option maxRecDepth 100000
open Go Go.Rx

namespace GoForm
def kWorld : List UInt8 := #[(119 : UInt8), (111 : UInt8), (114 : UInt8), (108 : UInt8), (100 : UInt8)].toList
def kContact : List UInt8 := #[(99 : UInt8), (111 : UInt8), (110 : UInt8), (116 : UInt8), (97 : UInt8), (99 : UInt8), (116 : UInt8)].toList
def kPoint : List UInt8 := #[(112 : UInt8), (111 : UInt8), (105 : UInt8), (110 : UInt8), (116 : UInt8)].toList
def kOverlap : List UInt8 := #[(111 : UInt8), (118 : UInt8), (101 : UInt8), (114 : UInt8), (108 : UInt8), (97 : UInt8), (112 : UInt8)].toList
def bit (b : Bool) : Int := if b = true then 1 else 0
theorem bit64 (b : Bool) : I64 (bit b) := by cases b <;> exact ⟨by decide, by decide⟩
theorem boolValue_eq (b : Bool) : scene_boolValue b = some (bit b) := by cases b <;> rfl
def wNums (w : World_) : List Int := [w.Settings.TimeStep, w.Settings.Gravity.X, w.Settings.Gravity.Y, w.Settings.Iterations, w.Settings.SleepSteps, w.NextID, w.Frame]
def bNums (b : Body) : List Int := [b.ID, b.Kind, b.Transform.Position.X, b.Transform.Position.Y, b.Transform.Angle, b.Velocity.X, b.Velocity.Y, b.AngularVelocity, b.Force.X, b.Force.Y, b.Torque, b.LinearDamping, b.AngularDamping, b.GravityScale, bit b.Bullet, bit b.FixedRotation, bit b.NoSleep, bit b.Asleep, b.IdleSteps]
def fNums (f : Fixture) : List Int := [f.Density, f.Friction, f.Restitution, bit f.Sensor, f.Category, f.Mask, f.Group, f.Shape.Kind, f.Shape.Radius] ++ f.Shape.Vertices.flatMap (fun v => [v.X, v.Y])
def jNums (j : Joint) : List Int := [j.ID, j.Kind, j.BodyA, j.BodyB, j.AnchorA.X, j.AnchorA.Y, j.AnchorB.X, j.AnchorB.Y, j.Axis.X, j.Axis.Y, j.ReferenceAngle, bit j.EnableLimit, j.Lower, j.Upper, bit j.EnableMotor, j.MotorSpeed, j.MaxForce, j.Softness, j.BreakForce, bit j.CollideConnected, j.Impulses.1, j.Impulses.2.1, j.Impulses.2.2.1, j.Impulses.2.2.2]
def cNums (c : Contact) : List Int := [c.Key.BodyA, c.Key.FixtureA, c.Key.BodyB, c.Key.FixtureB, c.Manifold.Normal.X, c.Manifold.Normal.Y]
def dNums (d : ContactPoint) : List Int := [d.Point.X, d.Point.Y, d.Separation, d.ID, d.NormalImpulse, d.TangentImpulse]
def kNums (k : PairKey) : List Int := [k.BodyA, k.FixtureA, k.BodyB, k.FixtureB]
def bLines (b : Body) : List (List UInt8) := lineT kBody (bNums b) :: b.Fixtures.map fun f => lineT kFix (fNums f)
def cLines (c : Contact) : List (List UInt8) := lineT kContact (cNums c) :: c.Manifold.Points.map fun d => lineT kPoint (dNums d)
def allLines (w : World_) : List (List UInt8) := lineT kWorld (wNums w) :: (w.Bodies.flatMap bLines ++ (w.Joints.map (fun j => lineT kJoint (jNums j)) ++ (w.Contacts.flatMap cLines ++ w.Overlaps.map fun k => lineT kOverlap (kNums k))))
def textOf (w : World_) : List UInt8 := flat 10 (allLines w)
/-- All numbers fit. -/
structure AllI (w : World_) : Prop where
  hw : ∀ n ∈ wNums w, I64 n
  hb : ∀ b ∈ w.Bodies, ∀ n ∈ bNums b, I64 n
  hf : ∀ b ∈ w.Bodies, ∀ f ∈ b.Fixtures, ∀ n ∈ fNums f, I64 n
  hj : ∀ j ∈ w.Joints, ∀ n ∈ jNums j, I64 n
  hc : ∀ c ∈ w.Contacts, ∀ n ∈ cNums c, I64 n
  hd : ∀ c ∈ w.Contacts, ∀ d ∈ c.Manifold.Points, ∀ n ∈ dNums d, I64 n
  hk : ∀ k ∈ w.Overlaps, ∀ n ∈ kNums k, I64 n
theorem fNums_len (f : Fixture) : (fNums f).length = 9 + 2 * f.Shape.Vertices.length := by
  have : ∀ l : List Vec, (l.flatMap (fun v => [v.X, v.Y])).length = 2 * l.length := by
    intro l
    induction l with
    | nil => rfl
    | cons a l ih => rw [List.flatMap_cons, List.length_append, ih]; simp; omega
  unfold fNums
  rw [List.length_append, this]; rfl
theorem bodyLines_eq (b : Body) (hf : b.Fixtures.length ≤ 8) (hv : ∀ f ∈ b.Fixtures, f.Shape.Vertices.length ≤ 20) (h1 : ∀ n ∈ bNums b, I64 n) (h2 : ∀ f ∈ b.Fixtures, ∀ n ∈ fNums f, I64 n) : scene_bodyLines b = some (bLines b) := by
  unfold scene_bodyLines
  simp only [boolValue_eq, Bind_snr, Let_nr]
  refine Eq.trans (Bind_of (FormatLine_eq kBody (bNums b) (by decide) (by show 19 ≤ _; decide) h1)) ?_
  refine LOOP_app b.Fixtures (fun f => [lineT kFix (fNums f)]) [lineT kBody (bNums b)] 100 _ _ (sm_of hf (by decide)) ?_ ?_ ?_
  · rw [flat1]; simp; omega
  · intro r i s hw hc hm hb
    have hb : s.length + 1 ≤ 100 := hb
    have hv1 := hv _ hm
    simp only [dlt hc, if_true, Chk_of hc, hw]
    generalize hx : ix b.Fixtures (i : Int) = f at hm hv1
    refine LOOP_app f.Shape.Vertices (fun v => [v.X, v.Y]) _ 100 _ _ (sm_of hv1 (by decide)) ?_ ?_ ?_
    · have := fNums_len f
      unfold fNums at this
      have e : ∀ a, ([f.Density, f.Friction, f.Restitution, a, f.Category, f.Mask, f.Group, f.Shape.Kind, f.Shape.Radius] ++ f.Shape.Vertices.flatMap (fun v => [v.X, v.Y])).length = 9 + 2 * f.Shape.Vertices.length := fun a => by rw [List.length_append] at this ⊢; exact this
      rw [e]; omega
    · intro r i s hw hc hm hb
      have hb : s.length + 2 ≤ 100 := hb
      simp only [dlt hc, if_true, Chk_of hc, hw]
      rw [Chk_of (by simp; omega)]
    · intro r2
      simp only [dll, ff, if_false]
      have hl : (fNums f).length ≤ 1000 := by rw [fNums_len]; omega
      refine Eq.trans (Bind_of (FormatLine_eq kFix (fNums f) (by decide) hl (h2 f hm))) ?_
      rw [Chk_of (by simp; omega)]
  · intro r
    simp only [dll, ff, if_false]
    rw [flat1]; rfl
theorem contactLines_eq (c : Contact) (hp : c.Manifold.Points.length ≤ 8) (h1 : ∀ n ∈ cNums c, I64 n) (h2 : ∀ d ∈ c.Manifold.Points, ∀ n ∈ dNums d, I64 n) : scene_contactLines c = some (cLines c) := by
  unfold scene_contactLines
  simp only [Let_nr]
  refine Eq.trans (Bind_of (FormatLine_eq kContact (cNums c) (by decide) (by show 6 ≤ _; decide) h1)) ?_
  refine LOOP_app c.Manifold.Points (fun d => [lineT kPoint (dNums d)]) [lineT kContact (cNums c)] 100 _ _ (sm_of hp (by decide)) ?_ ?_ ?_
  · rw [flat1]; simp; omega
  · intro r i s hw hc hm hb
    have hb : s.length + 1 ≤ 100 := hb
    simp only [dlt hc, if_true, Chk_of hc, hw]
    refine Eq.trans (Bind_of (FormatLine_eq kPoint (dNums _) (by decide) (by show 6 ≤ _; decide) (h2 _ hm))) ?_
    rw [Chk_of (by simp; omega)]
  · intro r
    simp only [dll, ff, if_false]
    rw [flat1]; rfl
end GoForm


/-
  Plain laws of package scene: a world's text. No conditions.
-/
set_option linter.all false
set_option maxRecDepth 100000
open Go Go.Rx

namespace GoForm
theorem jointLine_eq (j : Joint) (h1 : ∀ n ∈ jNums j, I64 n) : scene_jointLine j = some (lineT kJoint (jNums j)) := by
  unfold scene_jointLine
  simp only [boolValue_eq, Bind_snr, Let_nr]
  rw [Chk_of (by simp)]
  exact Bind_of (FormatLine_eq kJoint (jNums j) (by decide) (by show 24 ≤ _; decide) h1)
theorem flatMap_len_le {α β : Type} (l : List α) (g : α → List β) (n : Nat) (h : ∀ a ∈ l, (g a).length ≤ n) : (l.flatMap g).length ≤ l.length * n := by
  induction l with
  | nil => simp
  | cons a l ih =>
    have h1 := h a (by simp)
    have h2 := ih fun b hb => h b (List.mem_cons_of_mem _ hb)
    rw [List.flatMap_cons, List.length_append, List.length_cons, Nat.succ_mul]; omega
theorem lines_count (w : World_) (h : Few w) : (allLines w).length ≤ 2000 := by
  have h1 := flatMap_len_le w.Bodies bLines 9 fun b hb => by have := h.fixtures b hb; unfold bLines; simp; omega
  have h2 := flatMap_len_le w.Contacts cLines 9 fun c hc => by have := h.points c hc; unfold cLines; simp; omega
  have h3 := h.bodies
  have h4 := h.joints
  have h5 := h.contacts
  have h6 := h.overlaps
  unfold allLines
  simp only [List.length_cons, List.length_append, List.length_map]
  omega
theorem lines_len (w : World_) (h : Few w) (hi : AllI w) : ∀ x ∈ allLines w, x.length ≤ 3000 := by
  intro x hx
  unfold allLines at hx
  simp only [List.mem_cons, List.mem_append, List.mem_map, List.mem_flatMap] at hx
  rcases hx with rfl | ⟨b, hb, hx⟩ | ⟨j, hj, rfl⟩ | ⟨c, hc, hx⟩ | ⟨k, hk, rfl⟩
  · have := lineT_len kWorld _ hi.hw
    have e : (wNums w).length = 7 := rfl
    have e2 : kWorld.length = 5 := rfl
    omega
  · unfold bLines at hx
    simp only [List.mem_cons, List.mem_map] at hx
    rcases hx with rfl | ⟨f, hf, rfl⟩
    · have := lineT_len kBody _ (hi.hb b hb)
      have e : (bNums b).length = 19 := rfl
      have e2 : kBody.length = 4 := rfl
      omega
    · have := lineT_len kFix _ (hi.hf b hb f hf)
      have e := fNums_len f
      have e1 := h.vertices b hb f hf
      have e2 : kFix.length = 7 := rfl
      omega
  · have := lineT_len kJoint _ (hi.hj j hj)
    have e : (jNums j).length = 24 := rfl
    have e2 : kJoint.length = 5 := rfl
    omega
  · unfold cLines at hx
    simp only [List.mem_cons, List.mem_map] at hx
    rcases hx with rfl | ⟨d, hd, rfl⟩
    · have := lineT_len kContact _ (hi.hc c hc)
      have e : (cNums c).length = 6 := rfl
      have e2 : kContact.length = 7 := rfl
      omega
    · have := lineT_len kPoint _ (hi.hd c hc d hd)
      have e : (dNums d).length = 6 := rfl
      have e2 : kPoint.length = 5 := rfl
      omega
  · have := lineT_len kOverlap _ (hi.hk k hk)
    have e : (kNums k).length = 4 := rfl
    have e2 : kOverlap.length = 7 := rfl
    omega
end GoForm


/-
  Plain laws of package scene: SceneFormat. No conditions.
-/
set_option linter.all false
set_option maxRecDepth 100000
open Go Go.Rx

namespace GoForm
theorem flat_len (c : UInt8) (l : List (List UInt8)) (n : Nat) (h : ∀ x ∈ l, x.length ≤ n) : (flat c l).length ≤ l.length * (n + 1) := by
  unfold flat
  exact flatMap_len_le l _ (n + 1) fun a ha => by have := h a ha; simp; omega
theorem text_len (w : World_) (h : Few w) (hi : AllI w) : (textOf w).length ≤ 10000000 := by
  have h1 := flat_len 10 (allLines w) 3000 (lines_len w h hi)
  have h2 := lines_count w h
  unfold textOf
  omega
theorem Format_eq (w : World_) (h : Few w) (hi : AllI w) : scene_Format w = some (if (wv w != (0 : Int)) = true then (([] : List UInt8), (18 : Int)) else (textOf w, 0)) := by
  unfold scene_Format
  simp only [world_Val_eq w h, Bind_snr, Let_nr]
  by_cases hv : (wv w != (0 : Int)) = true
  · rw [if_pos hv, if_pos hv]
  rw [if_neg hv, if_neg hv]
  have hc := lines_count w h
  unfold allLines at hc
  simp only [List.length_cons, List.length_append, List.length_map] at hc
  refine Eq.trans (Bind_of (FormatLine_eq kWorld (wNums w) (by decide) (by show 7 ≤ _; decide) hi.hw)) ?_
  refine LOOP_app w.Bodies bLines _ 2000 _ _ (sm_of h.bodies (by decide)) ?_ ?_ ?_
  · simp only [List.length_cons, List.length_append, List.length_nil]; omega
  · intro r i s hw hcc hm hb
    simp only [dlt hcc, if_true, Chk_of hcc, hw, bodyLines_eq _ (h.fixtures _ hm) (h.vertices _ hm) (hi.hb _ hm) (hi.hf _ hm), Bind_snr]
    rw [Chk_of (by omega)]
  intro r
  simp only [dll, ff, if_false]
  refine LOOP_app w.Joints (fun j => [lineT kJoint (jNums j)]) _ 2000 _ _ (sm_of h.joints (by decide)) ?_ ?_ ?_
  · rw [flat1]; simp only [List.length_cons, List.length_append, List.length_nil, List.length_map]; omega
  · intro r i s hw hcc hm hb
    have hb : s.length + 1 ≤ 2000 := hb
    simp only [dlt hcc, if_true, Chk_of hcc, hw, jointLine_eq _ (hi.hj _ hm), Bind_snr]
    rw [Chk_of (by simp; omega)]
  intro r
  simp only [dll, ff, if_false]
  refine LOOP_app w.Contacts cLines _ 2000 _ _ (sm_of h.contacts (by decide)) ?_ ?_ ?_
  · rw [flat1]; simp only [List.length_cons, List.length_append, List.length_nil, List.length_map]; omega
  · intro r i s hw hcc hm hb
    simp only [dlt hcc, if_true, Chk_of hcc, hw, contactLines_eq _ (h.points _ hm) (hi.hc _ hm) (hi.hd _ hm), Bind_snr]
    rw [Chk_of (by omega)]
  intro r
  simp only [dll, ff, if_false]
  refine LOOP_app w.Overlaps (fun k => [lineT kOverlap (kNums k)]) _ 2000 _ _ (sm_of h.overlaps (by decide)) ?_ ?_ ?_
  · rw [flat1, flat1]; simp only [List.length_cons, List.length_append, List.length_nil, List.length_map]; omega
  · intro r i s hw hcc hm hb
    have hb : s.length + 1 ≤ 2000 := hb
    simp only [dlt hcc, if_true, Chk_of hcc, hw]
    refine Eq.trans (Bind_of (FormatLine_eq kOverlap (kNums _) (by decide) (by show 4 ≤ _; decide) (hi.hk _ hm))) ?_
    rw [Chk_of (by simp; omega)]
  intro r
  simp only [dll, ff, if_false]
  have e : [lineT kWorld (wNums w)] ++ w.Bodies.flatMap bLines ++ w.Joints.flatMap (fun j => [lineT kJoint (jNums j)]) ++ w.Contacts.flatMap cLines ++ w.Overlaps.flatMap (fun k => [lineT kOverlap (kNums k)]) = allLines w := by
    rw [flat1, flat1]; unfold allLines; simp only [List.append_assoc]; rfl
  rw [e]
  have hL := lines_count w h
  have hT := text_len w h hi
  unfold textOf at hT ⊢
  generalize allLines w = L at hL hT ⊢
  refine LOOP_app L (fun p => p ++ [10]) _ 10000000 _ _ (sm_of hL (by decide)) hT ?_ ?_
  · intro r i s hw hcc hm hb
    rw [List.length_append, List.length_singleton] at hb
    simp only [dlt hcc, if_true, Chk_of hcc, hw]
    rw [Chk_of (by omega), Chk_of (by simp; omega)]
  · intro r
    simp only [dll, ff, if_false]
    rfl
end GoForm


/-
  Plain laws of package scene: SceneFormat, the law. No conditions.
-/
set_option linter.all false
set_option maxRecDepth 100000
open Go Go.Rx

namespace GoForm
def Vec_P (x : Vec) : Prop := (IntKind.i64.min ≤ x.X ∧ x.X ≤ IntKind.i64.max) ∧ (IntKind.i64.min ≤ x.Y ∧ x.Y ≤ IntKind.i64.max)
def Settings_P (x : Settings) : Prop := (IntKind.i64.min ≤ x.TimeStep ∧ x.TimeStep ≤ IntKind.i64.max) ∧ Vec_P x.Gravity ∧ (IntKind.i64.min ≤ x.Iterations ∧ x.Iterations ≤ IntKind.i64.max) ∧ (IntKind.i64.min ≤ x.SleepSteps ∧ x.SleepSteps ≤ IntKind.i64.max)
def Transform_P (x : Transform) : Prop := Vec_P x.Position ∧ (IntKind.i64.min ≤ x.Angle ∧ x.Angle ≤ IntKind.i64.max)
def Shape_P (x : Shape) : Prop := (IntKind.i64.min ≤ x.Kind ∧ x.Kind ≤ IntKind.i64.max) ∧ (IntKind.i64.min ≤ x.Radius ∧ x.Radius ≤ IntKind.i64.max) ∧ ((∀ a ∈ x.Vertices, Vec_P a) ∧ (x.Vertices).length ≤ 9223372036854775807)
def Fixture_P (x : Fixture) : Prop := Shape_P x.Shape ∧ (IntKind.i64.min ≤ x.Density ∧ x.Density ≤ IntKind.i64.max) ∧ (IntKind.i64.min ≤ x.Friction ∧ x.Friction ≤ IntKind.i64.max) ∧ (IntKind.i64.min ≤ x.Restitution ∧ x.Restitution ≤ IntKind.i64.max) ∧ True ∧ (IntKind.i64.min ≤ x.Category ∧ x.Category ≤ IntKind.i64.max) ∧ (IntKind.i64.min ≤ x.Mask ∧ x.Mask ≤ IntKind.i64.max) ∧ (IntKind.i64.min ≤ x.Group ∧ x.Group ≤ IntKind.i64.max)
def Body_P (x : Body) : Prop := (IntKind.i64.min ≤ x.ID ∧ x.ID ≤ IntKind.i64.max) ∧ (IntKind.i64.min ≤ x.Kind ∧ x.Kind ≤ IntKind.i64.max) ∧ Transform_P x.Transform ∧ Vec_P x.Velocity ∧ (IntKind.i64.min ≤ x.AngularVelocity ∧ x.AngularVelocity ≤ IntKind.i64.max) ∧ Vec_P x.Force ∧ (IntKind.i64.min ≤ x.Torque ∧ x.Torque ≤ IntKind.i64.max) ∧ (IntKind.i64.min ≤ x.LinearDamping ∧ x.LinearDamping ≤ IntKind.i64.max) ∧ (IntKind.i64.min ≤ x.AngularDamping ∧ x.AngularDamping ≤ IntKind.i64.max) ∧ (IntKind.i64.min ≤ x.GravityScale ∧ x.GravityScale ≤ IntKind.i64.max) ∧ True ∧ True ∧ True ∧ True ∧ (IntKind.i64.min ≤ x.IdleSteps ∧ x.IdleSteps ≤ IntKind.i64.max) ∧ ((∀ a ∈ x.Fixtures, Fixture_P a) ∧ (x.Fixtures).length ≤ 9223372036854775807)
def Joint_P (x : Joint) : Prop := (IntKind.i64.min ≤ x.ID ∧ x.ID ≤ IntKind.i64.max) ∧ (IntKind.i64.min ≤ x.Kind ∧ x.Kind ≤ IntKind.i64.max) ∧ (IntKind.i64.min ≤ x.BodyA ∧ x.BodyA ≤ IntKind.i64.max) ∧ (IntKind.i64.min ≤ x.BodyB ∧ x.BodyB ≤ IntKind.i64.max) ∧ Vec_P x.AnchorA ∧ Vec_P x.AnchorB ∧ Vec_P x.Axis ∧ (IntKind.i64.min ≤ x.ReferenceAngle ∧ x.ReferenceAngle ≤ IntKind.i64.max) ∧ True ∧ (IntKind.i64.min ≤ x.Lower ∧ x.Lower ≤ IntKind.i64.max) ∧ (IntKind.i64.min ≤ x.Upper ∧ x.Upper ≤ IntKind.i64.max) ∧ True ∧ (IntKind.i64.min ≤ x.MotorSpeed ∧ x.MotorSpeed ≤ IntKind.i64.max) ∧ (IntKind.i64.min ≤ x.MaxForce ∧ x.MaxForce ≤ IntKind.i64.max) ∧ (IntKind.i64.min ≤ x.Softness ∧ x.Softness ≤ IntKind.i64.max) ∧ (IntKind.i64.min ≤ x.BreakForce ∧ x.BreakForce ≤ IntKind.i64.max) ∧ True ∧ ((IntKind.i64.min ≤ x.Impulses.1 ∧ x.Impulses.1 ≤ IntKind.i64.max) ∧ (IntKind.i64.min ≤ x.Impulses.2.1 ∧ x.Impulses.2.1 ≤ IntKind.i64.max) ∧ (IntKind.i64.min ≤ x.Impulses.2.2.1 ∧ x.Impulses.2.2.1 ≤ IntKind.i64.max) ∧ (IntKind.i64.min ≤ x.Impulses.2.2.2 ∧ x.Impulses.2.2.2 ≤ IntKind.i64.max))
def PairKey_P (x : PairKey) : Prop := (IntKind.i64.min ≤ x.BodyA ∧ x.BodyA ≤ IntKind.i64.max) ∧ (IntKind.i64.min ≤ x.FixtureA ∧ x.FixtureA ≤ IntKind.i64.max) ∧ (IntKind.i64.min ≤ x.BodyB ∧ x.BodyB ≤ IntKind.i64.max) ∧ (IntKind.i64.min ≤ x.FixtureB ∧ x.FixtureB ≤ IntKind.i64.max)
def ContactPoint_P (x : ContactPoint) : Prop := Vec_P x.Point ∧ (IntKind.i64.min ≤ x.Separation ∧ x.Separation ≤ IntKind.i64.max) ∧ (IntKind.i64.min ≤ x.ID ∧ x.ID ≤ IntKind.i64.max) ∧ (IntKind.i64.min ≤ x.NormalImpulse ∧ x.NormalImpulse ≤ IntKind.i64.max) ∧ (IntKind.i64.min ≤ x.TangentImpulse ∧ x.TangentImpulse ≤ IntKind.i64.max)
def Manifold_P (x : Manifold) : Prop := Vec_P x.Normal ∧ ((∀ a ∈ x.Points, ContactPoint_P a) ∧ (x.Points).length ≤ 9223372036854775807)
def Contact_P (x : Contact) : Prop := PairKey_P x.Key ∧ Manifold_P x.Manifold
def World__P (x : World_) : Prop := Settings_P x.Settings ∧ ((∀ a ∈ x.Bodies, Body_P a) ∧ (x.Bodies).length ≤ 9223372036854775807) ∧ ((∀ a ∈ x.Joints, Joint_P a) ∧ (x.Joints).length ≤ 9223372036854775807) ∧ ((∀ a ∈ x.Contacts, Contact_P a) ∧ (x.Contacts).length ≤ 9223372036854775807) ∧ ((∀ a ∈ x.Overlaps, PairKey_P a) ∧ (x.Overlaps).length ≤ 9223372036854775807) ∧ (IntKind.i64.min ≤ x.NextID ∧ x.NextID ≤ IntKind.i64.max) ∧ (IntKind.i64.min ≤ x.Frame ∧ x.Frame ≤ IntKind.i64.max)
theorem AllI_of {w : World_} (h : World__P w) : AllI w := by
  obtain ⟨⟨s1, ⟨s2, s3⟩, s4, s5⟩, ⟨hb, -⟩, ⟨hj, -⟩, ⟨hc, -⟩, ⟨ho, -⟩, n1, n2⟩ := h
  refine ⟨?_, ?_, ?_, ?_, ?_, ?_, ?_⟩
  · intro n hn
    simp only [wNums, List.mem_cons, List.not_mem_nil, or_false] at hn
    rcases hn with rfl | rfl | rfl | rfl | rfl | rfl | rfl <;> assumption
  · intro b hb' n hn
    obtain ⟨b1, b2, ⟨⟨b3, b4⟩, b5⟩, ⟨b6, b7⟩, b8, ⟨b9, b10⟩, b11, b12, b13, b14, -, -, -, -, b15, -⟩ := hb b hb'
    simp only [bNums, List.mem_cons, List.not_mem_nil, or_false] at hn
    rcases hn with rfl | rfl | rfl | rfl | rfl | rfl | rfl | rfl | rfl | rfl | rfl | rfl | rfl | rfl | rfl | rfl | rfl | rfl | rfl <;> first | assumption | exact bit64 _
  · intro b hb' f hf n hn
    obtain ⟨-, -, -, -, -, -, -, -, -, -, -, -, -, -, -, ⟨hfx, -⟩⟩ := hb b hb'
    obtain ⟨⟨f1, f2, ⟨hv, -⟩⟩, f3, f4, f5, -, f6, f7, f8⟩ := hfx f hf
    simp only [fNums, List.mem_cons, List.mem_append, List.mem_flatMap, List.not_mem_nil, or_false] at hn
    rcases hn with (rfl | rfl | rfl | rfl | rfl | rfl | rfl | rfl | rfl) | ⟨v, hv', rfl | rfl⟩
    all_goals first | assumption | exact bit64 _ | exact (hv v hv').1 | exact (hv v hv').2
  · intro j hj' n hn
    obtain ⟨j1, j2, j3, j4, ⟨j5, j6⟩, ⟨j7, j8⟩, ⟨j9, j10⟩, j11, -, j12, j13, -, j14, j15, j16, j17, -, ⟨j18, j19, j20, j21⟩⟩ := hj j hj'
    simp only [jNums, List.mem_cons, List.not_mem_nil, or_false] at hn
    rcases hn with rfl | rfl | rfl | rfl | rfl | rfl | rfl | rfl | rfl | rfl | rfl | rfl | rfl | rfl | rfl | rfl | rfl | rfl | rfl | rfl | rfl | rfl | rfl | rfl <;> first | assumption | exact bit64 _
  · intro c hc' n hn
    obtain ⟨⟨c1, c2, c3, c4⟩, ⟨⟨c5, c6⟩, -⟩⟩ := hc c hc'
    simp only [cNums, List.mem_cons, List.not_mem_nil, or_false] at hn
    rcases hn with rfl | rfl | rfl | rfl | rfl | rfl <;> assumption
  · intro c hc' d hd n hn
    obtain ⟨-, ⟨-, ⟨hp, -⟩⟩⟩ := hc c hc'
    obtain ⟨⟨d1, d2⟩, d3, d4, d5, d6⟩ := hp d hd
    simp only [dNums, List.mem_cons, List.not_mem_nil, or_false] at hn
    rcases hn with rfl | rfl | rfl | rfl | rfl | rfl <;> assumption
  · intro k hk n hn
    obtain ⟨k1, k2, k3, k4⟩ := ho k hk
    simp only [kNums, List.mem_cons, List.not_mem_nil, or_false] at hn
    rcases hn with rfl | rfl | rfl | rfl <;> assumption
end GoForm


/-
  Plain laws of package world: equality, as a scene meets it. No conditions.
-/
set_option linter.all false
set_option maxRecDepth 100000
open Go Go.Rx

namespace GoForm
theorem slEq102 (a b : List ContactPoint) (h : a.length ≤ 10000) : slices_Equal_102 a b = some (decide (a = b)) := by
  unfold slices_Equal_102
  simp only [Let_nr, veq, peq, len_bne]
  by_cases hl : a.length = b.length
  · rw [show LOOP _ fuel (0 : Int) = _ from LOOP_eq2 a b (some true) (some false) _ (sm_of h (by omega)) hl ?_ ?_]
    · by_cases h2 : a = b <;> simp [h2, hl]
    · intro r i hw hc hc2 hm
      simp only [dlt hc, if_true, hw, Chk_of hc, Chk_of hc2, if_not_dec]
    · intro r; simp only [dll, ff, if_false]
  · have : ¬ a = b := fun e => hl (by rw [e])
    simp [hl, this]
theorem slEqJ (a b : List Joint) (h : a.length ≤ 10000) : slices_Equal a b = some (decide (a = b)) := by
  unfold slices_Equal
  simp only [Let_nr, veq, jeq, len_bne]
  by_cases hl : a.length = b.length
  · rw [show LOOP _ fuel (0 : Int) = _ from LOOP_eq2 a b (some true) (some false) _ (sm_of h (by omega)) hl ?_ ?_]
    · by_cases h2 : a = b <;> simp [h2, hl]
    · intro r i hw hc hc2 hm
      simp only [dlt hc, if_true, hw, Chk_of hc, Chk_of hc2, if_not_dec]
    · intro r; simp only [dll, ff, if_false]
  · have : ¬ a = b := fun e => hl (by rw [e])
    simp [hl, this]
theorem slEqK (a b : List PairKey) (h : a.length ≤ 10000) : slices_Equal_63 a b = some (decide (a = b)) := by
  unfold slices_Equal_63
  simp only [Let_nr, keq, len_bne]
  by_cases hl : a.length = b.length
  · rw [show LOOP _ fuel (0 : Int) = _ from LOOP_eq2 a b (some true) (some false) _ (sm_of h (by omega)) hl ?_ ?_]
    · by_cases h2 : a = b <;> simp [h2, hl]
    · intro r i hw hc hc2 hm
      simp only [dlt hc, if_true, hw, Chk_of hc, Chk_of hc2, if_not_dec]
    · intro r; simp only [dll, ff, if_false]
  · have : ¬ a = b := fun e => hl (by rw [e])
    simp [hl, this]
theorem slEqB (a b : List Body) (f : Body × Body → Option Bool) (h : a.length ≤ 10000) (hf : ∀ x ∈ a, ∀ y, f (x, y) = some (decide (x = y))) : slices_EqualFunc a b f = some (decide (a = b)) := by
  unfold slices_EqualFunc
  simp only [Let_nr, len_bne]
  by_cases hl : a.length = b.length
  · rw [show LOOP _ fuel (0 : Int) = _ from LOOP_eq2 a b (some true) (some false) _ (sm_of h (by omega)) hl ?_ ?_]
    · by_cases h2 : a = b <;> simp [h2, hl]
    · intro r i hw hc hc2 hm
      simp only [dlt hc, if_true, hw, Chk_of hc, Chk_of hc2, hf _ hm, Bind_snr, if_not_dec]
    · intro r; simp only [dll, ff, if_false]
  · have : ¬ a = b := fun e => hl (by rw [e])
    simp [hl, this]
theorem slEqC (a b : List Contact) (f : Contact × Contact → Option Bool) (h : a.length ≤ 10000) (hf : ∀ x ∈ a, ∀ y, f (x, y) = some (decide (x = y))) : slices_EqualFunc_62 a b f = some (decide (a = b)) := by
  unfold slices_EqualFunc_62
  simp only [Let_nr, len_bne]
  by_cases hl : a.length = b.length
  · rw [show LOOP _ fuel (0 : Int) = _ from LOOP_eq2 a b (some true) (some false) _ (sm_of h (by omega)) hl ?_ ?_]
    · by_cases h2 : a = b <;> simp [h2, hl]
    · intro r i hw hc hc2 hm
      simp only [dlt hc, if_true, hw, Chk_of hc, Chk_of hc2, hf _ hm, Bind_snr, if_not_dec]
    · intro r; simp only [dll, ff, if_false]
  · have : ¬ a = b := fun e => hl (by rw [e])
    simp [hl, this]
theorem ga1 (c a d : Bool) : (bif c then (if (c == true) = true then a else d) else false) = (c && a) := by cases c <;> rfl
theorem mani_eq (a b : Manifold) (h : a.Points.length ≤ 10000) : manifold_Equal a b = some (decide (a = b)) := by
  obtain ⟨an, ap⟩ := a
  obtain ⟨bn, bp⟩ := b
  dsimp only at h
  unfold manifold_Equal
  simp only [Let_nr, veq, slEq102 ap bp h, Bind_if, Bind_snr, ga1]
  by_cases h1 : an = bn <;> by_cases h2 : ap = bp <;> simp [h1, h2]
theorem cEq_eq (a b : Contact) (h : a.Manifold.Points.length ≤ 10000) : world_Equal_1 a b = some (decide (a = b)) := by
  obtain ⟨ak, am⟩ := a
  obtain ⟨bk, bm⟩ := b
  dsimp only at h
  unfold world_Equal_1
  simp only [Let_nr, keq, mani_eq am bm h, Bind_if, Bind_snr, ga1]
  by_cases h1 : ak = bk <;> by_cases h2 : am = bm <;> simp [h1, h2]
theorem world_Equal_eq (a b : World_) (h : SmW a) : world_Equal a b = some (decide (a = b)) := by
  obtain ⟨a_s, ab, aj, ac, ao, an, af⟩ := a
  obtain ⟨b_s, bb, bj, bc, bo, bn, bf⟩ := b
  obtain ⟨h1, h2, h3, h4, h5, h6⟩ := h
  dsimp only at h1 h2 h3 h4 h5 h6
  unfold world_Equal
  have eB : (slices_EqualFunc ab bb fun (a : Tup tb [Ix.tBody, Ix.tBody]) => body_Equal a.fst a.snd) = some (decide (ab = bb)) := slEqB ab bb _ h1 (fun x hx y => body_Equal_eq' x y (h6 x hx))
  have eC : (slices_EqualFunc_62 ac bc fun (a : Tup tb [Ix.tContact, Ix.tContact]) => world_Equal_1 a.fst a.snd) = some (decide (ac = bc)) := slEqC ac bc _ h3 (fun x hx y => cEq_eq x y (h5 x hx))
  simp only [Let_nr, veq, steq, eB, eC, slEqJ aj bj h2, slEqK ao bo h4, Bind_if, Bind_snr, ga1]
  by_cases e1 : a_s = b_s <;> by_cases e2 : an = bn <;> by_cases e3 : af = bf <;> by_cases e4 : ao = bo <;> by_cases e5 : ab = bb <;> by_cases e6 : aj = bj <;> by_cases e7 : ac = bc <;> simp [e1, e2, e3, e4, e5, e6, e7]
end GoForm


/-
  Plain laws of package scene: a text belongs to one world. No conditions.
-/
set_option linter.all false
set_option maxRecDepth 100000
open Go Go.Rx

namespace GoForm
theorem fmtInt_ch (n : Int) (c : UInt8) (h : c ∈ fmtInt n) : c ≠ 10 ∧ c ≠ 32 := by
  have hd := (digs_facts _ _ (Nat.le_refl n.natAbs)).1
  rw [List.all_eq_true] at hd
  have key : c ∈ digs n.natAbs → c ≠ 10 ∧ c ≠ 32 := by
    intro hc
    have := hd c hc
    refine ⟨?_, ?_⟩ <;> rintro rfl <;> exact absurd this (by decide)
  unfold fmtInt at h
  split at h
  · rcases List.mem_cons.1 h with rfl | h
    · exact ⟨by decide, by decide⟩
    · exact key h
  · exact key h
theorem fmtInt_inj {a b : Int} (h : fmtInt a = fmtInt b) : a = b := by
  have h1 := sgn_fmt a
  have h2 := sgn_fmt b
  have b1 := (body_fmt a).1
  have b2 := (body_fmt b).1
  have d1 := (digs_facts _ _ (Nat.le_refl a.natAbs)).2.1
  have d2 := (digs_facts _ _ (Nat.le_refl b.natAbs)).2.1
  have e : a.natAbs = b.natAbs := by rw [← d1, ← d2, ← b1, ← b2, h]
  rw [← h1, ← h2, h, e]
theorem map_inj {α β : Type} (f : α → β) (hf : ∀ a b, f a = f b → a = b) : ∀ l m : List α, l.map f = m.map f → l = m
  | [], [], _ => rfl
  | [], b :: m, h => by simp at h
  | a :: l, [], h => by simp at h
  | a :: l, b :: m, h => by
    rw [List.map_cons, List.map_cons, List.cons.injEq] at h
    rw [hf a b h.1, map_inj f hf l m h.2]
theorem lineT_spl (kw : List UInt8) (l : List Int) (hk : (32 : UInt8) ∉ kw) : spl 32 (lineT kw l) = kw :: l.map fmtInt := by
  unfold lineT
  rw [← joinTail_map]
  refine spl_join _ _ fun p hp => ?_
  rcases List.mem_cons.1 hp with rfl | hp
  · exact hk
  · obtain ⟨n, -, rfl⟩ := List.mem_map.1 hp
    exact fun hc => (fmtInt_ch n _ hc).2 rfl
theorem lineT_inj {k k' : List UInt8} {l m : List Int} (hk : (32 : UInt8) ∉ k) (hk' : (32 : UInt8) ∉ k') (h : lineT k l = lineT k' m) : k = k' ∧ l = m := by
  have h1 := lineT_spl k l hk
  rw [h, lineT_spl k' m hk', List.cons.injEq] at h1
  exact ⟨h1.1.symm, map_inj fmtInt (fun _ _ => fmtInt_inj) _ _ h1.2.symm⟩
theorem lineT_no10 (k : List UInt8) (l : List Int) (hk : (10 : UInt8) ∉ k) : (10 : UInt8) ∉ lineT k l := by
  unfold lineT
  intro h
  rcases List.mem_append.1 h with h | h
  · exact hk h
  · obtain ⟨n, -, hn⟩ := List.mem_flatMap.1 h
    rcases List.mem_cons.1 hn with hn | hn
    · exact absurd hn (by decide)
    · exact (fmtInt_ch n _ hn).1 rfl
theorem spl_flat : ∀ L : List (List UInt8), (∀ p ∈ L, (10 : UInt8) ∉ p) → spl 10 (flat 10 L) = L ++ [[]]
  | [], _ => rfl
  | p :: L, h => by
    rw [flat_cons, spl_app 10 _ p (h p (by simp)), spl_flat L fun q hq => h q (List.mem_cons_of_mem _ hq)]; rfl
/-- A keyword and the numbers behind it. -/
abbrev Tok := List UInt8 × List Int
def bT (b : Body) : List Tok := (kBody, bNums b) :: b.Fixtures.map fun f => (kFix, fNums f)
def cT (c : Contact) : List Tok := (kContact, cNums c) :: c.Manifold.Points.map fun d => (kPoint, dNums d)
def toks (w : World_) : List Tok := (kWorld, wNums w) :: (w.Bodies.flatMap bT ++ (w.Joints.map (fun j => (kJoint, jNums j)) ++ (w.Contacts.flatMap cT ++ w.Overlaps.map fun k => (kOverlap, kNums k))))
def kwOk (k : List UInt8) : Prop := (10 : UInt8) ∉ k ∧ (32 : UInt8) ∉ k
theorem toks_ok (w : World_) : ∀ t ∈ toks w, kwOk t.1 := by
  intro t ht
  unfold toks bT cT at ht
  simp only [List.mem_cons, List.mem_append, List.mem_map, List.mem_flatMap] at ht
  rcases ht with rfl | ⟨b, -, rfl | ⟨f, -, rfl⟩⟩ | ⟨j, -, rfl⟩ | ⟨c, -, rfl | ⟨d, -, rfl⟩⟩ | ⟨k, -, rfl⟩ <;> (dsimp only; exact ⟨by decide, by decide⟩)
theorem toks_lines (w : World_) : (toks w).map (fun t => lineT t.1 t.2) = allLines w := by
  unfold toks allLines bT cT bLines cLines
  simp only [List.map_cons, List.map_append, List.map_flatMap, List.map_map]
  rfl
theorem toks_inj : ∀ L M : List Tok, (∀ t ∈ L, kwOk t.1) → (∀ t ∈ M, kwOk t.1) → L.map (fun t => lineT t.1 t.2) = M.map (fun t => lineT t.1 t.2) → L = M
  | [], [], _, _, _ => rfl
  | [], b :: m, _, _, h => by simp at h
  | a :: l, [], _, _, h => by simp at h
  | a :: l, b :: m, h1, h2, h => by
    rw [List.map_cons, List.map_cons, List.cons.injEq] at h
    obtain ⟨e1, e2⟩ := lineT_inj (h1 a (by simp)).2 (h2 b (by simp)).2 h.1
    rw [toks_inj l m (fun t ht => h1 t (List.mem_cons_of_mem _ ht)) (fun t ht => h2 t (List.mem_cons_of_mem _ ht)) h.2]
    rw [show a = b from Prod.ext e1 e2]
theorem text_toks (a b : World_) (h : textOf a = textOf b) : toks a = toks b := by
  have no : ∀ w : World_, ∀ p ∈ allLines w, (10 : UInt8) ∉ p := by
    intro w p hp
    rw [← toks_lines] at hp
    obtain ⟨t, ht, rfl⟩ := List.mem_map.1 hp
    exact lineT_no10 _ _ (toks_ok w t ht).1
  have h1 := spl_flat _ (no a)
  have h2 := spl_flat _ (no b)
  unfold textOf at h
  rw [h, h2] at h1
  have h3 := List.append_cancel_right h1
  rw [← toks_lines, ← toks_lines] at h3
  exact (toks_inj _ _ (toks_ok b) (toks_ok a) h3).symm
def NH (k : List UInt8) (X : List Tok) : Prop := ∀ t, X.head? = some t → t.1 ≠ k
def NA (k : List UInt8) (X : List Tok) : Prop := ∀ t ∈ X, t.1 ≠ k
theorem NA.nh {k : List UInt8} {X : List Tok} (h : NA k X) : NH k X := fun t ht => h t (List.mem_of_mem_head? ht)
theorem seg_map {α : Type} (k : List UInt8) (f : α → List Int) (hf : ∀ a b, f a = f b → a = b) : ∀ (l m : List α) (X Y : List Tok), NH k X → NH k Y → l.map (fun a => (k, f a)) ++ X = m.map (fun a => (k, f a)) ++ Y → l = m ∧ X = Y
  | [], [], X, Y, _, _, h => ⟨rfl, h⟩
  | [], b :: m, X, Y, hX, _, h => absurd rfl (hX (k, f b) (by rw [show X = _ from h]; rfl))
  | a :: l, [], X, Y, _, hY, h => absurd rfl (hY (k, f a) (by rw [← show _ = Y from h]; rfl))
  | a :: l, b :: m, X, Y, hX, hY, h => by
    rw [List.map_cons, List.map_cons, List.cons_append, List.cons_append, List.cons.injEq, Prod.mk.injEq] at h
    obtain ⟨⟨-, h1⟩, h2⟩ := h
    obtain ⟨e1, e2⟩ := seg_map k f hf l m X Y hX hY h2
    exact ⟨by rw [hf _ _ h1, e1], e2⟩
theorem seg_two {α β : Type} (k k' : List UInt8) (hk : k ≠ k') (f : α → List Int) (s : α → List β) (g : β → List Int) (hg : ∀ a b, g a = g b → a = b) (hf : ∀ a b, f a = f b → s a = s b → a = b) :
    ∀ (l m : List α) (X Y : List Tok), NA k X → NA k Y → NA k' X → NA k' Y → l.flatMap (fun a => (k, f a) :: (s a).map fun c => (k', g c)) ++ X = m.flatMap (fun a => (k, f a) :: (s a).map fun c => (k', g c)) ++ Y → l = m ∧ X = Y
  | [], [], X, Y, _, _, _, _, h => ⟨rfl, h⟩
  | [], b :: m, X, Y, hX, _, _, _, h => absurd rfl (hX (k, f b) (by rw [show X = _ from h]; simp))
  | a :: l, [], X, Y, _, hY, _, _, h => absurd rfl (hY (k, f a) (by rw [← show _ = Y from h]; simp))
  | a :: l, b :: m, X, Y, h1, h2, h3, h4, h => by
    have nh : ∀ (l : List α) (X : List Tok), NA k' X → NH k' (l.flatMap (fun a => (k, f a) :: (s a).map fun c => (k', g c)) ++ X) := by
      intro l X hX
      cases l with
      | nil => exact hX.nh
      | cons a l =>
        intro t ht
        rw [List.flatMap_cons, List.cons_append, List.cons_append, List.head?_cons, Option.some.injEq] at ht
        rw [← ht]; exact hk
    rw [List.flatMap_cons, List.flatMap_cons, List.cons_append, List.cons_append, List.cons_append, List.cons_append, List.cons.injEq, Prod.mk.injEq, List.append_assoc, List.append_assoc] at h
    obtain ⟨⟨-, e1⟩, e2⟩ := h
    obtain ⟨e3, e4⟩ := seg_map k' g hg _ _ _ _ (nh l X h3) (nh m Y h4) e2
    obtain ⟨e5, e6⟩ := seg_two k k' hk f s g hg hf l m X Y h1 h2 h3 h4 e4
    exact ⟨by rw [hf a b e1 e3, e5], e6⟩
theorem bit_inj {a b : Bool} (h : bit a = bit b) : a = b := by cases a <;> cases b <;> first | rfl | exact absurd h (by decide)
theorem bNums_inj (a b : Body) (h : bNums a = bNums b) (hf : a.Fixtures = b.Fixtures) : a = b := by
  obtain ⟨a1, a2, ⟨⟨a3, a4⟩, a5⟩, ⟨a6, a7⟩, a8, ⟨a9, a10⟩, a11, a12, a13, a14, a15, a16, a17, a18, a19, a20⟩ := a
  obtain ⟨b1, b2, ⟨⟨b3, b4⟩, b5⟩, ⟨b6, b7⟩, b8, ⟨b9, b10⟩, b11, b12, b13, b14, b15, b16, b17, b18, b19, b20⟩ := b
  dsimp only at hf
  simp only [bNums, List.cons.injEq, and_true] at h
  obtain ⟨rfl, rfl, rfl, rfl, rfl, rfl, rfl, rfl, rfl, rfl, rfl, rfl, rfl, rfl, h1, h2, h3, h4, rfl⟩ := h
  obtain rfl := bit_inj h1
  obtain rfl := bit_inj h2
  obtain rfl := bit_inj h3
  obtain rfl := bit_inj h4
  rw [hf]
theorem vecs_inj : ∀ l m : List Vec, l.flatMap (fun v => [v.X, v.Y]) = m.flatMap (fun v => [v.X, v.Y]) → l = m
  | [], [], _ => rfl
  | [], b :: m, h => by simp at h
  | a :: l, [], h => by simp at h
  | a :: l, b :: m, h => by
    simp only [List.flatMap_cons, List.cons_append, List.nil_append, List.cons.injEq] at h
    obtain ⟨h1, h2, h3⟩ := h
    rw [vecs_inj l m h3]
    obtain ⟨x, y⟩ := a
    obtain ⟨z, u⟩ := b
    dsimp only at h1 h2
    rw [h1, h2]
theorem fNums_inj (a b : Fixture) (h : fNums a = fNums b) : a = b := by
  obtain ⟨⟨a1, a2, a3⟩, a4, a5, a6, a7, a8, a9, a10⟩ := a
  obtain ⟨⟨b1, b2, b3⟩, b4, b5, b6, b7, b8, b9, b10⟩ := b
  simp only [fNums, List.cons_append, List.nil_append, List.cons.injEq] at h
  obtain ⟨rfl, rfl, rfl, h1, rfl, rfl, rfl, rfl, rfl, h2⟩ := h
  obtain rfl := bit_inj h1
  rw [vecs_inj _ _ h2]
theorem jNums_inj (a b : Joint) (h : jNums a = jNums b) : a = b := by
  obtain ⟨x1, x2, x3, x4, ⟨x5, x6⟩, ⟨x7, x8⟩, ⟨x9, x10⟩, x11, x12, x13, x14, x15, x16, x17, x18, x19, x20, ⟨x21, x22, x23, x24⟩⟩ := a
  obtain ⟨y1, y2, y3, y4, ⟨y5, y6⟩, ⟨y7, y8⟩, ⟨y9, y10⟩, y11, y12, y13, y14, y15, y16, y17, y18, y19, y20, ⟨y21, y22, y23, y24⟩⟩ := b
  simp only [jNums, List.cons.injEq, and_true] at h
  obtain ⟨rfl, rfl, rfl, rfl, rfl, rfl, rfl, rfl, rfl, rfl, rfl, h1, rfl, rfl, h2, rfl, rfl, rfl, rfl, h3, rfl, rfl, rfl, rfl⟩ := h
  obtain rfl := bit_inj h1
  obtain rfl := bit_inj h2
  obtain rfl := bit_inj h3
  rfl
theorem cNums_inj (a b : Contact) (h : cNums a = cNums b) (hp : a.Manifold.Points = b.Manifold.Points) : a = b := by
  obtain ⟨⟨a1, a2, a3, a4⟩, ⟨⟨a5, a6⟩, a7⟩⟩ := a
  obtain ⟨⟨b1, b2, b3, b4⟩, ⟨⟨b5, b6⟩, b7⟩⟩ := b
  dsimp only at hp
  simp only [cNums, List.cons.injEq, and_true] at h
  obtain ⟨rfl, rfl, rfl, rfl, rfl, rfl⟩ := h
  rw [hp]
theorem dNums_inj (a b : ContactPoint) (h : dNums a = dNums b) : a = b := by
  obtain ⟨⟨a1, a2⟩, a3, a4, a5, a6⟩ := a
  obtain ⟨⟨b1, b2⟩, b3, b4, b5, b6⟩ := b
  simp only [dNums, List.cons.injEq, and_true] at h
  obtain ⟨rfl, rfl, rfl, rfl, rfl, rfl⟩ := h
  rfl
theorem kNums_inj (a b : PairKey) (h : kNums a = kNums b) : a = b := by
  obtain ⟨a1, a2, a3, a4⟩ := a
  obtain ⟨b1, b2, b3, b4⟩ := b
  simp only [kNums, List.cons.injEq, and_true] at h
  obtain ⟨rfl, rfl, rfl, rfl⟩ := h
  rfl
theorem text_inj (a b : World_) (h : textOf a = textOf b) : a = b := by
  have ht := text_toks a b h
  unfold toks bT cT at ht
  rw [List.cons.injEq, Prod.mk.injEq] at ht
  obtain ⟨⟨-, hw⟩, ht⟩ := ht
  have na : ∀ (k : List UInt8) (J : List Joint) (C : List Contact) (O : List PairKey), kJoint ≠ k → kContact ≠ k → kPoint ≠ k → kOverlap ≠ k → NA k (J.map (fun j => (kJoint, jNums j)) ++ (C.flatMap (fun c => (kContact, cNums c) :: c.Manifold.Points.map fun d => (kPoint, dNums d)) ++ O.map fun k => (kOverlap, kNums k))) := by
    intro k J C O h1 h2 h3 h4 t ht
    simp only [List.mem_cons, List.mem_append, List.mem_map, List.mem_flatMap] at ht
    rcases ht with ⟨j, -, rfl⟩ | ⟨c, -, rfl | ⟨d, -, rfl⟩⟩ | ⟨k, -, rfl⟩ <;> assumption
  have na2 : ∀ (k : List UInt8) (C : List Contact) (O : List PairKey), kContact ≠ k → kPoint ≠ k → kOverlap ≠ k → NA k (C.flatMap (fun c => (kContact, cNums c) :: c.Manifold.Points.map fun d => (kPoint, dNums d)) ++ O.map fun k => (kOverlap, kNums k)) := by
    intro k C O h2 h3 h4 t ht
    simp only [List.mem_cons, List.mem_append, List.mem_map, List.mem_flatMap] at ht
    rcases ht with ⟨c, -, rfl | ⟨d, -, rfl⟩⟩ | ⟨k, -, rfl⟩ <;> assumption
  have na3 : ∀ (k : List UInt8) (O : List PairKey), kOverlap ≠ k → NA k (O.map fun k => (kOverlap, kNums k)) := by
    intro k O h4 t ht
    obtain ⟨k, -, rfl⟩ := List.mem_map.1 ht
    exact h4
  obtain ⟨e1, ht⟩ := seg_two kBody kFix (by decide) bNums (fun b : Body => b.Fixtures) fNums fNums_inj bNums_inj _ _ _ _
    (na _ _ _ _ (by decide) (by decide) (by decide) (by decide)) (na _ _ _ _ (by decide) (by decide) (by decide) (by decide)) (na _ _ _ _ (by decide) (by decide) (by decide) (by decide)) (na _ _ _ _ (by decide) (by decide) (by decide) (by decide)) ht
  obtain ⟨e2, ht⟩ := seg_map kJoint jNums jNums_inj _ _ _ _ (na2 _ _ _ (by decide) (by decide) (by decide)).nh (na2 _ _ _ (by decide) (by decide) (by decide)).nh ht
  obtain ⟨e3, ht⟩ := seg_two kContact kPoint (by decide) cNums (fun c : Contact => c.Manifold.Points) dNums dNums_inj cNums_inj _ _ _ _
    (na3 _ _ (by decide)) (na3 _ _ (by decide)) (na3 _ _ (by decide)) (na3 _ _ (by decide)) ht
  have e4 : a.Overlaps = b.Overlaps := map_inj (fun k => (kOverlap, kNums k)) (fun x y h => kNums_inj x y (by rw [Prod.mk.injEq] at h; exact h.2)) _ _ ht
  obtain ⟨⟨a1, ⟨a2, a3⟩, a4, a5⟩, a6, a7, a8, a9, a10, a11⟩ := a
  obtain ⟨⟨b1, ⟨b2, b3⟩, b4, b5⟩, b6, b7, b8, b9, b10, b11⟩ := b
  simp only [wNums, List.cons.injEq, and_true] at hw
  obtain ⟨rfl, rfl, rfl, rfl, rfl, rfl, rfl⟩ := hw
  dsimp only at e1 e2 e3 e4
  rw [e1, e2, e3, e4]
end GoForm


/-
  Plain laws of package scene: SceneDistinct, the law. No conditions.
-/
set_option linter.all false
set_option maxRecDepth 100000
open Go Go.Rx

namespace GoForm
theorem caromlaw52_SceneDistinct_true (a b : World_) (ha : World__P a) (hb : World__P b) : caromlaw52_SceneDistinct a b = some true := by
  unfold caromlaw52_SceneDistinct
  simp only [ref25_Few_eq, Bind_snr, Let_nr, example52]
  cases hfa : few a
  · simp only [Bool.not_false, cond_or, Bool.true_or, if_true, show (true == false) = false from rfl, ff, if_false, Bind_snr]
  cases hfb : few b
  · simp only [Bool.not_false, Bool.not_true, cond_or, Bool.true_or, Bool.or_true, if_true, show (true == false) = false from rfl, show (false == false) = true from rfl, ff, if_false, Bind_snr]
  have h1 := few_Few hfa
  have h2 := few_Few hfb
  have i1 := AllI_of ha
  have i2 := AllI_of hb
  simp only [Bool.not_true, cond_or, Bool.or_self, show (false == false) = true from rfl, if_true, world_Val_eq a h1, world_Val_eq b h2, Bind_snr]
  cases hva : (wv a != (0 : Int))
  case true => simp only [Bool.or_true, Bool.true_or, show (true == false) = false from rfl, ff, if_false, if_true, Bind_snr]
  cases hvb : (wv b != (0 : Int))
  case true => simp only [hvb, Bool.or_false, Bool.false_or, Bool.or_true, Bool.true_or, show (true == false) = false from rfl, show (false == false) = true from rfl, ff, if_false, if_true, Bind_snr]
  simp only [Bool.or_false, show (false == false) = true from rfl, ff, if_false, if_true, Format_eq a h1 i1, Format_eq b h2 i2, hva, hvb, Bind_snr, beq_self_eq_true, cond_true, world_Equal_eq a b h1.smw]
  have e : (textOf a == textOf b) = decide (a = b) := by
    rw [Bool.eq_iff_iff, beq_iff_eq, decide_eq_true_iff]
    exact ⟨text_inj a b, fun h => by rw [h]⟩
  simp only [e, beq_self_eq_true, if_true, Bind_snr, cond_true]
end GoForm

