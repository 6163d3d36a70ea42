/- The functions' plain forms. Printed by go3.py. No conditions. -/
import Derived.Test.YtacajmmjdefplaaGreatF25T
set_option linter.all false
set_option maxRecDepth 100000
open Go Go.Rx Go.Proofs Go.RowKit
namespace GoForm

noncomputable def caromref22_Few (bodies0 : (List Body)) (limit1 : Int) : Option Bool :=
  Let (↑bodies0.length : Int) fun (x1 : Int) =>
  Let (decide (x1 > limit1)) fun (x2 : Bool) =>
  if x2 = true then some false
  else
  LOOP
  (fun (rec3 : Int → Option Bool) (s4 : Int) =>
  Let (↑bodies0.length : Int) fun (x5 : Int) =>
  Let (decide (s4 < x5)) fun (x6 : Bool) =>
  if x6 = true then
  Chk ((0 : Int) ≤ s4 ∧ s4 < (↑bodies0.length : Int))
  (Let (ix bodies0 s4) fun (x7 : Body) =>
  Let (↑x7.Fixtures.length : Int) fun (x8 : Int) =>
  Let (decide (x8 > (8 : Int))) fun (x9 : Bool) =>
  if x9 = true then some false
  else
  LOOP
  (fun (rec10 : Int → Option Bool) (s11 : Int) =>
  Chk ((0 : Int) ≤ s4 ∧ s4 < (↑bodies0.length : Int))
  (Let (ix bodies0 s4) fun (x12 : Body) =>
  Let (↑x12.Fixtures.length : Int) fun (x13 : Int) =>
  Let (decide (s11 < x13)) fun (x14 : Bool) =>
  if x14 = true then
  Chk ((0 : Int) ≤ s4 ∧ s4 < (↑bodies0.length : Int))
  (Let (ix bodies0 s4) fun (x15 : Body) =>
  Chk ((0 : Int) ≤ s11 ∧ s11 < (↑x15.Fixtures.length : Int))
  (Let (ix x15.Fixtures s11) fun (x16 : Fixture) =>
  Let (↑x16.Shape.Vertices.length : Int) fun (x17 : Int) =>
  Let (decide (x17 > (20 : Int))) fun (x18 : Bool) =>
  if x18 = true then some false else Let (IntKind.i64.wrap (s11 + (1 : Int))) fun (x19 : Int) => rec10 x19))
  else Let (IntKind.i64.wrap (s4 + (1 : Int))) fun (x20 : Int) => rec3 x20))
  fuel (0 : Int))
  else some true)
  fuel (0 : Int)

noncomputable def caromref25_Few (w0 : World_) : Option Bool :=
  Let (↑w0.Joints.length : Int) fun (x21 : Int) =>
  Let (decide (x21 > (40 : Int))) fun (x22 : Bool) =>
  Let (↑w0.Contacts.length : Int) fun (x23 : Int) =>
  Let (decide (x23 > (80 : Int))) fun (x24 : Bool) =>
  Let (bif x22 then true else x24) fun (x25 : Bool) =>
  Let (↑w0.Overlaps.length : Int) fun (x26 : Int) =>
  Let (decide (x26 > (80 : Int))) fun (x27 : Bool) =>
  Let (bif x25 then true else x27) fun (x28 : Bool) =>
  Rx.Bind (if (x28 == false) = true then caromref22_Few w0.Bodies (40 : Int) else some default) fun (r29 : Bool) =>
  Let (!r29) fun (x30 : Bool) =>
  Let (bif x28 then true else x30) fun (x31 : Bool) =>
  if x31 = true then some false
  else
  LOOP
  (fun (rec32 : Int → Option Bool) (s33 : Int) =>
  Let (↑w0.Contacts.length : Int) fun (x34 : Int) =>
  Let (decide (s33 < x34)) fun (x35 : Bool) =>
  if x35 = true then
  Chk ((0 : Int) ≤ s33 ∧ s33 < (↑w0.Contacts.length : Int))
  (Let (ix w0.Contacts s33) fun (x36 : Contact) =>
  Let (↑x36.Manifold.Points.length : Int) fun (x37 : Int) =>
  Let (decide (x37 > (8 : Int))) fun (x38 : Bool) =>
  if x38 = true then some false else Let (IntKind.i64.wrap (s33 + (1 : Int))) fun (x39 : Int) => rec32 x39)
  else some true)
  fuel (0 : Int)

noncomputable def caromlaw25_settings  : Option Settings :=
  some
  { TimeStep := (1024 : Int), Gravity := { X := (0 : Int), Y := (0 : Int) : Vec }, Iterations := (4 : Int), SleepSteps := (60 : Int) : Settings }

noncomputable def world_in (x0 : Int) (low1 : Int) (high2 : Int) : Option Bool :=
  Let (decide (x0 ≥ low1)) fun (x40 : Bool) =>
  Let (decide (x0 ≤ high2)) fun (x41 : Bool) => Let (bif x40 then x41 else false) fun (x42 : Bool) => some x42

noncomputable def world_ValidateSettings (s0 : Settings) : Option Int :=
  Rx.Bind (world_in s0.Gravity.X (-16777216 : Int) (16777216 : Int)) fun (r43 : Bool) =>
  Rx.Bind (if (r43 == true) = true then world_in s0.Gravity.Y (-16777216 : Int) (16777216 : Int) else some default)
  fun (r44 : Bool) =>
  Let (bif r43 then r44 else false) fun (x45 : Bool) =>
  Rx.Bind (world_in s0.TimeStep (64 : Int) (8192 : Int)) fun (r46 : Bool) =>
  Let (!r46) fun (x47 : Bool) =>
  Let (!x45) fun (x48 : Bool) =>
  Let (bif x47 then true else x48) fun (x49 : Bool) =>
  Rx.Bind (if (x49 == false) = true then world_in s0.Iterations (1 : Int) (32 : Int) else some default)
  fun (r50 : Bool) =>
  Let (!r50) fun (x51 : Bool) =>
  Let (bif x49 then true else x51) fun (x52 : Bool) =>
  Rx.Bind (if (x52 == false) = true then world_in s0.SleepSteps (0 : Int) (1048576 : Int) else some default)
  fun (r53 : Bool) =>
  Let (!r53) fun (x54 : Bool) =>
  Let (bif x52 then true else x54) fun (x55 : Bool) => if x55 = true then some (6 : Int) else some (0 : Int)

noncomputable def world_New (s0 : Settings) : Option (World_ × Int) :=
  Rx.Bind (world_ValidateSettings s0) fun (r56 : Int) =>
  Let (r56 != (0 : Int)) fun (x57 : Bool) =>
  if x57 = true then
  some
  ({ Settings := { TimeStep := (0 : Int), Gravity := { X := (0 : Int), Y := (0 : Int) : Vec }, Iterations := (0 : Int), SleepSteps := (0 : Int) : Settings }, Bodies := [], Joints := [], Contacts := [], Overlaps := [], NextID := (0 : Int), Frame := (0 : Int) : World_ },
  r56)
  else
  some
  ({ Settings := s0, Bodies := [], Joints := [], Contacts := [], Overlaps := [], NextID := (1 : Int), Frame := (0 : Int) : World_ },
  (0 : Int))

noncomputable def slices_Clone_128 (s0 : (List Vec)) : Option (List Vec) :=
  Rx.Alike (s0 = []) (some []) (Chk (s0.length * (16 : Nat) ≤ (140737488355328 : Nat)) (some s0))

noncomputable def shape_Clone (s0 : Shape) : Option Shape :=
  Rx.Bind (slices_Clone_128 s0.Vertices) fun (r58 : List Vec) =>
  some { Kind := s0.Kind, Radius := s0.Radius, Vertices := r58 : Shape }

noncomputable def body_Clone (b0 : Body) : Option Body :=
  Let (↑b0.Fixtures.length : Int) fun (x59 : Int) =>
  LOOP
  (fun (rec60 : List Fixture × Int → Option Body) (s61 : List Fixture × Int) =>
  Let (decide (s61.snd < x59)) fun (x62 : Bool) =>
  if x62 = true then
  Chk ((0 : Int) ≤ s61.snd ∧ s61.snd < (↑b0.Fixtures.length : Int))
  (Let (ix b0.Fixtures s61.snd) fun (x63 : Fixture) =>
  Rx.Bind (shape_Clone x63.Shape) fun (r64 : Shape) =>
  Chk
  ((List.length s61.fst +
  [{ Shape := r64, Density := x63.Density, Friction := x63.Friction, Restitution := x63.Restitution, Sensor := x63.Sensor, Category := x63.Category, Mask := x63.Mask, Group := x63.Group : Fixture }].length) *
  (96 : Nat) ≤
  (140737488355328 : Nat))
  (Let
  (s61.fst ++
  [{ Shape := r64, Density := x63.Density, Friction := x63.Friction, Restitution := x63.Restitution, Sensor := x63.Sensor, Category := x63.Category, Mask := x63.Mask, Group := x63.Group : Fixture }])
  fun (x65 : List Fixture) => Let (IntKind.i64.wrap (s61.snd + (1 : Int))) fun (x66 : Int) => rec60 (x65, x66)))
  else
  some
  { ID := b0.ID, Kind := b0.Kind, Transform := b0.Transform, Velocity := b0.Velocity, AngularVelocity := b0.AngularVelocity, Force := b0.Force, Torque := b0.Torque, LinearDamping := b0.LinearDamping, AngularDamping := b0.AngularDamping, GravityScale := b0.GravityScale, Bullet := b0.Bullet, FixedRotation := b0.FixedRotation, NoSleep := b0.NoSleep, Asleep := b0.Asleep, IdleSteps := b0.IdleSteps, Fixtures := s61.fst : Body })
  fuel ([], (0 : Int))

noncomputable def body_within (x0 : Int) (low1 : Int) (high2 : Int) : Option Bool :=
  Let (decide (low1 ≤ x0)) fun (x67 : Bool) =>
  Let (decide (x0 ≤ high2)) fun (x68 : Bool) => Let (bif x67 then x68 else false) fun (x69 : Bool) => some x69

noncomputable def body_bounded (v0 : Vec) (limit1 : Int) : Option Bool :=
  Let (IntKind.i64.wrap ((0 : Int) - limit1)) fun (x70 : Int) =>
  Rx.Bind (body_within v0.X x70 limit1) fun (r71 : Bool) =>
  Let (IntKind.i64.wrap ((0 : Int) - limit1)) fun (x72 : Int) =>
  Rx.Bind (if (r71 == true) = true then body_within v0.Y x72 limit1 else some default) fun (r73 : Bool) =>
  Let (bif r71 then r73 else false) fun (x74 : Bool) => some x74

noncomputable def transform_inWorld (x0 : Int) : Option Bool :=
  Let (decide (x0 ≥ (-268435456 : Int))) fun (x75 : Bool) =>
  Let (decide (x0 ≤ (268435456 : Int))) fun (x76 : Bool) => Let (bif x75 then x76 else false) fun (x77 : Bool) => some x77

noncomputable def transform_Valid (t0 : Transform) : Option Bool :=
  Rx.Bind (transform_inWorld t0.Position.X) fun (r78 : Bool) =>
  Rx.Bind (if (r78 == true) = true then transform_inWorld t0.Position.Y else some default) fun (r79 : Bool) =>
  Let (bif r78 then r79 else false) fun (x80 : Bool) =>
  Let (decide (t0.Angle ≥ (-205888 : Int))) fun (x81 : Bool) =>
  Let (bif x80 then x81 else false) fun (x82 : Bool) =>
  Let (decide (t0.Angle < (205888 : Int))) fun (x83 : Bool) =>
  Let (bif x82 then x83 else false) fun (x84 : Bool) => some x84

noncomputable def body_inRange (b0 : Body) : Option Bool :=
  Rx.Bind (body_bounded b0.Velocity (16777216 : Int)) fun (r85 : Bool) =>
  Rx.Bind (if (r85 == true) = true then body_within b0.AngularVelocity (-4194304 : Int) (4194304 : Int) else some default)
  fun (r86 : Bool) =>
  Let (bif r85 then r86 else false) fun (x87 : Bool) =>
  Rx.Bind (body_bounded b0.Force (536870911 : Int)) fun (r88 : Bool) =>
  Rx.Bind (if (r88 == true) = true then body_within b0.Torque (-536870911 : Int) (536870911 : Int) else some default)
  fun (r89 : Bool) =>
  Let (bif r88 then r89 else false) fun (x90 : Bool) =>
  Rx.Bind (body_within b0.LinearDamping (0 : Int) (65536 : Int)) fun (r91 : Bool) =>
  Rx.Bind (if (r91 == true) = true then body_within b0.AngularDamping (0 : Int) (65536 : Int) else some default)
  fun (r92 : Bool) =>
  Let (bif r91 then r92 else false) fun (x93 : Bool) =>
  Rx.Bind (body_within b0.GravityScale (-262144 : Int) (262144 : Int)) fun (r94 : Bool) =>
  Rx.Bind (body_within b0.ID (1 : Int) (1099511627776 : Int)) fun (r95 : Bool) =>
  Rx.Bind (if (r95 == true) = true then transform_Valid b0.Transform else some default) fun (r96 : Bool) =>
  Let (bif r95 then r96 else false) fun (x97 : Bool) =>
  Let (bif x97 then x87 else false) fun (x98 : Bool) =>
  Let (bif x98 then x90 else false) fun (x99 : Bool) =>
  Let (bif x99 then x93 else false) fun (x100 : Bool) =>
  Let (bif x100 then r94 else false) fun (x101 : Bool) =>
  Rx.Bind (if (x101 == true) = true then body_within b0.IdleSteps (0 : Int) (1048576 : Int) else some default)
  fun (r102 : Bool) => Let (bif x101 then r102 else false) fun (x103 : Bool) => some x103

noncomputable def shape_validCount (s0 : Shape) : Option Bool :=
  Let (↑s0.Vertices.length : Int) fun (x104 : Int) =>
  Let (s0.Kind == (1 : Int)) fun (x105 : Bool) =>
  if x105 = true then Let (x104 == (1 : Int)) fun (x106 : Bool) => some x106
  else
  Let (s0.Kind == (2 : Int)) fun (x107 : Bool) =>
  if x107 = true then Let (x104 == (2 : Int)) fun (x108 : Bool) => some x108
  else
  Let (decide (x104 ≥ (3 : Int))) fun (x109 : Bool) =>
  Let (decide (x104 ≤ (8 : Int))) fun (x110 : Bool) => Let (bif x109 then x110 else false) fun (x111 : Bool) => some x111

noncomputable def slices_IndexFunc_175 (s0 : (List Vec)) (f1 : (Vec → Option Bool)) : Option Int :=
  Let (↑s0.length : Int) fun (x112 : Int) =>
  LOOP
  (fun (rec113 : Int → Option Int) (s114 : Int) =>
  Let (decide (s114 < x112)) fun (x115 : Bool) =>
  if x115 = true then
  Chk ((0 : Int) ≤ s114 ∧ s114 < (↑s0.length : Int))
  (Let (ix s0 s114) fun (x116 : Vec) =>
  Rx.Bind (f1 x116) fun (r117 : Bool) =>
  if r117 = true then some s114 else Let (IntKind.i64.wrap (s114 + (1 : Int))) fun (x118 : Int) => rec113 x118)
  else some (-1 : Int))
  fuel (0 : Int)

noncomputable def slices_ContainsFunc_153 (s0 : (List Vec)) (f1 : (Vec → Option Bool)) : Option Bool :=
  Rx.Bind (slices_IndexFunc_175 s0 f1) fun (r119 : Int) => Let (decide (r119 ≥ (0 : Int))) fun (x120 : Bool) => some x120

noncomputable def shape_outOfRange (n0 : Int) : Option Bool :=
  Let (decide (n0 < (-1048576 : Int))) fun (x121 : Bool) =>
  Let (decide (n0 > (1048576 : Int))) fun (x122 : Bool) =>
  Let (bif x121 then true else x122) fun (x123 : Bool) => some x123

noncomputable def shape_Validate_1 (v0 : Vec) : Option Bool :=
  Rx.Bind (shape_outOfRange v0.X) fun (r124 : Bool) =>
  Rx.Bind (if (r124 == false) = true then shape_outOfRange v0.Y else some default) fun (r125 : Bool) =>
  Let (bif r124 then true else r125) fun (x126 : Bool) => some x126

noncomputable def fixed_Saturate (x0 : Int) : Option Int :=
  Let (max x0 (-536870911 : Int)) fun (x127 : Int) => Let (min x127 (536870911 : Int)) fun (x128 : Int) => some x128

noncomputable def fixed_Sub (a0 : Int) (b1 : Int) : Option Int :=
  Rx.Bind (fixed_Saturate a0) fun (r129 : Int) =>
  Rx.Bind (fixed_Saturate b1) fun (r130 : Int) =>
  Let (IntKind.i64.wrap (r129 - r130)) fun (x131 : Int) => Rx.Bind (fixed_Saturate x131) fun (r132 : Int) => some r132

noncomputable def vec2_Sub (a0 : Vec) (b1 : Vec) : Option Vec :=
  Rx.Bind (fixed_Sub a0.X b1.X) fun (r133 : Int) =>
  Rx.Bind (fixed_Sub a0.Y b1.Y) fun (r134 : Int) => some { X := r133, Y := r134 : Vec }

noncomputable def vec2_saturate (v0 : Vec) : Option Vec :=
  Rx.Bind (fixed_Saturate v0.X) fun (r135 : Int) =>
  Rx.Bind (fixed_Saturate v0.Y) fun (r136 : Int) => some { X := r135, Y := r136 : Vec }

noncomputable def vec2_DistanceSquared (a0 : Vec) (b1 : Vec) : Option Int :=
  Rx.Bind (vec2_saturate a0) fun (r137 : Vec) =>
  Rx.Bind (vec2_saturate b1) fun (r138 : Vec) =>
  Let (IntKind.i64.wrap (r138.X - r137.X)) fun (x139 : Int) =>
  Let (IntKind.i64.wrap (r138.Y - r137.Y)) fun (x140 : Int) =>
  Let (IntKind.i64.wrap (x139 * x139)) fun (x141 : Int) =>
  Let (IntKind.i64.wrap (x140 * x140)) fun (x142 : Int) =>
  Let (IntKind.i64.wrap (x141 + x142)) fun (x143 : Int) => some x143

noncomputable def fixed_Isqrt (n0 : Int) : Option Int :=
  Let (decide (n0 < (0 : Int))) fun (x144 : Bool) =>
  Let (decide (n0 > (4611686018427387904 : Int))) fun (x145 : Bool) =>
  Let (bif x144 then true else x145) fun (x146 : Bool) =>
  if x146 = true then some (0 : Int)
  else
  LOOP
  (fun (rec147 : Int × Int → Option Int) (s148 : Int × Int) =>
  Let (decide (s148.snd > (0 : Int))) fun (x149 : Bool) =>
  if x149 = true then
  Join (fun (v150 : Int) => Let (bShr IntKind.i64 s148.snd (1 : Int)) fun (x151 : Int) => rec147 (v150, x151))
  fun (j152 : Int → Option Int) =>
  Let (bOr IntKind.i64 s148.fst s148.snd) fun (x153 : Int) =>
  Let (IntKind.u64.wrap x153) fun (x154 : Int) =>
  Let (IntKind.u64.wrap x153) fun (x155 : Int) =>
  Let (IntKind.u64.wrap (x154 * x155)) fun (x156 : Int) =>
  Let (IntKind.u64.wrap n0) fun (x157 : Int) =>
  Let (decide (x156 ≤ x157)) fun (x158 : Bool) => if x158 = true then j152 x153 else j152 s148.fst
  else some s148.fst)
  fuel ((0 : Int), (2147483648 : Int))

noncomputable def vec2_Length (v0 : Vec) : Option Int :=
  Rx.Bind (vec2_DistanceSquared { X := (0 : Int), Y := (0 : Int) : Vec } v0) fun (r159 : Int) =>
  Rx.Bind (fixed_Isqrt r159) fun (r160 : Int) => some r160

noncomputable def polygon_inReach (v0 : Vec) : Option Bool :=
  Let (decide (v0.X ≥ (-1048576 : Int))) fun (x161 : Bool) =>
  Let (decide (v0.X ≤ (1048576 : Int))) fun (x162 : Bool) =>
  Let (bif x161 then x162 else false) fun (x163 : Bool) =>
  Let (decide (v0.Y ≥ (-1048576 : Int))) fun (x164 : Bool) =>
  Let (bif x163 then x164 else false) fun (x165 : Bool) =>
  Let (decide (v0.Y ≤ (1048576 : Int))) fun (x166 : Bool) =>
  Let (bif x165 then x166 else false) fun (x167 : Bool) => some x167

noncomputable def polygon_allInReach (points0 : (List Vec)) : Option Bool :=
  Let (↑points0.length : Int) fun (x168 : Int) =>
  LOOP
  (fun (rec169 : Int → Option Bool) (s170 : Int) =>
  Let (decide (s170 < x168)) fun (x171 : Bool) =>
  if x171 = true then
  Chk ((0 : Int) ≤ s170 ∧ s170 < (↑points0.length : Int))
  (Let (ix points0 s170) fun (x172 : Vec) =>
  Rx.Bind (polygon_inReach x172) fun (r173 : Bool) =>
  Let (!r173) fun (x174 : Bool) =>
  if x174 = true then some false else Let (IntKind.i64.wrap (s170 + (1 : Int))) fun (x175 : Int) => rec169 x175)
  else some true)
  fuel (0 : Int)

noncomputable def vec2_Orientation (a0 : Vec) (b1 : Vec) (c2 : Vec) : Option Int :=
  Rx.Bind (vec2_saturate a0) fun (r176 : Vec) =>
  Rx.Bind (vec2_saturate b1) fun (r177 : Vec) =>
  Rx.Bind (vec2_saturate c2) fun (r178 : Vec) =>
  Let (IntKind.i64.wrap (r177.X - r176.X)) fun (x179 : Int) =>
  Let (IntKind.i64.wrap (r178.Y - r176.Y)) fun (x180 : Int) =>
  Let (IntKind.i64.wrap (x179 * x180)) fun (x181 : Int) =>
  Let (IntKind.i64.wrap (r177.Y - r176.Y)) fun (x182 : Int) =>
  Let (IntKind.i64.wrap (r178.X - r176.X)) fun (x183 : Int) =>
  Let (IntKind.i64.wrap (x182 * x183)) fun (x184 : Int) =>
  Let (IntKind.i64.wrap (x181 - x184)) fun (x185 : Int) =>
  Let (max (-1 : Int) x185) fun (x186 : Int) => Let (min (1 : Int) x186) fun (x187 : Int) => some x187

noncomputable def polygon_IsConvex (vertices0 : (List Vec)) : Option Bool :=
  Let (↑vertices0.length : Int) fun (x188 : Int) =>
  Let (decide (x188 < (3 : Int))) fun (x189 : Bool) =>
  Let (decide (x188 > (8 : Int))) fun (x190 : Bool) =>
  Let (bif x189 then true else x190) fun (x191 : Bool) =>
  Rx.Bind (if (x191 == false) = true then polygon_allInReach vertices0 else some default) fun (r192 : Bool) =>
  Let (!r192) fun (x193 : Bool) =>
  Let (bif x191 then true else x193) fun (x194 : Bool) =>
  if x194 = true then some false
  else
  Let (↑vertices0.length : Int) fun (x195 : Int) =>
  LOOP
  (fun (rec196 : Int → Option Bool) (s197 : Int) =>
  Let (decide (s197 < x195)) fun (x198 : Bool) =>
  if x198 = true then
  Chk ((0 : Int) ≤ s197 ∧ s197 < (↑vertices0.length : Int))
  (Let (ix vertices0 s197) fun (x199 : Vec) =>
  Let (IntKind.i64.wrap (s197 + (1 : Int))) fun (x200 : Int) =>
  Chk (x188 ≠ (0 : Int))
  (Let (x200.tmod x188) fun (x201 : Int) =>
  Let (↑vertices0.length : Int) fun (x202 : Int) =>
  LOOP
  (fun (rec203 : Int → Option Bool) (s204 : Int) =>
  Let (decide (s204 < x202)) fun (x205 : Bool) =>
  if x205 = true then
  Chk ((0 : Int) ≤ s204 ∧ s204 < (↑vertices0.length : Int))
  (Let (ix vertices0 s204) fun (x206 : Vec) =>
  Let (s204 != s197) fun (x207 : Bool) =>
  Let (s204 != x201) fun (x208 : Bool) =>
  Let (bif x207 then x208 else false) fun (x209 : Bool) =>
  Chk ((x209 == true) = true → (0 : Int) ≤ x201 ∧ x201 < (↑vertices0.length : Int))
  (Let (ix vertices0 x201) fun (x210 : Vec) =>
  Rx.Bind (if (x209 == true) = true then vec2_Orientation x199 x210 x206 else some default) fun (r211 : Int) =>
  Let (r211 != (1 : Int)) fun (x212 : Bool) =>
  Let (bif x209 then x212 else false) fun (x213 : Bool) =>
  if x213 = true then some false else Let (IntKind.i64.wrap (s204 + (1 : Int))) fun (x214 : Int) => rec203 x214))
  else Let (IntKind.i64.wrap (s197 + (1 : Int))) fun (x215 : Int) => rec196 x215)
  fuel (0 : Int)))
  else some true)
  fuel (0 : Int)

noncomputable def polygon_ShortestEdge (vertices0 : (List Vec)) : Option Int :=
  Rx.Bind (polygon_IsConvex vertices0) fun (r216 : Bool) =>
  Let (!r216) fun (x217 : Bool) =>
  if x217 = true then some (0 : Int)
  else
  Let (↑vertices0.length : Int) fun (x218 : Int) =>
  LOOP
  (fun (rec219 : Int × Int → Option Int) (s220 : Int × Int) =>
  Let (decide (s220.snd < x218)) fun (x221 : Bool) =>
  if x221 = true then
  Chk ((0 : Int) ≤ s220.snd ∧ s220.snd < (↑vertices0.length : Int))
  (Let (ix vertices0 s220.snd) fun (x222 : Vec) =>
  Let (IntKind.i64.wrap (s220.snd + (1 : Int))) fun (x223 : Int) =>
  Let (↑vertices0.length : Int) fun (x224 : Int) =>
  Chk (x224 ≠ (0 : Int))
  (Let (x223.tmod x224) fun (x225 : Int) =>
  Chk ((0 : Int) ≤ x225 ∧ x225 < (↑vertices0.length : Int))
  (Let (ix vertices0 x225) fun (x226 : Vec) =>
  Rx.Bind (vec2_Sub x226 x222) fun (r227 : Vec) =>
  Rx.Bind (vec2_Length r227) fun (r228 : Int) =>
  Let (min s220.fst r228) fun (x229 : Int) =>
  Let (IntKind.i64.wrap (s220.snd + (1 : Int))) fun (x230 : Int) => rec219 (x229, x230))))
  else some s220.fst)
  fuel ((536870911 : Int), (0 : Int))

noncomputable def fixed_RoundDiv (n0 : Int) (d1 : Int) : Option Int :=
  Let (decide (d1 < (1 : Int))) fun (x231 : Bool) =>
  Let (decide (d1 > (4611686018427387904 : Int))) fun (x232 : Bool) =>
  Let (bif x231 then true else x232) fun (x233 : Bool) =>
  Let (decide (n0 < (-4611686018427387904 : Int))) fun (x234 : Bool) =>
  Let (bif x233 then true else x234) fun (x235 : Bool) =>
  Let (decide (n0 > (4611686018427387904 : Int))) fun (x236 : Bool) =>
  Let (bif x235 then true else x236) fun (x237 : Bool) =>
  if x237 = true then some (0 : Int)
  else
  Chk (d1 ≠ (0 : Int))
  (Let (IntKind.i64.wrap (n0.tdiv d1)) fun (x238 : Int) =>
  Chk (d1 ≠ (0 : Int))
  (Let (n0.tmod d1) fun (x239 : Int) =>
  Join (fun (v240 : Int) => some v240) fun (j241 : Int → Option Int) =>
  Let (IntKind.i64.wrap (d1 - x239)) fun (x242 : Int) =>
  Let (decide (x239 ≥ x242)) fun (x243 : Bool) =>
  if x243 = true then Let (IntKind.i64.wrap (x238 + (1 : Int))) fun (x244 : Int) => j241 x244
  else
  Let (IntKind.i64.wrap ((0 : Int) - x239)) fun (x245 : Int) =>
  Let (IntKind.i64.wrap (d1 + x239)) fun (x246 : Int) =>
  Let (decide (x245 ≥ x246)) fun (x247 : Bool) =>
  if x247 = true then Let (IntKind.i64.wrap (x238 - (1 : Int))) fun (x248 : Int) => j241 x248 else j241 x238))

noncomputable def polygon_fan (vertices0 : (List Vec)) : Option ((List polygon_triangle) × Int) :=
  Chk ((0 : Int) ≤ (0 : Int) ∧ (0 : Int) < (↑vertices0.length : Int))
  (Let (ix vertices0 (0 : Int)) fun (x249 : Vec) =>
  LOOP
  (fun (rec250 : List polygon_triangle × Int × Int → Option (List polygon_triangle × Int))
  (s251 : List polygon_triangle × Int × Int) =>
  Let (IntKind.i64.wrap (s251.snd.snd + (1 : Int))) fun (x252 : Int) =>
  Let (↑vertices0.length : Int) fun (x253 : Int) =>
  Let (decide (x252 < x253)) fun (x254 : Bool) =>
  if x254 = true then
  Chk ((0 : Int) ≤ s251.snd.snd ∧ s251.snd.snd < (↑vertices0.length : Int))
  (Let (ix vertices0 s251.snd.snd) fun (x255 : Vec) =>
  Let (IntKind.i64.wrap (x255.X - x249.X)) fun (x256 : Int) =>
  Chk ((0 : Int) ≤ s251.snd.snd ∧ s251.snd.snd < (↑vertices0.length : Int))
  (Let (ix vertices0 s251.snd.snd) fun (x257 : Vec) =>
  Let (IntKind.i64.wrap (x257.Y - x249.Y)) fun (x258 : Int) =>
  Let (IntKind.i64.wrap (s251.snd.snd + (1 : Int))) fun (x259 : Int) =>
  Chk ((0 : Int) ≤ x259 ∧ x259 < (↑vertices0.length : Int))
  (Let (ix vertices0 x259) fun (x260 : Vec) =>
  Let (IntKind.i64.wrap (x260.X - x249.X)) fun (x261 : Int) =>
  Let (IntKind.i64.wrap (s251.snd.snd + (1 : Int))) fun (x262 : Int) =>
  Chk ((0 : Int) ≤ x262 ∧ x262 < (↑vertices0.length : Int))
  (Let (ix vertices0 x262) fun (x263 : Vec) =>
  Let (IntKind.i64.wrap (x263.Y - x249.Y)) fun (x264 : Int) =>
  Let (IntKind.i64.wrap (x256 * x264)) fun (x265 : Int) =>
  Let (IntKind.i64.wrap (x258 * x261)) fun (x266 : Int) =>
  Let (IntKind.i64.wrap (x265 - x266)) fun (x267 : Int) =>
  Rx.Bind (fixed_RoundDiv x267 (65536 : Int)) fun (r268 : Int) =>
  Chk
  ((List.length s251.fst +
  [{ e := { X := x256, Y := x258 : Vec }, f := { X := x261, Y := x264 : Vec }, cross := r268 : polygon_triangle }].length) *
  (40 : Nat) ≤
  (140737488355328 : Nat))
  (Let
  (s251.fst ++
  [{ e := { X := x256, Y := x258 : Vec }, f := { X := x261, Y := x264 : Vec }, cross := r268 : polygon_triangle }])
  fun (x269 : List polygon_triangle) =>
  Let (IntKind.i64.wrap (s251.snd.fst + r268)) fun (x270 : Int) =>
  Let (IntKind.i64.wrap (s251.snd.snd + (1 : Int))) fun (x271 : Int) => rec250 (x269, x270, x271))))))
  else some (s251.fst, s251.snd.fst))
  fuel ([], (0 : Int), (1 : Int)))

noncomputable def polygon_Area (vertices0 : (List Vec)) : Option Int :=
  Rx.Bind (polygon_IsConvex vertices0) fun (r272 : Bool) =>
  Let (!r272) fun (x273 : Bool) =>
  if x273 = true then some (0 : Int)
  else
  Rx.Bind (polygon_fan vertices0) fun (r274 : List polygon_triangle × Int) =>
  Rx.Bind (fixed_RoundDiv r274.snd (2 : Int)) fun (r275 : Int) => some r275

noncomputable def shape_Validate (s0 : Shape) : Option Int :=
  Let (decide (s0.Kind < (1 : Int))) fun (x276 : Bool) =>
  Let (decide (s0.Kind > (3 : Int))) fun (x277 : Bool) =>
  Let (bif x276 then true else x277) fun (x278 : Bool) =>
  if x278 = true then some (10 : Int)
  else
  Rx.Bind (shape_validCount s0) fun (r279 : Bool) =>
  Let (!r279) fun (x280 : Bool) =>
  if x280 = true then some (11 : Int)
  else
  Rx.Bind (slices_ContainsFunc_153 s0.Vertices fun (a : Tup tb [Ix.tVec]) => shape_Validate_1 a) fun (r281 : Bool) =>
  if r281 = true then some (6 : Int)
  else
  Join
  (fun (v282 : Bool) =>
  if v282 = true then some (6 : Int)
  else
  Let (s0.Kind == (2 : Int)) fun (x283 : Bool) =>
  Chk ((x283 == true) = true → (0 : Int) ≤ (1 : Int) ∧ (1 : Int) < (↑s0.Vertices.length : Int))
  (Let (ix s0.Vertices (1 : Int)) fun (x284 : Vec) =>
  Chk ((x283 == true) = true → (0 : Int) ≤ (0 : Int) ∧ (0 : Int) < (↑s0.Vertices.length : Int))
  (Let (ix s0.Vertices (0 : Int)) fun (x285 : Vec) =>
  Rx.Bind (if (x283 == true) = true then vec2_Sub x284 x285 else some { X := default, Y := default : Vec })
  fun (r286 : Vec) =>
  Rx.Bind (if (x283 == true) = true then vec2_Length r286 else some default) fun (r287 : Int) =>
  Let (decide (r287 < (4096 : Int))) fun (x288 : Bool) =>
  Let (bif x283 then x288 else false) fun (x289 : Bool) =>
  if x289 = true then some (12 : Int)
  else
  Let (s0.Kind == (3 : Int)) fun (x290 : Bool) =>
  Rx.Bind (if (x290 == true) = true then polygon_IsConvex s0.Vertices else some default) fun (r291 : Bool) =>
  Let (!r291) fun (x292 : Bool) =>
  Rx.Bind (if (x290 == true && x292 == false) = true then polygon_ShortestEdge s0.Vertices else some default)
  fun (r293 : Int) =>
  Let (decide (r293 < (4096 : Int))) fun (x294 : Bool) =>
  Let (bif x292 then true else x294) fun (x295 : Bool) =>
  Rx.Bind (if (x290 == true && x295 == false) = true then polygon_Area s0.Vertices else some default) fun (r296 : Int) =>
  Let (decide (r296 < (256 : Int))) fun (x297 : Bool) =>
  Let (bif x295 then true else x297) fun (x298 : Bool) =>
  Let (bif x290 then x298 else false) fun (x299 : Bool) => if x299 = true then some (12 : Int) else some (0 : Int))))
  fun (j300 : Bool → Option Int) =>
  Let (s0.Kind == (3 : Int)) fun (x301 : Bool) =>
  Let (s0.Radius != (0 : Int)) fun (x302 : Bool) =>
  Let (bif x301 then x302 else false) fun (x303 : Bool) =>
  if x303 = true then j300 x303
  else
  Let (s0.Kind != (3 : Int)) fun (x304 : Bool) =>
  Let (decide (s0.Radius < (2048 : Int))) fun (x305 : Bool) =>
  Let (decide (s0.Radius > (524288 : Int))) fun (x306 : Bool) =>
  Let (bif x305 then true else x306) fun (x307 : Bool) =>
  Let (bif x304 then x307 else false) fun (x308 : Bool) => j300 x308

noncomputable def body_ValidateFixture (f0 : Fixture) : Option Int :=
  Rx.Bind (shape_Validate f0.Shape) fun (r309 : Int) =>
  Let (r309 != (0 : Int)) fun (x310 : Bool) =>
  if x310 = true then some r309
  else
  Rx.Bind (body_within f0.Density (0 : Int) (262144 : Int)) fun (r311 : Bool) =>
  Rx.Bind (if (r311 == true) = true then body_within f0.Friction (0 : Int) (131072 : Int) else some default)
  fun (r312 : Bool) =>
  Let (bif r311 then r312 else false) fun (x313 : Bool) =>
  Rx.Bind (if (x313 == true) = true then body_within f0.Restitution (0 : Int) (65536 : Int) else some default)
  fun (r314 : Bool) =>
  Let (bif x313 then r314 else false) fun (x315 : Bool) =>
  Rx.Bind (body_within f0.Category (0 : Int) (65535 : Int)) fun (r316 : Bool) =>
  Rx.Bind (if (r316 == true) = true then body_within f0.Mask (0 : Int) (65535 : Int) else some default)
  fun (r317 : Bool) =>
  Let (bif r316 then r317 else false) fun (x318 : Bool) =>
  Rx.Bind (if (x318 == true) = true then body_within f0.Group (-32 : Int) (32 : Int) else some default)
  fun (r319 : Bool) =>
  Let (bif x318 then r319 else false) fun (x320 : Bool) =>
  Let (!x315) fun (x321 : Bool) =>
  Let (!x320) fun (x322 : Bool) =>
  Let (bif x321 then true else x322) fun (x323 : Bool) => if x323 = true then some (6 : Int) else some (0 : Int)

noncomputable def body_moving (b0 : Body) : Option Bool :=
  Let (!(decide (b0.Velocity.X = (0 : Int)) && decide (b0.Velocity.Y = (0 : Int)))) fun (x324 : Bool) =>
  Let (b0.AngularVelocity != (0 : Int)) fun (x325 : Bool) =>
  Let (bif x324 then true else x325) fun (x326 : Bool) => some x326

noncomputable def body_consistent (b0 : Body) : Option Bool :=
  Let (!(decide (b0.Force.X = (0 : Int)) && decide (b0.Force.Y = (0 : Int)))) fun (x327 : Bool) =>
  Let (b0.Torque != (0 : Int)) fun (x328 : Bool) =>
  Let (bif x327 then true else x328) fun (x329 : Bool) =>
  Let (b0.Kind == (1 : Int)) fun (x330 : Bool) =>
  Rx.Bind (if (x330 == true) = true then body_moving b0 else some default) fun (r331 : Bool) =>
  Let (bif r331 then true else x329) fun (x332 : Bool) =>
  Let (bif x330 then x332 else false) fun (x333 : Bool) =>
  if x333 = true then some false
  else
  Let (b0.Kind != (3 : Int)) fun (x334 : Bool) =>
  Let (bif b0.Asleep then true else b0.Bullet) fun (x335 : Bool) =>
  Let (bif x334 then x335 else false) fun (x336 : Bool) =>
  if x336 = true then some false
  else
  Let (!b0.Asleep) fun (x337 : Bool) =>
  Rx.Bind (if (x337 == false) = true then body_moving b0 else some default) fun (r338 : Bool) =>
  Let (!r338) fun (x339 : Bool) => Let (bif x337 then true else x339) fun (x340 : Bool) => some x340

noncomputable def body_Validate (b0 : Body) : Option Int :=
  Let (b0.Kind != (1 : Int)) fun (x341 : Bool) =>
  Let (b0.Kind != (2 : Int)) fun (x342 : Bool) =>
  Let (bif x341 then x342 else false) fun (x343 : Bool) =>
  Let (b0.Kind != (3 : Int)) fun (x344 : Bool) =>
  Let (bif x343 then x344 else false) fun (x345 : Bool) =>
  if x345 = true then some (10 : Int)
  else
  Rx.Bind (body_inRange b0) fun (r346 : Bool) =>
  Let (!r346) fun (x347 : Bool) =>
  if x347 = true then some (6 : Int)
  else
  Let (↑b0.Fixtures.length : Int) fun (x348 : Int) =>
  Let (decide (x348 > (4 : Int))) fun (x349 : Bool) =>
  if x349 = true then some (11 : Int)
  else
  Let (↑b0.Fixtures.length : Int) fun (x350 : Int) =>
  LOOP
  (fun (rec351 : Int → Option Int) (s352 : Int) =>
  Let (decide (s352 < x350)) fun (x353 : Bool) =>
  if x353 = true then
  Chk ((0 : Int) ≤ s352 ∧ s352 < (↑b0.Fixtures.length : Int))
  (Let (ix b0.Fixtures s352) fun (x354 : Fixture) =>
  Rx.Bind (body_ValidateFixture x354) fun (r355 : Int) =>
  Let (r355 != (0 : Int)) fun (x356 : Bool) =>
  if x356 = true then some (13 : Int) else Let (IntKind.i64.wrap (s352 + (1 : Int))) fun (x357 : Int) => rec351 x357)
  else
  Rx.Bind (body_consistent b0) fun (r358 : Bool) =>
  Let (!r358) fun (x359 : Bool) => if x359 = true then some (14 : Int) else some (0 : Int))
  fuel (0 : Int)

noncomputable def slices_Clone (s0 : (List Body)) : Option (List Body) :=
  Rx.Alike (s0 = []) (some []) (Chk (s0.length * (152 : Nat) ≤ (140737488355328 : Nat)) (some s0))

noncomputable def slices_Clone_78 (s0 : (List Joint)) : Option (List Joint) :=
  Rx.Alike (s0 = []) (some []) (Chk (s0.length * (192 : Nat) ≤ (140737488355328 : Nat)) (some s0))

noncomputable def slices_Clone_79 (s0 : (List Contact)) : Option (List Contact) :=
  Rx.Alike (s0 = []) (some []) (Chk (s0.length * (72 : Nat) ≤ (140737488355328 : Nat)) (some s0))

noncomputable def slices_Clone_80 (s0 : (List PairKey)) : Option (List PairKey) :=
  Rx.Alike (s0 = []) (some []) (Chk (s0.length * (32 : Nat) ≤ (140737488355328 : Nat)) (some s0))

noncomputable def slices_Clone_115 (s0 : (List ContactPoint)) : Option (List ContactPoint) :=
  Rx.Alike (s0 = []) (some []) (Chk (s0.length * (48 : Nat) ≤ (140737488355328 : Nat)) (some s0))

noncomputable def manifold_Clone (m0 : Manifold) : Option Manifold :=
  Rx.Bind (slices_Clone_115 m0.Points) fun (r360 : List ContactPoint) =>
  some { Normal := m0.Normal, Points := r360 : Manifold }

noncomputable def world_Clone (w0 : World_) : Option World_ :=
  Rx.Bind (slices_Clone w0.Bodies) fun (r361 : List Body) =>
  Rx.Bind (slices_Clone_78 w0.Joints) fun (r362 : List Joint) =>
  Rx.Bind (slices_Clone_79 w0.Contacts) fun (r363 : List Contact) =>
  Rx.Bind (slices_Clone_80 w0.Overlaps) fun (r364 : List PairKey) =>
  Let (↑r361.length : Int) fun (x365 : Int) =>
  LOOP
  (fun (rec366 : Int × List Body → Option World_) (s367 : Int × List Body) =>
  Let (decide (s367.fst < x365)) fun (x368 : Bool) =>
  if x368 = true then
  Chk ((0 : Int) ≤ s367.fst ∧ s367.fst < (↑(List.length s367.snd) : Int))
  (Chk ((0 : Int) ≤ s367.fst ∧ s367.fst < (↑(List.length s367.snd) : Int))
  (Let (ix s367.snd s367.fst) fun (x369 : Body) =>
  Rx.Bind (body_Clone x369) fun (r370 : Body) =>
  Chk ((0 : Int) ≤ s367.fst ∧ s367.fst < (↑(List.length s367.snd) : Int))
  (Chk ((0 : Int) ≤ s367.fst ∧ s367.fst < (↑(List.length s367.snd) : Int))
  (Let (List.set s367.snd (Int.toNat s367.fst) r370) fun (x371 : List Body) =>
  Let (IntKind.i64.wrap (s367.fst + (1 : Int))) fun (x372 : Int) => rec366 (x372, x371)))))
  else
  Let (↑r363.length : Int) fun (x373 : Int) =>
  LOOP
  (fun (rec374 : Int × List Contact → Option World_) (s375 : Int × List Contact) =>
  Let (decide (s375.fst < x373)) fun (x376 : Bool) =>
  if x376 = true then
  Chk ((0 : Int) ≤ s375.fst ∧ s375.fst < (↑(List.length s375.snd) : Int))
  (Chk ((0 : Int) ≤ s375.fst ∧ s375.fst < (↑(List.length s375.snd) : Int))
  (Let (ix s375.snd s375.fst) fun (x377 : Contact) =>
  Rx.Bind (manifold_Clone x377.Manifold) fun (r378 : Manifold) =>
  Chk ((0 : Int) ≤ s375.fst ∧ s375.fst < (↑(List.length s375.snd) : Int))
  (Chk ((0 : Int) ≤ s375.fst ∧ s375.fst < (↑(List.length s375.snd) : Int))
  (Let (List.set s375.snd (Int.toNat s375.fst) { Key := (ix s375.snd s375.fst).Key, Manifold := r378 : Contact })
  fun (x379 : List Contact) => Let (IntKind.i64.wrap (s375.fst + (1 : Int))) fun (x380 : Int) => rec374 (x380, x379)))))
  else
  some
  { Settings := w0.Settings, Bodies := s367.snd, Joints := r362, Contacts := s375.snd, Overlaps := r364, NextID := w0.NextID, Frame := w0.Frame : World_ })
  fuel ((0 : Int), r363))
  fuel ((0 : Int), r361)

noncomputable def world_AddBody (w0 : World_) (b1 : Body) : Option (World_ × Int × Int) :=
  Let (↑w0.Bodies.length : Int) fun (x381 : Int) =>
  Let (decide (x381 ≥ (32 : Int))) fun (x382 : Bool) =>
  Let (decide (w0.NextID ≥ (1099511627776 : Int))) fun (x383 : Bool) =>
  Let (bif x382 then true else x383) fun (x384 : Bool) =>
  if x384 = true then
  some
  ({ Settings := { TimeStep := (0 : Int), Gravity := { X := (0 : Int), Y := (0 : Int) : Vec }, Iterations := (0 : Int), SleepSteps := (0 : Int) : Settings }, Bodies := [], Joints := [], Contacts := [], Overlaps := [], NextID := (0 : Int), Frame := (0 : Int) : World_ },
  (0 : Int), (9 : Int))
  else
  Rx.Bind (body_Clone b1) fun (r385 : Body) =>
  Rx.Bind
  (body_Validate
  { ID := w0.NextID, Kind := r385.Kind, Transform := r385.Transform, Velocity := r385.Velocity, AngularVelocity := r385.AngularVelocity, Force := r385.Force, Torque := r385.Torque, LinearDamping := r385.LinearDamping, AngularDamping := r385.AngularDamping, GravityScale := r385.GravityScale, Bullet := r385.Bullet, FixedRotation := r385.FixedRotation, NoSleep := r385.NoSleep, Asleep := r385.Asleep, IdleSteps := r385.IdleSteps, Fixtures := r385.Fixtures : Body })
  fun (r386 : Int) =>
  Let (r386 != (0 : Int)) fun (x387 : Bool) =>
  if x387 = true then
  some
  ({ Settings := { TimeStep := (0 : Int), Gravity := { X := (0 : Int), Y := (0 : Int) : Vec }, Iterations := (0 : Int), SleepSteps := (0 : Int) : Settings }, Bodies := [], Joints := [], Contacts := [], Overlaps := [], NextID := (0 : Int), Frame := (0 : Int) : World_ },
  (0 : Int), (14 : Int))
  else
  Rx.Bind (world_Clone w0) fun (r388 : World_) =>
  Chk
  ((r388.Bodies.length +
  [{ ID := w0.NextID, Kind := r385.Kind, Transform := r385.Transform, Velocity := r385.Velocity, AngularVelocity := r385.AngularVelocity, Force := r385.Force, Torque := r385.Torque, LinearDamping := r385.LinearDamping, AngularDamping := r385.AngularDamping, GravityScale := r385.GravityScale, Bullet := r385.Bullet, FixedRotation := r385.FixedRotation, NoSleep := r385.NoSleep, Asleep := r385.Asleep, IdleSteps := r385.IdleSteps, Fixtures := r385.Fixtures : Body }].length) *
  (152 : Nat) ≤
  (140737488355328 : Nat))
  (Let
  (r388.Bodies ++
  [{ ID := w0.NextID, Kind := r385.Kind, Transform := r385.Transform, Velocity := r385.Velocity, AngularVelocity := r385.AngularVelocity, Force := r385.Force, Torque := r385.Torque, LinearDamping := r385.LinearDamping, AngularDamping := r385.AngularDamping, GravityScale := r385.GravityScale, Bullet := r385.Bullet, FixedRotation := r385.FixedRotation, NoSleep := r385.NoSleep, Asleep := r385.Asleep, IdleSteps := r385.IdleSteps, Fixtures := r385.Fixtures : Body }])
  fun (x389 : List Body) =>
  Let (IntKind.i64.wrap (r388.NextID + (1 : Int))) fun (x390 : Int) =>
  some
  ({ Settings := r388.Settings, Bodies := x389, Joints := r388.Joints, Contacts := r388.Contacts, Overlaps := r388.Overlaps, NextID := x390, Frame := r388.Frame : World_ },
  w0.NextID, (0 : Int)))

noncomputable def world_FindBody_1 (b0 : Body) (p1 : Int) : Option Bool :=
  Let (b0.ID == p1) fun (x391 : Bool) => some x391

noncomputable def slices_IndexFunc (s0 : (List Body)) (f1 : (Body → Option Bool)) : Option Int :=
  Let (↑s0.length : Int) fun (x392 : Int) =>
  LOOP
  (fun (rec393 : Int → Option Int) (s394 : Int) =>
  Let (decide (s394 < x392)) fun (x395 : Bool) =>
  if x395 = true then
  Chk ((0 : Int) ≤ s394 ∧ s394 < (↑s0.length : Int))
  (Let (ix s0 s394) fun (x396 : Body) =>
  Rx.Bind (f1 x396) fun (r397 : Bool) =>
  if r397 = true then some s394 else Let (IntKind.i64.wrap (s394 + (1 : Int))) fun (x398 : Int) => rec393 x398)
  else some (-1 : Int))
  fuel (0 : Int)

noncomputable def world_FindBody (w0 : World_) (id1 : Int) : Option Int :=
  Rx.Bind (slices_IndexFunc w0.Bodies fun (a : Tup tb [Ix.tBody]) => world_FindBody_1 a id1) fun (r399 : Int) => some r399

noncomputable def world_RemoveBody_1 (k0 : PairKey) (p1 : Int) : Option Bool :=
  Let (k0.BodyA == p1) fun (x400 : Bool) =>
  Let (k0.BodyB == p1) fun (x401 : Bool) => Let (bif x400 then true else x401) fun (x402 : Bool) => some x402

noncomputable def joint_Attached (j0 : Joint) (id1 : Int) : Option Bool :=
  Let (id1 != (0 : Int)) fun (x403 : Bool) =>
  Let (j0.BodyA == id1) fun (x404 : Bool) =>
  Let (j0.BodyB == id1) fun (x405 : Bool) =>
  Let (bif x404 then true else x405) fun (x406 : Bool) =>
  Let (bif x403 then x406 else false) fun (x407 : Bool) => some x407

noncomputable def world_other (a0 : Int) (b1 : Int) (id2 : Int) : Option Int :=
  Let (a0 == id2) fun (x408 : Bool) => if x408 = true then some b1 else some a0

noncomputable def world_RemoveBody_2 (j0 : Joint) (p1 : Int) : Option Bool :=
  Rx.Bind (joint_Attached j0 p1) fun (r409 : Bool) => some r409

noncomputable def slices_IndexFunc_69 (s0 : (List Joint)) (f1 : (Joint → Option Bool)) : Option Int :=
  Let (↑s0.length : Int) fun (x410 : Int) =>
  LOOP
  (fun (rec411 : Int → Option Int) (s412 : Int) =>
  Let (decide (s412 < x410)) fun (x413 : Bool) =>
  if x413 = true then
  Chk ((0 : Int) ≤ s412 ∧ s412 < (↑s0.length : Int))
  (Let (ix s0 s412) fun (x414 : Joint) =>
  Rx.Bind (f1 x414) fun (r415 : Bool) =>
  if r415 = true then some s412 else Let (IntKind.i64.wrap (s412 + (1 : Int))) fun (x416 : Int) => rec411 x416)
  else some (-1 : Int))
  fuel (0 : Int)

noncomputable def slices_IndexFunc_100 (s0 : (List Contact)) (f1 : (Contact → Option Bool)) : Option Int :=
  Let (↑s0.length : Int) fun (x417 : Int) =>
  LOOP
  (fun (rec418 : Int → Option Int) (s419 : Int) =>
  Let (decide (s419 < x417)) fun (x420 : Bool) =>
  if x420 = true then
  Chk ((0 : Int) ≤ s419 ∧ s419 < (↑s0.length : Int))
  (Let (ix s0 s419) fun (x421 : Contact) =>
  Rx.Bind (f1 x421) fun (r422 : Bool) =>
  if r422 = true then some s419 else Let (IntKind.i64.wrap (s419 + (1 : Int))) fun (x423 : Int) => rec418 x423)
  else some (-1 : Int))
  fuel (0 : Int)

noncomputable def slices_IndexFunc_101 (s0 : (List PairKey)) (f1 : (PairKey → Option Bool)) : Option Int :=
  Let (↑s0.length : Int) fun (x424 : Int) =>
  LOOP
  (fun (rec425 : Int → Option Int) (s426 : Int) =>
  Let (decide (s426 < x424)) fun (x427 : Bool) =>
  if x427 = true then
  Chk ((0 : Int) ≤ s426 ∧ s426 < (↑s0.length : Int))
  (Let (ix s0 s426) fun (x428 : PairKey) =>
  Rx.Bind (f1 x428) fun (r429 : Bool) =>
  if r429 = true then some s426 else Let (IntKind.i64.wrap (s426 + (1 : Int))) fun (x430 : Int) => rec425 x430)
  else some (-1 : Int))
  fuel (0 : Int)

noncomputable def world_WakeBody (w0 : World_) (id1 : Int) : Option World_ :=
  Rx.Bind (world_Clone w0) fun (r431 : World_) =>
  Join
  (fun (v432 : List Body) =>
  some
  { Settings := r431.Settings, Bodies := v432, Joints := r431.Joints, Contacts := r431.Contacts, Overlaps := r431.Overlaps, NextID := r431.NextID, Frame := r431.Frame : World_ })
  fun (j433 : List Body → Option World_) =>
  Rx.Bind (world_FindBody r431 id1) fun (r434 : Int) =>
  Let (decide (r434 ≥ (0 : Int))) fun (x435 : Bool) =>
  Chk ((x435 == true) = true → (0 : Int) ≤ r434 ∧ r434 < (↑r431.Bodies.length : Int))
  (Chk ((x435 == true) = true → (0 : Int) ≤ r434 ∧ r434 < (↑r431.Bodies.length : Int))
  (Let (ix r431.Bodies r434) fun (x436 : Body) =>
  Let (x436.Kind == (3 : Int)) fun (x437 : Bool) =>
  Let (bif x435 then x437 else false) fun (x438 : Bool) =>
  if x438 = true then
  Chk ((0 : Int) ≤ r434 ∧ r434 < (↑r431.Bodies.length : Int))
  (Chk ((0 : Int) ≤ r434 ∧ r434 < (↑r431.Bodies.length : Int))
  (Let
  (r431.Bodies.set r434.toNat
  { ID := (ix r431.Bodies r434).ID, Kind := (ix r431.Bodies r434).Kind, Transform := (ix r431.Bodies r434).Transform, Velocity := (ix r431.Bodies r434).Velocity, AngularVelocity := (ix r431.Bodies r434).AngularVelocity, Force := (ix r431.Bodies r434).Force, Torque := (ix r431.Bodies r434).Torque, LinearDamping := (ix r431.Bodies r434).LinearDamping, AngularDamping := (ix r431.Bodies r434).AngularDamping, GravityScale := (ix r431.Bodies r434).GravityScale, Bullet := (ix r431.Bodies r434).Bullet, FixedRotation := (ix r431.Bodies r434).FixedRotation, NoSleep := (ix r431.Bodies r434).NoSleep, Asleep := false, IdleSteps := (ix r431.Bodies r434).IdleSteps, Fixtures := (ix r431.Bodies r434).Fixtures : Body })
  fun (x439 : List Body) =>
  Chk ((0 : Int) ≤ r434 ∧ r434 < (↑x439.length : Int))
  (Chk ((0 : Int) ≤ r434 ∧ r434 < (↑x439.length : Int))
  (Let
  (x439.set r434.toNat
  { ID := (ix x439 r434).ID, Kind := (ix x439 r434).Kind, Transform := (ix x439 r434).Transform, Velocity := (ix x439 r434).Velocity, AngularVelocity := (ix x439 r434).AngularVelocity, Force := (ix x439 r434).Force, Torque := (ix x439 r434).Torque, LinearDamping := (ix x439 r434).LinearDamping, AngularDamping := (ix x439 r434).AngularDamping, GravityScale := (ix x439 r434).GravityScale, Bullet := (ix x439 r434).Bullet, FixedRotation := (ix x439 r434).FixedRotation, NoSleep := (ix x439 r434).NoSleep, Asleep := (ix x439 r434).Asleep, IdleSteps := (0 : Int), Fixtures := (ix x439 r434).Fixtures : Body })
  fun (x440 : List Body) => j433 x440))))
  else j433 r431.Bodies))

noncomputable def world_wakeAll (w0 : World_) (ids1 : (List Int)) : Option World_ :=
  Let (↑ids1.length : Int) fun (x441 : Int) =>
  LOOP
  (fun (rec442 : Int × World_ → Option World_) (s443 : Int × World_) =>
  Let (decide (s443.fst < x441)) fun (x444 : Bool) =>
  if x444 = true then
  Join (fun (v445 : World_) => Let (IntKind.i64.wrap (s443.fst + (1 : Int))) fun (x446 : Int) => rec442 (x446, v445))
  fun (j447 : World_ → Option World_) =>
  Chk ((0 : Int) ≤ s443.fst ∧ s443.fst < (↑ids1.length : Int))
  (Let (ix ids1 s443.fst) fun (x448 : Int) =>
  Let (x448 != (0 : Int)) fun (x449 : Bool) =>
  if x449 = true then Rx.Bind (world_WakeBody s443.snd x448) fun (r450 : World_) => j447 r450 else j447 s443.snd)
  else some s443.snd)
  fuel ((0 : Int), w0)

noncomputable def world_RemoveBody (w0 : World_) (id1 : Int) : Option (World_ × Int) :=
  Rx.Bind (world_FindBody w0 id1) fun (r451 : Int) =>
  Let (decide (r451 < (0 : Int))) fun (x452 : Bool) =>
  if x452 = true then
  some
  ({ Settings := { TimeStep := (0 : Int), Gravity := { X := (0 : Int), Y := (0 : Int) : Vec }, Iterations := (0 : Int), SleepSteps := (0 : Int) : Settings }, Bodies := [], Joints := [], Contacts := [], Overlaps := [], NextID := (0 : Int), Frame := (0 : Int) : World_ },
  (8 : Int))
  else
  Rx.Bind (world_Clone w0) fun (r453 : World_) =>
  Let (↑r453.Joints.length : Int) fun (x454 : Int) =>
  LOOP
  (fun (rec455 : List Int × Int → Option (World_ × Int)) (s456 : List Int × Int) =>
  Let (decide (s456.snd < x454)) fun (x457 : Bool) =>
  if x457 = true then
  Join (fun (v458 : List Int) => Let (IntKind.i64.wrap (s456.snd + (1 : Int))) fun (x459 : Int) => rec455 (v458, x459))
  fun (j460 : List Int → Option (World_ × Int)) =>
  Chk ((0 : Int) ≤ s456.snd ∧ s456.snd < (↑r453.Joints.length : Int))
  (Chk ((0 : Int) ≤ s456.snd ∧ s456.snd < (↑r453.Joints.length : Int))
  (Let (ix r453.Joints s456.snd) fun (x461 : Joint) =>
  Rx.Bind (joint_Attached x461 id1) fun (r462 : Bool) =>
  if r462 = true then
  Rx.Bind (world_other x461.BodyA x461.BodyB id1) fun (r463 : Int) =>
  Chk ((List.length s456.fst + [r463].length) * (8 : Nat) ≤ (140737488355328 : Nat))
  (Let (s456.fst ++ [r463]) fun (x464 : List Int) => j460 x464)
  else j460 s456.fst))
  else
  Let (↑r453.Contacts.length : Int) fun (x465 : Int) =>
  LOOP
  (fun (rec466 : List Int × Int → Option (World_ × Int)) (s467 : List Int × Int) =>
  Let (decide (s467.snd < x465)) fun (x468 : Bool) =>
  if x468 = true then
  Join (fun (v469 : List Int) => Let (IntKind.i64.wrap (s467.snd + (1 : Int))) fun (x470 : Int) => rec466 (v469, x470))
  fun (j471 : List Int → Option (World_ × Int)) =>
  Chk ((0 : Int) ≤ s467.snd ∧ s467.snd < (↑r453.Contacts.length : Int))
  (Chk ((0 : Int) ≤ s467.snd ∧ s467.snd < (↑r453.Contacts.length : Int))
  (Let (ix r453.Contacts s467.snd) fun (x472 : Contact) =>
  Rx.Bind (world_RemoveBody_1 x472.Key id1) fun (r473 : Bool) =>
  if r473 = true then
  Rx.Bind (world_other x472.Key.BodyA x472.Key.BodyB id1) fun (r474 : Int) =>
  Chk ((List.length s467.fst + [r474].length) * (8 : Nat) ≤ (140737488355328 : Nat))
  (Let (s467.fst ++ [r474]) fun (x475 : List Int) => j471 x475)
  else j471 s467.fst))
  else
  Let (IntKind.i64.wrap (r451 + (1 : Int))) fun (x476 : Int) => Let (↑r453.Bodies.length : Int) fun (x477 : Int) => none)
  fuel (s456.fst, (0 : Int)))
  fuel ([], (0 : Int))

noncomputable def world_validBodies (w0 : World_) : Option Bool :=
  Let (↑w0.Bodies.length : Int) fun (x478 : Int) =>
  LOOP
  (fun (rec479 : Int × Int → Option Bool) (s480 : Int × Int) =>
  Let (decide (s480.snd < x478)) fun (x481 : Bool) =>
  if x481 = true then
  Chk ((0 : Int) ≤ s480.snd ∧ s480.snd < (↑w0.Bodies.length : Int))
  (Let (ix w0.Bodies s480.snd) fun (x482 : Body) =>
  Rx.Bind (body_Validate x482) fun (r483 : Int) =>
  Let (r483 != (0 : Int)) fun (x484 : Bool) =>
  Let (decide (x482.ID ≥ w0.NextID)) fun (x485 : Bool) =>
  Let (bif x484 then true else x485) fun (x486 : Bool) =>
  Let (decide (x482.ID ≤ s480.fst)) fun (x487 : Bool) =>
  Let (bif x486 then true else x487) fun (x488 : Bool) =>
  if x488 = true then some false
  else Let (IntKind.i64.wrap (s480.snd + (1 : Int))) fun (x489 : Int) => rec479 (x482.ID, x489))
  else some true)
  fuel ((0 : Int), (0 : Int))

noncomputable def joint_limitRange (k0 : Int) : Option (Int × Int) :=
  Let (k0 == (1 : Int)) fun (x490 : Bool) =>
  if x490 = true then some ((0 : Int), (268435456 : Int))
  else
  Let (k0 == (2 : Int)) fun (x491 : Bool) =>
  if x491 = true then some ((-205888 : Int), (205888 : Int)) else some ((-268435456 : Int), (268435456 : Int))

noncomputable def joint_inRange (n0 : Int) (low1 : Int) (high2 : Int) : Option Bool :=
  Let (decide (n0 ≥ low1)) fun (x492 : Bool) =>
  Let (decide (n0 ≤ high2)) fun (x493 : Bool) => Let (bif x492 then x493 else false) fun (x494 : Bool) => some x494

noncomputable def joint_pointInRange (v0 : Vec) (limit1 : Int) : Option Bool :=
  Let (IntKind.i64.wrap ((0 : Int) - limit1)) fun (x495 : Int) =>
  Rx.Bind (joint_inRange v0.X x495 limit1) fun (r496 : Bool) =>
  Let (IntKind.i64.wrap ((0 : Int) - limit1)) fun (x497 : Int) =>
  Rx.Bind (if (r496 == true) = true then joint_inRange v0.Y x497 limit1 else some default) fun (r498 : Bool) =>
  Let (bif r496 then r498 else false) fun (x499 : Bool) => some x499

noncomputable def joint_numbersInRange (j0 : Joint) : Option Bool :=
  Join
  (fun (v500 : Int) =>
  Rx.Bind (joint_limitRange j0.Kind) fun (r501 : Int × Int) =>
  LOOP
  (fun (rec502 : Int → Option Bool) (s503 : Int) =>
  Let (decide (s503 < (4 : Int))) fun (x504 : Bool) =>
  if x504 = true then
  Chk ((0 : Int) ≤ s503 ∧ s503 < (↑(4 : Nat) : Int))
  (Let (ix [j0.Impulses.fst, j0.Impulses.snd.fst, j0.Impulses.snd.snd.fst, j0.Impulses.snd.snd.snd] s503)
  fun (x505 : Int) =>
  Rx.Bind (joint_inRange x505 (-536870911 : Int) (536870911 : Int)) fun (r506 : Bool) =>
  Let (!r506) fun (x507 : Bool) =>
  if x507 = true then some false else Let (IntKind.i64.wrap (s503 + (1 : Int))) fun (x508 : Int) => rec502 x508)
  else
  Rx.Bind (joint_inRange j0.ID (1 : Int) (1099511627776 : Int)) fun (r509 : Bool) =>
  Rx.Bind (if (r509 == true) = true then joint_pointInRange j0.AnchorA v500 else some default) fun (r510 : Bool) =>
  Let (bif r509 then r510 else false) fun (x511 : Bool) =>
  Rx.Bind (if (x511 == true) = true then joint_pointInRange j0.AnchorB (1048576 : Int) else some default)
  fun (r512 : Bool) =>
  Let (bif x511 then r512 else false) fun (x513 : Bool) =>
  Rx.Bind (if (x513 == true) = true then joint_inRange j0.ReferenceAngle (-205888 : Int) (205887 : Int) else some default)
  fun (r514 : Bool) =>
  Let (bif x513 then r514 else false) fun (x515 : Bool) =>
  Rx.Bind (if (x515 == true) = true then joint_inRange j0.Lower r501.fst r501.snd else some default) fun (r516 : Bool) =>
  Let (bif x515 then r516 else false) fun (x517 : Bool) =>
  Rx.Bind (if (x517 == true) = true then joint_inRange j0.Upper r501.fst r501.snd else some default) fun (r518 : Bool) =>
  Let (bif x517 then r518 else false) fun (x519 : Bool) =>
  Let (decide (j0.Lower ≤ j0.Upper)) fun (x520 : Bool) =>
  Let (bif x519 then x520 else false) fun (x521 : Bool) =>
  Rx.Bind (if (x521 == true) = true then joint_inRange j0.MotorSpeed (-16777216 : Int) (16777216 : Int) else some default)
  fun (r522 : Bool) =>
  Let (bif x521 then r522 else false) fun (x523 : Bool) =>
  Rx.Bind (if (x523 == true) = true then joint_inRange j0.MaxForce (0 : Int) (536870911 : Int) else some default)
  fun (r524 : Bool) =>
  Let (bif x523 then r524 else false) fun (x525 : Bool) =>
  Rx.Bind (if (x525 == true) = true then joint_inRange j0.Softness (0 : Int) (536870911 : Int) else some default)
  fun (r526 : Bool) =>
  Let (bif x525 then r526 else false) fun (x527 : Bool) =>
  Rx.Bind (if (x527 == true) = true then joint_inRange j0.BreakForce (0 : Int) (536870911 : Int) else some default)
  fun (r528 : Bool) => Let (bif x527 then r528 else false) fun (x529 : Bool) => some x529)
  fuel (0 : Int))
  fun (j530 : Int → Option Bool) =>
  Let (j0.Kind == (5 : Int)) fun (x531 : Bool) => if x531 = true then j530 (268435456 : Int) else j530 (1048576 : Int)

noncomputable def joint_validBodies (j0 : Joint) : Option Bool :=
  Let (j0.Kind == (5 : Int)) fun (x532 : Bool) =>
  if x532 = true then
  Let (j0.BodyA == (0 : Int)) fun (x533 : Bool) =>
  Rx.Bind (if (x533 == true) = true then joint_inRange j0.BodyB (1 : Int) (1099511627776 : Int) else some default)
  fun (r534 : Bool) => Let (bif x533 then r534 else false) fun (x535 : Bool) => some x535
  else
  Rx.Bind (joint_inRange j0.BodyA (1 : Int) (1099511627776 : Int)) fun (r536 : Bool) =>
  Rx.Bind (if (r536 == true) = true then joint_inRange j0.BodyB (1 : Int) (1099511627776 : Int) else some default)
  fun (r537 : Bool) =>
  Let (bif r536 then r537 else false) fun (x538 : Bool) =>
  Let (j0.BodyA != j0.BodyB) fun (x539 : Bool) => Let (bif x538 then x539 else false) fun (x540 : Bool) => some x540

noncomputable def joint_inconsistent (j0 : Joint) : Option Bool :=
  Let (decide (j0.Axis.X = (0 : Int)) && decide (j0.Axis.Y = (0 : Int))) fun (x541 : Bool) =>
  Join
  (fun (v542 : PUnit) =>
  Let (!x541) fun (x543 : Bool) =>
  Let (bif x543 then true else j0.EnableMotor) fun (x544 : Bool) =>
  Let (bif x544 then true else j0.EnableLimit) fun (x545 : Bool) => some x545)
  fun (j546 : PUnit → Option Bool) =>
  Let (j0.Kind == (3 : Int)) fun (x547 : Bool) =>
  if x547 = true then
  Rx.Bind (vec2_Length j0.Axis) fun (r548 : Int) =>
  Rx.Bind (joint_inRange r548 (65520 : Int) (65552 : Int)) fun (r549 : Bool) => Let (!r549) fun (x550 : Bool) => some x550
  else
  Let (j0.Kind == (1 : Int)) fun (x551 : Bool) =>
  if x551 = true then
  Let (!x541) fun (x552 : Bool) =>
  Let (bif x552 then true else j0.EnableMotor) fun (x553 : Bool) =>
  Let (!j0.EnableLimit) fun (x554 : Bool) => Let (bif x553 then true else x554) fun (x555 : Bool) => some x555
  else
  Let (j0.Kind == (4 : Int)) fun (x556 : Bool) =>
  if x556 = true then j546 ()
  else
  Let (j0.Kind == (5 : Int)) fun (x557 : Bool) =>
  if x557 = true then j546 () else Let (!x541) fun (x558 : Bool) => some x558

noncomputable def joint_Validate (j0 : Joint) : Option Int :=
  Let (decide (j0.Kind < (1 : Int))) fun (x559 : Bool) =>
  Let (decide (j0.Kind > (5 : Int))) fun (x560 : Bool) =>
  Let (bif x559 then true else x560) fun (x561 : Bool) =>
  if x561 = true then some (10 : Int)
  else
  Rx.Bind (joint_numbersInRange j0) fun (r562 : Bool) =>
  Let (!r562) fun (x563 : Bool) =>
  if x563 = true then some (6 : Int)
  else
  Rx.Bind (joint_validBodies j0) fun (r564 : Bool) =>
  Let (!r564) fun (x565 : Bool) =>
  if x565 = true then some (14 : Int)
  else Rx.Bind (joint_inconsistent j0) fun (r566 : Bool) => if r566 = true then some (15 : Int) else some (0 : Int)

noncomputable def world_bodiesExist (w0 : World_) (j1 : Joint) : Option Bool :=
  Rx.Bind (world_FindBody w0 j1.BodyB) fun (r567 : Int) =>
  Let (decide (r567 ≥ (0 : Int))) fun (x568 : Bool) =>
  Let (j1.Kind == (5 : Int)) fun (x569 : Bool) =>
  Rx.Bind (if (x568 == true && x569 == false) = true then world_FindBody w0 j1.BodyA else some default)
  fun (r570 : Int) =>
  Let (decide (r570 ≥ (0 : Int))) fun (x571 : Bool) =>
  Let (bif x569 then true else x571) fun (x572 : Bool) =>
  Let (bif x568 then x572 else false) fun (x573 : Bool) => some x573

noncomputable def world_validJoints (w0 : World_) : Option Bool :=
  Let (↑w0.Joints.length : Int) fun (x574 : Int) =>
  LOOP
  (fun (rec575 : Int × Int → Option Bool) (s576 : Int × Int) =>
  Let (decide (s576.snd < x574)) fun (x577 : Bool) =>
  if x577 = true then
  Chk ((0 : Int) ≤ s576.snd ∧ s576.snd < (↑w0.Joints.length : Int))
  (Let (ix w0.Joints s576.snd) fun (x578 : Joint) =>
  Rx.Bind (joint_Validate x578) fun (r579 : Int) =>
  Let (r579 != (0 : Int)) fun (x580 : Bool) =>
  Let (decide (x578.ID ≥ w0.NextID)) fun (x581 : Bool) =>
  Let (bif x580 then true else x581) fun (x582 : Bool) =>
  Let (decide (x578.ID ≤ s576.fst)) fun (x583 : Bool) =>
  Let (bif x582 then true else x583) fun (x584 : Bool) =>
  Rx.Bind (if (x584 == false) = true then world_bodiesExist w0 x578 else some default) fun (r585 : Bool) =>
  Let (!r585) fun (x586 : Bool) =>
  Let (bif x584 then true else x586) fun (x587 : Bool) =>
  Rx.Bind (if (x587 == false) = true then world_FindBody w0 x578.ID else some default) fun (r588 : Int) =>
  Let (decide (r588 ≥ (0 : Int))) fun (x589 : Bool) =>
  Let (bif x587 then true else x589) fun (x590 : Bool) =>
  if x590 = true then some false
  else Let (IntKind.i64.wrap (s576.snd + (1 : Int))) fun (x591 : Int) => rec575 (x578.ID, x591))
  else some true)
  fuel ((0 : Int), (0 : Int))

noncomputable def slices_IndexFunc_172 (s0 : (List Int)) (f1 : (Int → Option Bool)) : Option Int :=
  Let (↑s0.length : Int) fun (x592 : Int) =>
  LOOP
  (fun (rec593 : Int → Option Int) (s594 : Int) =>
  Let (decide (s594 < x592)) fun (x595 : Bool) =>
  if x595 = true then
  Chk ((0 : Int) ≤ s594 ∧ s594 < (↑s0.length : Int))
  (Let (ix s0 s594) fun (x596 : Int) =>
  Rx.Bind (f1 x596) fun (r597 : Bool) =>
  if r597 = true then some s594 else Let (IntKind.i64.wrap (s594 + (1 : Int))) fun (x598 : Int) => rec593 x598)
  else some (-1 : Int))
  fuel (0 : Int)

noncomputable def slices_ContainsFunc_146 (s0 : (List Int)) (f1 : (Int → Option Bool)) : Option Bool :=
  Rx.Bind (slices_IndexFunc_172 s0 f1) fun (r599 : Int) => Let (decide (r599 ≥ (0 : Int))) fun (x600 : Bool) => some x600

noncomputable def world_saturated_1 (n0 : Int) : Option Bool :=
  Rx.Bind (world_in n0 (-536870911 : Int) (536870911 : Int)) fun (r601 : Bool) =>
  Let (!r601) fun (x602 : Bool) => some x602

noncomputable def world_saturated (values0 : (List Int)) : Option Bool :=
  Rx.Bind (slices_ContainsFunc_146 values0 fun (a : Tup tb [Ix.tint]) => world_saturated_1 a) fun (r603 : Bool) =>
  Let (!r603) fun (x604 : Bool) => some x604

noncomputable def slices_IndexFunc_148 (s0 : (List ContactPoint)) (f1 : (ContactPoint → Option Bool)) : Option Int :=
  Let (↑s0.length : Int) fun (x605 : Int) =>
  LOOP
  (fun (rec606 : Int → Option Int) (s607 : Int) =>
  Let (decide (s607 < x605)) fun (x608 : Bool) =>
  if x608 = true then
  Chk ((0 : Int) ≤ s607 ∧ s607 < (↑s0.length : Int))
  (Let (ix s0 s607) fun (x609 : ContactPoint) =>
  Rx.Bind (f1 x609) fun (r610 : Bool) =>
  if r610 = true then some s607 else Let (IntKind.i64.wrap (s607 + (1 : Int))) fun (x611 : Int) => rec606 x611)
  else some (-1 : Int))
  fuel (0 : Int)

noncomputable def slices_ContainsFunc_119 (s0 : (List ContactPoint)) (f1 : (ContactPoint → Option Bool)) : Option Bool :=
  Rx.Bind (slices_IndexFunc_148 s0 f1) fun (r612 : Int) => Let (decide (r612 ≥ (0 : Int))) fun (x613 : Bool) => some x613

noncomputable def world_validManifold_1 (p0 : ContactPoint) : Option Bool :=
  Let (decide (p0.NormalImpulse < (0 : Int))) fun (x614 : Bool) =>
  Rx.Bind
  (if (x614 == false) = true then
  world_saturated [p0.Point.X, p0.Point.Y, p0.Separation, p0.ID, p0.NormalImpulse, p0.TangentImpulse]
  else some default)
  fun (r615 : Bool) => Let (!r615) fun (x616 : Bool) => Let (bif x614 then true else x616) fun (x617 : Bool) => some x617

noncomputable def world_validManifold (m0 : Manifold) : Option Bool :=
  Let (↑m0.Points.length : Int) fun (x618 : Int) =>
  Let (decide (x618 < (1 : Int))) fun (x619 : Bool) =>
  Let (decide (x618 > (2 : Int))) fun (x620 : Bool) =>
  Let (bif x619 then true else x620) fun (x621 : Bool) =>
  Let (x618 == (2 : Int)) fun (x622 : Bool) =>
  Chk ((x621 == false && x622 == true) = true → (0 : Int) ≤ (0 : Int) ∧ (0 : Int) < (↑m0.Points.length : Int))
  (Let (ix m0.Points (0 : Int)) fun (x623 : ContactPoint) =>
  Chk ((x621 == false && x622 == true) = true → (0 : Int) ≤ (1 : Int) ∧ (1 : Int) < (↑m0.Points.length : Int))
  (Let (ix m0.Points (1 : Int)) fun (x624 : ContactPoint) =>
  Let (x623.ID == x624.ID) fun (x625 : Bool) =>
  Let (bif x622 then x625 else false) fun (x626 : Bool) =>
  Let (bif x621 then true else x626) fun (x627 : Bool) =>
  Rx.Bind (if (x627 == false) = true then world_saturated [m0.Normal.X, m0.Normal.Y] else some default)
  fun (r628 : Bool) =>
  Let (!r628) fun (x629 : Bool) =>
  Let (bif x627 then true else x629) fun (x630 : Bool) =>
  if x630 = true then some false
  else
  Rx.Bind (slices_ContainsFunc_119 m0.Points fun (a : Tup tb [Ix.tContactPoint]) => world_validManifold_1 a)
  fun (r631 : Bool) => Let (!r631) fun (x632 : Bool) => some x632))

noncomputable def broadphase_valid (k0 : PairKey) : Option Bool :=
  Let (decide (k0.BodyA < k0.BodyB)) fun (x633 : Bool) =>
  Let (decide (k0.FixtureA ≥ (0 : Int))) fun (x634 : Bool) =>
  Let (bif x633 then x634 else false) fun (x635 : Bool) =>
  Let (decide (k0.FixtureA < (4 : Int))) fun (x636 : Bool) =>
  Let (bif x635 then x636 else false) fun (x637 : Bool) =>
  Let (decide (k0.FixtureB ≥ (0 : Int))) fun (x638 : Bool) =>
  Let (bif x637 then x638 else false) fun (x639 : Bool) =>
  Let (decide (k0.FixtureB < (4 : Int))) fun (x640 : Bool) =>
  Let (bif x639 then x640 else false) fun (x641 : Bool) => some x641

noncomputable def cmp_isNaN (x0 : Int) : Option Bool :=
  Let (x0 != x0) fun (x642 : Bool) => some x642

noncomputable def cmp_Compare (x0 : Int) (y1 : Int) : Option Int :=
  Rx.Bind (cmp_isNaN x0) fun (r643 : Bool) =>
  Rx.Bind (cmp_isNaN y1) fun (r644 : Bool) =>
  if r643 = true then if r644 = true then some (0 : Int) else some (-1 : Int)
  else
  if r644 = true then some (1 : Int)
  else
  Let (decide (x0 < y1)) fun (x645 : Bool) =>
  if x645 = true then some (-1 : Int)
  else Let (decide (x0 > y1)) fun (x646 : Bool) => if x646 = true then some (1 : Int) else some (0 : Int)

noncomputable def cmp_Or (vals0 : (List Int)) : Option Int :=
  Let (↑vals0.length : Int) fun (x647 : Int) =>
  LOOP
  (fun (rec648 : Int → Option Int) (s649 : Int) =>
  Let (decide (s649 < x647)) fun (x650 : Bool) =>
  if x650 = true then
  Chk ((0 : Int) ≤ s649 ∧ s649 < (↑vals0.length : Int))
  (Let (ix vals0 s649) fun (x651 : Int) =>
  Let (x651 != (0 : Int)) fun (x652 : Bool) =>
  if x652 = true then some x651 else Let (IntKind.i64.wrap (s649 + (1 : Int))) fun (x653 : Int) => rec648 x653)
  else some (0 : Int))
  fuel (0 : Int)

noncomputable def broadphase_compare (a0 : PairKey) (b1 : PairKey) : Option Int :=
  Rx.Bind (cmp_Compare a0.BodyA b1.BodyA) fun (r654 : Int) =>
  Rx.Bind (cmp_Compare a0.FixtureA b1.FixtureA) fun (r655 : Int) =>
  Rx.Bind (cmp_Compare a0.BodyB b1.BodyB) fun (r656 : Int) =>
  Rx.Bind (cmp_Compare a0.FixtureB b1.FixtureB) fun (r657 : Int) =>
  Rx.Bind (cmp_Or [r654, r655, r656, r657]) fun (r658 : Int) => some r658

noncomputable def broadphase_Less (a0 : PairKey) (b1 : PairKey) : Option Bool :=
  Rx.Bind (broadphase_compare a0 b1) fun (r659 : Int) => Let (decide (r659 < (0 : Int))) fun (x660 : Bool) => some x660

noncomputable def broadphase_ValidKeys (keys0 : (List PairKey)) : Option Bool :=
  Let (↑keys0.length : Int) fun (x661 : Int) =>
  LOOP
  (fun (rec662 : Int × PairKey → Option Bool) (s663 : Int × PairKey) =>
  Let (decide (s663.fst < x661)) fun (x664 : Bool) =>
  if x664 = true then
  Chk ((0 : Int) ≤ s663.fst ∧ s663.fst < (↑keys0.length : Int))
  (Let (ix keys0 s663.fst) fun (x665 : PairKey) =>
  Rx.Bind (broadphase_valid x665) fun (r666 : Bool) =>
  Let (!r666) fun (x667 : Bool) =>
  Let (decide (s663.fst > (0 : Int))) fun (x668 : Bool) =>
  Let
  (decide (x665.BodyA = s663.snd.BodyA) &&
  (decide (x665.FixtureA = s663.snd.FixtureA) &&
  (decide (x665.BodyB = s663.snd.BodyB) && decide (x665.FixtureB = s663.snd.FixtureB))))
  fun (x669 : Bool) =>
  Rx.Bind
  (if (x667 == false && x668 == true && x669 == false) = true then broadphase_Less s663.snd x665 else some default)
  fun (r670 : Bool) =>
  Let (!r670) fun (x671 : Bool) =>
  Let (bif x669 then true else x671) fun (x672 : Bool) =>
  Let (bif x668 then x672 else false) fun (x673 : Bool) =>
  Let (bif x667 then true else x673) fun (x674 : Bool) =>
  if x674 = true then some false
  else Let (IntKind.i64.wrap (s663.fst + (1 : Int))) fun (x675 : Int) => rec662 (x675, x665))
  else some true)
  fuel ((0 : Int), { BodyA := (0 : Int), FixtureA := (0 : Int), BodyB := (0 : Int), FixtureB := (0 : Int) : PairKey })

noncomputable def slices_Concat (slices0 : (List (List PairKey))) : Option (List PairKey) :=
  Let (↑slices0.length : Int) fun (x676 : Int) =>
  LOOP
  (fun (rec677 : Int × Int → Option (List PairKey)) (s678 : Int × Int) =>
  Let (decide (s678.snd < x676)) fun (x679 : Bool) =>
  if x679 = true then
  Chk ((0 : Int) ≤ s678.snd ∧ s678.snd < (↑slices0.length : Int))
  (Let (ix slices0 s678.snd) fun (x680 : List PairKey) =>
  Let (↑x680.length : Int) fun (x681 : Int) =>
  Let (IntKind.i64.wrap (s678.fst + x681)) fun (x682 : Int) =>
  Let (decide (x682 < (0 : Int))) fun (x683 : Bool) =>
  if x683 = true then none else Let (IntKind.i64.wrap (s678.snd + (1 : Int))) fun (x684 : Int) => rec677 (x682, x684))
  else
  Let (decide (s678.fst < (0 : Int))) fun (x685 : Bool) =>
  if x685 = true then none
  else
  Join
  (fun (v686 : List PairKey) =>
  Let (↑slices0.length : Int) fun (x687 : Int) =>
  LOOP
  (fun (rec688 : List PairKey × Int → Option (List PairKey)) (s689 : List PairKey × Int) =>
  Let (decide (s689.snd < x687)) fun (x690 : Bool) =>
  if x690 = true then
  Chk ((0 : Int) ≤ s689.snd ∧ s689.snd < (↑slices0.length : Int))
  (Let (ix slices0 s689.snd) fun (x691 : List PairKey) =>
  Chk ((List.length s689.fst + x691.length) * (32 : Nat) ≤ (140737488355328 : Nat))
  (Let (s689.fst ++ x691) fun (x692 : List PairKey) =>
  Let (IntKind.i64.wrap (s689.snd + (1 : Int))) fun (x693 : Int) => rec688 (x692, x693)))
  else some s689.fst)
  fuel (v686, (0 : Int)))
  fun (j694 : List PairKey → Option (List PairKey)) =>
  Let (IntKind.i64.wrap ((0 : Int) - (0 : Int))) fun (x695 : Int) =>
  Let (IntKind.i64.wrap (s678.fst - x695)) fun (x696 : Int) =>
  Let (decide (x696 > (0 : Int))) fun (x697 : Bool) =>
  if x697 = true then
  Chk ((0 : Int) = (0 : Int))
  (Chk ((0 : Int) < x696 ∧ x696.toNat * (32 : Nat) ≤ (140737488355328 : Nat) ∧ x696 ≤ (9223372036854775807 : Int))
  (Let
  (List.replicate x696.toNat
  { BodyA := (0 : Int), FixtureA := (0 : Int), BodyB := (0 : Int), FixtureB := (0 : Int) : PairKey })
  fun (x698 : List PairKey) =>
  Chk
  ((0 : Int) ≤ none.getD (0 : Int) ∧
  (0 : Int) ≤ (some (0 : Int)).getD (0 : Int) ∧ (0 : Nat) ≤ Int.toNat (0 : Int) ∧ Int.toNat (0 : Int) ≤ x698.length)
  (Chk (Int.toNat (0 : Int) - (0 : Nat) ≤ x698.length)
  (Let (List.take (Int.toNat (0 : Int) - (0 : Nat)) x698) fun (x699 : List PairKey) => j694 x699))))
  else j694 [])
  fuel ((0 : Int), (0 : Int))

noncomputable def world_fixturesExist (w0 : World_) (k1 : PairKey) : Option Bool :=
  Rx.Bind (world_FindBody w0 k1.BodyA) fun (r700 : Int) =>
  Rx.Bind (world_FindBody w0 k1.BodyB) fun (r701 : Int) =>
  Let (decide (r700 ≥ (0 : Int))) fun (x702 : Bool) =>
  Let (decide (r701 ≥ (0 : Int))) fun (x703 : Bool) =>
  Let (bif x702 then x703 else false) fun (x704 : Bool) =>
  Chk ((x704 == true) = true → (0 : Int) ≤ r700 ∧ r700 < (↑w0.Bodies.length : Int))
  (Let (ix w0.Bodies r700) fun (x705 : Body) =>
  Let (↑x705.Fixtures.length : Int) fun (x706 : Int) =>
  Let (decide (k1.FixtureA < x706)) fun (x707 : Bool) =>
  Let (bif x704 then x707 else false) fun (x708 : Bool) =>
  Chk ((x708 == true) = true → (0 : Int) ≤ r701 ∧ r701 < (↑w0.Bodies.length : Int))
  (Let (ix w0.Bodies r701) fun (x709 : Body) =>
  Let (↑x709.Fixtures.length : Int) fun (x710 : Int) =>
  Let (decide (k1.FixtureB < x710)) fun (x711 : Bool) =>
  Let (bif x708 then x711 else false) fun (x712 : Bool) => some x712))

noncomputable def world_validContacts_1 (k0 : PairKey) (p1 : World_) : Option Bool :=
  Rx.Bind (world_fixturesExist p1 k0) fun (r713 : Bool) => Let (!r713) fun (x714 : Bool) => some x714

noncomputable def slices_ContainsFunc (s0 : (List PairKey)) (f1 : (PairKey → Option Bool)) : Option Bool :=
  Rx.Bind (slices_IndexFunc_101 s0 f1) fun (r715 : Int) => Let (decide (r715 ≥ (0 : Int))) fun (x716 : Bool) => some x716

noncomputable def world_validContacts (w0 : World_) : Option Bool :=
  Let (↑w0.Contacts.length : Int) fun (x717 : Int) =>
  LOOP
  (fun (rec718 : List PairKey × Int → Option Bool) (s719 : List PairKey × Int) =>
  Let (decide (s719.snd < x717)) fun (x720 : Bool) =>
  if x720 = true then
  Chk ((0 : Int) ≤ s719.snd ∧ s719.snd < (↑w0.Contacts.length : Int))
  (Let (ix w0.Contacts s719.snd) fun (x721 : Contact) =>
  Rx.Bind (world_validManifold x721.Manifold) fun (r722 : Bool) =>
  Let (!r722) fun (x723 : Bool) =>
  if x723 = true then some false
  else
  Chk ((List.length s719.fst + [x721.Key].length) * (32 : Nat) ≤ (140737488355328 : Nat))
  (Let (s719.fst ++ [x721.Key]) fun (x724 : List PairKey) =>
  Let (IntKind.i64.wrap (s719.snd + (1 : Int))) fun (x725 : Int) => rec718 (x724, x725)))
  else
  Rx.Bind (broadphase_ValidKeys s719.fst) fun (r726 : Bool) =>
  Let (!r726) fun (x727 : Bool) =>
  Rx.Bind (if (x727 == false) = true then broadphase_ValidKeys w0.Overlaps else some default) fun (r728 : Bool) =>
  Let (!r728) fun (x729 : Bool) =>
  Let (bif x727 then true else x729) fun (x730 : Bool) =>
  if x730 = true then some false
  else
  Rx.Bind (slices_Concat [s719.fst, w0.Overlaps]) fun (r731 : List PairKey) =>
  Rx.Bind (slices_ContainsFunc r731 fun (a : Tup tb [Ix.tPairKey]) => world_validContacts_1 a w0) fun (r732 : Bool) =>
  Let (!r732) fun (x733 : Bool) => some x733)
  fuel ([], (0 : Int))

noncomputable def world_Validate (w0 : World_) : Option Int :=
  Rx.Bind (world_ValidateSettings w0.Settings) fun (r734 : Int) =>
  Let (r734 != (0 : Int)) fun (x735 : Bool) =>
  if x735 = true then some (17 : Int)
  else
  Let (↑w0.Bodies.length : Int) fun (x736 : Int) =>
  Let (decide (x736 > (32 : Int))) fun (x737 : Bool) =>
  Let (↑w0.Joints.length : Int) fun (x738 : Int) =>
  Let (decide (x738 > (32 : Int))) fun (x739 : Bool) =>
  Let (bif x737 then true else x739) fun (x740 : Bool) =>
  Let (↑w0.Contacts.length : Int) fun (x741 : Int) =>
  Let (decide (x741 > (8192 : Int))) fun (x742 : Bool) =>
  Let (bif x740 then true else x742) fun (x743 : Bool) =>
  Let (↑w0.Overlaps.length : Int) fun (x744 : Int) =>
  Let (decide (x744 > (8192 : Int))) fun (x745 : Bool) =>
  Let (bif x743 then true else x745) fun (x746 : Bool) =>
  if x746 = true then some (11 : Int)
  else
  Rx.Bind (world_in w0.NextID (1 : Int) (1099511627776 : Int)) fun (r747 : Bool) =>
  Let (!r747) fun (x748 : Bool) =>
  Rx.Bind (if (x748 == false) = true then world_in w0.Frame (0 : Int) (1099511627776 : Int) else some default)
  fun (r749 : Bool) =>
  Let (!r749) fun (x750 : Bool) =>
  Let (bif x748 then true else x750) fun (x751 : Bool) =>
  if x751 = true then some (6 : Int)
  else
  Rx.Bind (world_validBodies w0) fun (r752 : Bool) =>
  Let (!r752) fun (x753 : Bool) =>
  if x753 = true then some (14 : Int)
  else
  Rx.Bind (world_validJoints w0) fun (r754 : Bool) =>
  Let (!r754) fun (x755 : Bool) =>
  if x755 = true then some (15 : Int)
  else
  Rx.Bind (world_validContacts w0) fun (r756 : Bool) =>
  Let (!r756) fun (x757 : Bool) => if x757 = true then some (16 : Int) else some (0 : Int)

noncomputable def caromlaw25_example  : Option Bool :=
  Rx.Bind caromlaw25_settings fun (r758 : Settings) =>
  Rx.Bind (world_New r758) fun (r759 : World_ × Int) =>
  Rx.Bind
  (world_AddBody r759.fst
  { ID := (9 : Int), Kind := (1 : Int), Transform := { Position := { X := (0 : Int), Y := (0 : Int) : Vec }, Angle := (0 : Int) : Transform }, Velocity := { X := (0 : Int), Y := (0 : Int) : Vec }, AngularVelocity := (0 : Int), Force := { X := (0 : Int), Y := (0 : Int) : Vec }, Torque := (0 : Int), LinearDamping := (0 : Int), AngularDamping := (0 : Int), GravityScale := (0 : Int), Bullet := false, FixedRotation := false, NoSleep := false, Asleep := false, IdleSteps := (0 : Int), Fixtures := [] : Body })
  fun (r760 : World_ × Int × Int) =>
  Rx.Bind (world_RemoveBody r760.fst (9 : Int)) fun (r761 : World_ × Int) =>
  Let (r759.snd == (0 : Int)) fun (x762 : Bool) =>
  Let (r760.snd.snd == (0 : Int)) fun (x763 : Bool) =>
  Let (bif x762 then x763 else false) fun (x764 : Bool) =>
  Let (r760.snd.fst == (1 : Int)) fun (x765 : Bool) =>
  Let (bif x764 then x765 else false) fun (x766 : Bool) =>
  Let (r760.fst.NextID == (2 : Int)) fun (x767 : Bool) =>
  Let (bif x766 then x767 else false) fun (x768 : Bool) =>
  Rx.Bind (if (x768 == true) = true then world_Validate r760.fst else some default) fun (r769 : Int) =>
  Let (r769 == (0 : Int)) fun (x770 : Bool) =>
  Let (bif x768 then x770 else false) fun (x771 : Bool) =>
  Rx.Bind (if (x771 == true) = true then world_FindBody r760.fst (1 : Int) else some default) fun (r772 : Int) =>
  Let (r772 == (0 : Int)) fun (x773 : Bool) =>
  Let (bif x771 then x773 else false) fun (x774 : Bool) =>
  Let (r761.snd == (8 : Int)) fun (x775 : Bool) =>
  Let (bif x774 then x775 else false) fun (x776 : Bool) =>
  Rx.Bind
  (if (x776 == true) = true then
  world_Validate
  { Settings := { TimeStep := (0 : Int), Gravity := { X := (0 : Int), Y := (0 : Int) : Vec }, Iterations := (0 : Int), SleepSteps := (0 : Int) : Settings }, Bodies := [], Joints := [], Contacts := [], Overlaps := [], NextID := (0 : Int), Frame := (0 : Int) : World_ }
  else some default)
  fun (r777 : Int) =>
  Let (r777 == (17 : Int)) fun (x778 : Bool) => Let (bif x776 then x778 else false) fun (x779 : Bool) => some x779

noncomputable def caromref25_in (n0 : Int) (low1 : Int) (high2 : Int) : Option Bool :=
  Let (decide (n0 ≥ low1)) fun (x780 : Bool) =>
  Let (decide (n0 ≤ high2)) fun (x781 : Bool) => Let (bif x780 then x781 else false) fun (x782 : Bool) => some x782

noncomputable def caromref25_ValidateSettings (r0 : Settings) : Option Int :=
  Rx.Bind (caromref25_in r0.TimeStep (64 : Int) (8192 : Int)) fun (r783 : Bool) =>
  Let (!r783) fun (x784 : Bool) =>
  Rx.Bind (if (x784 == false) = true then caromref25_in r0.Gravity.X (-16777216 : Int) (16777216 : Int) else some default)
  fun (r785 : Bool) =>
  Let (!r785) fun (x786 : Bool) =>
  Let (bif x784 then true else x786) fun (x787 : Bool) =>
  Rx.Bind (if (x787 == false) = true then caromref25_in r0.Gravity.Y (-16777216 : Int) (16777216 : Int) else some default)
  fun (r788 : Bool) =>
  Let (!r788) fun (x789 : Bool) =>
  Let (bif x787 then true else x789) fun (x790 : Bool) =>
  Rx.Bind (if (x790 == false) = true then caromref25_in r0.Iterations (1 : Int) (32 : Int) else some default)
  fun (r791 : Bool) =>
  Let (!r791) fun (x792 : Bool) =>
  Let (bif x790 then true else x792) fun (x793 : Bool) =>
  Rx.Bind (if (x793 == false) = true then caromref25_in r0.SleepSteps (0 : Int) (1048576 : Int) else some default)
  fun (r794 : Bool) =>
  Let (!r794) fun (x795 : Bool) =>
  Let (bif x793 then true else x795) fun (x796 : Bool) => if x796 = true then some (6 : Int) else some (0 : Int)

noncomputable def caromref25_New (r0 : Settings) : Option (World_ × Int) :=
  Rx.Bind (caromref25_ValidateSettings r0) fun (r797 : Int) =>
  Let (r797 != (0 : Int)) fun (x798 : Bool) =>
  if x798 = true then
  some
  ({ Settings := { TimeStep := (0 : Int), Gravity := { X := (0 : Int), Y := (0 : Int) : Vec }, Iterations := (0 : Int), SleepSteps := (0 : Int) : Settings }, Bodies := [], Joints := [], Contacts := [], Overlaps := [], NextID := (0 : Int), Frame := (0 : Int) : World_ },
  r797)
  else
  some
  ({ Settings := r0, Bodies := [], Joints := [], Contacts := [], Overlaps := [], NextID := (1 : Int), Frame := (0 : Int) : World_ },
  (0 : Int))

noncomputable def caromref23_in (x0 : Int) (low1 : Int) (high2 : Int) : Option Bool :=
  Let (decide (x0 ≥ low1)) fun (x799 : Bool) =>
  Let (decide (x0 ≤ high2)) fun (x800 : Bool) => Let (bif x799 then x800 else false) fun (x801 : Bool) => some x801

noncomputable def caromref04_outside (x0 : Int) : Option Bool :=
  Let (decide (x0 < (-268435456 : Int))) fun (x802 : Bool) =>
  Let (decide (x0 > (268435456 : Int))) fun (x803 : Bool) =>
  Let (bif x802 then true else x803) fun (x804 : Bool) => some x804

noncomputable def caromref04_Valid (p0 : Transform) : Option Bool :=
  Rx.Bind (caromref04_outside p0.Position.X) fun (r805 : Bool) =>
  Let (!r805) fun (x806 : Bool) =>
  Rx.Bind (if (x806 == true) = true then caromref04_outside p0.Position.Y else some default) fun (r807 : Bool) =>
  Let (!r807) fun (x808 : Bool) =>
  Let (bif x806 then x808 else false) fun (x809 : Bool) =>
  Let (decide (p0.Angle ≥ (-205888 : Int))) fun (x810 : Bool) =>
  Let (bif x809 then x810 else false) fun (x811 : Bool) =>
  Let (decide (p0.Angle < (205888 : Int))) fun (x812 : Bool) =>
  Let (bif x811 then x812 else false) fun (x813 : Bool) => some x813

noncomputable def caromref23_inRange (b0 : Body) : Option Bool :=
  Rx.Bind (caromref23_in b0.ID (1 : Int) (1099511627776 : Int)) fun (r814 : Bool) =>
  Let (!r814) fun (x815 : Bool) =>
  Rx.Bind (if (x815 == false) = true then caromref04_Valid b0.Transform else some default) fun (r816 : Bool) =>
  Let (!r816) fun (x817 : Bool) =>
  Let (bif x815 then true else x817) fun (x818 : Bool) =>
  Rx.Bind
  (if (x818 == false) = true then caromref23_in b0.Velocity.X (-16777216 : Int) (16777216 : Int) else some default)
  fun (r819 : Bool) =>
  Let (!r819) fun (x820 : Bool) =>
  Let (bif x818 then true else x820) fun (x821 : Bool) =>
  Rx.Bind
  (if (x821 == false) = true then caromref23_in b0.Velocity.Y (-16777216 : Int) (16777216 : Int) else some default)
  fun (r822 : Bool) =>
  Let (!r822) fun (x823 : Bool) =>
  Let (bif x821 then true else x823) fun (x824 : Bool) =>
  Rx.Bind
  (if (x824 == false) = true then caromref23_in b0.AngularVelocity (-4194304 : Int) (4194304 : Int) else some default)
  fun (r825 : Bool) =>
  Let (!r825) fun (x826 : Bool) =>
  Let (bif x824 then true else x826) fun (x827 : Bool) =>
  if x827 = true then some false
  else
  Rx.Bind (caromref23_in b0.Force.X (-536870911 : Int) (536870911 : Int)) fun (r828 : Bool) =>
  Let (!r828) fun (x829 : Bool) =>
  Rx.Bind (if (x829 == false) = true then caromref23_in b0.Force.Y (-536870911 : Int) (536870911 : Int) else some default)
  fun (r830 : Bool) =>
  Let (!r830) fun (x831 : Bool) =>
  Let (bif x829 then true else x831) fun (x832 : Bool) =>
  Rx.Bind (if (x832 == false) = true then caromref23_in b0.Torque (-536870911 : Int) (536870911 : Int) else some default)
  fun (r833 : Bool) =>
  Let (!r833) fun (x834 : Bool) =>
  Let (bif x832 then true else x834) fun (x835 : Bool) =>
  if x835 = true then some false
  else
  Rx.Bind (caromref23_in b0.LinearDamping (0 : Int) (65536 : Int)) fun (r836 : Bool) =>
  Rx.Bind (if (r836 == true) = true then caromref23_in b0.AngularDamping (0 : Int) (65536 : Int) else some default)
  fun (r837 : Bool) =>
  Let (bif r836 then r837 else false) fun (x838 : Bool) =>
  Rx.Bind (if (x838 == true) = true then caromref23_in b0.GravityScale (-262144 : Int) (262144 : Int) else some default)
  fun (r839 : Bool) =>
  Let (bif x838 then r839 else false) fun (x840 : Bool) =>
  Rx.Bind (if (x840 == true) = true then caromref23_in b0.IdleSteps (0 : Int) (1048576 : Int) else some default)
  fun (r841 : Bool) => Let (bif x840 then r841 else false) fun (x842 : Bool) => some x842

noncomputable def caromref12_countMatches (s0 : Shape) : Option Bool :=
  Let (↑s0.Vertices.length : Int) fun (x843 : Int) =>
  Let (s0.Kind == (3 : Int)) fun (x844 : Bool) =>
  if x844 = true then
  Let (decide (x843 ≥ (3 : Int))) fun (x845 : Bool) =>
  Let (decide (x843 ≤ (8 : Int))) fun (x846 : Bool) => Let (bif x845 then x846 else false) fun (x847 : Bool) => some x847
  else Let (x843 == s0.Kind) fun (x848 : Bool) => some x848

noncomputable def caromref12_within (x0 : Int) (m1 : Int) : Option Bool :=
  Let (IntKind.i64.wrap ((0 : Int) - m1)) fun (x849 : Int) =>
  Let (decide (x0 ≥ x849)) fun (x850 : Bool) =>
  Let (decide (x0 ≤ m1)) fun (x851 : Bool) => Let (bif x850 then x851 else false) fun (x852 : Bool) => some x852

noncomputable def caromref01_Saturate (x0 : Int) : Option Int :=
  Let (decide (x0 > (536870911 : Int))) fun (x853 : Bool) =>
  if x853 = true then some (536870911 : Int)
  else
  Let (decide (x0 < (-536870911 : Int))) fun (x854 : Bool) => if x854 = true then some (-536870911 : Int) else some x0

noncomputable def caromref01_Sub (a0 : Int) (b1 : Int) : Option Int :=
  Rx.Bind (caromref01_Saturate a0) fun (r855 : Int) =>
  Rx.Bind (caromref01_Saturate b1) fun (r856 : Int) =>
  Let (IntKind.i64.wrap (r855 - r856)) fun (x857 : Int) =>
  Rx.Bind (caromref01_Saturate x857) fun (r858 : Int) => some r858

noncomputable def caromref03_Sub (a0 : Vec) (b1 : Vec) : Option Vec :=
  Rx.Bind (caromref01_Sub a0.X b1.X) fun (r859 : Int) =>
  Rx.Bind (caromref01_Sub a0.Y b1.Y) fun (r860 : Int) => some { X := r859, Y := r860 : Vec }

noncomputable def caromref03_Saturated (v0 : Vec) : Option Vec :=
  Rx.Bind (caromref01_Saturate v0.X) fun (r861 : Int) =>
  Rx.Bind (caromref01_Saturate v0.Y) fun (r862 : Int) => some { X := r861, Y := r862 : Vec }

noncomputable def caromref01_outOfRange (n0 : Int) : Option Bool :=
  Let (decide (n0 > (4611686018427387904 : Int))) fun (x863 : Bool) =>
  Let (decide (n0 < (-4611686018427387904 : Int))) fun (x864 : Bool) =>
  Let (bif x863 then true else x864) fun (x865 : Bool) => some x865

noncomputable def caromref01_Isqrt (n0 : Int) : Option Int :=
  Let (decide (n0 < (0 : Int))) fun (x866 : Bool) =>
  Rx.Bind (if (x866 == false) = true then caromref01_outOfRange n0 else some default) fun (r867 : Bool) =>
  Let (bif x866 then true else r867) fun (x868 : Bool) =>
  if x868 = true then some (0 : Int)
  else
  LOOP
  (fun (rec869 : Int × Int → Option Int) (s870 : Int × Int) =>
  Let (decide (s870.snd > (0 : Int))) fun (x871 : Bool) =>
  if x871 = true then
  Join (fun (v872 : Int) => Let (IntKind.i64.wrap (Int.tdiv s870.snd (2 : Int))) fun (x873 : Int) => rec869 (v872, x873))
  fun (j874 : Int → Option Int) =>
  Let (IntKind.i64.wrap (s870.fst + s870.snd)) fun (x875 : Int) =>
  Let (IntKind.i64.wrap (s870.fst + s870.snd)) fun (x876 : Int) =>
  Chk (x876 ≠ (0 : Int))
  (Let (IntKind.i64.wrap (n0.tdiv x876)) fun (x877 : Int) =>
  Let (decide (x875 ≤ x877)) fun (x878 : Bool) =>
  if x878 = true then Let (IntKind.i64.wrap (s870.fst + s870.snd)) fun (x879 : Int) => j874 x879 else j874 s870.fst)
  else some s870.fst)
  fuel ((0 : Int), (2147483648 : Int))

noncomputable def caromref03_Length (v0 : Vec) : Option Int :=
  Rx.Bind (caromref03_Saturated v0) fun (r880 : Vec) =>
  Let (IntKind.i64.wrap (r880.X * r880.X)) fun (x881 : Int) =>
  Let (IntKind.i64.wrap (r880.Y * r880.Y)) fun (x882 : Int) =>
  Let (IntKind.i64.wrap (x881 + x882)) fun (x883 : Int) => Rx.Bind (caromref01_Isqrt x883) fun (r884 : Int) => some r884

noncomputable def caromref11_inRange (v0 : Vec) : Option Bool :=
  Let (decide (v0.X ≥ (-1048576 : Int))) fun (x885 : Bool) =>
  Let (decide (v0.X ≤ (1048576 : Int))) fun (x886 : Bool) =>
  Let (bif x885 then x886 else false) fun (x887 : Bool) =>
  Let (decide (v0.Y ≥ (-1048576 : Int))) fun (x888 : Bool) =>
  Let (bif x887 then x888 else false) fun (x889 : Bool) =>
  Let (decide (v0.Y ≤ (1048576 : Int))) fun (x890 : Bool) =>
  Let (bif x889 then x890 else false) fun (x891 : Bool) => some x891

noncomputable def caromref03_Orientation (a0 : Vec) (b1 : Vec) (c2 : Vec) : Option Int :=
  Rx.Bind (caromref03_Saturated a0) fun (r892 : Vec) =>
  Rx.Bind (caromref03_Saturated b1) fun (r893 : Vec) =>
  Rx.Bind (caromref03_Saturated c2) fun (r894 : Vec) =>
  Let (IntKind.i64.wrap (r893.X - r892.X)) fun (x895 : Int) =>
  Let (IntKind.i64.wrap (r894.Y - r892.Y)) fun (x896 : Int) =>
  Let (IntKind.i64.wrap (x895 * x896)) fun (x897 : Int) =>
  Let (IntKind.i64.wrap (r893.Y - r892.Y)) fun (x898 : Int) =>
  Let (IntKind.i64.wrap (r894.X - r892.X)) fun (x899 : Int) =>
  Let (IntKind.i64.wrap (x898 * x899)) fun (x900 : Int) =>
  Let (IntKind.i64.wrap (x897 - x900)) fun (x901 : Int) =>
  Let (decide (x901 > (0 : Int))) fun (x902 : Bool) =>
  if x902 = true then some (1 : Int)
  else Let (decide (x901 < (0 : Int))) fun (x903 : Bool) => if x903 = true then some (-1 : Int) else some (0 : Int)

noncomputable def caromref11_IsConvex (vertices0 : (List Vec)) : Option Bool :=
  Let (↑vertices0.length : Int) fun (x904 : Int) =>
  Let (decide (x904 < (3 : Int))) fun (x905 : Bool) =>
  Let (decide (x904 > (8 : Int))) fun (x906 : Bool) =>
  Let (bif x905 then true else x906) fun (x907 : Bool) =>
  if x907 = true then some false
  else
  LOOP
  (fun (rec908 : Int → Option Bool) (s909 : Int) =>
  Let (decide (s909 < x904)) fun (x910 : Bool) =>
  if x910 = true then
  Chk ((0 : Int) ≤ s909 ∧ s909 < (↑vertices0.length : Int))
  (Let (ix vertices0 s909) fun (x911 : Vec) =>
  Rx.Bind (caromref11_inRange x911) fun (r912 : Bool) =>
  Let (!r912) fun (x913 : Bool) =>
  if x913 = true then some false else Let (IntKind.i64.wrap (s909 + (1 : Int))) fun (x914 : Int) => rec908 x914)
  else
  LOOP
  (fun (rec915 : Int → Option Bool) (s916 : Int) =>
  Let (decide (s916 < x904)) fun (x917 : Bool) =>
  if x917 = true then
  Let (IntKind.i64.wrap (s916 + (1 : Int))) fun (x918 : Int) =>
  Chk (x904 ≠ (0 : Int))
  (Let (x918.tmod x904) fun (x919 : Int) =>
  LOOP
  (fun (rec920 : Int → Option Bool) (s921 : Int) =>
  Let (decide (s921 < x904)) fun (x922 : Bool) =>
  if x922 = true then
  Let (s921 != s916) fun (x923 : Bool) =>
  Let (s921 != x919) fun (x924 : Bool) =>
  Let (bif x923 then x924 else false) fun (x925 : Bool) =>
  Chk ((x925 == true) = true → (0 : Int) ≤ s916 ∧ s916 < (↑vertices0.length : Int))
  (Let (ix vertices0 s916) fun (x926 : Vec) =>
  Chk ((x925 == true) = true → (0 : Int) ≤ x919 ∧ x919 < (↑vertices0.length : Int))
  (Let (ix vertices0 x919) fun (x927 : Vec) =>
  Chk ((x925 == true) = true → (0 : Int) ≤ s921 ∧ s921 < (↑vertices0.length : Int))
  (Let (ix vertices0 s921) fun (x928 : Vec) =>
  Rx.Bind (if (x925 == true) = true then caromref03_Orientation x926 x927 x928 else some default) fun (r929 : Int) =>
  Let (r929 != (1 : Int)) fun (x930 : Bool) =>
  Let (bif x925 then x930 else false) fun (x931 : Bool) =>
  if x931 = true then some false else Let (IntKind.i64.wrap (s921 + (1 : Int))) fun (x932 : Int) => rec920 x932)))
  else Let (IntKind.i64.wrap (s916 + (1 : Int))) fun (x933 : Int) => rec915 x933)
  fuel (0 : Int))
  else some true)
  fuel (0 : Int))
  fuel (0 : Int)

noncomputable def caromref11_ShortestEdge (vertices0 : (List Vec)) : Option Int :=
  Rx.Bind (caromref11_IsConvex vertices0) fun (r934 : Bool) =>
  Let (!r934) fun (x935 : Bool) =>
  if x935 = true then some (0 : Int)
  else
  LOOP
  (fun (rec936 : Int × Int → Option Int) (s937 : Int × Int) =>
  Let (↑vertices0.length : Int) fun (x938 : Int) =>
  Let (decide (s937.snd < x938)) fun (x939 : Bool) =>
  if x939 = true then
  Join (fun (v940 : Int) => Let (IntKind.i64.wrap (s937.snd + (1 : Int))) fun (x941 : Int) => rec936 (v940, x941))
  fun (j942 : Int → Option Int) =>
  Let (IntKind.i64.wrap (s937.snd + (1 : Int))) fun (x943 : Int) =>
  Let (↑vertices0.length : Int) fun (x944 : Int) =>
  Chk (x944 ≠ (0 : Int))
  (Let (x943.tmod x944) fun (x945 : Int) =>
  Chk ((0 : Int) ≤ x945 ∧ x945 < (↑vertices0.length : Int))
  (Let (ix vertices0 x945) fun (x946 : Vec) =>
  Chk ((0 : Int) ≤ s937.snd ∧ s937.snd < (↑vertices0.length : Int))
  (Let (ix vertices0 s937.snd) fun (x947 : Vec) =>
  Rx.Bind (caromref03_Sub x946 x947) fun (r948 : Vec) =>
  Rx.Bind (caromref03_Length r948) fun (r949 : Int) =>
  Let (decide (s937.fst < (0 : Int))) fun (x950 : Bool) =>
  Let (decide (r949 < s937.fst)) fun (x951 : Bool) =>
  Let (bif x950 then true else x951) fun (x952 : Bool) => if x952 = true then j942 r949 else j942 s937.fst)))
  else some s937.fst)
  fuel ((-1 : Int), (0 : Int))

noncomputable def caromref01_RoundDiv (n0 : Int) (d1 : Int) : Option Int :=
  Let (decide (d1 < (1 : Int))) fun (x953 : Bool) =>
  Rx.Bind (if (x953 == false) = true then caromref01_outOfRange d1 else some default) fun (r954 : Bool) =>
  Let (bif x953 then true else r954) fun (x955 : Bool) =>
  Rx.Bind (if (x955 == false) = true then caromref01_outOfRange n0 else some default) fun (r956 : Bool) =>
  Let (bif x955 then true else r956) fun (x957 : Bool) =>
  if x957 = true then some (0 : Int)
  else
  Join
  (fun (v958 : Int) =>
  Chk (d1 ≠ (0 : Int))
  (Let (IntKind.i64.wrap (v958.tdiv d1)) fun (x959 : Int) =>
  Let (IntKind.i64.wrap (x959 * d1)) fun (x960 : Int) =>
  Let (IntKind.i64.wrap (v958 - x960)) fun (x961 : Int) =>
  Join
  (fun (v962 : Int) =>
  Let (decide (n0 < (0 : Int))) fun (x963 : Bool) =>
  if x963 = true then Let (IntKind.i64.wrap ((0 : Int) - v962)) fun (x964 : Int) => some x964 else some v962)
  fun (j965 : Int → Option Int) =>
  Let (IntKind.i64.wrap (d1 - x961)) fun (x966 : Int) =>
  Let (decide (x961 ≥ x966)) fun (x967 : Bool) =>
  if x967 = true then Let (IntKind.i64.wrap (x959 + (1 : Int))) fun (x968 : Int) => j965 x968 else j965 x959))
  fun (j969 : Int → Option Int) =>
  Let (decide (n0 < (0 : Int))) fun (x970 : Bool) =>
  if x970 = true then Let (IntKind.i64.wrap ((0 : Int) - n0)) fun (x971 : Int) => j969 x971 else j969 n0

noncomputable def caromref11_cross (v0 : (List Vec)) (i1 : Int) : Option Int :=
  Chk ((0 : Int) ≤ i1 ∧ i1 < (↑v0.length : Int))
  (Let (ix v0 i1) fun (x972 : Vec) =>
  Chk ((0 : Int) ≤ (0 : Int) ∧ (0 : Int) < (↑v0.length : Int))
  (Let (ix v0 (0 : Int)) fun (x973 : Vec) =>
  Let (IntKind.i64.wrap (x972.X - x973.X)) fun (x974 : Int) =>
  Chk ((0 : Int) ≤ i1 ∧ i1 < (↑v0.length : Int))
  (Let (ix v0 i1) fun (x975 : Vec) =>
  Chk ((0 : Int) ≤ (0 : Int) ∧ (0 : Int) < (↑v0.length : Int))
  (Let (ix v0 (0 : Int)) fun (x976 : Vec) =>
  Let (IntKind.i64.wrap (x975.Y - x976.Y)) fun (x977 : Int) =>
  Let (IntKind.i64.wrap (i1 + (1 : Int))) fun (x978 : Int) =>
  Chk ((0 : Int) ≤ x978 ∧ x978 < (↑v0.length : Int))
  (Let (ix v0 x978) fun (x979 : Vec) =>
  Chk ((0 : Int) ≤ (0 : Int) ∧ (0 : Int) < (↑v0.length : Int))
  (Let (ix v0 (0 : Int)) fun (x980 : Vec) =>
  Let (IntKind.i64.wrap (x979.X - x980.X)) fun (x981 : Int) =>
  Let (IntKind.i64.wrap (i1 + (1 : Int))) fun (x982 : Int) =>
  Chk ((0 : Int) ≤ x982 ∧ x982 < (↑v0.length : Int))
  (Let (ix v0 x982) fun (x983 : Vec) =>
  Chk ((0 : Int) ≤ (0 : Int) ∧ (0 : Int) < (↑v0.length : Int))
  (Let (ix v0 (0 : Int)) fun (x984 : Vec) =>
  Let (IntKind.i64.wrap (x983.Y - x984.Y)) fun (x985 : Int) =>
  Let (IntKind.i64.wrap (x974 * x985)) fun (x986 : Int) =>
  Let (IntKind.i64.wrap (x977 * x981)) fun (x987 : Int) =>
  Let (IntKind.i64.wrap (x986 - x987)) fun (x988 : Int) =>
  Rx.Bind (caromref01_RoundDiv x988 (65536 : Int)) fun (r989 : Int) => some r989))))))))

noncomputable def caromref11_Area (vertices0 : (List Vec)) : Option Int :=
  Rx.Bind (caromref11_IsConvex vertices0) fun (r990 : Bool) =>
  Let (!r990) fun (x991 : Bool) =>
  if x991 = true then some (0 : Int)
  else
  LOOP
  (fun (rec992 : Int × Int → Option Int) (s993 : Int × Int) =>
  Let (IntKind.i64.wrap (s993.snd + (1 : Int))) fun (x994 : Int) =>
  Let (↑vertices0.length : Int) fun (x995 : Int) =>
  Let (decide (x994 < x995)) fun (x996 : Bool) =>
  if x996 = true then
  Rx.Bind (caromref11_cross vertices0 s993.snd) fun (r997 : Int) =>
  Let (IntKind.i64.wrap (s993.fst + r997)) fun (x998 : Int) =>
  Let (IntKind.i64.wrap (s993.snd + (1 : Int))) fun (x999 : Int) => rec992 (x998, x999)
  else Rx.Bind (caromref01_RoundDiv s993.fst (2 : Int)) fun (r1000 : Int) => some r1000)
  fuel ((0 : Int), (1 : Int))

noncomputable def caromref12_Validate (s0 : Shape) : Option Int :=
  Let (decide (s0.Kind < (1 : Int))) fun (x1001 : Bool) =>
  Let (decide (s0.Kind > (3 : Int))) fun (x1002 : Bool) =>
  Let (bif x1001 then true else x1002) fun (x1003 : Bool) =>
  if x1003 = true then some (10 : Int)
  else
  Rx.Bind (caromref12_countMatches s0) fun (r1004 : Bool) =>
  Let (!r1004) fun (x1005 : Bool) =>
  if x1005 = true then some (11 : Int)
  else
  LOOP
  (fun (rec1006 : Int → Option Int) (s1007 : Int) =>
  Let (↑s0.Vertices.length : Int) fun (x1008 : Int) =>
  Let (decide (s1007 < x1008)) fun (x1009 : Bool) =>
  if x1009 = true then
  Chk ((0 : Int) ≤ s1007 ∧ s1007 < (↑s0.Vertices.length : Int))
  (Let (ix s0.Vertices s1007) fun (x1010 : Vec) =>
  Rx.Bind (caromref12_within x1010.X (1048576 : Int)) fun (r1011 : Bool) =>
  Let (!r1011) fun (x1012 : Bool) =>
  Chk ((x1012 == false) = true → (0 : Int) ≤ s1007 ∧ s1007 < (↑s0.Vertices.length : Int))
  (Let (ix s0.Vertices s1007) fun (x1013 : Vec) =>
  Rx.Bind (if (x1012 == false) = true then caromref12_within x1013.Y (1048576 : Int) else some default)
  fun (r1014 : Bool) =>
  Let (!r1014) fun (x1015 : Bool) =>
  Let (bif x1012 then true else x1015) fun (x1016 : Bool) =>
  if x1016 = true then some (6 : Int) else Let (IntKind.i64.wrap (s1007 + (1 : Int))) fun (x1017 : Int) => rec1006 x1017))
  else
  Let (s0.Kind == (3 : Int)) fun (x1018 : Bool) =>
  Let (s0.Radius != (0 : Int)) fun (x1019 : Bool) =>
  Let (bif x1018 then x1019 else false) fun (x1020 : Bool) =>
  Let (s0.Kind != (3 : Int)) fun (x1021 : Bool) =>
  Let (decide (s0.Radius < (2048 : Int))) fun (x1022 : Bool) =>
  Let (decide (s0.Radius > (524288 : Int))) fun (x1023 : Bool) =>
  Let (bif x1022 then true else x1023) fun (x1024 : Bool) =>
  Let (bif x1021 then x1024 else false) fun (x1025 : Bool) =>
  Let (bif x1020 then true else x1025) fun (x1026 : Bool) =>
  if x1026 = true then some (6 : Int)
  else
  Let (s0.Kind == (2 : Int)) fun (x1027 : Bool) =>
  Chk ((x1027 == true) = true → (0 : Int) ≤ (1 : Int) ∧ (1 : Int) < (↑s0.Vertices.length : Int))
  (Let (ix s0.Vertices (1 : Int)) fun (x1028 : Vec) =>
  Chk ((x1027 == true) = true → (0 : Int) ≤ (0 : Int) ∧ (0 : Int) < (↑s0.Vertices.length : Int))
  (Let (ix s0.Vertices (0 : Int)) fun (x1029 : Vec) =>
  Rx.Bind (if (x1027 == true) = true then caromref03_Sub x1028 x1029 else some { X := default, Y := default : Vec })
  fun (r1030 : Vec) =>
  Rx.Bind (if (x1027 == true) = true then caromref03_Length r1030 else some default) fun (r1031 : Int) =>
  Let (decide (r1031 < (4096 : Int))) fun (x1032 : Bool) =>
  Let (bif x1027 then x1032 else false) fun (x1033 : Bool) =>
  if x1033 = true then some (12 : Int)
  else
  Let (s0.Kind == (3 : Int)) fun (x1034 : Bool) =>
  Rx.Bind (if (x1034 == true) = true then caromref11_IsConvex s0.Vertices else some default) fun (r1035 : Bool) =>
  Let (!r1035) fun (x1036 : Bool) =>
  Rx.Bind (if (x1034 == true && x1036 == false) = true then caromref11_ShortestEdge s0.Vertices else some default)
  fun (r1037 : Int) =>
  Let (decide (r1037 < (4096 : Int))) fun (x1038 : Bool) =>
  Let (bif x1036 then true else x1038) fun (x1039 : Bool) =>
  Rx.Bind (if (x1034 == true && x1039 == false) = true then caromref11_Area s0.Vertices else some default)
  fun (r1040 : Int) =>
  Let (decide (r1040 < (256 : Int))) fun (x1041 : Bool) =>
  Let (bif x1039 then true else x1041) fun (x1042 : Bool) =>
  Let (bif x1034 then x1042 else false) fun (x1043 : Bool) => if x1043 = true then some (12 : Int) else some (0 : Int))))
  fuel (0 : Int)

noncomputable def caromref23_ValidateFixture (f0 : Fixture) : Option Int :=
  Rx.Bind (caromref12_Validate f0.Shape) fun (r1044 : Int) =>
  Let (r1044 != (0 : Int)) fun (x1045 : Bool) =>
  if x1045 = true then some r1044
  else
  Rx.Bind (caromref23_in f0.Density (0 : Int) (262144 : Int)) fun (r1046 : Bool) =>
  Let (!r1046) fun (x1047 : Bool) =>
  Rx.Bind (if (x1047 == false) = true then caromref23_in f0.Friction (0 : Int) (131072 : Int) else some default)
  fun (r1048 : Bool) =>
  Let (!r1048) fun (x1049 : Bool) =>
  Let (bif x1047 then true else x1049) fun (x1050 : Bool) =>
  Rx.Bind (if (x1050 == false) = true then caromref23_in f0.Restitution (0 : Int) (65536 : Int) else some default)
  fun (r1051 : Bool) =>
  Let (!r1051) fun (x1052 : Bool) =>
  Let (bif x1050 then true else x1052) fun (x1053 : Bool) =>
  Rx.Bind (if (x1053 == false) = true then caromref23_in f0.Category (0 : Int) (65535 : Int) else some default)
  fun (r1054 : Bool) =>
  Let (!r1054) fun (x1055 : Bool) =>
  Let (bif x1053 then true else x1055) fun (x1056 : Bool) =>
  Rx.Bind (if (x1056 == false) = true then caromref23_in f0.Mask (0 : Int) (65535 : Int) else some default)
  fun (r1057 : Bool) =>
  Let (!r1057) fun (x1058 : Bool) =>
  Let (bif x1056 then true else x1058) fun (x1059 : Bool) =>
  Rx.Bind (if (x1059 == false) = true then caromref23_in f0.Group (-32 : Int) (32 : Int) else some default)
  fun (r1060 : Bool) =>
  Let (!r1060) fun (x1061 : Bool) =>
  Let (bif x1059 then true else x1061) fun (x1062 : Bool) => if x1062 = true then some (6 : Int) else some (0 : Int)

noncomputable def caromref23_Validate (b0 : Body) : Option Int :=
  Let (b0.Kind != (1 : Int)) fun (x1063 : Bool) =>
  Let (b0.Kind != (2 : Int)) fun (x1064 : Bool) =>
  Let (bif x1063 then x1064 else false) fun (x1065 : Bool) =>
  Let (b0.Kind != (3 : Int)) fun (x1066 : Bool) =>
  Let (bif x1065 then x1066 else false) fun (x1067 : Bool) =>
  if x1067 = true then some (10 : Int)
  else
  Rx.Bind (caromref23_inRange b0) fun (r1068 : Bool) =>
  Let (!r1068) fun (x1069 : Bool) =>
  if x1069 = true then some (6 : Int)
  else
  Let (↑b0.Fixtures.length : Int) fun (x1070 : Int) =>
  Let (decide (x1070 > (4 : Int))) fun (x1071 : Bool) =>
  if x1071 = true then some (11 : Int)
  else
  LOOP
  (fun (rec1072 : Int → Option Int) (s1073 : Int) =>
  Let (↑b0.Fixtures.length : Int) fun (x1074 : Int) =>
  Let (decide (s1073 < x1074)) fun (x1075 : Bool) =>
  if x1075 = true then
  Chk ((0 : Int) ≤ s1073 ∧ s1073 < (↑b0.Fixtures.length : Int))
  (Let (ix b0.Fixtures s1073) fun (x1076 : Fixture) =>
  Rx.Bind (caromref23_ValidateFixture x1076) fun (r1077 : Int) =>
  Let (r1077 != (0 : Int)) fun (x1078 : Bool) =>
  if x1078 = true then some (13 : Int) else Let (IntKind.i64.wrap (s1073 + (1 : Int))) fun (x1079 : Int) => rec1072 x1079)
  else
  Let (!(decide (b0.Velocity.X = (0 : Int)) && decide (b0.Velocity.Y = (0 : Int)))) fun (x1080 : Bool) =>
  Let (b0.AngularVelocity != (0 : Int)) fun (x1081 : Bool) =>
  Let (bif x1080 then true else x1081) fun (x1082 : Bool) =>
  Let (!(decide (b0.Force.X = (0 : Int)) && decide (b0.Force.Y = (0 : Int)))) fun (x1083 : Bool) =>
  Let (b0.Torque != (0 : Int)) fun (x1084 : Bool) =>
  Let (bif x1083 then true else x1084) fun (x1085 : Bool) =>
  Let (b0.Kind == (1 : Int)) fun (x1086 : Bool) =>
  Let (bif x1082 then true else x1085) fun (x1087 : Bool) =>
  Let (bif x1086 then x1087 else false) fun (x1088 : Bool) =>
  Let (b0.Kind != (3 : Int)) fun (x1089 : Bool) =>
  Let (bif b0.Asleep then true else b0.Bullet) fun (x1090 : Bool) =>
  Let (bif x1089 then x1090 else false) fun (x1091 : Bool) =>
  Let (bif x1088 then true else x1091) fun (x1092 : Bool) =>
  Let (bif b0.Asleep then x1082 else false) fun (x1093 : Bool) =>
  Let (bif x1092 then true else x1093) fun (x1094 : Bool) => if x1094 = true then some (14 : Int) else some (0 : Int))
  fuel (0 : Int)

noncomputable def caromref25_validBodies (w0 : World_) : Option Bool :=
  LOOP
  (fun (rec1095 : Int × Int → Option Bool) (s1096 : Int × Int) =>
  Let (↑w0.Bodies.length : Int) fun (x1097 : Int) =>
  Let (decide (s1096.snd < x1097)) fun (x1098 : Bool) =>
  if x1098 = true then
  Chk ((0 : Int) ≤ s1096.snd ∧ s1096.snd < (↑w0.Bodies.length : Int))
  (Let (ix w0.Bodies s1096.snd) fun (x1099 : Body) =>
  Rx.Bind (caromref23_Validate x1099) fun (r1100 : Int) =>
  Let (r1100 != (0 : Int)) fun (x1101 : Bool) =>
  Let (decide (x1099.ID ≥ w0.NextID)) fun (x1102 : Bool) =>
  Let (bif x1101 then true else x1102) fun (x1103 : Bool) =>
  Let (decide (s1096.snd > (0 : Int))) fun (x1104 : Bool) =>
  Let (decide (x1099.ID ≤ s1096.fst)) fun (x1105 : Bool) =>
  Let (bif x1104 then x1105 else false) fun (x1106 : Bool) =>
  Let (bif x1103 then true else x1106) fun (x1107 : Bool) =>
  if x1107 = true then some false
  else Let (IntKind.i64.wrap (s1096.snd + (1 : Int))) fun (x1108 : Int) => rec1095 (x1099.ID, x1108))
  else some true)
  fuel ((0 : Int), (0 : Int))

noncomputable def caromref24_inRange (x0 : Int) (low1 : Int) (high2 : Int) : Option Bool :=
  Let (decide (x0 ≥ low1)) fun (x1109 : Bool) =>
  Let (decide (x0 ≤ high2)) fun (x1110 : Bool) => Let (bif x1109 then x1110 else false) fun (x1111 : Bool) => some x1111

noncomputable def caromref24_inSquare (v0 : Vec) (m1 : Int) : Option Bool :=
  Let (IntKind.i64.wrap ((0 : Int) - m1)) fun (x1112 : Int) =>
  Rx.Bind (caromref24_inRange v0.X x1112 m1) fun (r1113 : Bool) =>
  Let (IntKind.i64.wrap ((0 : Int) - m1)) fun (x1114 : Int) =>
  Rx.Bind (if (r1113 == true) = true then caromref24_inRange v0.Y x1114 m1 else some default) fun (r1115 : Bool) =>
  Let (bif r1113 then r1115 else false) fun (x1116 : Bool) => some x1116

noncomputable def caromref24_limitsValid (j0 : Joint) : Option Bool :=
  Rx.Bind (caromref24_inRange j0.Lower (-268435456 : Int) (268435456 : Int)) fun (r1117 : Bool) =>
  Let (!r1117) fun (x1118 : Bool) =>
  Rx.Bind
  (if (x1118 == false) = true then caromref24_inRange j0.Upper (-268435456 : Int) (268435456 : Int) else some default)
  fun (r1119 : Bool) =>
  Let (!r1119) fun (x1120 : Bool) =>
  Let (bif x1118 then true else x1120) fun (x1121 : Bool) =>
  Let (decide (j0.Lower > j0.Upper)) fun (x1122 : Bool) =>
  Let (bif x1121 then true else x1122) fun (x1123 : Bool) =>
  if x1123 = true then some false
  else
  Let (j0.Kind == (1 : Int)) fun (x1124 : Bool) =>
  if x1124 = true then Let (decide (j0.Lower ≥ (0 : Int))) fun (x1125 : Bool) => some x1125
  else
  Let (j0.Kind != (2 : Int)) fun (x1126 : Bool) =>
  Let (decide (j0.Lower ≥ (-205888 : Int))) fun (x1127 : Bool) =>
  Let (decide (j0.Upper ≤ (205888 : Int))) fun (x1128 : Bool) =>
  Let (bif x1127 then x1128 else false) fun (x1129 : Bool) =>
  Let (bif x1126 then true else x1129) fun (x1130 : Bool) => some x1130

noncomputable def caromref24_rangesValid (j0 : Joint) : Option Bool :=
  Join
  (fun (v1131 : Int) =>
  LOOP
  (fun (rec1132 : Int → Option Bool) (s1133 : Int) =>
  Let (decide (s1133 < (4 : Int))) fun (x1134 : Bool) =>
  if x1134 = true then
  Chk ((0 : Int) ≤ s1133 ∧ s1133 < (↑(4 : Nat) : Int))
  (Chk
  ((0 : Int) ≤ s1133 ∧
  s1133 < (↑[j0.Impulses.fst, j0.Impulses.snd.fst, j0.Impulses.snd.snd.fst, j0.Impulses.snd.snd.snd].length : Int))
  (Let (ix [j0.Impulses.fst, j0.Impulses.snd.fst, j0.Impulses.snd.snd.fst, j0.Impulses.snd.snd.snd] s1133)
  fun (x1135 : Int) =>
  Rx.Bind (caromref24_inRange x1135 (-536870911 : Int) (536870911 : Int)) fun (r1136 : Bool) =>
  Let (!r1136) fun (x1137 : Bool) =>
  if x1137 = true then some false else Let (IntKind.i64.wrap (s1133 + (1 : Int))) fun (x1138 : Int) => rec1132 x1138))
  else
  Rx.Bind (caromref24_inRange j0.ID (1 : Int) (1099511627776 : Int)) fun (r1139 : Bool) =>
  Let (!r1139) fun (x1140 : Bool) =>
  Rx.Bind (if (x1140 == false) = true then caromref24_inSquare j0.AnchorA v1131 else some default) fun (r1141 : Bool) =>
  Let (!r1141) fun (x1142 : Bool) =>
  Let (bif x1140 then true else x1142) fun (x1143 : Bool) =>
  Rx.Bind (if (x1143 == false) = true then caromref24_inSquare j0.AnchorB (1048576 : Int) else some default)
  fun (r1144 : Bool) =>
  Let (!r1144) fun (x1145 : Bool) =>
  Let (bif x1143 then true else x1145) fun (x1146 : Bool) =>
  Rx.Bind
  (if (x1146 == false) = true then caromref24_inRange j0.ReferenceAngle (-205888 : Int) (205887 : Int) else some default)
  fun (r1147 : Bool) =>
  Let (!r1147) fun (x1148 : Bool) =>
  Let (bif x1146 then true else x1148) fun (x1149 : Bool) =>
  Rx.Bind (if (x1149 == false) = true then caromref24_limitsValid j0 else some default) fun (r1150 : Bool) =>
  Let (!r1150) fun (x1151 : Bool) =>
  Let (bif x1149 then true else x1151) fun (x1152 : Bool) =>
  if x1152 = true then some false
  else
  Rx.Bind (caromref24_inRange j0.MotorSpeed (-16777216 : Int) (16777216 : Int)) fun (r1153 : Bool) =>
  Rx.Bind (if (r1153 == true) = true then caromref24_inRange j0.MaxForce (0 : Int) (536870911 : Int) else some default)
  fun (r1154 : Bool) =>
  Let (bif r1153 then r1154 else false) fun (x1155 : Bool) =>
  Rx.Bind (if (x1155 == true) = true then caromref24_inRange j0.Softness (0 : Int) (536870911 : Int) else some default)
  fun (r1156 : Bool) =>
  Let (bif x1155 then r1156 else false) fun (x1157 : Bool) =>
  Rx.Bind (if (x1157 == true) = true then caromref24_inRange j0.BreakForce (0 : Int) (536870911 : Int) else some default)
  fun (r1158 : Bool) => Let (bif x1157 then r1158 else false) fun (x1159 : Bool) => some x1159)
  fuel (0 : Int))
  fun (j1160 : Int → Option Bool) =>
  Let (j0.Kind == (5 : Int)) fun (x1161 : Bool) => if x1161 = true then j1160 (268435456 : Int) else j1160 (1048576 : Int)

noncomputable def caromref24_Validate (j0 : Joint) : Option Int :=
  Let (decide (j0.Kind < (1 : Int))) fun (x1162 : Bool) =>
  Let (decide (j0.Kind > (5 : Int))) fun (x1163 : Bool) =>
  Let (bif x1162 then true else x1163) fun (x1164 : Bool) =>
  if x1164 = true then some (10 : Int)
  else
  Rx.Bind (caromref24_rangesValid j0) fun (r1165 : Bool) =>
  Let (!r1165) fun (x1166 : Bool) =>
  if x1166 = true then some (6 : Int)
  else
  Rx.Bind (caromref24_inRange j0.BodyB (1 : Int) (1099511627776 : Int)) fun (r1167 : Bool) =>
  Let (!r1167) fun (x1168 : Bool) =>
  Let (j0.Kind == (5 : Int)) fun (x1169 : Bool) =>
  Let (j0.BodyA != (0 : Int)) fun (x1170 : Bool) =>
  Let (bif x1169 then x1170 else false) fun (x1171 : Bool) =>
  Let (bif x1168 then true else x1171) fun (x1172 : Bool) =>
  Let (j0.Kind != (5 : Int)) fun (x1173 : Bool) =>
  Rx.Bind
  (if (x1172 == false && x1173 == true) = true then caromref24_inRange j0.BodyA (1 : Int) (1099511627776 : Int)
  else some default)
  fun (r1174 : Bool) =>
  Let (!r1174) fun (x1175 : Bool) =>
  Let (j0.BodyA == j0.BodyB) fun (x1176 : Bool) =>
  Let (bif x1175 then true else x1176) fun (x1177 : Bool) =>
  Let (bif x1173 then x1177 else false) fun (x1178 : Bool) =>
  Let (bif x1172 then true else x1178) fun (x1179 : Bool) =>
  if x1179 = true then some (14 : Int)
  else
  Let (decide (j0.Axis.X = (0 : Int)) && decide (j0.Axis.Y = (0 : Int))) fun (x1180 : Bool) =>
  Let (j0.Kind == (3 : Int)) fun (x1181 : Bool) =>
  Rx.Bind (if (x1181 == true) = true then caromref03_Length j0.Axis else some default) fun (r1182 : Int) =>
  Rx.Bind (if (x1181 == true) = true then caromref24_inRange r1182 (65520 : Int) (65552 : Int) else some default)
  fun (r1183 : Bool) =>
  Let (!r1183) fun (x1184 : Bool) =>
  Let (bif x1181 then x1184 else false) fun (x1185 : Bool) =>
  Let (j0.Kind != (3 : Int)) fun (x1186 : Bool) =>
  Let (!x1180) fun (x1187 : Bool) =>
  Let (bif x1186 then x1187 else false) fun (x1188 : Bool) =>
  Let (bif x1185 then true else x1188) fun (x1189 : Bool) =>
  if x1189 = true then some (15 : Int)
  else
  Let (j0.Kind == (1 : Int)) fun (x1190 : Bool) =>
  Let (j0.Kind == (4 : Int)) fun (x1191 : Bool) =>
  Let (j0.Kind == (5 : Int)) fun (x1192 : Bool) =>
  Let (bif x1191 then true else x1192) fun (x1193 : Bool) =>
  Let (bif x1190 then true else x1193) fun (x1194 : Bool) =>
  Let (bif x1194 then j0.EnableMotor else false) fun (x1195 : Bool) =>
  Let (bif x1193 then j0.EnableLimit else false) fun (x1196 : Bool) =>
  Let (bif x1195 then true else x1196) fun (x1197 : Bool) =>
  Let (!j0.EnableLimit) fun (x1198 : Bool) =>
  Let (bif x1190 then x1198 else false) fun (x1199 : Bool) =>
  Let (bif x1197 then true else x1199) fun (x1200 : Bool) => if x1200 = true then some (15 : Int) else some (0 : Int)

noncomputable def caromref25_FindBody (w0 : World_) (id1 : Int) : Option Int :=
  LOOP
  (fun (rec1201 : Int → Option Int) (s1202 : Int) =>
  Let (↑w0.Bodies.length : Int) fun (x1203 : Int) =>
  Let (decide (s1202 < x1203)) fun (x1204 : Bool) =>
  if x1204 = true then
  Chk ((0 : Int) ≤ s1202 ∧ s1202 < (↑w0.Bodies.length : Int))
  (Let (ix w0.Bodies s1202) fun (x1205 : Body) =>
  Let (x1205.ID == id1) fun (x1206 : Bool) =>
  if x1206 = true then some s1202 else Let (IntKind.i64.wrap (s1202 + (1 : Int))) fun (x1207 : Int) => rec1201 x1207)
  else some (-1 : Int))
  fuel (0 : Int)

noncomputable def caromref25_connected (w0 : World_) (j1 : Joint) : Option Bool :=
  Let (j1.BodyA == (0 : Int)) fun (x1208 : Bool) =>
  Rx.Bind (if (x1208 == false) = true then caromref25_FindBody w0 j1.BodyA else some default) fun (r1209 : Int) =>
  Let (decide (r1209 ≥ (0 : Int))) fun (x1210 : Bool) =>
  Let (bif x1208 then true else x1210) fun (x1211 : Bool) =>
  Let (j1.BodyB == (0 : Int)) fun (x1212 : Bool) =>
  Rx.Bind (if (x1211 == true && x1212 == false) = true then caromref25_FindBody w0 j1.BodyB else some default)
  fun (r1213 : Int) =>
  Let (decide (r1213 ≥ (0 : Int))) fun (x1214 : Bool) =>
  Let (bif x1212 then true else x1214) fun (x1215 : Bool) =>
  Let (bif x1211 then x1215 else false) fun (x1216 : Bool) => some x1216

noncomputable def caromref25_validJoints (w0 : World_) : Option Bool :=
  LOOP
  (fun (rec1217 : Int × Int → Option Bool) (s1218 : Int × Int) =>
  Let (↑w0.Joints.length : Int) fun (x1219 : Int) =>
  Let (decide (s1218.snd < x1219)) fun (x1220 : Bool) =>
  if x1220 = true then
  Chk ((0 : Int) ≤ s1218.snd ∧ s1218.snd < (↑w0.Joints.length : Int))
  (Let (ix w0.Joints s1218.snd) fun (x1221 : Joint) =>
  Rx.Bind (caromref24_Validate x1221) fun (r1222 : Int) =>
  Let (r1222 != (0 : Int)) fun (x1223 : Bool) =>
  Let (decide (x1221.ID ≥ w0.NextID)) fun (x1224 : Bool) =>
  Let (bif x1223 then true else x1224) fun (x1225 : Bool) =>
  Let (decide (s1218.snd > (0 : Int))) fun (x1226 : Bool) =>
  Let (decide (x1221.ID ≤ s1218.fst)) fun (x1227 : Bool) =>
  Let (bif x1226 then x1227 else false) fun (x1228 : Bool) =>
  Let (bif x1225 then true else x1228) fun (x1229 : Bool) =>
  Rx.Bind (if (x1229 == false) = true then caromref25_connected w0 x1221 else some default) fun (r1230 : Bool) =>
  Let (!r1230) fun (x1231 : Bool) =>
  Let (bif x1229 then true else x1231) fun (x1232 : Bool) =>
  Rx.Bind (if (x1232 == false) = true then caromref25_FindBody w0 x1221.ID else some default) fun (r1233 : Int) =>
  Let (decide (r1233 ≥ (0 : Int))) fun (x1234 : Bool) =>
  Let (bif x1232 then true else x1234) fun (x1235 : Bool) =>
  if x1235 = true then some false
  else Let (IntKind.i64.wrap (s1218.snd + (1 : Int))) fun (x1236 : Int) => rec1217 (x1221.ID, x1236))
  else some true)
  fuel ((0 : Int), (0 : Int))

noncomputable def caromref25_Keys (l0 : (List Contact)) : Option (List PairKey) :=
  LOOP
  (fun (rec1237 : List PairKey × Int → Option (List PairKey)) (s1238 : List PairKey × Int) =>
  Let (↑l0.length : Int) fun (x1239 : Int) =>
  Let (decide (s1238.snd < x1239)) fun (x1240 : Bool) =>
  if x1240 = true then
  Chk ((0 : Int) ≤ s1238.snd ∧ s1238.snd < (↑l0.length : Int))
  (Let (ix l0 s1238.snd) fun (x1241 : Contact) =>
  Chk ((List.length s1238.fst + [x1241.Key].length) * (32 : Nat) ≤ (140737488355328 : Nat))
  (Let (s1238.fst ++ [x1241.Key]) fun (x1242 : List PairKey) =>
  Let (IntKind.i64.wrap (s1238.snd + (1 : Int))) fun (x1243 : Int) => rec1237 (x1242, x1243)))
  else some s1238.fst)
  fuel ([], (0 : Int))

noncomputable def caromref22_Less (a0 : PairKey) (b1 : PairKey) : Option Bool :=
  Let (a0.BodyA != b1.BodyA) fun (x1244 : Bool) =>
  if x1244 = true then Let (decide (a0.BodyA < b1.BodyA)) fun (x1245 : Bool) => some x1245
  else
  Let (a0.FixtureA != b1.FixtureA) fun (x1246 : Bool) =>
  if x1246 = true then Let (decide (a0.FixtureA < b1.FixtureA)) fun (x1247 : Bool) => some x1247
  else
  Let (a0.BodyB != b1.BodyB) fun (x1248 : Bool) =>
  if x1248 = true then Let (decide (a0.BodyB < b1.BodyB)) fun (x1249 : Bool) => some x1249
  else Let (decide (a0.FixtureB < b1.FixtureB)) fun (x1250 : Bool) => some x1250

noncomputable def caromref22_ValidKeys (l0 : (List PairKey)) : Option Bool :=
  LOOP
  (fun (rec1251 : Int → Option Bool) (s1252 : Int) =>
  Let (↑l0.length : Int) fun (x1253 : Int) =>
  Let (decide (s1252 < x1253)) fun (x1254 : Bool) =>
  if x1254 = true then
  Chk ((0 : Int) ≤ s1252 ∧ s1252 < (↑l0.length : Int))
  (Let (ix l0 s1252) fun (x1255 : PairKey) =>
  Let (decide (x1255.BodyA ≥ x1255.BodyB)) fun (x1256 : Bool) =>
  Let (decide (x1255.FixtureA < (0 : Int))) fun (x1257 : Bool) =>
  Let (bif x1256 then true else x1257) fun (x1258 : Bool) =>
  Let (decide (x1255.FixtureA > (3 : Int))) fun (x1259 : Bool) =>
  Let (bif x1258 then true else x1259) fun (x1260 : Bool) =>
  Let (decide (x1255.FixtureB < (0 : Int))) fun (x1261 : Bool) =>
  Let (bif x1260 then true else x1261) fun (x1262 : Bool) =>
  Let (decide (x1255.FixtureB > (3 : Int))) fun (x1263 : Bool) =>
  Let (bif x1262 then true else x1263) fun (x1264 : Bool) =>
  Let (decide (s1252 > (0 : Int))) fun (x1265 : Bool) =>
  Let (IntKind.i64.wrap (s1252 - (1 : Int))) fun (x1266 : Int) =>
  Chk ((x1264 == false && x1265 == true) = true → (0 : Int) ≤ x1266 ∧ x1266 < (↑l0.length : Int))
  (Let (ix l0 x1266) fun (x1267 : PairKey) =>
  Rx.Bind (if (x1264 == false && x1265 == true) = true then caromref22_Less x1267 x1255 else some default)
  fun (r1268 : Bool) =>
  Let (!r1268) fun (x1269 : Bool) =>
  Let (bif x1265 then x1269 else false) fun (x1270 : Bool) =>
  Let (bif x1264 then true else x1270) fun (x1271 : Bool) =>
  if x1271 = true then some false else Let (IntKind.i64.wrap (s1252 + (1 : Int))) fun (x1272 : Int) => rec1251 x1272))
  else some true)
  fuel (0 : Int)

noncomputable def caromref25_exists (w0 : World_) (id1 : Int) (n2 : Int) : Option Bool :=
  Rx.Bind (caromref25_FindBody w0 id1) fun (r1273 : Int) =>
  Let (decide (r1273 ≥ (0 : Int))) fun (x1274 : Bool) =>
  Let (decide (n2 ≥ (0 : Int))) fun (x1275 : Bool) =>
  Let (bif x1274 then x1275 else false) fun (x1276 : Bool) =>
  Chk ((x1276 == true) = true → (0 : Int) ≤ r1273 ∧ r1273 < (↑w0.Bodies.length : Int))
  (Let (ix w0.Bodies r1273) fun (x1277 : Body) =>
  Let (↑x1277.Fixtures.length : Int) fun (x1278 : Int) =>
  Let (decide (n2 < x1278)) fun (x1279 : Bool) => Let (bif x1276 then x1279 else false) fun (x1280 : Bool) => some x1280)

noncomputable def caromref25_resolved (w0 : World_) (l1 : (List PairKey)) : Option Bool :=
  LOOP
  (fun (rec1281 : Int → Option Bool) (s1282 : Int) =>
  Let (↑l1.length : Int) fun (x1283 : Int) =>
  Let (decide (s1282 < x1283)) fun (x1284 : Bool) =>
  if x1284 = true then
  Chk ((0 : Int) ≤ s1282 ∧ s1282 < (↑l1.length : Int))
  (Let (ix l1 s1282) fun (x1285 : PairKey) =>
  Chk ((0 : Int) ≤ s1282 ∧ s1282 < (↑l1.length : Int))
  (Let (ix l1 s1282) fun (x1286 : PairKey) =>
  Rx.Bind (caromref25_exists w0 x1285.BodyA x1286.FixtureA) fun (r1287 : Bool) =>
  Let (!r1287) fun (x1288 : Bool) =>
  Chk ((x1288 == false) = true → (0 : Int) ≤ s1282 ∧ s1282 < (↑l1.length : Int))
  (Let (ix l1 s1282) fun (x1289 : PairKey) =>
  Chk ((x1288 == false) = true → (0 : Int) ≤ s1282 ∧ s1282 < (↑l1.length : Int))
  (Let (ix l1 s1282) fun (x1290 : PairKey) =>
  Rx.Bind (if (x1288 == false) = true then caromref25_exists w0 x1289.BodyB x1290.FixtureB else some default)
  fun (r1291 : Bool) =>
  Let (!r1291) fun (x1292 : Bool) =>
  Let (bif x1288 then true else x1292) fun (x1293 : Bool) =>
  if x1293 = true then some false else Let (IntKind.i64.wrap (s1282 + (1 : Int))) fun (x1294 : Int) => rec1281 x1294))))
  else some true)
  fuel (0 : Int)

noncomputable def caromref25_saturated (v0 : Vec) : Option Bool :=
  Rx.Bind (caromref25_in v0.X (-536870911 : Int) (536870911 : Int)) fun (r1295 : Bool) =>
  Rx.Bind (if (r1295 == true) = true then caromref25_in v0.Y (-536870911 : Int) (536870911 : Int) else some default)
  fun (r1296 : Bool) => Let (bif r1295 then r1296 else false) fun (x1297 : Bool) => some x1297

noncomputable def caromref25_validPoints (m0 : Manifold) : Option Bool :=
  Let (↑m0.Points.length : Int) fun (x1298 : Int) =>
  Let (decide (x1298 < (1 : Int))) fun (x1299 : Bool) =>
  Let (decide (x1298 > (2 : Int))) fun (x1300 : Bool) =>
  Let (bif x1299 then true else x1300) fun (x1301 : Bool) =>
  Let (x1298 == (2 : Int)) fun (x1302 : Bool) =>
  Chk ((x1301 == false && x1302 == true) = true → (0 : Int) ≤ (0 : Int) ∧ (0 : Int) < (↑m0.Points.length : Int))
  (Let (ix m0.Points (0 : Int)) fun (x1303 : ContactPoint) =>
  Chk ((x1301 == false && x1302 == true) = true → (0 : Int) ≤ (1 : Int) ∧ (1 : Int) < (↑m0.Points.length : Int))
  (Let (ix m0.Points (1 : Int)) fun (x1304 : ContactPoint) =>
  Let (x1303.ID == x1304.ID) fun (x1305 : Bool) =>
  Let (bif x1302 then x1305 else false) fun (x1306 : Bool) =>
  Let (bif x1301 then true else x1306) fun (x1307 : Bool) =>
  Rx.Bind (if (x1307 == false) = true then caromref25_saturated m0.Normal else some default) fun (r1308 : Bool) =>
  Let (!r1308) fun (x1309 : Bool) =>
  Let (bif x1307 then true else x1309) fun (x1310 : Bool) =>
  if x1310 = true then some false
  else
  LOOP
  (fun (rec1311 : Int → Option Bool) (s1312 : Int) =>
  Let (decide (s1312 < x1298)) fun (x1313 : Bool) =>
  if x1313 = true then
  Chk ((0 : Int) ≤ s1312 ∧ s1312 < (↑m0.Points.length : Int))
  (Let (ix m0.Points s1312) fun (x1314 : ContactPoint) =>
  Rx.Bind (caromref25_in x1314.NormalImpulse (0 : Int) (536870911 : Int)) fun (r1315 : Bool) =>
  Let (!r1315) fun (x1316 : Bool) =>
  Rx.Bind
  (if (x1316 == false) = true then caromref25_in x1314.TangentImpulse (-536870911 : Int) (536870911 : Int)
  else some default)
  fun (r1317 : Bool) =>
  Let (!r1317) fun (x1318 : Bool) =>
  Let (bif x1316 then true else x1318) fun (x1319 : Bool) =>
  Rx.Bind (if (x1319 == false) = true then caromref25_saturated x1314.Point else some default) fun (r1320 : Bool) =>
  Let (!r1320) fun (x1321 : Bool) =>
  Let (bif x1319 then true else x1321) fun (x1322 : Bool) =>
  Rx.Bind
  (if (x1322 == false) = true then caromref25_saturated { X := x1314.Separation, Y := x1314.ID : Vec } else some default)
  fun (r1323 : Bool) =>
  Let (!r1323) fun (x1324 : Bool) =>
  Let (bif x1322 then true else x1324) fun (x1325 : Bool) =>
  if x1325 = true then some false else Let (IntKind.i64.wrap (s1312 + (1 : Int))) fun (x1326 : Int) => rec1311 x1326)
  else some true)
  fuel (0 : Int)))

noncomputable def caromref25_validContacts (w0 : World_) : Option Bool :=
  Rx.Bind (caromref25_Keys w0.Contacts) fun (r1327 : List PairKey) =>
  Rx.Bind (caromref22_ValidKeys r1327) fun (r1328 : Bool) =>
  Let (!r1328) fun (x1329 : Bool) =>
  Rx.Bind (if (x1329 == false) = true then caromref22_ValidKeys w0.Overlaps else some default) fun (r1330 : Bool) =>
  Let (!r1330) fun (x1331 : Bool) =>
  Let (bif x1329 then true else x1331) fun (x1332 : Bool) =>
  Rx.Bind (if (x1332 == false) = true then caromref25_resolved w0 r1327 else some default) fun (r1333 : Bool) =>
  Let (!r1333) fun (x1334 : Bool) =>
  Let (bif x1332 then true else x1334) fun (x1335 : Bool) =>
  Rx.Bind (if (x1335 == false) = true then caromref25_resolved w0 w0.Overlaps else some default) fun (r1336 : Bool) =>
  Let (!r1336) fun (x1337 : Bool) =>
  Let (bif x1335 then true else x1337) fun (x1338 : Bool) =>
  if x1338 = true then some false
  else
  LOOP
  (fun (rec1339 : Int → Option Bool) (s1340 : Int) =>
  Let (↑w0.Contacts.length : Int) fun (x1341 : Int) =>
  Let (decide (s1340 < x1341)) fun (x1342 : Bool) =>
  if x1342 = true then
  Chk ((0 : Int) ≤ s1340 ∧ s1340 < (↑w0.Contacts.length : Int))
  (Let (ix w0.Contacts s1340) fun (x1343 : Contact) =>
  Rx.Bind (caromref25_validPoints x1343.Manifold) fun (r1344 : Bool) =>
  Let (!r1344) fun (x1345 : Bool) =>
  if x1345 = true then some false else Let (IntKind.i64.wrap (s1340 + (1 : Int))) fun (x1346 : Int) => rec1339 x1346)
  else some true)
  fuel (0 : Int)

noncomputable def caromref25_Validate (w0 : World_) : Option Int :=
  Rx.Bind (caromref25_ValidateSettings w0.Settings) fun (r1347 : Int) =>
  Let (r1347 != (0 : Int)) fun (x1348 : Bool) =>
  if x1348 = true then some (17 : Int)
  else
  Let (↑w0.Bodies.length : Int) fun (x1349 : Int) =>
  Let (decide (x1349 > (32 : Int))) fun (x1350 : Bool) =>
  Let (↑w0.Joints.length : Int) fun (x1351 : Int) =>
  Let (decide (x1351 > (32 : Int))) fun (x1352 : Bool) =>
  Let (bif x1350 then true else x1352) fun (x1353 : Bool) =>
  Let (↑w0.Contacts.length : Int) fun (x1354 : Int) =>
  Let (decide (x1354 > (8192 : Int))) fun (x1355 : Bool) =>
  Let (bif x1353 then true else x1355) fun (x1356 : Bool) =>
  Let (↑w0.Overlaps.length : Int) fun (x1357 : Int) =>
  Let (decide (x1357 > (8192 : Int))) fun (x1358 : Bool) =>
  Let (bif x1356 then true else x1358) fun (x1359 : Bool) =>
  if x1359 = true then some (11 : Int)
  else
  Rx.Bind (caromref25_in w0.NextID (1 : Int) (1099511627776 : Int)) fun (r1360 : Bool) =>
  Let (!r1360) fun (x1361 : Bool) =>
  Rx.Bind (if (x1361 == false) = true then caromref25_in w0.Frame (0 : Int) (1099511627776 : Int) else some default)
  fun (r1362 : Bool) =>
  Let (!r1362) fun (x1363 : Bool) =>
  Let (bif x1361 then true else x1363) fun (x1364 : Bool) =>
  if x1364 = true then some (6 : Int)
  else
  Rx.Bind (caromref25_validBodies w0) fun (r1365 : Bool) =>
  Let (!r1365) fun (x1366 : Bool) =>
  if x1366 = true then some (14 : Int)
  else
  Rx.Bind (caromref25_validJoints w0) fun (r1367 : Bool) =>
  Let (!r1367) fun (x1368 : Bool) =>
  if x1368 = true then some (15 : Int)
  else
  Rx.Bind (caromref25_validContacts w0) fun (r1369 : Bool) =>
  Let (!r1369) fun (x1370 : Bool) => if x1370 = true then some (16 : Int) else some (0 : Int)

noncomputable def caromref22_Keys (a0 : (List PairKey)) (b1 : (List PairKey)) : Option Bool :=
  Let (↑a0.length : Int) fun (x1371 : Int) =>
  Let (↑b1.length : Int) fun (x1372 : Int) =>
  Let (x1371 != x1372) fun (x1373 : Bool) =>
  if x1373 = true then some false
  else
  LOOP
  (fun (rec1374 : Int → Option Bool) (s1375 : Int) =>
  Let (↑a0.length : Int) fun (x1376 : Int) =>
  Let (decide (s1375 < x1376)) fun (x1377 : Bool) =>
  if x1377 = true then
  Chk ((0 : Int) ≤ s1375 ∧ s1375 < (↑a0.length : Int))
  (Let (ix a0 s1375) fun (x1378 : PairKey) =>
  Chk ((0 : Int) ≤ s1375 ∧ s1375 < (↑b1.length : Int))
  (Let (ix b1 s1375) fun (x1379 : PairKey) =>
  Let
  (!(decide (x1378.BodyA = x1379.BodyA) &&
  (decide (x1378.FixtureA = x1379.FixtureA) &&
  (decide (x1378.BodyB = x1379.BodyB) && decide (x1378.FixtureB = x1379.FixtureB)))))
  fun (x1380 : Bool) =>
  if x1380 = true then some false else Let (IntKind.i64.wrap (s1375 + (1 : Int))) fun (x1381 : Int) => rec1374 x1381))
  else some true)
  fuel (0 : Int)

noncomputable def caromref12_EqualVecs (a0 : (List Vec)) (b1 : (List Vec)) : Option Bool :=
  Let (↑a0.length : Int) fun (x1382 : Int) =>
  Let (↑b1.length : Int) fun (x1383 : Int) =>
  Let (x1382 != x1383) fun (x1384 : Bool) =>
  if x1384 = true then some false
  else
  LOOP
  (fun (rec1385 : Int → Option Bool) (s1386 : Int) =>
  Let (↑a0.length : Int) fun (x1387 : Int) =>
  Let (decide (s1386 < x1387)) fun (x1388 : Bool) =>
  if x1388 = true then
  Chk ((0 : Int) ≤ s1386 ∧ s1386 < (↑a0.length : Int))
  (Let (ix a0 s1386) fun (x1389 : Vec) =>
  Chk ((0 : Int) ≤ s1386 ∧ s1386 < (↑b1.length : Int))
  (Let (ix b1 s1386) fun (x1390 : Vec) =>
  Let (!(decide (x1389.X = x1390.X) && decide (x1389.Y = x1390.Y))) fun (x1391 : Bool) =>
  if x1391 = true then some false else Let (IntKind.i64.wrap (s1386 + (1 : Int))) fun (x1392 : Int) => rec1385 x1392))
  else some true)
  fuel (0 : Int)

noncomputable def caromref12_Equal (a0 : Shape) (b1 : Shape) : Option Bool :=
  Let (a0.Kind == b1.Kind) fun (x1393 : Bool) =>
  Let (a0.Radius == b1.Radius) fun (x1394 : Bool) =>
  Let (bif x1393 then x1394 else false) fun (x1395 : Bool) =>
  Rx.Bind (if (x1395 == true) = true then caromref12_EqualVecs a0.Vertices b1.Vertices else some default)
  fun (r1396 : Bool) => Let (bif x1395 then r1396 else false) fun (x1397 : Bool) => some x1397

noncomputable def caromref23_EqualFixture (a0 : Fixture) (b1 : Fixture) : Option Bool :=
  Rx.Bind (caromref12_Equal a0.Shape b1.Shape) fun (r1398 : Bool) =>
  Let (a0.Density == b1.Density) fun (x1399 : Bool) =>
  Let (bif r1398 then x1399 else false) fun (x1400 : Bool) =>
  Let (a0.Friction == b1.Friction) fun (x1401 : Bool) =>
  Let (bif x1400 then x1401 else false) fun (x1402 : Bool) =>
  Let (a0.Restitution == b1.Restitution) fun (x1403 : Bool) =>
  Let (bif x1402 then x1403 else false) fun (x1404 : Bool) =>
  Let (a0.Sensor == b1.Sensor) fun (x1405 : Bool) =>
  Let (bif x1404 then x1405 else false) fun (x1406 : Bool) =>
  Let (a0.Category == b1.Category) fun (x1407 : Bool) =>
  Let (bif x1406 then x1407 else false) fun (x1408 : Bool) =>
  Let (a0.Mask == b1.Mask) fun (x1409 : Bool) =>
  Let (bif x1408 then x1409 else false) fun (x1410 : Bool) =>
  Let (a0.Group == b1.Group) fun (x1411 : Bool) => Let (bif x1410 then x1411 else false) fun (x1412 : Bool) => some x1412

noncomputable def caromref23_Equal (a0 : Body) (b1 : Body) : Option Bool :=
  Let (↑a0.Fixtures.length : Int) fun (x1413 : Int) =>
  Let (↑b1.Fixtures.length : Int) fun (x1414 : Int) =>
  Let (x1413 != x1414) fun (x1415 : Bool) =>
  if x1415 = true then some false
  else
  LOOP
  (fun (rec1416 : Int → Option Bool) (s1417 : Int) =>
  Let (↑a0.Fixtures.length : Int) fun (x1418 : Int) =>
  Let (decide (s1417 < x1418)) fun (x1419 : Bool) =>
  Let (↑b1.Fixtures.length : Int) fun (x1420 : Int) =>
  Let (decide (s1417 < x1420)) fun (x1421 : Bool) =>
  Let (bif x1419 then x1421 else false) fun (x1422 : Bool) =>
  if x1422 = true then
  Chk ((0 : Int) ≤ s1417 ∧ s1417 < (↑a0.Fixtures.length : Int))
  (Let (ix a0.Fixtures s1417) fun (x1423 : Fixture) =>
  Chk ((0 : Int) ≤ s1417 ∧ s1417 < (↑b1.Fixtures.length : Int))
  (Let (ix b1.Fixtures s1417) fun (x1424 : Fixture) =>
  Rx.Bind (caromref23_EqualFixture x1423 x1424) fun (r1425 : Bool) =>
  Let (!r1425) fun (x1426 : Bool) =>
  if x1426 = true then some false else Let (IntKind.i64.wrap (s1417 + (1 : Int))) fun (x1427 : Int) => rec1416 x1427))
  else
  Let (a0.ID != b1.ID) fun (x1428 : Bool) =>
  Let (a0.Kind != b1.Kind) fun (x1429 : Bool) =>
  Let (bif x1428 then true else x1429) fun (x1430 : Bool) =>
  Let
  (!(decide (a0.Transform.Position.X = b1.Transform.Position.X) &&
  decide (a0.Transform.Position.Y = b1.Transform.Position.Y) &&
  decide (a0.Transform.Angle = b1.Transform.Angle)))
  fun (x1431 : Bool) =>
  Let (bif x1430 then true else x1431) fun (x1432 : Bool) =>
  Let (!(decide (a0.Velocity.X = b1.Velocity.X) && decide (a0.Velocity.Y = b1.Velocity.Y))) fun (x1433 : Bool) =>
  Let (bif x1432 then true else x1433) fun (x1434 : Bool) =>
  Let (a0.AngularVelocity != b1.AngularVelocity) fun (x1435 : Bool) =>
  Let (bif x1434 then true else x1435) fun (x1436 : Bool) =>
  Let (!(decide (a0.Force.X = b1.Force.X) && decide (a0.Force.Y = b1.Force.Y))) fun (x1437 : Bool) =>
  Let (bif x1436 then true else x1437) fun (x1438 : Bool) =>
  Let (a0.Torque != b1.Torque) fun (x1439 : Bool) =>
  Let (bif x1438 then true else x1439) fun (x1440 : Bool) =>
  if x1440 = true then some false
  else
  Let (a0.LinearDamping == b1.LinearDamping) fun (x1441 : Bool) =>
  Let (a0.AngularDamping == b1.AngularDamping) fun (x1442 : Bool) =>
  Let (bif x1441 then x1442 else false) fun (x1443 : Bool) =>
  Let (a0.GravityScale == b1.GravityScale) fun (x1444 : Bool) =>
  Let (bif x1443 then x1444 else false) fun (x1445 : Bool) =>
  Let (a0.Bullet == b1.Bullet) fun (x1446 : Bool) =>
  Let (bif x1445 then x1446 else false) fun (x1447 : Bool) =>
  Let (a0.FixedRotation == b1.FixedRotation) fun (x1448 : Bool) =>
  Let (bif x1447 then x1448 else false) fun (x1449 : Bool) =>
  Let (a0.NoSleep == b1.NoSleep) fun (x1450 : Bool) =>
  Let (bif x1449 then x1450 else false) fun (x1451 : Bool) =>
  Let (a0.Asleep == b1.Asleep) fun (x1452 : Bool) =>
  Let (bif x1451 then x1452 else false) fun (x1453 : Bool) =>
  Let (a0.IdleSteps == b1.IdleSteps) fun (x1454 : Bool) =>
  Let (bif x1453 then x1454 else false) fun (x1455 : Bool) => some x1455)
  fuel (0 : Int)

noncomputable def caromref16_Equal (a0 : Manifold) (b1 : Manifold) : Option Bool :=
  Let (!(decide (a0.Normal.X = b1.Normal.X) && decide (a0.Normal.Y = b1.Normal.Y))) fun (x1456 : Bool) =>
  Let (↑a0.Points.length : Int) fun (x1457 : Int) =>
  Let (↑b1.Points.length : Int) fun (x1458 : Int) =>
  Let (x1457 != x1458) fun (x1459 : Bool) =>
  Let (bif x1456 then true else x1459) fun (x1460 : Bool) =>
  if x1460 = true then some false
  else
  LOOP
  (fun (rec1461 : Int → Option Bool) (s1462 : Int) =>
  Let (↑a0.Points.length : Int) fun (x1463 : Int) =>
  Let (decide (s1462 < x1463)) fun (x1464 : Bool) =>
  if x1464 = true then
  Chk ((0 : Int) ≤ s1462 ∧ s1462 < (↑a0.Points.length : Int))
  (Let (ix a0.Points s1462) fun (x1465 : ContactPoint) =>
  Chk ((0 : Int) ≤ s1462 ∧ s1462 < (↑b1.Points.length : Int))
  (Let (ix b1.Points s1462) fun (x1466 : ContactPoint) =>
  Let
  (!(decide (x1465.Point.X = x1466.Point.X) && decide (x1465.Point.Y = x1466.Point.Y) &&
  (decide (x1465.Separation = x1466.Separation) &&
  (decide (x1465.ID = x1466.ID) &&
  (decide (x1465.NormalImpulse = x1466.NormalImpulse) && decide (x1465.TangentImpulse = x1466.TangentImpulse))))))
  fun (x1467 : Bool) =>
  if x1467 = true then some false else Let (IntKind.i64.wrap (s1462 + (1 : Int))) fun (x1468 : Int) => rec1461 x1468))
  else some true)
  fuel (0 : Int)

noncomputable def caromref25_Equal (a0 : World_) (b1 : World_) : Option Bool :=
  Let
  (!(decide (a0.Settings.TimeStep = b1.Settings.TimeStep) &&
  (decide (a0.Settings.Gravity.X = b1.Settings.Gravity.X) && decide (a0.Settings.Gravity.Y = b1.Settings.Gravity.Y) &&
  (decide (a0.Settings.Iterations = b1.Settings.Iterations) &&
  decide (a0.Settings.SleepSteps = b1.Settings.SleepSteps)))))
  fun (x1469 : Bool) =>
  Let (a0.NextID != b1.NextID) fun (x1470 : Bool) =>
  Let (bif x1469 then true else x1470) fun (x1471 : Bool) =>
  Let (a0.Frame != b1.Frame) fun (x1472 : Bool) =>
  Let (bif x1471 then true else x1472) fun (x1473 : Bool) =>
  Let (↑a0.Bodies.length : Int) fun (x1474 : Int) =>
  Let (↑b1.Bodies.length : Int) fun (x1475 : Int) =>
  Let (x1474 != x1475) fun (x1476 : Bool) =>
  Let (bif x1473 then true else x1476) fun (x1477 : Bool) =>
  Let (↑a0.Joints.length : Int) fun (x1478 : Int) =>
  Let (↑b1.Joints.length : Int) fun (x1479 : Int) =>
  Let (x1478 != x1479) fun (x1480 : Bool) =>
  Let (bif x1477 then true else x1480) fun (x1481 : Bool) =>
  Let (↑a0.Contacts.length : Int) fun (x1482 : Int) =>
  Let (↑b1.Contacts.length : Int) fun (x1483 : Int) =>
  Let (x1482 != x1483) fun (x1484 : Bool) =>
  Let (bif x1481 then true else x1484) fun (x1485 : Bool) =>
  Rx.Bind (if (x1485 == false) = true then caromref22_Keys a0.Overlaps b1.Overlaps else some default)
  fun (r1486 : Bool) =>
  Let (!r1486) fun (x1487 : Bool) =>
  Let (bif x1485 then true else x1487) fun (x1488 : Bool) =>
  if x1488 = true then some false
  else
  LOOP
  (fun (rec1489 : Int → Option Bool) (s1490 : Int) =>
  Let (↑a0.Bodies.length : Int) fun (x1491 : Int) =>
  Let (decide (s1490 < x1491)) fun (x1492 : Bool) =>
  if x1492 = true then
  Chk ((0 : Int) ≤ s1490 ∧ s1490 < (↑a0.Bodies.length : Int))
  (Let (ix a0.Bodies s1490) fun (x1493 : Body) =>
  Chk ((0 : Int) ≤ s1490 ∧ s1490 < (↑b1.Bodies.length : Int))
  (Let (ix b1.Bodies s1490) fun (x1494 : Body) =>
  Rx.Bind (caromref23_Equal x1493 x1494) fun (r1495 : Bool) =>
  Let (!r1495) fun (x1496 : Bool) =>
  if x1496 = true then some false else Let (IntKind.i64.wrap (s1490 + (1 : Int))) fun (x1497 : Int) => rec1489 x1497))
  else
  LOOP
  (fun (rec1498 : Int → Option Bool) (s1499 : Int) =>
  Let (↑a0.Joints.length : Int) fun (x1500 : Int) =>
  Let (decide (s1499 < x1500)) fun (x1501 : Bool) =>
  if x1501 = true then
  Chk ((0 : Int) ≤ s1499 ∧ s1499 < (↑a0.Joints.length : Int))
  (Let (ix a0.Joints s1499) fun (x1502 : Joint) =>
  Chk ((0 : Int) ≤ s1499 ∧ s1499 < (↑b1.Joints.length : Int))
  (Let (ix b1.Joints s1499) fun (x1503 : Joint) =>
  Let
  (!(decide (x1502.ID = x1503.ID) &&
  (decide (x1502.Kind = x1503.Kind) &&
  (decide (x1502.BodyA = x1503.BodyA) &&
  (decide (x1502.BodyB = x1503.BodyB) &&
  (decide (x1502.AnchorA.X = x1503.AnchorA.X) && decide (x1502.AnchorA.Y = x1503.AnchorA.Y) &&
  (decide (x1502.AnchorB.X = x1503.AnchorB.X) && decide (x1502.AnchorB.Y = x1503.AnchorB.Y) &&
  (decide (x1502.Axis.X = x1503.Axis.X) && decide (x1502.Axis.Y = x1503.Axis.Y) &&
  (decide (x1502.ReferenceAngle = x1503.ReferenceAngle) &&
  (decide (x1502.EnableLimit = x1503.EnableLimit) &&
  (decide (x1502.Lower = x1503.Lower) &&
  (decide (x1502.Upper = x1503.Upper) &&
  (decide (x1502.EnableMotor = x1503.EnableMotor) &&
  (decide (x1502.MotorSpeed = x1503.MotorSpeed) &&
  (decide (x1502.MaxForce = x1503.MaxForce) &&
  (decide (x1502.Softness = x1503.Softness) &&
  (decide (x1502.BreakForce = x1503.BreakForce) &&
  (decide (x1502.CollideConnected = x1503.CollideConnected) &&
  (decide (x1502.Impulses.fst = x1503.Impulses.fst) &&
  (decide (x1502.Impulses.snd.fst = x1503.Impulses.snd.fst) &&
  (decide (x1502.Impulses.snd.snd.fst = x1503.Impulses.snd.snd.fst) &&
  decide (x1502.Impulses.snd.snd.snd = x1503.Impulses.snd.snd.snd))))))))))))))))))))))
  fun (x1504 : Bool) =>
  if x1504 = true then some false else Let (IntKind.i64.wrap (s1499 + (1 : Int))) fun (x1505 : Int) => rec1498 x1505))
  else
  LOOP
  (fun (rec1506 : Int → Option Bool) (s1507 : Int) =>
  Let (↑a0.Contacts.length : Int) fun (x1508 : Int) =>
  Let (decide (s1507 < x1508)) fun (x1509 : Bool) =>
  if x1509 = true then
  Chk ((0 : Int) ≤ s1507 ∧ s1507 < (↑a0.Contacts.length : Int))
  (Let (ix a0.Contacts s1507) fun (x1510 : Contact) =>
  Chk ((0 : Int) ≤ s1507 ∧ s1507 < (↑b1.Contacts.length : Int))
  (Let (ix b1.Contacts s1507) fun (x1511 : Contact) =>
  Let
  (!(decide (x1510.Key.BodyA = x1511.Key.BodyA) &&
  (decide (x1510.Key.FixtureA = x1511.Key.FixtureA) &&
  (decide (x1510.Key.BodyB = x1511.Key.BodyB) && decide (x1510.Key.FixtureB = x1511.Key.FixtureB)))))
  fun (x1512 : Bool) =>
  Chk ((x1512 == false) = true → (0 : Int) ≤ s1507 ∧ s1507 < (↑a0.Contacts.length : Int))
  (Let (ix a0.Contacts s1507) fun (x1513 : Contact) =>
  Chk ((x1512 == false) = true → (0 : Int) ≤ s1507 ∧ s1507 < (↑b1.Contacts.length : Int))
  (Let (ix b1.Contacts s1507) fun (x1514 : Contact) =>
  Rx.Bind (if (x1512 == false) = true then caromref16_Equal x1513.Manifold x1514.Manifold else some default)
  fun (r1515 : Bool) =>
  Let (!r1515) fun (x1516 : Bool) =>
  Let (bif x1512 then true else x1516) fun (x1517 : Bool) =>
  if x1517 = true then some false else Let (IntKind.i64.wrap (s1507 + (1 : Int))) fun (x1518 : Int) => rec1506 x1518))))
  else some true)
  fuel (0 : Int))
  fuel (0 : Int))
  fuel (0 : Int)

noncomputable def caromlaw25_WorldValidation (w0 : World_) : Option Bool :=
  Rx.Bind (caromref25_Few w0) fun (r1519 : Bool) =>
  Let (!r1519) fun (x1520 : Bool) =>
  if x1520 = true then Rx.Bind caromlaw25_example fun (r1521 : Bool) => some r1521
  else
  Rx.Bind (world_New w0.Settings) fun (r1522 : World_ × Int) =>
  Rx.Bind (caromref25_New w0.Settings) fun (r1523 : World_ × Int) =>
  Rx.Bind (world_Validate w0) fun (r1524 : Int) =>
  Rx.Bind (caromref25_Validate w0) fun (r1525 : Int) =>
  Let (r1524 == r1525) fun (x1526 : Bool) =>
  Rx.Bind (if (x1526 == true) = true then world_ValidateSettings w0.Settings else some default) fun (r1527 : Int) =>
  Rx.Bind (if (x1526 == true) = true then caromref25_ValidateSettings w0.Settings else some default) fun (r1528 : Int) =>
  Let (r1527 == r1528) fun (x1529 : Bool) =>
  Let (bif x1526 then x1529 else false) fun (x1530 : Bool) =>
  Rx.Bind (if (x1530 == true) = true then caromref25_Equal r1522.fst r1523.fst else some default) fun (r1531 : Bool) =>
  Let (bif x1530 then r1531 else false) fun (x1532 : Bool) =>
  Let (r1522.snd == r1523.snd) fun (x1533 : Bool) =>
  Let (bif x1532 then x1533 else false) fun (x1534 : Bool) =>
  Rx.Bind (if (x1534 == true) = true then caromlaw25_example else some default) fun (r1535 : Bool) =>
  Let (bif x1534 then r1535 else false) fun (x1536 : Bool) => some x1536

noncomputable def caromlaw25_positiveIDs (w0 : World_) : Option Bool :=
  LOOP
  (fun (rec1537 : Int → Option Bool) (s1538 : Int) =>
  Let (↑w0.Bodies.length : Int) fun (x1539 : Int) =>
  Let (decide (s1538 < x1539)) fun (x1540 : Bool) =>
  if x1540 = true then
  Chk ((0 : Int) ≤ s1538 ∧ s1538 < (↑w0.Bodies.length : Int))
  (Let (ix w0.Bodies s1538) fun (x1541 : Body) =>
  Let (decide (x1541.ID < (1 : Int))) fun (x1542 : Bool) =>
  if x1542 = true then some false else Let (IntKind.i64.wrap (s1538 + (1 : Int))) fun (x1543 : Int) => rec1537 x1543)
  else some true)
  fuel (0 : Int)

noncomputable def caromref12_Clone (s0 : Shape) : Option Shape :=
  Chk (s0.Vertices.length * (16 : Nat) ≤ (140737488355328 : Nat)) (some s0)

noncomputable def caromref23_Clone (b0 : Body) : Option Body :=
  LOOP
  (fun (rec1544 : List Fixture × Int → Option Body) (s1545 : List Fixture × Int) =>
  Let (↑b0.Fixtures.length : Int) fun (x1546 : Int) =>
  Let (decide (s1545.snd < x1546)) fun (x1547 : Bool) =>
  if x1547 = true then
  Chk ((0 : Int) ≤ s1545.snd ∧ s1545.snd < (↑b0.Fixtures.length : Int))
  (Let (ix b0.Fixtures s1545.snd) fun (x1548 : Fixture) =>
  Rx.Bind (caromref12_Clone x1548.Shape) fun (r1549 : Shape) =>
  Chk
  ((List.length s1545.fst +
  [{ Shape := r1549, Density := x1548.Density, Friction := x1548.Friction, Restitution := x1548.Restitution, Sensor := x1548.Sensor, Category := x1548.Category, Mask := x1548.Mask, Group := x1548.Group : Fixture }].length) *
  (96 : Nat) ≤
  (140737488355328 : Nat))
  (Let
  (s1545.fst ++
  [{ Shape := r1549, Density := x1548.Density, Friction := x1548.Friction, Restitution := x1548.Restitution, Sensor := x1548.Sensor, Category := x1548.Category, Mask := x1548.Mask, Group := x1548.Group : Fixture }])
  fun (x1550 : List Fixture) =>
  Let (IntKind.i64.wrap (s1545.snd + (1 : Int))) fun (x1551 : Int) => rec1544 (x1550, x1551)))
  else
  some
  { ID := b0.ID, Kind := b0.Kind, Transform := b0.Transform, Velocity := b0.Velocity, AngularVelocity := b0.AngularVelocity, Force := b0.Force, Torque := b0.Torque, LinearDamping := b0.LinearDamping, AngularDamping := b0.AngularDamping, GravityScale := b0.GravityScale, Bullet := b0.Bullet, FixedRotation := b0.FixedRotation, NoSleep := b0.NoSleep, Asleep := b0.Asleep, IdleSteps := b0.IdleSteps, Fixtures := s1545.fst : Body })
  fuel ([], (0 : Int))

noncomputable def caromref16_Clone (m0 : Manifold) : Option Manifold :=
  Chk (m0.Points.length * (48 : Nat) ≤ (140737488355328 : Nat)) (some m0)

noncomputable def caromref25_Clone (w0 : World_) : Option World_ :=
  LOOP
  (fun (rec1552 : Int × World_ → Option World_) (s1553 : Int × World_) =>
  Let (↑w0.Bodies.length : Int) fun (x1554 : Int) =>
  Let (decide (s1553.fst < x1554)) fun (x1555 : Bool) =>
  if x1555 = true then
  Chk ((0 : Int) ≤ s1553.fst ∧ s1553.fst < (↑w0.Bodies.length : Int))
  (Let (ix w0.Bodies s1553.fst) fun (x1556 : Body) =>
  Rx.Bind (caromref23_Clone x1556) fun (r1557 : Body) =>
  Chk ((s1553.snd.Bodies.length + [r1557].length) * (152 : Nat) ≤ (140737488355328 : Nat))
  (Let (s1553.snd.Bodies ++ [r1557]) fun (x1558 : List Body) =>
  Let (IntKind.i64.wrap (s1553.fst + (1 : Int))) fun (x1559 : Int) =>
  rec1552
  (x1559,
  { Settings := s1553.snd.Settings, Bodies := x1558, Joints := s1553.snd.Joints, Contacts := s1553.snd.Contacts, Overlaps := s1553.snd.Overlaps, NextID := s1553.snd.NextID, Frame := s1553.snd.Frame : World_ })))
  else
  Chk (w0.Joints.length * (192 : Nat) ≤ (140737488355328 : Nat))
  (LOOP
  (fun (rec1560 : Int × World_ → Option World_) (s1561 : Int × World_) =>
  Let (↑w0.Contacts.length : Int) fun (x1562 : Int) =>
  Let (decide (s1561.fst < x1562)) fun (x1563 : Bool) =>
  if x1563 = true then
  Chk ((0 : Int) ≤ s1561.fst ∧ s1561.fst < (↑w0.Contacts.length : Int))
  (Let (ix w0.Contacts s1561.fst) fun (x1564 : Contact) =>
  Chk ((0 : Int) ≤ s1561.fst ∧ s1561.fst < (↑w0.Contacts.length : Int))
  (Let (ix w0.Contacts s1561.fst) fun (x1565 : Contact) =>
  Rx.Bind (caromref16_Clone x1565.Manifold) fun (r1566 : Manifold) =>
  Chk
  ((s1561.snd.Contacts.length + [{ Key := x1564.Key, Manifold := r1566 : Contact }].length) * (72 : Nat) ≤
  (140737488355328 : Nat))
  (Let (s1561.snd.Contacts ++ [{ Key := x1564.Key, Manifold := r1566 : Contact }]) fun (x1567 : List Contact) =>
  Let (IntKind.i64.wrap (s1561.fst + (1 : Int))) fun (x1568 : Int) =>
  rec1560
  (x1568,
  { Settings := s1561.snd.Settings, Bodies := s1561.snd.Bodies, Joints := s1561.snd.Joints, Contacts := x1567, Overlaps := s1561.snd.Overlaps, NextID := s1561.snd.NextID, Frame := s1561.snd.Frame : World_ }))))
  else
  Chk (w0.Overlaps.length * (32 : Nat) ≤ (140737488355328 : Nat))
  (some
  { Settings := s1561.snd.Settings, Bodies := s1561.snd.Bodies, Joints := s1561.snd.Joints, Contacts := s1561.snd.Contacts, Overlaps := w0.Overlaps, NextID := s1561.snd.NextID, Frame := s1561.snd.Frame : World_ }))
  fuel
  ((0 : Int),
  { Settings := s1553.snd.Settings, Bodies := s1553.snd.Bodies, Joints := w0.Joints, Contacts := s1553.snd.Contacts, Overlaps := s1553.snd.Overlaps, NextID := s1553.snd.NextID, Frame := s1553.snd.Frame : World_ })))
  fuel
  ((0 : Int),
  { Settings := w0.Settings, Bodies := [], Joints := w0.Joints, Contacts := [], Overlaps := w0.Overlaps, NextID := w0.NextID, Frame := w0.Frame : World_ })

noncomputable def caromref24_Attached (j0 : Joint) (id1 : Int) : Option Bool :=
  Let (id1 != (0 : Int)) fun (x1569 : Bool) =>
  Let (j0.BodyA == id1) fun (x1570 : Bool) =>
  Let (j0.BodyB == id1) fun (x1571 : Bool) =>
  Let (bif x1570 then true else x1571) fun (x1572 : Bool) =>
  Let (bif x1569 then x1572 else false) fun (x1573 : Bool) => some x1573

noncomputable def caromref25_other (k0 : PairKey) (id1 : Int) : Option (Int × Bool) :=
  Let (k0.BodyA == id1) fun (x1574 : Bool) =>
  if x1574 = true then some (k0.BodyB, true) else Let (k0.BodyB == id1) fun (x1575 : Bool) => some (k0.BodyA, x1575)

noncomputable def caromref25_WakeBody (w0 : World_) (id1 : Int) : Option World_ :=
  Rx.Bind (caromref25_Clone w0) fun (r1576 : World_) =>
  Rx.Bind (caromref25_FindBody w0 id1) fun (r1577 : Int) =>
  Join
  (fun (v1578 : List Body) =>
  some
  { Settings := r1576.Settings, Bodies := v1578, Joints := r1576.Joints, Contacts := r1576.Contacts, Overlaps := r1576.Overlaps, NextID := r1576.NextID, Frame := r1576.Frame : World_ })
  fun (j1579 : List Body → Option World_) =>
  Let (decide (r1577 ≥ (0 : Int))) fun (x1580 : Bool) =>
  Chk ((x1580 == true) = true → (0 : Int) ≤ r1577 ∧ r1577 < (↑w0.Bodies.length : Int))
  (Let (ix w0.Bodies r1577) fun (x1581 : Body) =>
  Let (x1581.Kind == (3 : Int)) fun (x1582 : Bool) =>
  Let (bif x1580 then x1582 else false) fun (x1583 : Bool) =>
  if x1583 = true then
  Chk ((0 : Int) ≤ r1577 ∧ r1577 < (↑r1576.Bodies.length : Int))
  (Chk ((0 : Int) ≤ r1577 ∧ r1577 < (↑r1576.Bodies.length : Int))
  (Let
  (r1576.Bodies.set r1577.toNat
  { ID := (ix r1576.Bodies r1577).ID, Kind := (ix r1576.Bodies r1577).Kind, Transform := (ix r1576.Bodies r1577).Transform, Velocity := (ix r1576.Bodies r1577).Velocity, AngularVelocity := (ix r1576.Bodies r1577).AngularVelocity, Force := (ix r1576.Bodies r1577).Force, Torque := (ix r1576.Bodies r1577).Torque, LinearDamping := (ix r1576.Bodies r1577).LinearDamping, AngularDamping := (ix r1576.Bodies r1577).AngularDamping, GravityScale := (ix r1576.Bodies r1577).GravityScale, Bullet := (ix r1576.Bodies r1577).Bullet, FixedRotation := (ix r1576.Bodies r1577).FixedRotation, NoSleep := (ix r1576.Bodies r1577).NoSleep, Asleep := false, IdleSteps := (ix r1576.Bodies r1577).IdleSteps, Fixtures := (ix r1576.Bodies r1577).Fixtures : Body })
  fun (x1584 : List Body) =>
  Chk ((0 : Int) ≤ r1577 ∧ r1577 < (↑x1584.length : Int))
  (Chk ((0 : Int) ≤ r1577 ∧ r1577 < (↑x1584.length : Int))
  (Let
  (x1584.set r1577.toNat
  { ID := (ix x1584 r1577).ID, Kind := (ix x1584 r1577).Kind, Transform := (ix x1584 r1577).Transform, Velocity := (ix x1584 r1577).Velocity, AngularVelocity := (ix x1584 r1577).AngularVelocity, Force := (ix x1584 r1577).Force, Torque := (ix x1584 r1577).Torque, LinearDamping := (ix x1584 r1577).LinearDamping, AngularDamping := (ix x1584 r1577).AngularDamping, GravityScale := (ix x1584 r1577).GravityScale, Bullet := (ix x1584 r1577).Bullet, FixedRotation := (ix x1584 r1577).FixedRotation, NoSleep := (ix x1584 r1577).NoSleep, Asleep := (ix x1584 r1577).Asleep, IdleSteps := (0 : Int), Fixtures := (ix x1584 r1577).Fixtures : Body })
  fun (x1585 : List Body) => j1579 x1585))))
  else j1579 r1576.Bodies)

noncomputable def caromref25_RemoveBody (w0 : World_) (id1 : Int) : Option (World_ × Int) :=
  Rx.Bind (caromref25_FindBody w0 id1) fun (r1586 : Int) =>
  Let (decide (r1586 < (0 : Int))) fun (x1587 : Bool) =>
  if x1587 = true then
  some
  ({ Settings := { TimeStep := (0 : Int), Gravity := { X := (0 : Int), Y := (0 : Int) : Vec }, Iterations := (0 : Int), SleepSteps := (0 : Int) : Settings }, Bodies := [], Joints := [], Contacts := [], Overlaps := [], NextID := (0 : Int), Frame := (0 : Int) : World_ },
  (8 : Int))
  else
  Rx.Bind (caromref25_Clone w0) fun (r1588 : World_) =>
  Chk
  ((0 : Int) ≤ none.getD (0 : Int) ∧
  (0 : Int) ≤ (some r1586).getD (0 : Int) ∧ (0 : Nat) ≤ r1586.toNat ∧ r1586.toNat ≤ r1588.Bodies.length)
  (Let (IntKind.i64.wrap (r1586 + (1 : Int))) fun (x1589 : Int) =>
  Chk
  ((0 : Int) ≤ (some x1589).getD (0 : Int) ∧
  (0 : Int) ≤ none.getD (0 : Int) ∧ x1589.toNat ≤ r1588.Bodies.length ∧ r1588.Bodies.length ≤ r1588.Bodies.length)
  (Chk (x1589.toNat + (r1588.Bodies.length - x1589.toNat) ≤ r1588.Bodies.length)
  (Let (List.take (r1588.Bodies.length - x1589.toNat) (List.drop x1589.toNat r1588.Bodies)) fun (x1590 : List Body) =>
  Chk
  ((0 : Nat) + (r1586.toNat - (0 : Nat) + x1590.length) ≤ r1588.Bodies.length ∧
  r1586.toNat - (0 : Nat) + x1590.length ≤ r1588.Bodies.length - (0 : Nat) ∧ (0 : Nat) < r1588.Bodies.length - (0 : Nat))
  (Let
  (List.take ((0 : Nat) + (r1586.toNat - (0 : Nat))) r1588.Bodies ++ x1590 ++
  List.drop ((0 : Nat) + (r1586.toNat - (0 : Nat)) + x1590.length) r1588.Bodies)
  fun (x1591 : List Body) =>
  Chk (r1586.toNat - (0 : Nat) + x1590.length ≤ x1591.length)
  (Let (List.take (r1586.toNat - (0 : Nat) + x1590.length) x1591) fun (x1592 : List Body) =>
  LOOP
  (fun (rec1593 : List Int × Int × World_ → Option (World_ × Int)) (s1594 : List Int × Int × World_) =>
  Let (↑w0.Joints.length : Int) fun (x1595 : Int) =>
  Let (decide (s1594.snd.fst < x1595)) fun (x1596 : Bool) =>
  if x1596 = true then
  Join
  (fun (v1597 : List Int × World_) =>
  Let (IntKind.i64.wrap (s1594.snd.fst + (1 : Int))) fun (x1598 : Int) => rec1593 (v1597.fst, x1598, v1597.snd))
  fun (j1599 : List Int × World_ → Option (World_ × Int)) =>
  Chk ((0 : Int) ≤ s1594.snd.fst ∧ s1594.snd.fst < (↑w0.Joints.length : Int))
  (Let (ix w0.Joints s1594.snd.fst) fun (x1600 : Joint) =>
  Rx.Bind (caromref24_Attached x1600 id1) fun (r1601 : Bool) =>
  if r1601 = true then
  Chk ((List.length s1594.fst + [x1600.BodyA, x1600.BodyB].length) * (8 : Nat) ≤ (140737488355328 : Nat))
  (Let (s1594.fst ++ [x1600.BodyA, x1600.BodyB]) fun (x1602 : List Int) => j1599 (x1602, s1594.snd.snd))
  else
  Chk ((s1594.snd.snd.Joints.length + [x1600].length) * (192 : Nat) ≤ (140737488355328 : Nat))
  (Let (s1594.snd.snd.Joints ++ [x1600]) fun (x1603 : List Joint) =>
  j1599
  (s1594.fst,
  { Settings := s1594.snd.snd.Settings, Bodies := s1594.snd.snd.Bodies, Joints := x1603, Contacts := s1594.snd.snd.Contacts, Overlaps := s1594.snd.snd.Overlaps, NextID := s1594.snd.snd.NextID, Frame := s1594.snd.snd.Frame : World_ })))
  else
  LOOP
  (fun (rec1604 : List Int × Int × World_ → Option (World_ × Int)) (s1605 : List Int × Int × World_) =>
  Let (↑w0.Contacts.length : Int) fun (x1606 : Int) =>
  Let (decide (s1605.snd.fst < x1606)) fun (x1607 : Bool) =>
  if x1607 = true then
  Join
  (fun (v1608 : List Int × World_) =>
  Let (IntKind.i64.wrap (s1605.snd.fst + (1 : Int))) fun (x1609 : Int) => rec1604 (v1608.fst, x1609, v1608.snd))
  fun (j1610 : List Int × World_ → Option (World_ × Int)) =>
  Chk ((0 : Int) ≤ s1605.snd.fst ∧ s1605.snd.fst < (↑w0.Contacts.length : Int))
  (Let (ix w0.Contacts s1605.snd.fst) fun (x1611 : Contact) =>
  Rx.Bind (caromref25_other x1611.Key id1) fun (r1612 : Int × Bool) =>
  if r1612.snd = true then
  Chk ((List.length s1605.fst + [r1612.fst].length) * (8 : Nat) ≤ (140737488355328 : Nat))
  (Let (s1605.fst ++ [r1612.fst]) fun (x1613 : List Int) => j1610 (x1613, s1605.snd.snd))
  else
  Chk ((0 : Int) ≤ s1605.snd.fst ∧ s1605.snd.fst < (↑w0.Contacts.length : Int))
  (Let (ix w0.Contacts s1605.snd.fst) fun (x1614 : Contact) =>
  Chk ((0 : Int) ≤ s1605.snd.fst ∧ s1605.snd.fst < (↑w0.Contacts.length : Int))
  (Let (ix w0.Contacts s1605.snd.fst) fun (x1615 : Contact) =>
  Rx.Bind (caromref16_Clone x1615.Manifold) fun (r1616 : Manifold) =>
  Chk
  ((s1605.snd.snd.Contacts.length + [{ Key := x1614.Key, Manifold := r1616 : Contact }].length) * (72 : Nat) ≤
  (140737488355328 : Nat))
  (Let (s1605.snd.snd.Contacts ++ [{ Key := x1614.Key, Manifold := r1616 : Contact }]) fun (x1617 : List Contact) =>
  j1610
  (s1605.fst,
  { Settings := s1605.snd.snd.Settings, Bodies := s1605.snd.snd.Bodies, Joints := s1605.snd.snd.Joints, Contacts := x1617, Overlaps := s1605.snd.snd.Overlaps, NextID := s1605.snd.snd.NextID, Frame := s1605.snd.snd.Frame : World_ })))))
  else
  LOOP
  (fun (rec1618 : Int × World_ → Option (World_ × Int)) (s1619 : Int × World_) =>
  Let (↑w0.Overlaps.length : Int) fun (x1620 : Int) =>
  Let (decide (s1619.fst < x1620)) fun (x1621 : Bool) =>
  if x1621 = true then
  Join
  (fun (v1622 : World_) => Let (IntKind.i64.wrap (s1619.fst + (1 : Int))) fun (x1623 : Int) => rec1618 (x1623, v1622))
  fun (j1624 : World_ → Option (World_ × Int)) =>
  Chk ((0 : Int) ≤ s1619.fst ∧ s1619.fst < (↑w0.Overlaps.length : Int))
  (Let (ix w0.Overlaps s1619.fst) fun (x1625 : PairKey) =>
  Rx.Bind (caromref25_other x1625 id1) fun (r1626 : Int × Bool) =>
  Let (!r1626.snd) fun (x1627 : Bool) =>
  if x1627 = true then
  Chk ((0 : Int) ≤ s1619.fst ∧ s1619.fst < (↑w0.Overlaps.length : Int))
  (Let (ix w0.Overlaps s1619.fst) fun (x1628 : PairKey) =>
  Chk ((s1619.snd.Overlaps.length + [x1628].length) * (32 : Nat) ≤ (140737488355328 : Nat))
  (Let (s1619.snd.Overlaps ++ [x1628]) fun (x1629 : List PairKey) =>
  j1624
  { Settings := s1619.snd.Settings, Bodies := s1619.snd.Bodies, Joints := s1619.snd.Joints, Contacts := s1619.snd.Contacts, Overlaps := x1629, NextID := s1619.snd.NextID, Frame := s1619.snd.Frame : World_ }))
  else j1624 s1619.snd)
  else
  LOOP
  (fun (rec1630 : Int × World_ → Option (World_ × Int)) (s1631 : Int × World_) =>
  Let (↑(List.length s1605.fst) : Int) fun (x1632 : Int) =>
  Let (decide (s1631.fst < x1632)) fun (x1633 : Bool) =>
  if x1633 = true then
  Join
  (fun (v1634 : World_) => Let (IntKind.i64.wrap (s1631.fst + (1 : Int))) fun (x1635 : Int) => rec1630 (x1635, v1634))
  fun (j1636 : World_ → Option (World_ × Int)) =>
  Chk ((0 : Int) ≤ s1631.fst ∧ s1631.fst < (↑(List.length s1605.fst) : Int))
  (Chk ((0 : Int) ≤ s1631.fst ∧ s1631.fst < (↑(List.length s1605.fst) : Int))
  (Let (ix s1605.fst s1631.fst) fun (x1637 : Int) =>
  Let (x1637 != id1) fun (x1638 : Bool) =>
  if x1638 = true then
  Chk ((0 : Int) ≤ s1631.fst ∧ s1631.fst < (↑(List.length s1605.fst) : Int))
  (Chk ((0 : Int) ≤ s1631.fst ∧ s1631.fst < (↑(List.length s1605.fst) : Int))
  (Let (ix s1605.fst s1631.fst) fun (x1639 : Int) =>
  Rx.Bind (caromref25_WakeBody s1631.snd x1639) fun (r1640 : World_) => j1636 r1640))
  else j1636 s1631.snd))
  else some (s1631.snd, (0 : Int)))
  fuel ((0 : Int), s1619.snd))
  fuel ((0 : Int), s1605.snd.snd))
  fuel (s1594.fst, (0 : Int), s1594.snd.snd))
  fuel
  ([], (0 : Int),
  { Settings := r1588.Settings, Bodies := x1592, Joints := [], Contacts := [], Overlaps := [], NextID := r1588.NextID, Frame := r1588.Frame : World_ }))))))

noncomputable def caromlaw25_WorldRemoveBody (w0 : World_) (id1 : Int) : Option Bool :=
  Rx.Bind (caromref25_Few w0) fun (r1641 : Bool) =>
  Let (!r1641) fun (x1642 : Bool) =>
  Rx.Bind (if (x1642 == false) = true then caromlaw25_positiveIDs w0 else some default) fun (r1643 : Bool) =>
  Let (!r1643) fun (x1644 : Bool) =>
  Let (bif x1642 then true else x1644) fun (x1645 : Bool) =>
  if x1645 = true then Rx.Bind caromlaw25_example fun (r1646 : Bool) => some r1646
  else
  Rx.Bind (world_RemoveBody w0 id1) fun (r1647 : World_ × Int) =>
  Rx.Bind (caromref25_RemoveBody w0 id1) fun (r1648 : World_ × Int) =>
  Rx.Bind (caromref25_Equal r1647.fst r1648.fst) fun (r1649 : Bool) =>
  Let (r1647.snd == r1648.snd) fun (x1650 : Bool) => Let (bif r1649 then x1650 else false) fun (x1651 : Bool) => none

noncomputable def caromref25_AddBody (w0 : World_) (b1 : Body) : Option (World_ × Int × Int) :=
  Let (↑w0.Bodies.length : Int) fun (x1652 : Int) =>
  Let (decide (x1652 ≥ (32 : Int))) fun (x1653 : Bool) =>
  Let (decide (w0.NextID ≥ (1099511627776 : Int))) fun (x1654 : Bool) =>
  Let (bif x1653 then true else x1654) fun (x1655 : Bool) =>
  if x1655 = true then
  some
  ({ Settings := { TimeStep := (0 : Int), Gravity := { X := (0 : Int), Y := (0 : Int) : Vec }, Iterations := (0 : Int), SleepSteps := (0 : Int) : Settings }, Bodies := [], Joints := [], Contacts := [], Overlaps := [], NextID := (0 : Int), Frame := (0 : Int) : World_ },
  (0 : Int), (9 : Int))
  else
  Rx.Bind
  (caromref23_Validate
  { ID := w0.NextID, Kind := b1.Kind, Transform := b1.Transform, Velocity := b1.Velocity, AngularVelocity := b1.AngularVelocity, Force := b1.Force, Torque := b1.Torque, LinearDamping := b1.LinearDamping, AngularDamping := b1.AngularDamping, GravityScale := b1.GravityScale, Bullet := b1.Bullet, FixedRotation := b1.FixedRotation, NoSleep := b1.NoSleep, Asleep := b1.Asleep, IdleSteps := b1.IdleSteps, Fixtures := b1.Fixtures : Body })
  fun (r1656 : Int) =>
  Let (r1656 != (0 : Int)) fun (x1657 : Bool) =>
  if x1657 = true then
  some
  ({ Settings := { TimeStep := (0 : Int), Gravity := { X := (0 : Int), Y := (0 : Int) : Vec }, Iterations := (0 : Int), SleepSteps := (0 : Int) : Settings }, Bodies := [], Joints := [], Contacts := [], Overlaps := [], NextID := (0 : Int), Frame := (0 : Int) : World_ },
  (0 : Int), (14 : Int))
  else
  Rx.Bind (caromref25_Clone w0) fun (r1658 : World_) =>
  Rx.Bind
  (caromref23_Clone
  { ID := w0.NextID, Kind := b1.Kind, Transform := b1.Transform, Velocity := b1.Velocity, AngularVelocity := b1.AngularVelocity, Force := b1.Force, Torque := b1.Torque, LinearDamping := b1.LinearDamping, AngularDamping := b1.AngularDamping, GravityScale := b1.GravityScale, Bullet := b1.Bullet, FixedRotation := b1.FixedRotation, NoSleep := b1.NoSleep, Asleep := b1.Asleep, IdleSteps := b1.IdleSteps, Fixtures := b1.Fixtures : Body })
  fun (r1659 : Body) =>
  Chk ((r1658.Bodies.length + [r1659].length) * (152 : Nat) ≤ (140737488355328 : Nat))
  (Let (r1658.Bodies ++ [r1659]) fun (x1660 : List Body) =>
  Let (IntKind.i64.wrap (w0.NextID + (1 : Int))) fun (x1661 : Int) =>
  some
  ({ Settings := r1658.Settings, Bodies := x1660, Joints := r1658.Joints, Contacts := r1658.Contacts, Overlaps := r1658.Overlaps, NextID := x1661, Frame := r1658.Frame : World_ },
  w0.NextID, (0 : Int)))

noncomputable def world_FindJoint_1 (j0 : Joint) (p1 : Int) : Option Bool :=
  Let (j0.ID == p1) fun (x1662 : Bool) => some x1662

noncomputable def world_FindJoint (w0 : World_) (id1 : Int) : Option Int :=
  Rx.Bind (slices_IndexFunc_69 w0.Joints fun (a : Tup tb [Ix.tJoint]) => world_FindJoint_1 a id1) fun (r1663 : Int) =>
  some r1663

noncomputable def caromref25_FindJoint (w0 : World_) (id1 : Int) : Option Int :=
  LOOP
  (fun (rec1664 : Int → Option Int) (s1665 : Int) =>
  Let (↑w0.Joints.length : Int) fun (x1666 : Int) =>
  Let (decide (s1665 < x1666)) fun (x1667 : Bool) =>
  if x1667 = true then
  Chk ((0 : Int) ≤ s1665 ∧ s1665 < (↑w0.Joints.length : Int))
  (Let (ix w0.Joints s1665) fun (x1668 : Joint) =>
  Let (x1668.ID == id1) fun (x1669 : Bool) =>
  if x1669 = true then some s1665 else Let (IntKind.i64.wrap (s1665 + (1 : Int))) fun (x1670 : Int) => rec1664 x1670)
  else some (-1 : Int))
  fuel (0 : Int)

noncomputable def caromlaw25_WorldAddBody (w0 : World_) (b1 : Body) (id2 : Int) : Option Bool :=
  Rx.Bind (caromref25_Few w0) fun (r1671 : Bool) =>
  Let (!r1671) fun (x1672 : Bool) =>
  Rx.Bind (if (x1672 == false) = true then caromref22_Few [b1] (1 : Int) else some default) fun (r1673 : Bool) =>
  Let (!r1673) fun (x1674 : Bool) =>
  Let (bif x1672 then true else x1674) fun (x1675 : Bool) =>
  if x1675 = true then Rx.Bind caromlaw25_example fun (r1676 : Bool) => some r1676
  else
  Rx.Bind (world_AddBody w0 b1) fun (r1677 : World_ × Int × Int) =>
  Rx.Bind (caromref25_AddBody w0 b1) fun (r1678 : World_ × Int × Int) =>
  Rx.Bind (caromref25_Equal r1677.fst r1678.fst) fun (r1679 : Bool) =>
  Let (r1677.snd.fst == r1678.snd.fst) fun (x1680 : Bool) =>
  Let (bif r1679 then x1680 else false) fun (x1681 : Bool) =>
  Let (r1677.snd.snd == r1678.snd.snd) fun (x1682 : Bool) =>
  Let (bif x1681 then x1682 else false) fun (x1683 : Bool) =>
  Rx.Bind (if (x1683 == true) = true then world_FindBody w0 id2 else some default) fun (r1684 : Int) =>
  Rx.Bind (if (x1683 == true) = true then caromref25_FindBody w0 id2 else some default) fun (r1685 : Int) =>
  Let (r1684 == r1685) fun (x1686 : Bool) =>
  Let (bif x1683 then x1686 else false) fun (x1687 : Bool) =>
  Rx.Bind (if (x1687 == true) = true then world_FindJoint w0 id2 else some default) fun (r1688 : Int) =>
  Rx.Bind (if (x1687 == true) = true then caromref25_FindJoint w0 id2 else some default) fun (r1689 : Int) =>
  Let (r1688 == r1689) fun (x1690 : Bool) =>
  Let (bif x1687 then x1690 else false) fun (x1691 : Bool) =>
  Rx.Bind (if (x1691 == true) = true then caromlaw25_example else some default) fun (r1692 : Bool) =>
  Let (bif x1691 then r1692 else false) fun (x1693 : Bool) => some x1693

noncomputable def joint_ResetImpulses (j0 : Joint) : Option Joint :=
  Let
  (decide (j0.Impulses.fst = (0 : Int)) &&
  (decide (j0.Impulses.snd.fst = (0 : Int)) &&
  (decide (j0.Impulses.snd.snd.fst = (0 : Int)) && decide (j0.Impulses.snd.snd.snd = (0 : Int)))))
  fun (x1694 : Bool) =>
  if x1694 = true then some j0
  else
  some
  { ID := j0.ID, Kind := j0.Kind, BodyA := j0.BodyA, BodyB := j0.BodyB, AnchorA := j0.AnchorA, AnchorB := j0.AnchorB, Axis := j0.Axis, ReferenceAngle := j0.ReferenceAngle, EnableLimit := j0.EnableLimit, Lower := j0.Lower, Upper := j0.Upper, EnableMotor := j0.EnableMotor, MotorSpeed := j0.MotorSpeed, MaxForce := j0.MaxForce, Softness := j0.Softness, BreakForce := j0.BreakForce, CollideConnected := j0.CollideConnected, Impulses := ((0 : Int), (0 : Int), (0 : Int), (0 : Int)) : Joint }

noncomputable def world_AddJoint (w0 : World_) (j1 : Joint) : Option (World_ × Int × Int) :=
  Let (↑w0.Joints.length : Int) fun (x1695 : Int) =>
  Let (decide (x1695 ≥ (32 : Int))) fun (x1696 : Bool) =>
  Let (decide (w0.NextID ≥ (1099511627776 : Int))) fun (x1697 : Bool) =>
  Let (bif x1696 then true else x1697) fun (x1698 : Bool) =>
  if x1698 = true then
  some
  ({ Settings := { TimeStep := (0 : Int), Gravity := { X := (0 : Int), Y := (0 : Int) : Vec }, Iterations := (0 : Int), SleepSteps := (0 : Int) : Settings }, Bodies := [], Joints := [], Contacts := [], Overlaps := [], NextID := (0 : Int), Frame := (0 : Int) : World_ },
  (0 : Int), (9 : Int))
  else
  Rx.Bind (joint_ResetImpulses j1) fun (r1699 : Joint) =>
  Rx.Bind
  (joint_Validate
  { ID := w0.NextID, Kind := r1699.Kind, BodyA := r1699.BodyA, BodyB := r1699.BodyB, AnchorA := r1699.AnchorA, AnchorB := r1699.AnchorB, Axis := r1699.Axis, ReferenceAngle := r1699.ReferenceAngle, EnableLimit := r1699.EnableLimit, Lower := r1699.Lower, Upper := r1699.Upper, EnableMotor := r1699.EnableMotor, MotorSpeed := r1699.MotorSpeed, MaxForce := r1699.MaxForce, Softness := r1699.Softness, BreakForce := r1699.BreakForce, CollideConnected := r1699.CollideConnected, Impulses := r1699.Impulses : Joint })
  fun (r1700 : Int) =>
  Let (r1700 != (0 : Int)) fun (x1701 : Bool) =>
  Rx.Bind
  (if (x1701 == false) = true then
  world_bodiesExist w0
  { ID := w0.NextID, Kind := r1699.Kind, BodyA := r1699.BodyA, BodyB := r1699.BodyB, AnchorA := r1699.AnchorA, AnchorB := r1699.AnchorB, Axis := r1699.Axis, ReferenceAngle := r1699.ReferenceAngle, EnableLimit := r1699.EnableLimit, Lower := r1699.Lower, Upper := r1699.Upper, EnableMotor := r1699.EnableMotor, MotorSpeed := r1699.MotorSpeed, MaxForce := r1699.MaxForce, Softness := r1699.Softness, BreakForce := r1699.BreakForce, CollideConnected := r1699.CollideConnected, Impulses := r1699.Impulses : Joint }
  else some default)
  fun (r1702 : Bool) =>
  Let (!r1702) fun (x1703 : Bool) =>
  Let (bif x1701 then true else x1703) fun (x1704 : Bool) =>
  if x1704 = true then
  some
  ({ Settings := { TimeStep := (0 : Int), Gravity := { X := (0 : Int), Y := (0 : Int) : Vec }, Iterations := (0 : Int), SleepSteps := (0 : Int) : Settings }, Bodies := [], Joints := [], Contacts := [], Overlaps := [], NextID := (0 : Int), Frame := (0 : Int) : World_ },
  (0 : Int), (15 : Int))
  else
  Rx.Bind (world_Clone w0) fun (r1705 : World_) =>
  Chk
  ((r1705.Joints.length +
  [{ ID := w0.NextID, Kind := r1699.Kind, BodyA := r1699.BodyA, BodyB := r1699.BodyB, AnchorA := r1699.AnchorA, AnchorB := r1699.AnchorB, Axis := r1699.Axis, ReferenceAngle := r1699.ReferenceAngle, EnableLimit := r1699.EnableLimit, Lower := r1699.Lower, Upper := r1699.Upper, EnableMotor := r1699.EnableMotor, MotorSpeed := r1699.MotorSpeed, MaxForce := r1699.MaxForce, Softness := r1699.Softness, BreakForce := r1699.BreakForce, CollideConnected := r1699.CollideConnected, Impulses := r1699.Impulses : Joint }].length) *
  (192 : Nat) ≤
  (140737488355328 : Nat))
  (Let
  (r1705.Joints ++
  [{ ID := w0.NextID, Kind := r1699.Kind, BodyA := r1699.BodyA, BodyB := r1699.BodyB, AnchorA := r1699.AnchorA, AnchorB := r1699.AnchorB, Axis := r1699.Axis, ReferenceAngle := r1699.ReferenceAngle, EnableLimit := r1699.EnableLimit, Lower := r1699.Lower, Upper := r1699.Upper, EnableMotor := r1699.EnableMotor, MotorSpeed := r1699.MotorSpeed, MaxForce := r1699.MaxForce, Softness := r1699.Softness, BreakForce := r1699.BreakForce, CollideConnected := r1699.CollideConnected, Impulses := r1699.Impulses : Joint }])
  fun (x1706 : List Joint) => Let (IntKind.i64.wrap (r1705.NextID + (1 : Int))) fun (x1707 : Int) => none)

noncomputable def caromref25_AddJoint (w0 : World_) (j1 : Joint) : Option (World_ × Int × Int) :=
  Let (↑w0.Joints.length : Int) fun (x1708 : Int) =>
  Let (decide (x1708 ≥ (32 : Int))) fun (x1709 : Bool) =>
  Let (decide (w0.NextID ≥ (1099511627776 : Int))) fun (x1710 : Bool) =>
  Let (bif x1709 then true else x1710) fun (x1711 : Bool) =>
  if x1711 = true then
  some
  ({ Settings := { TimeStep := (0 : Int), Gravity := { X := (0 : Int), Y := (0 : Int) : Vec }, Iterations := (0 : Int), SleepSteps := (0 : Int) : Settings }, Bodies := [], Joints := [], Contacts := [], Overlaps := [], NextID := (0 : Int), Frame := (0 : Int) : World_ },
  (0 : Int), (9 : Int))
  else
  Rx.Bind
  (caromref24_Validate
  { ID := w0.NextID, Kind := j1.Kind, BodyA := j1.BodyA, BodyB := j1.BodyB, AnchorA := j1.AnchorA, AnchorB := j1.AnchorB, Axis := j1.Axis, ReferenceAngle := j1.ReferenceAngle, EnableLimit := j1.EnableLimit, Lower := j1.Lower, Upper := j1.Upper, EnableMotor := j1.EnableMotor, MotorSpeed := j1.MotorSpeed, MaxForce := j1.MaxForce, Softness := j1.Softness, BreakForce := j1.BreakForce, CollideConnected := j1.CollideConnected, Impulses := ((0 : Int), (0 : Int), (0 : Int), (0 : Int)) : Joint })
  fun (r1712 : Int) =>
  Let (r1712 != (0 : Int)) fun (x1713 : Bool) =>
  Rx.Bind
  (if (x1713 == false) = true then
  caromref25_connected w0
  { ID := w0.NextID, Kind := j1.Kind, BodyA := j1.BodyA, BodyB := j1.BodyB, AnchorA := j1.AnchorA, AnchorB := j1.AnchorB, Axis := j1.Axis, ReferenceAngle := j1.ReferenceAngle, EnableLimit := j1.EnableLimit, Lower := j1.Lower, Upper := j1.Upper, EnableMotor := j1.EnableMotor, MotorSpeed := j1.MotorSpeed, MaxForce := j1.MaxForce, Softness := j1.Softness, BreakForce := j1.BreakForce, CollideConnected := j1.CollideConnected, Impulses := ((0 : Int), (0 : Int), (0 : Int), (0 : Int)) : Joint }
  else some default)
  fun (r1714 : Bool) =>
  Let (!r1714) fun (x1715 : Bool) =>
  Let (bif x1713 then true else x1715) fun (x1716 : Bool) =>
  if x1716 = true then
  some
  ({ Settings := { TimeStep := (0 : Int), Gravity := { X := (0 : Int), Y := (0 : Int) : Vec }, Iterations := (0 : Int), SleepSteps := (0 : Int) : Settings }, Bodies := [], Joints := [], Contacts := [], Overlaps := [], NextID := (0 : Int), Frame := (0 : Int) : World_ },
  (0 : Int), (15 : Int))
  else
  Rx.Bind (caromref25_Clone w0) fun (r1717 : World_) =>
  Chk
  ((r1717.Joints.length +
  [{ ID := w0.NextID, Kind := j1.Kind, BodyA := j1.BodyA, BodyB := j1.BodyB, AnchorA := j1.AnchorA, AnchorB := j1.AnchorB, Axis := j1.Axis, ReferenceAngle := j1.ReferenceAngle, EnableLimit := j1.EnableLimit, Lower := j1.Lower, Upper := j1.Upper, EnableMotor := j1.EnableMotor, MotorSpeed := j1.MotorSpeed, MaxForce := j1.MaxForce, Softness := j1.Softness, BreakForce := j1.BreakForce, CollideConnected := j1.CollideConnected, Impulses := ((0 : Int), (0 : Int), (0 : Int), (0 : Int)) : Joint }].length) *
  (192 : Nat) ≤
  (140737488355328 : Nat))
  (Let
  (r1717.Joints ++
  [{ ID := w0.NextID, Kind := j1.Kind, BodyA := j1.BodyA, BodyB := j1.BodyB, AnchorA := j1.AnchorA, AnchorB := j1.AnchorB, Axis := j1.Axis, ReferenceAngle := j1.ReferenceAngle, EnableLimit := j1.EnableLimit, Lower := j1.Lower, Upper := j1.Upper, EnableMotor := j1.EnableMotor, MotorSpeed := j1.MotorSpeed, MaxForce := j1.MaxForce, Softness := j1.Softness, BreakForce := j1.BreakForce, CollideConnected := j1.CollideConnected, Impulses := ((0 : Int), (0 : Int), (0 : Int), (0 : Int)) : Joint }])
  fun (x1718 : List Joint) => Let (IntKind.i64.wrap (w0.NextID + (1 : Int))) fun (x1719 : Int) => none)

noncomputable def world_RemoveJoint (w0 : World_) (id1 : Int) : Option (World_ × Int) :=
  Rx.Bind (world_FindJoint w0 id1) fun (r1720 : Int) =>
  Let (decide (r1720 < (0 : Int))) fun (x1721 : Bool) =>
  if x1721 = true then
  some
  ({ Settings := { TimeStep := (0 : Int), Gravity := { X := (0 : Int), Y := (0 : Int) : Vec }, Iterations := (0 : Int), SleepSteps := (0 : Int) : Settings }, Bodies := [], Joints := [], Contacts := [], Overlaps := [], NextID := (0 : Int), Frame := (0 : Int) : World_ },
  (8 : Int))
  else
  Rx.Bind (world_Clone w0) fun (r1722 : World_) =>
  Chk ((0 : Int) ≤ r1720 ∧ r1720 < (↑r1722.Joints.length : Int))
  (Chk ((0 : Int) ≤ r1720 ∧ r1720 < (↑r1722.Joints.length : Int))
  (Let (ix r1722.Joints r1720) fun (x1723 : Joint) =>
  Let (IntKind.i64.wrap (r1720 + (1 : Int))) fun (x1724 : Int) =>
  Let (↑r1722.Joints.length : Int) fun (x1725 : Int) => none))

noncomputable def caromref25_RemoveJoint (w0 : World_) (id1 : Int) : Option (World_ × Int) :=
  Rx.Bind (caromref25_FindJoint w0 id1) fun (r1726 : Int) =>
  Let (decide (r1726 < (0 : Int))) fun (x1727 : Bool) =>
  if x1727 = true then
  some
  ({ Settings := { TimeStep := (0 : Int), Gravity := { X := (0 : Int), Y := (0 : Int) : Vec }, Iterations := (0 : Int), SleepSteps := (0 : Int) : Settings }, Bodies := [], Joints := [], Contacts := [], Overlaps := [], NextID := (0 : Int), Frame := (0 : Int) : World_ },
  (8 : Int))
  else
  Rx.Bind (caromref25_Clone w0) fun (r1728 : World_) =>
  Chk
  ((0 : Int) ≤ none.getD (0 : Int) ∧
  (0 : Int) ≤ (some r1726).getD (0 : Int) ∧ (0 : Nat) ≤ r1726.toNat ∧ r1726.toNat ≤ r1728.Joints.length)
  (Let (IntKind.i64.wrap (r1726 + (1 : Int))) fun (x1729 : Int) =>
  Chk
  ((0 : Int) ≤ (some x1729).getD (0 : Int) ∧
  (0 : Int) ≤ none.getD (0 : Int) ∧ x1729.toNat ≤ r1728.Joints.length ∧ r1728.Joints.length ≤ r1728.Joints.length)
  (Chk (x1729.toNat + (r1728.Joints.length - x1729.toNat) ≤ r1728.Joints.length)
  (Let (List.take (r1728.Joints.length - x1729.toNat) (List.drop x1729.toNat r1728.Joints)) fun (x1730 : List Joint) =>
  Chk
  ((0 : Nat) + (r1726.toNat - (0 : Nat) + x1730.length) ≤ r1728.Joints.length ∧
  r1726.toNat - (0 : Nat) + x1730.length ≤ r1728.Joints.length - (0 : Nat) ∧ (0 : Nat) < r1728.Joints.length - (0 : Nat))
  (Let
  (List.take ((0 : Nat) + (r1726.toNat - (0 : Nat))) r1728.Joints ++ x1730 ++
  List.drop ((0 : Nat) + (r1726.toNat - (0 : Nat)) + x1730.length) r1728.Joints)
  fun (x1731 : List Joint) =>
  Chk (r1726.toNat - (0 : Nat) + x1730.length ≤ x1731.length)
  (Let (List.take (r1726.toNat - (0 : Nat) + x1730.length) x1731) fun (x1732 : List Joint) =>
  Chk ((0 : Int) ≤ r1726 ∧ r1726 < (↑w0.Joints.length : Int)) (Let (ix w0.Joints r1726) fun (x1733 : Joint) => none))))))

noncomputable def caromlaw25_WorldJoints (w0 : World_) (j1 : Joint) (id2 : Int) : Option Bool :=
  Rx.Bind (caromref25_Few w0) fun (r1734 : Bool) =>
  Let (!r1734) fun (x1735 : Bool) =>
  Rx.Bind (if (x1735 == false) = true then caromlaw25_positiveIDs w0 else some default) fun (r1736 : Bool) =>
  Let (!r1736) fun (x1737 : Bool) =>
  Let (bif x1735 then true else x1737) fun (x1738 : Bool) =>
  if x1738 = true then Rx.Bind caromlaw25_example fun (r1739 : Bool) => some r1739
  else
  Rx.Bind (world_AddJoint w0 j1) fun (r1740 : World_ × Int × Int) =>
  Rx.Bind (caromref25_AddJoint w0 j1) fun (r1741 : World_ × Int × Int) =>
  Rx.Bind (caromref25_Equal r1740.fst r1741.fst) fun (r1742 : Bool) =>
  Let (!r1742) fun (x1743 : Bool) =>
  Let (r1740.snd.fst != r1741.snd.fst) fun (x1744 : Bool) =>
  Let (bif x1743 then true else x1744) fun (x1745 : Bool) =>
  Let (r1740.snd.snd != r1741.snd.snd) fun (x1746 : Bool) =>
  Let (bif x1745 then true else x1746) fun (x1747 : Bool) =>
  if x1747 = true then some false
  else
  Rx.Bind (world_RemoveJoint w0 id2) fun (r1748 : World_ × Int) =>
  Rx.Bind (caromref25_RemoveJoint w0 id2) fun (r1749 : World_ × Int) =>
  Rx.Bind (caromref25_Equal r1748.fst r1749.fst) fun (r1750 : Bool) =>
  Let (r1748.snd == r1749.snd) fun (x1751 : Bool) =>
  Let (bif r1750 then x1751 else false) fun (x1752 : Bool) =>
  Rx.Bind (if (x1752 == true) = true then caromlaw25_example else some default) fun (r1753 : Bool) =>
  Let (bif x1752 then r1753 else false) fun (x1754 : Bool) => some x1754

noncomputable def slices_Equal_116 (s10 : (List ContactPoint)) (s21 : (List ContactPoint)) : Option Bool :=
  Let (↑s10.length : Int) fun (x1755 : Int) =>
  Let (↑s21.length : Int) fun (x1756 : Int) =>
  Let (x1755 != x1756) fun (x1757 : Bool) =>
  if x1757 = true then some false
  else
  Let (↑s10.length : Int) fun (x1758 : Int) =>
  LOOP
  (fun (rec1759 : Int → Option Bool) (s1760 : Int) =>
  Let (decide (s1760 < x1758)) fun (x1761 : Bool) =>
  if x1761 = true then
  Chk ((0 : Int) ≤ s1760 ∧ s1760 < (↑s10.length : Int))
  (Let (ix s10 s1760) fun (x1762 : ContactPoint) =>
  Chk ((0 : Int) ≤ s1760 ∧ s1760 < (↑s21.length : Int))
  (Let (ix s21 s1760) fun (x1763 : ContactPoint) =>
  Let
  (!(decide (x1762.Point.X = x1763.Point.X) && decide (x1762.Point.Y = x1763.Point.Y) &&
  (decide (x1762.Separation = x1763.Separation) &&
  (decide (x1762.ID = x1763.ID) &&
  (decide (x1762.NormalImpulse = x1763.NormalImpulse) && decide (x1762.TangentImpulse = x1763.TangentImpulse))))))
  fun (x1764 : Bool) =>
  if x1764 = true then some false else Let (IntKind.i64.wrap (s1760 + (1 : Int))) fun (x1765 : Int) => rec1759 x1765))
  else some true)
  fuel (0 : Int)

noncomputable def manifold_Equal (a0 : Manifold) (b1 : Manifold) : Option Bool :=
  Let (decide (a0.Normal.X = b1.Normal.X) && decide (a0.Normal.Y = b1.Normal.Y)) fun (x1766 : Bool) =>
  Rx.Bind (if (x1766 == true) = true then slices_Equal_116 a0.Points b1.Points else some default) fun (r1767 : Bool) =>
  Let (bif x1766 then r1767 else false) fun (x1768 : Bool) => some x1768

noncomputable def world_Equal_1 (x0 : Contact) (y1 : Contact) : Option Bool :=
  Let
  (decide (x0.Key.BodyA = y1.Key.BodyA) &&
  (decide (x0.Key.FixtureA = y1.Key.FixtureA) &&
  (decide (x0.Key.BodyB = y1.Key.BodyB) && decide (x0.Key.FixtureB = y1.Key.FixtureB))))
  fun (x1769 : Bool) =>
  Rx.Bind (if (x1769 == true) = true then manifold_Equal x0.Manifold y1.Manifold else some default) fun (r1770 : Bool) =>
  Let (bif x1769 then r1770 else false) fun (x1771 : Bool) => some x1771

noncomputable def slices_EqualFunc (s10 : (List Body)) (s21 : (List Body)) (eq2 : ((Body × Body) → Option Bool)) : Option Bool :=
  Let (↑s10.length : Int) fun (x1772 : Int) =>
  Let (↑s21.length : Int) fun (x1773 : Int) =>
  Let (x1772 != x1773) fun (x1774 : Bool) =>
  if x1774 = true then some false
  else
  Let (↑s10.length : Int) fun (x1775 : Int) =>
  LOOP
  (fun (rec1776 : Int → Option Bool) (s1777 : Int) =>
  Let (decide (s1777 < x1775)) fun (x1778 : Bool) =>
  if x1778 = true then
  Chk ((0 : Int) ≤ s1777 ∧ s1777 < (↑s10.length : Int))
  (Let (ix s10 s1777) fun (x1779 : Body) =>
  Chk ((0 : Int) ≤ s1777 ∧ s1777 < (↑s21.length : Int))
  (Let (ix s21 s1777) fun (x1780 : Body) =>
  Rx.Bind (eq2 (x1779, x1780)) fun (r1781 : Bool) =>
  Let (!r1781) fun (x1782 : Bool) =>
  if x1782 = true then some false else Let (IntKind.i64.wrap (s1777 + (1 : Int))) fun (x1783 : Int) => rec1776 x1783))
  else some true)
  fuel (0 : Int)

noncomputable def slices_Equal_171 (s10 : (List Vec)) (s21 : (List Vec)) : Option Bool :=
  Let (↑s10.length : Int) fun (x1784 : Int) =>
  Let (↑s21.length : Int) fun (x1785 : Int) =>
  Let (x1784 != x1785) fun (x1786 : Bool) =>
  if x1786 = true then some false
  else
  Let (↑s10.length : Int) fun (x1787 : Int) =>
  LOOP
  (fun (rec1788 : Int → Option Bool) (s1789 : Int) =>
  Let (decide (s1789 < x1787)) fun (x1790 : Bool) =>
  if x1790 = true then
  Chk ((0 : Int) ≤ s1789 ∧ s1789 < (↑s10.length : Int))
  (Let (ix s10 s1789) fun (x1791 : Vec) =>
  Chk ((0 : Int) ≤ s1789 ∧ s1789 < (↑s21.length : Int))
  (Let (ix s21 s1789) fun (x1792 : Vec) =>
  Let (!(decide (x1791.X = x1792.X) && decide (x1791.Y = x1792.Y))) fun (x1793 : Bool) =>
  if x1793 = true then some false else Let (IntKind.i64.wrap (s1789 + (1 : Int))) fun (x1794 : Int) => rec1788 x1794))
  else some true)
  fuel (0 : Int)

noncomputable def shape_Equal (a0 : Shape) (b1 : Shape) : Option Bool :=
  Let (a0.Kind == b1.Kind) fun (x1795 : Bool) =>
  Let (a0.Radius == b1.Radius) fun (x1796 : Bool) =>
  Let (bif x1795 then x1796 else false) fun (x1797 : Bool) =>
  Rx.Bind (if (x1797 == true) = true then slices_Equal_171 a0.Vertices b1.Vertices else some default)
  fun (r1798 : Bool) => Let (bif x1797 then r1798 else false) fun (x1799 : Bool) => some x1799

noncomputable def body_equalFixtures (a0 : Fixture) (b1 : Fixture) : Option Bool :=
  Let (a0.Density == b1.Density) fun (x1800 : Bool) =>
  Let (a0.Friction == b1.Friction) fun (x1801 : Bool) =>
  Let (bif x1800 then x1801 else false) fun (x1802 : Bool) =>
  Let (a0.Restitution == b1.Restitution) fun (x1803 : Bool) =>
  Let (bif x1802 then x1803 else false) fun (x1804 : Bool) =>
  Let (a0.Sensor == b1.Sensor) fun (x1805 : Bool) =>
  Let (a0.Category == b1.Category) fun (x1806 : Bool) =>
  Let (bif x1805 then x1806 else false) fun (x1807 : Bool) =>
  Let (a0.Mask == b1.Mask) fun (x1808 : Bool) =>
  Let (bif x1807 then x1808 else false) fun (x1809 : Bool) =>
  Let (a0.Group == b1.Group) fun (x1810 : Bool) =>
  Let (bif x1809 then x1810 else false) fun (x1811 : Bool) =>
  Rx.Bind (shape_Equal a0.Shape b1.Shape) fun (r1812 : Bool) =>
  Let (bif r1812 then x1804 else false) fun (x1813 : Bool) =>
  Let (bif x1813 then x1811 else false) fun (x1814 : Bool) => some x1814

noncomputable def body_Equal (a0 : Body) (b1 : Body) : Option Bool :=
  Let (↑a0.Fixtures.length : Int) fun (x1815 : Int) =>
  Let (↑b1.Fixtures.length : Int) fun (x1816 : Int) =>
  Let (x1815 != x1816) fun (x1817 : Bool) =>
  if x1817 = true then some false
  else
  Let (↑a0.Fixtures.length : Int) fun (x1818 : Int) =>
  LOOP
  (fun (rec1819 : Int → Option Bool) (s1820 : Int) =>
  Let (decide (s1820 < x1818)) fun (x1821 : Bool) =>
  if x1821 = true then
  Chk ((0 : Int) ≤ s1820 ∧ s1820 < (↑a0.Fixtures.length : Int))
  (Let (ix a0.Fixtures s1820) fun (x1822 : Fixture) =>
  Chk ((0 : Int) ≤ s1820 ∧ s1820 < (↑b1.Fixtures.length : Int))
  (Let (ix b1.Fixtures s1820) fun (x1823 : Fixture) =>
  Rx.Bind (body_equalFixtures x1822 x1823) fun (r1824 : Bool) =>
  Let (!r1824) fun (x1825 : Bool) =>
  if x1825 = true then some false else Let (IntKind.i64.wrap (s1820 + (1 : Int))) fun (x1826 : Int) => rec1819 x1826))
  else
  Let (a0.ID == b1.ID) fun (x1827 : Bool) =>
  Let (a0.Kind == b1.Kind) fun (x1828 : Bool) =>
  Let (bif x1827 then x1828 else false) fun (x1829 : Bool) =>
  Let
  (decide (a0.Transform.Position.X = b1.Transform.Position.X) &&
  decide (a0.Transform.Position.Y = b1.Transform.Position.Y) &&
  decide (a0.Transform.Angle = b1.Transform.Angle))
  fun (x1830 : Bool) =>
  Let (bif x1829 then x1830 else false) fun (x1831 : Bool) =>
  Let (decide (a0.Velocity.X = b1.Velocity.X) && decide (a0.Velocity.Y = b1.Velocity.Y)) fun (x1832 : Bool) =>
  Let (a0.AngularVelocity == b1.AngularVelocity) fun (x1833 : Bool) =>
  Let (bif x1832 then x1833 else false) fun (x1834 : Bool) =>
  Let (decide (a0.Force.X = b1.Force.X) && decide (a0.Force.Y = b1.Force.Y)) fun (x1835 : Bool) =>
  Let (a0.Torque == b1.Torque) fun (x1836 : Bool) =>
  Let (bif x1835 then x1836 else false) fun (x1837 : Bool) =>
  Let (a0.LinearDamping == b1.LinearDamping) fun (x1838 : Bool) =>
  Let (a0.AngularDamping == b1.AngularDamping) fun (x1839 : Bool) =>
  Let (bif x1838 then x1839 else false) fun (x1840 : Bool) =>
  Let (a0.GravityScale == b1.GravityScale) fun (x1841 : Bool) =>
  Let (bif x1840 then x1841 else false) fun (x1842 : Bool) =>
  Let (a0.Bullet == b1.Bullet) fun (x1843 : Bool) =>
  Let (a0.FixedRotation == b1.FixedRotation) fun (x1844 : Bool) =>
  Let (bif x1843 then x1844 else false) fun (x1845 : Bool) =>
  Let (a0.NoSleep == b1.NoSleep) fun (x1846 : Bool) =>
  Let (bif x1845 then x1846 else false) fun (x1847 : Bool) =>
  Let (a0.Asleep == b1.Asleep) fun (x1848 : Bool) =>
  Let (a0.IdleSteps == b1.IdleSteps) fun (x1849 : Bool) =>
  Let (bif x1848 then x1849 else false) fun (x1850 : Bool) =>
  Let (bif x1831 then x1834 else false) fun (x1851 : Bool) =>
  Let (bif x1851 then x1837 else false) fun (x1852 : Bool) =>
  Let (bif x1852 then x1842 else false) fun (x1853 : Bool) =>
  Let (bif x1853 then x1847 else false) fun (x1854 : Bool) =>
  Let (bif x1854 then x1850 else false) fun (x1855 : Bool) => some x1855)
  fuel (0 : Int)

noncomputable def slices_Equal (s10 : (List Joint)) (s21 : (List Joint)) : Option Bool :=
  Let (↑s10.length : Int) fun (x1856 : Int) =>
  Let (↑s21.length : Int) fun (x1857 : Int) =>
  Let (x1856 != x1857) fun (x1858 : Bool) =>
  if x1858 = true then some false
  else
  Let (↑s10.length : Int) fun (x1859 : Int) =>
  LOOP
  (fun (rec1860 : Int → Option Bool) (s1861 : Int) =>
  Let (decide (s1861 < x1859)) fun (x1862 : Bool) =>
  if x1862 = true then
  Chk ((0 : Int) ≤ s1861 ∧ s1861 < (↑s10.length : Int))
  (Let (ix s10 s1861) fun (x1863 : Joint) =>
  Chk ((0 : Int) ≤ s1861 ∧ s1861 < (↑s21.length : Int))
  (Let (ix s21 s1861) fun (x1864 : Joint) =>
  Let
  (!(decide (x1863.ID = x1864.ID) &&
  (decide (x1863.Kind = x1864.Kind) &&
  (decide (x1863.BodyA = x1864.BodyA) &&
  (decide (x1863.BodyB = x1864.BodyB) &&
  (decide (x1863.AnchorA.X = x1864.AnchorA.X) && decide (x1863.AnchorA.Y = x1864.AnchorA.Y) &&
  (decide (x1863.AnchorB.X = x1864.AnchorB.X) && decide (x1863.AnchorB.Y = x1864.AnchorB.Y) &&
  (decide (x1863.Axis.X = x1864.Axis.X) && decide (x1863.Axis.Y = x1864.Axis.Y) &&
  (decide (x1863.ReferenceAngle = x1864.ReferenceAngle) &&
  (decide (x1863.EnableLimit = x1864.EnableLimit) &&
  (decide (x1863.Lower = x1864.Lower) &&
  (decide (x1863.Upper = x1864.Upper) &&
  (decide (x1863.EnableMotor = x1864.EnableMotor) &&
  (decide (x1863.MotorSpeed = x1864.MotorSpeed) &&
  (decide (x1863.MaxForce = x1864.MaxForce) &&
  (decide (x1863.Softness = x1864.Softness) &&
  (decide (x1863.BreakForce = x1864.BreakForce) &&
  (decide (x1863.CollideConnected = x1864.CollideConnected) &&
  (decide (x1863.Impulses.fst = x1864.Impulses.fst) &&
  (decide (x1863.Impulses.snd.fst = x1864.Impulses.snd.fst) &&
  (decide (x1863.Impulses.snd.snd.fst = x1864.Impulses.snd.snd.fst) &&
  decide (x1863.Impulses.snd.snd.snd = x1864.Impulses.snd.snd.snd))))))))))))))))))))))
  fun (x1865 : Bool) =>
  if x1865 = true then some false else Let (IntKind.i64.wrap (s1861 + (1 : Int))) fun (x1866 : Int) => rec1860 x1866))
  else some true)
  fuel (0 : Int)

noncomputable def slices_EqualFunc_87 (s10 : (List Contact)) (s21 : (List Contact)) (eq2 : ((Contact × Contact) → Option Bool)) : Option Bool :=
  Let (↑s10.length : Int) fun (x1867 : Int) =>
  Let (↑s21.length : Int) fun (x1868 : Int) =>
  Let (x1867 != x1868) fun (x1869 : Bool) =>
  if x1869 = true then some false
  else
  Let (↑s10.length : Int) fun (x1870 : Int) =>
  LOOP
  (fun (rec1871 : Int → Option Bool) (s1872 : Int) =>
  Let (decide (s1872 < x1870)) fun (x1873 : Bool) =>
  if x1873 = true then
  Chk ((0 : Int) ≤ s1872 ∧ s1872 < (↑s10.length : Int))
  (Let (ix s10 s1872) fun (x1874 : Contact) =>
  Chk ((0 : Int) ≤ s1872 ∧ s1872 < (↑s21.length : Int))
  (Let (ix s21 s1872) fun (x1875 : Contact) =>
  Rx.Bind (eq2 (x1874, x1875)) fun (r1876 : Bool) =>
  Let (!r1876) fun (x1877 : Bool) =>
  if x1877 = true then some false else Let (IntKind.i64.wrap (s1872 + (1 : Int))) fun (x1878 : Int) => rec1871 x1878))
  else some true)
  fuel (0 : Int)

noncomputable def slices_Equal_88 (s10 : (List PairKey)) (s21 : (List PairKey)) : Option Bool :=
  Let (↑s10.length : Int) fun (x1879 : Int) =>
  Let (↑s21.length : Int) fun (x1880 : Int) =>
  Let (x1879 != x1880) fun (x1881 : Bool) =>
  if x1881 = true then some false
  else
  Let (↑s10.length : Int) fun (x1882 : Int) =>
  LOOP
  (fun (rec1883 : Int → Option Bool) (s1884 : Int) =>
  Let (decide (s1884 < x1882)) fun (x1885 : Bool) =>
  if x1885 = true then
  Chk ((0 : Int) ≤ s1884 ∧ s1884 < (↑s10.length : Int))
  (Let (ix s10 s1884) fun (x1886 : PairKey) =>
  Chk ((0 : Int) ≤ s1884 ∧ s1884 < (↑s21.length : Int))
  (Let (ix s21 s1884) fun (x1887 : PairKey) =>
  Let
  (!(decide (x1886.BodyA = x1887.BodyA) &&
  (decide (x1886.FixtureA = x1887.FixtureA) &&
  (decide (x1886.BodyB = x1887.BodyB) && decide (x1886.FixtureB = x1887.FixtureB)))))
  fun (x1888 : Bool) =>
  if x1888 = true then some false else Let (IntKind.i64.wrap (s1884 + (1 : Int))) fun (x1889 : Int) => rec1883 x1889))
  else some true)
  fuel (0 : Int)

noncomputable def world_Equal (a0 : World_) (b1 : World_) : Option Bool :=
  Let
  (decide (a0.Settings.TimeStep = b1.Settings.TimeStep) &&
  (decide (a0.Settings.Gravity.X = b1.Settings.Gravity.X) && decide (a0.Settings.Gravity.Y = b1.Settings.Gravity.Y) &&
  (decide (a0.Settings.Iterations = b1.Settings.Iterations) && decide (a0.Settings.SleepSteps = b1.Settings.SleepSteps))))
  fun (x1890 : Bool) =>
  Let (a0.NextID == b1.NextID) fun (x1891 : Bool) =>
  Let (bif x1890 then x1891 else false) fun (x1892 : Bool) =>
  Let (a0.Frame == b1.Frame) fun (x1893 : Bool) =>
  Let (bif x1892 then x1893 else false) fun (x1894 : Bool) =>
  Rx.Bind
  (if (x1894 == true) = true then
  slices_EqualFunc a0.Bodies b1.Bodies fun (a : Tup tb [Ix.tBody, Ix.tBody]) => body_Equal a.fst a.snd
  else some default)
  fun (r1895 : Bool) =>
  Let (bif x1894 then r1895 else false) fun (x1896 : Bool) =>
  Rx.Bind (if (x1896 == true) = true then slices_Equal a0.Joints b1.Joints else some default) fun (r1897 : Bool) =>
  Let (bif x1896 then r1897 else false) fun (x1898 : Bool) =>
  Rx.Bind
  (if (x1898 == true) = true then
  slices_EqualFunc_87 a0.Contacts b1.Contacts fun (a : Tup tb [Ix.tContact, Ix.tContact]) => world_Equal_1 a.fst a.snd
  else some default)
  fun (r1899 : Bool) =>
  Let (bif x1898 then r1899 else false) fun (x1900 : Bool) =>
  Rx.Bind (if (x1900 == true) = true then slices_Equal_88 a0.Overlaps b1.Overlaps else some default) fun (r1901 : Bool) =>
  Let (bif x1900 then r1901 else false) fun (x1902 : Bool) => some x1902

noncomputable def caromlaw25_modify (w0 : World_) : Option Unit :=
  none

noncomputable def caromlaw25_WorldCloneEqual (a0 : World_) (b1 : World_) (id2 : Int) : Option Bool :=
  Rx.Bind (caromref25_Few a0) fun (r1903 : Bool) =>
  Let (!r1903) fun (x1904 : Bool) =>
  Rx.Bind (if (x1904 == false) = true then caromref25_Few b1 else some default) fun (r1905 : Bool) =>
  Let (!r1905) fun (x1906 : Bool) =>
  Let (bif x1904 then true else x1906) fun (x1907 : Bool) =>
  if x1907 = true then Rx.Bind caromlaw25_example fun (r1908 : Bool) => some r1908
  else
  Rx.Bind (caromref25_Clone a0) fun (r1909 : World_) =>
  Rx.Bind (world_Clone a0) fun (r1910 : World_) =>
  Rx.Bind (world_Equal a0 b1) fun (r1911 : Bool) =>
  Rx.Bind (caromref25_Equal a0 b1) fun (r1912 : Bool) =>
  Let (r1911 != r1912) fun (x1913 : Bool) =>
  Rx.Bind (if (x1913 == false) = true then caromref25_Equal r1910 a0 else some default) fun (r1914 : Bool) =>
  Let (!r1914) fun (x1915 : Bool) =>
  Let (bif x1913 then true else x1915) fun (x1916 : Bool) =>
  Rx.Bind (if (x1916 == false) = true then world_Equal a0 r1910 else some default) fun (r1917 : Bool) =>
  Let (!r1917) fun (x1918 : Bool) =>
  Let (bif x1916 then true else x1918) fun (x1919 : Bool) =>
  if x1919 = true then some false
  else
  Rx.Bind (world_RemoveBody a0 id2) fun (r1920 : World_ × Int) =>
  Rx.Bind (world_WakeBody a0 id2) fun (r1921 : World_) =>
  Rx.Bind (caromlaw25_modify r1910) fun (r1922 : PUnit) =>
  Rx.Bind (caromlaw25_modify r1920.fst) fun (r1923 : PUnit) =>
  Rx.Bind (caromlaw25_modify r1921) fun (r1924 : PUnit) =>
  Rx.Bind (caromref25_Equal a0 r1909) fun (r1925 : Bool) =>
  Rx.Bind (if (r1925 == true) = true then caromlaw25_example else some default) fun (r1926 : Bool) =>
  Let (bif r1925 then r1926 else false) fun (x1927 : Bool) => some x1927

noncomputable def caromlaw25_WorldStaysValid (w0 : World_) (b1 : Body) (j2 : Joint) (id3 : Int) : Option Bool :=
  Rx.Bind (caromref25_Few w0) fun (r1928 : Bool) =>
  Let (!r1928) fun (x1929 : Bool) =>
  Rx.Bind (if (x1929 == false) = true then caromref22_Few [b1] (1 : Int) else some default) fun (r1930 : Bool) =>
  Let (!r1930) fun (x1931 : Bool) =>
  Let (bif x1929 then true else x1931) fun (x1932 : Bool) =>
  Rx.Bind (if (x1932 == false) = true then world_Validate w0 else some default) fun (r1933 : Int) =>
  Let (r1933 != (0 : Int)) fun (x1934 : Bool) =>
  Let (bif x1932 then true else x1934) fun (x1935 : Bool) =>
  if x1935 = true then Rx.Bind caromlaw25_example fun (r1936 : Bool) => some r1936
  else
  Rx.Bind (world_AddBody w0 b1) fun (r1937 : World_ × Int × Int) =>
  Join
  (fun (v1938 : PUnit) =>
  Rx.Bind (world_AddJoint w0 j2) fun (r1939 : World_ × Int × Int) =>
  Join
  (fun (v1940 : PUnit) =>
  Rx.Bind (world_RemoveBody w0 id3) fun (r1941 : World_ × Int) =>
  Let (r1941.snd == (0 : Int)) fun (x1942 : Bool) =>
  Rx.Bind (if (x1942 == true) = true then world_Validate r1941.fst else some default) fun (r1943 : Int) =>
  Let (r1943 != (0 : Int)) fun (x1944 : Bool) =>
  Rx.Bind (if (x1942 == true && x1944 == false) = true then world_FindBody r1941.fst id3 else some default)
  fun (r1945 : Int) =>
  Let (r1945 != (-1 : Int)) fun (x1946 : Bool) =>
  Let (bif x1944 then true else x1946) fun (x1947 : Bool) =>
  Let (↑r1941.fst.Bodies.length : Int) fun (x1948 : Int) =>
  Let (↑w0.Bodies.length : Int) fun (x1949 : Int) =>
  Let (IntKind.i64.wrap (x1949 - (1 : Int))) fun (x1950 : Int) =>
  Let (x1948 != x1950) fun (x1951 : Bool) =>
  Let (bif x1947 then true else x1951) fun (x1952 : Bool) =>
  Let (bif x1942 then x1952 else false) fun (x1953 : Bool) =>
  if x1953 = true then some false
  else
  Let (r1941.snd == (0 : Int)) fun (x1954 : Bool) =>
  Rx.Bind (world_FindBody w0 id3) fun (r1955 : Int) =>
  Let (decide (r1955 ≥ (0 : Int))) fun (x1956 : Bool) =>
  Let (x1954 == x1956) fun (x1957 : Bool) =>
  Rx.Bind (if (x1957 == true) = true then caromlaw25_example else some default) fun (r1958 : Bool) =>
  Let (bif x1957 then r1958 else false) fun (x1959 : Bool) => some x1959)
  fun (j1960 : PUnit → Option Bool) =>
  Let (r1939.snd.snd == (0 : Int)) fun (x1961 : Bool) =>
  if x1961 = true then
  Rx.Bind (world_RemoveJoint r1939.fst r1939.snd.fst) fun (r1962 : World_ × Int) =>
  Rx.Bind (world_Validate r1939.fst) fun (r1963 : Int) =>
  Let (r1963 != (0 : Int)) fun (x1964 : Bool) =>
  Let (r1939.snd.fst != w0.NextID) fun (x1965 : Bool) =>
  Let (bif x1964 then true else x1965) fun (x1966 : Bool) =>
  Rx.Bind (if (x1966 == false) = true then world_FindJoint r1939.fst r1939.snd.fst else some default) fun (r1967 : Int) =>
  Let (↑w0.Joints.length : Int) fun (x1968 : Int) =>
  Let (r1967 != x1968) fun (x1969 : Bool) =>
  Let (bif x1966 then true else x1969) fun (x1970 : Bool) =>
  Let (r1962.snd != (0 : Int)) fun (x1971 : Bool) =>
  Let (bif x1970 then true else x1971) fun (x1972 : Bool) =>
  Rx.Bind (if (x1972 == false) = true then world_Validate r1962.fst else some default) fun (r1973 : Int) =>
  Let (r1973 != (0 : Int)) fun (x1974 : Bool) =>
  Let (bif x1972 then true else x1974) fun (x1975 : Bool) =>
  Let (↑r1962.fst.Joints.length : Int) fun (x1976 : Int) =>
  Let (↑w0.Joints.length : Int) fun (x1977 : Int) =>
  Let (x1976 != x1977) fun (x1978 : Bool) =>
  Let (bif x1975 then true else x1978) fun (x1979 : Bool) => if x1979 = true then some false else j1960 ()
  else j1960 ())
  fun (j1980 : PUnit → Option Bool) =>
  Let (r1937.snd.snd == (0 : Int)) fun (x1981 : Bool) =>
  if x1981 = true then
  Rx.Bind (world_RemoveBody r1937.fst r1937.snd.fst) fun (r1982 : World_ × Int) =>
  Rx.Bind (world_Validate r1937.fst) fun (r1983 : Int) =>
  Let (r1983 != (0 : Int)) fun (x1984 : Bool) =>
  Let (r1937.snd.fst != w0.NextID) fun (x1985 : Bool) =>
  Let (bif x1984 then true else x1985) fun (x1986 : Bool) =>
  Let (IntKind.i64.wrap (r1937.snd.fst + (1 : Int))) fun (x1987 : Int) =>
  Let (r1937.fst.NextID != x1987) fun (x1988 : Bool) =>
  Let (bif x1986 then true else x1988) fun (x1989 : Bool) =>
  Rx.Bind (if (x1989 == false) = true then world_FindBody w0 r1937.snd.fst else some default) fun (r1990 : Int) =>
  Let (r1990 != (-1 : Int)) fun (x1991 : Bool) =>
  Let (bif x1989 then true else x1991) fun (x1992 : Bool) =>
  Rx.Bind (if (x1992 == false) = true then world_FindBody r1937.fst r1937.snd.fst else some default) fun (r1993 : Int) =>
  Let (↑w0.Bodies.length : Int) fun (x1994 : Int) =>
  Let (r1993 != x1994) fun (x1995 : Bool) =>
  Let (bif x1992 then true else x1995) fun (x1996 : Bool) =>
  Let (r1982.snd != (0 : Int)) fun (x1997 : Bool) =>
  Let (bif x1996 then true else x1997) fun (x1998 : Bool) =>
  Let (IntKind.i64.wrap (r1937.snd.fst + (1 : Int))) fun (x1999 : Int) =>
  Let (r1982.fst.NextID != x1999) fun (x2000 : Bool) =>
  Let (bif x1998 then true else x2000) fun (x2001 : Bool) =>
  Rx.Bind
  (if (x2001 == false) = true then
  world_Equal
  { Settings := r1982.fst.Settings, Bodies := r1982.fst.Bodies, Joints := r1982.fst.Joints, Contacts := r1982.fst.Contacts, Overlaps := r1982.fst.Overlaps, NextID := w0.NextID, Frame := r1982.fst.Frame : World_ }
  w0
  else some default)
  fun (r2002 : Bool) =>
  Let (!r2002) fun (x2003 : Bool) =>
  Let (bif x2001 then true else x2003) fun (x2004 : Bool) => if x2004 = true then some false else j1980 ()
  else j1980 ()

end GoForm
