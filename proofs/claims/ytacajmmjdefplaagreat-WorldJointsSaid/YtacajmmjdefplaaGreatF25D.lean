/- The functions' plain forms. Printed by go3.py. No conditions. -/
import Derived.Test.YtacajmmjdefplaaGreatF25T
set_option linter.all false
set_option maxRecDepth 100000
open Go Go.Rx Go.Proofs Go.RowKit
namespace GoForm

noncomputable def caromref22_Few (bodies0 : (List Body)) (limit1 : Int) : Option Bool :=
  Let (↑bodies0.length : Int) fun (x1 : Int) =>
  Let (decide (x1 > limit1)) fun (x2 : Bool) =>
  if x2 = true then some false
  else
  LOOP
  (fun (rec3 : Int → Option Bool) (s4 : Int) =>
  Let (↑bodies0.length : Int) fun (x5 : Int) =>
  Let (decide (s4 < x5)) fun (x6 : Bool) =>
  if x6 = true then
  Chk ((0 : Int) ≤ s4 ∧ s4 < (↑bodies0.length : Int))
  (Let (ix bodies0 s4) fun (x7 : Body) =>
  Let (↑x7.Fixtures.length : Int) fun (x8 : Int) =>
  Let (decide (x8 > (8 : Int))) fun (x9 : Bool) =>
  if x9 = true then some false
  else
  LOOP
  (fun (rec10 : Int → Option Bool) (s11 : Int) =>
  Chk ((0 : Int) ≤ s4 ∧ s4 < (↑bodies0.length : Int))
  (Let (ix bodies0 s4) fun (x12 : Body) =>
  Let (↑x12.Fixtures.length : Int) fun (x13 : Int) =>
  Let (decide (s11 < x13)) fun (x14 : Bool) =>
  if x14 = true then
  Chk ((0 : Int) ≤ s4 ∧ s4 < (↑bodies0.length : Int))
  (Let (ix bodies0 s4) fun (x15 : Body) =>
  Chk ((0 : Int) ≤ s11 ∧ s11 < (↑x15.Fixtures.length : Int))
  (Let (ix x15.Fixtures s11) fun (x16 : Fixture) =>
  Let (↑x16.Shape.Vertices.length : Int) fun (x17 : Int) =>
  Let (decide (x17 > (20 : Int))) fun (x18 : Bool) =>
  if x18 = true then some false else Let (IntKind.i64.wrap (s11 + (1 : Int))) fun (x19 : Int) => rec10 x19))
  else Let (IntKind.i64.wrap (s4 + (1 : Int))) fun (x20 : Int) => rec3 x20))
  fuel (0 : Int))
  else some true)
  fuel (0 : Int)

noncomputable def caromref25_Few (w0 : World_) : Option Bool :=
  Let (↑w0.Joints.length : Int) fun (x21 : Int) =>
  Let (decide (x21 > (40 : Int))) fun (x22 : Bool) =>
  Let (↑w0.Contacts.length : Int) fun (x23 : Int) =>
  Let (decide (x23 > (80 : Int))) fun (x24 : Bool) =>
  Let (bif x22 then true else x24) fun (x25 : Bool) =>
  Let (↑w0.Overlaps.length : Int) fun (x26 : Int) =>
  Let (decide (x26 > (80 : Int))) fun (x27 : Bool) =>
  Let (bif x25 then true else x27) fun (x28 : Bool) =>
  Rx.Bind (if (x28 == false) = true then caromref22_Few w0.Bodies (40 : Int) else some default) fun (r29 : Bool) =>
  Let (!r29) fun (x30 : Bool) =>
  Let (bif x28 then true else x30) fun (x31 : Bool) =>
  if x31 = true then some false
  else
  LOOP
  (fun (rec32 : Int → Option Bool) (s33 : Int) =>
  Let (↑w0.Contacts.length : Int) fun (x34 : Int) =>
  Let (decide (s33 < x34)) fun (x35 : Bool) =>
  if x35 = true then
  Chk ((0 : Int) ≤ s33 ∧ s33 < (↑w0.Contacts.length : Int))
  (Let (ix w0.Contacts s33) fun (x36 : Contact) =>
  Let (↑x36.Manifold.Points.length : Int) fun (x37 : Int) =>
  Let (decide (x37 > (8 : Int))) fun (x38 : Bool) =>
  if x38 = true then some false else Let (IntKind.i64.wrap (s33 + (1 : Int))) fun (x39 : Int) => rec32 x39)
  else some true)
  fuel (0 : Int)

noncomputable def caromlaw25_settings  : Option Settings :=
  some
  { TimeStep := (1024 : Int), Gravity := { X := (0 : Int), Y := (0 : Int) : Vec }, Iterations := (4 : Int), SleepSteps := (60 : Int) : Settings }

noncomputable def world_in (x0 : Int) (low1 : Int) (high2 : Int) : Option Bool :=
  Let (decide (x0 ≥ low1)) fun (x40 : Bool) =>
  Let (decide (x0 ≤ high2)) fun (x41 : Bool) => Let (bif x40 then x41 else false) fun (x42 : Bool) => some x42

noncomputable def world_ValidateSettings (s0 : Settings) : Option Int :=
  Rx.Bind (world_in s0.Gravity.X (-16777216 : Int) (16777216 : Int)) fun (r43 : Bool) =>
  Rx.Bind (if (r43 == true) = true then world_in s0.Gravity.Y (-16777216 : Int) (16777216 : Int) else some default)
  fun (r44 : Bool) =>
  Let (bif r43 then r44 else false) fun (x45 : Bool) =>
  Rx.Bind (world_in s0.TimeStep (64 : Int) (8192 : Int)) fun (r46 : Bool) =>
  Let (!r46) fun (x47 : Bool) =>
  Let (!x45) fun (x48 : Bool) =>
  Let (bif x47 then true else x48) fun (x49 : Bool) =>
  Rx.Bind (if (x49 == false) = true then world_in s0.Iterations (1 : Int) (32 : Int) else some default)
  fun (r50 : Bool) =>
  Let (!r50) fun (x51 : Bool) =>
  Let (bif x49 then true else x51) fun (x52 : Bool) =>
  Rx.Bind (if (x52 == false) = true then world_in s0.SleepSteps (0 : Int) (1048576 : Int) else some default)
  fun (r53 : Bool) =>
  Let (!r53) fun (x54 : Bool) =>
  Let (bif x52 then true else x54) fun (x55 : Bool) => if x55 = true then some (6 : Int) else some (0 : Int)

noncomputable def world_New (s0 : Settings) : Option (World_ × Int) :=
  Rx.Bind (world_ValidateSettings s0) fun (r56 : Int) =>
  Let (r56 != (0 : Int)) fun (x57 : Bool) =>
  if x57 = true then
  some
  ({ Settings := { TimeStep := (0 : Int), Gravity := { X := (0 : Int), Y := (0 : Int) : Vec }, Iterations := (0 : Int), SleepSteps := (0 : Int) : Settings }, Bodies := [], Joints := [], Contacts := [], Overlaps := [], NextID := (0 : Int), Frame := (0 : Int) : World_ },
  r56)
  else
  some
  ({ Settings := s0, Bodies := [], Joints := [], Contacts := [], Overlaps := [], NextID := (1 : Int), Frame := (0 : Int) : World_ },
  (0 : Int))

noncomputable def slices_Clone_128 (s0 : (List Vec)) : Option (List Vec) :=
  Rx.Alike (s0 = []) (some []) (Chk (s0.length * (16 : Nat) ≤ (140737488355328 : Nat)) (some s0))

noncomputable def shape_Clone (s0 : Shape) : Option Shape :=
  Rx.Bind (slices_Clone_128 s0.Vertices) fun (r58 : List Vec) =>
  some { Kind := s0.Kind, Radius := s0.Radius, Vertices := r58 : Shape }

noncomputable def body_Clone (b0 : Body) : Option Body :=
  Let (↑b0.Fixtures.length : Int) fun (x59 : Int) =>
  LOOP
  (fun (rec60 : List Fixture × Int → Option Body) (s61 : List Fixture × Int) =>
  Let (decide (s61.snd < x59)) fun (x62 : Bool) =>
  if x62 = true then
  Chk ((0 : Int) ≤ s61.snd ∧ s61.snd < (↑b0.Fixtures.length : Int))
  (Let (ix b0.Fixtures s61.snd) fun (x63 : Fixture) =>
  Rx.Bind (shape_Clone x63.Shape) fun (r64 : Shape) =>
  Chk
  ((List.length s61.fst +
  [{ Shape := r64, Density := x63.Density, Friction := x63.Friction, Restitution := x63.Restitution, Sensor := x63.Sensor, Category := x63.Category, Mask := x63.Mask, Group := x63.Group : Fixture }].length) *
  (96 : Nat) ≤
  (140737488355328 : Nat))
  (Let
  (s61.fst ++
  [{ Shape := r64, Density := x63.Density, Friction := x63.Friction, Restitution := x63.Restitution, Sensor := x63.Sensor, Category := x63.Category, Mask := x63.Mask, Group := x63.Group : Fixture }])
  fun (x65 : List Fixture) => Let (IntKind.i64.wrap (s61.snd + (1 : Int))) fun (x66 : Int) => rec60 (x65, x66)))
  else
  some
  { ID := b0.ID, Kind := b0.Kind, Transform := b0.Transform, Velocity := b0.Velocity, AngularVelocity := b0.AngularVelocity, Force := b0.Force, Torque := b0.Torque, LinearDamping := b0.LinearDamping, AngularDamping := b0.AngularDamping, GravityScale := b0.GravityScale, Bullet := b0.Bullet, FixedRotation := b0.FixedRotation, NoSleep := b0.NoSleep, Asleep := b0.Asleep, IdleSteps := b0.IdleSteps, Fixtures := s61.fst : Body })
  fuel ([], (0 : Int))

noncomputable def body_within (x0 : Int) (low1 : Int) (high2 : Int) : Option Bool :=
  Let (decide (low1 ≤ x0)) fun (x67 : Bool) =>
  Let (decide (x0 ≤ high2)) fun (x68 : Bool) => Let (bif x67 then x68 else false) fun (x69 : Bool) => some x69

noncomputable def body_bounded (v0 : Vec) (limit1 : Int) : Option Bool :=
  Let (IntKind.i64.wrap ((0 : Int) - limit1)) fun (x70 : Int) =>
  Rx.Bind (body_within v0.X x70 limit1) fun (r71 : Bool) =>
  Let (IntKind.i64.wrap ((0 : Int) - limit1)) fun (x72 : Int) =>
  Rx.Bind (if (r71 == true) = true then body_within v0.Y x72 limit1 else some default) fun (r73 : Bool) =>
  Let (bif r71 then r73 else false) fun (x74 : Bool) => some x74

noncomputable def transform_inWorld (x0 : Int) : Option Bool :=
  Let (decide (x0 ≥ (-268435456 : Int))) fun (x75 : Bool) =>
  Let (decide (x0 ≤ (268435456 : Int))) fun (x76 : Bool) => Let (bif x75 then x76 else false) fun (x77 : Bool) => some x77

noncomputable def transform_Valid (t0 : Transform) : Option Bool :=
  Rx.Bind (transform_inWorld t0.Position.X) fun (r78 : Bool) =>
  Rx.Bind (if (r78 == true) = true then transform_inWorld t0.Position.Y else some default) fun (r79 : Bool) =>
  Let (bif r78 then r79 else false) fun (x80 : Bool) =>
  Let (decide (t0.Angle ≥ (-205888 : Int))) fun (x81 : Bool) =>
  Let (bif x80 then x81 else false) fun (x82 : Bool) =>
  Let (decide (t0.Angle < (205888 : Int))) fun (x83 : Bool) =>
  Let (bif x82 then x83 else false) fun (x84 : Bool) => some x84

noncomputable def body_inRange (b0 : Body) : Option Bool :=
  Rx.Bind (body_bounded b0.Velocity (16777216 : Int)) fun (r85 : Bool) =>
  Rx.Bind (if (r85 == true) = true then body_within b0.AngularVelocity (-4194304 : Int) (4194304 : Int) else some default)
  fun (r86 : Bool) =>
  Let (bif r85 then r86 else false) fun (x87 : Bool) =>
  Rx.Bind (body_bounded b0.Force (536870911 : Int)) fun (r88 : Bool) =>
  Rx.Bind (if (r88 == true) = true then body_within b0.Torque (-536870911 : Int) (536870911 : Int) else some default)
  fun (r89 : Bool) =>
  Let (bif r88 then r89 else false) fun (x90 : Bool) =>
  Rx.Bind (body_within b0.LinearDamping (0 : Int) (65536 : Int)) fun (r91 : Bool) =>
  Rx.Bind (if (r91 == true) = true then body_within b0.AngularDamping (0 : Int) (65536 : Int) else some default)
  fun (r92 : Bool) =>
  Let (bif r91 then r92 else false) fun (x93 : Bool) =>
  Rx.Bind (body_within b0.GravityScale (-262144 : Int) (262144 : Int)) fun (r94 : Bool) =>
  Rx.Bind (body_within b0.ID (1 : Int) (1099511627776 : Int)) fun (r95 : Bool) =>
  Rx.Bind (if (r95 == true) = true then transform_Valid b0.Transform else some default) fun (r96 : Bool) =>
  Let (bif r95 then r96 else false) fun (x97 : Bool) =>
  Let (bif x97 then x87 else false) fun (x98 : Bool) =>
  Let (bif x98 then x90 else false) fun (x99 : Bool) =>
  Let (bif x99 then x93 else false) fun (x100 : Bool) =>
  Let (bif x100 then r94 else false) fun (x101 : Bool) =>
  Rx.Bind (if (x101 == true) = true then body_within b0.IdleSteps (0 : Int) (1048576 : Int) else some default)
  fun (r102 : Bool) => Let (bif x101 then r102 else false) fun (x103 : Bool) => some x103

noncomputable def shape_validCount (s0 : Shape) : Option Bool :=
  Let (↑s0.Vertices.length : Int) fun (x104 : Int) =>
  Let (s0.Kind == (1 : Int)) fun (x105 : Bool) =>
  if x105 = true then Let (x104 == (1 : Int)) fun (x106 : Bool) => some x106
  else
  Let (s0.Kind == (2 : Int)) fun (x107 : Bool) =>
  if x107 = true then Let (x104 == (2 : Int)) fun (x108 : Bool) => some x108
  else
  Let (decide (x104 ≥ (3 : Int))) fun (x109 : Bool) =>
  Let (decide (x104 ≤ (8 : Int))) fun (x110 : Bool) => Let (bif x109 then x110 else false) fun (x111 : Bool) => some x111

noncomputable def slices_IndexFunc_175 (s0 : (List Vec)) (f1 : (Vec → Option Bool)) : Option Int :=
  Let (↑s0.length : Int) fun (x112 : Int) =>
  LOOP
  (fun (rec113 : Int → Option Int) (s114 : Int) =>
  Let (decide (s114 < x112)) fun (x115 : Bool) =>
  if x115 = true then
  Chk ((0 : Int) ≤ s114 ∧ s114 < (↑s0.length : Int))
  (Let (ix s0 s114) fun (x116 : Vec) =>
  Rx.Bind (f1 x116) fun (r117 : Bool) =>
  if r117 = true then some s114 else Let (IntKind.i64.wrap (s114 + (1 : Int))) fun (x118 : Int) => rec113 x118)
  else some (-1 : Int))
  fuel (0 : Int)

noncomputable def slices_ContainsFunc_153 (s0 : (List Vec)) (f1 : (Vec → Option Bool)) : Option Bool :=
  Rx.Bind (slices_IndexFunc_175 s0 f1) fun (r119 : Int) => Let (decide (r119 ≥ (0 : Int))) fun (x120 : Bool) => some x120

noncomputable def shape_outOfRange (n0 : Int) : Option Bool :=
  Let (decide (n0 < (-1048576 : Int))) fun (x121 : Bool) =>
  Let (decide (n0 > (1048576 : Int))) fun (x122 : Bool) =>
  Let (bif x121 then true else x122) fun (x123 : Bool) => some x123

noncomputable def shape_Validate_1 (v0 : Vec) : Option Bool :=
  Rx.Bind (shape_outOfRange v0.X) fun (r124 : Bool) =>
  Rx.Bind (if (r124 == false) = true then shape_outOfRange v0.Y else some default) fun (r125 : Bool) =>
  Let (bif r124 then true else r125) fun (x126 : Bool) => some x126

noncomputable def fixed_Saturate (x0 : Int) : Option Int :=
  Let (max x0 (-536870911 : Int)) fun (x127 : Int) => Let (min x127 (536870911 : Int)) fun (x128 : Int) => some x128

noncomputable def fixed_Sub (a0 : Int) (b1 : Int) : Option Int :=
  Rx.Bind (fixed_Saturate a0) fun (r129 : Int) =>
  Rx.Bind (fixed_Saturate b1) fun (r130 : Int) =>
  Let (IntKind.i64.wrap (r129 - r130)) fun (x131 : Int) => Rx.Bind (fixed_Saturate x131) fun (r132 : Int) => some r132

noncomputable def vec2_Sub (a0 : Vec) (b1 : Vec) : Option Vec :=
  Rx.Bind (fixed_Sub a0.X b1.X) fun (r133 : Int) =>
  Rx.Bind (fixed_Sub a0.Y b1.Y) fun (r134 : Int) => some { X := r133, Y := r134 : Vec }

noncomputable def vec2_saturate (v0 : Vec) : Option Vec :=
  Rx.Bind (fixed_Saturate v0.X) fun (r135 : Int) =>
  Rx.Bind (fixed_Saturate v0.Y) fun (r136 : Int) => some { X := r135, Y := r136 : Vec }

noncomputable def vec2_DistanceSquared (a0 : Vec) (b1 : Vec) : Option Int :=
  Rx.Bind (vec2_saturate a0) fun (r137 : Vec) =>
  Rx.Bind (vec2_saturate b1) fun (r138 : Vec) =>
  Let (IntKind.i64.wrap (r138.X - r137.X)) fun (x139 : Int) =>
  Let (IntKind.i64.wrap (r138.Y - r137.Y)) fun (x140 : Int) =>
  Let (IntKind.i64.wrap (x139 * x139)) fun (x141 : Int) =>
  Let (IntKind.i64.wrap (x140 * x140)) fun (x142 : Int) =>
  Let (IntKind.i64.wrap (x141 + x142)) fun (x143 : Int) => some x143

noncomputable def fixed_Isqrt (n0 : Int) : Option Int :=
  Let (decide (n0 < (0 : Int))) fun (x144 : Bool) =>
  Let (decide (n0 > (4611686018427387904 : Int))) fun (x145 : Bool) =>
  Let (bif x144 then true else x145) fun (x146 : Bool) =>
  if x146 = true then some (0 : Int)
  else
  LOOP
  (fun (rec147 : Int × Int → Option Int) (s148 : Int × Int) =>
  Let (decide (s148.snd > (0 : Int))) fun (x149 : Bool) =>
  if x149 = true then
  Join (fun (v150 : Int) => Let (bShr IntKind.i64 s148.snd (1 : Int)) fun (x151 : Int) => rec147 (v150, x151))
  fun (j152 : Int → Option Int) =>
  Let (bOr IntKind.i64 s148.fst s148.snd) fun (x153 : Int) =>
  Let (IntKind.u64.wrap x153) fun (x154 : Int) =>
  Let (IntKind.u64.wrap x153) fun (x155 : Int) =>
  Let (IntKind.u64.wrap (x154 * x155)) fun (x156 : Int) =>
  Let (IntKind.u64.wrap n0) fun (x157 : Int) =>
  Let (decide (x156 ≤ x157)) fun (x158 : Bool) => if x158 = true then j152 x153 else j152 s148.fst
  else some s148.fst)
  fuel ((0 : Int), (2147483648 : Int))

noncomputable def vec2_Length (v0 : Vec) : Option Int :=
  Rx.Bind (vec2_DistanceSquared { X := (0 : Int), Y := (0 : Int) : Vec } v0) fun (r159 : Int) =>
  Rx.Bind (fixed_Isqrt r159) fun (r160 : Int) => some r160

noncomputable def polygon_inReach (v0 : Vec) : Option Bool :=
  Let (decide (v0.X ≥ (-1048576 : Int))) fun (x161 : Bool) =>
  Let (decide (v0.X ≤ (1048576 : Int))) fun (x162 : Bool) =>
  Let (bif x161 then x162 else false) fun (x163 : Bool) =>
  Let (decide (v0.Y ≥ (-1048576 : Int))) fun (x164 : Bool) =>
  Let (bif x163 then x164 else false) fun (x165 : Bool) =>
  Let (decide (v0.Y ≤ (1048576 : Int))) fun (x166 : Bool) =>
  Let (bif x165 then x166 else false) fun (x167 : Bool) => some x167

noncomputable def polygon_allInReach (points0 : (List Vec)) : Option Bool :=
  Let (↑points0.length : Int) fun (x168 : Int) =>
  LOOP
  (fun (rec169 : Int → Option Bool) (s170 : Int) =>
  Let (decide (s170 < x168)) fun (x171 : Bool) =>
  if x171 = true then
  Chk ((0 : Int) ≤ s170 ∧ s170 < (↑points0.length : Int))
  (Let (ix points0 s170) fun (x172 : Vec) =>
  Rx.Bind (polygon_inReach x172) fun (r173 : Bool) =>
  Let (!r173) fun (x174 : Bool) =>
  if x174 = true then some false else Let (IntKind.i64.wrap (s170 + (1 : Int))) fun (x175 : Int) => rec169 x175)
  else some true)
  fuel (0 : Int)

noncomputable def vec2_Orientation (a0 : Vec) (b1 : Vec) (c2 : Vec) : Option Int :=
  Rx.Bind (vec2_saturate a0) fun (r176 : Vec) =>
  Rx.Bind (vec2_saturate b1) fun (r177 : Vec) =>
  Rx.Bind (vec2_saturate c2) fun (r178 : Vec) =>
  Let (IntKind.i64.wrap (r177.X - r176.X)) fun (x179 : Int) =>
  Let (IntKind.i64.wrap (r178.Y - r176.Y)) fun (x180 : Int) =>
  Let (IntKind.i64.wrap (x179 * x180)) fun (x181 : Int) =>
  Let (IntKind.i64.wrap (r177.Y - r176.Y)) fun (x182 : Int) =>
  Let (IntKind.i64.wrap (r178.X - r176.X)) fun (x183 : Int) =>
  Let (IntKind.i64.wrap (x182 * x183)) fun (x184 : Int) =>
  Let (IntKind.i64.wrap (x181 - x184)) fun (x185 : Int) =>
  Let (max (-1 : Int) x185) fun (x186 : Int) => Let (min (1 : Int) x186) fun (x187 : Int) => some x187

noncomputable def polygon_IsConvex (vertices0 : (List Vec)) : Option Bool :=
  Let (↑vertices0.length : Int) fun (x188 : Int) =>
  Let (decide (x188 < (3 : Int))) fun (x189 : Bool) =>
  Let (decide (x188 > (8 : Int))) fun (x190 : Bool) =>
  Let (bif x189 then true else x190) fun (x191 : Bool) =>
  Rx.Bind (if (x191 == false) = true then polygon_allInReach vertices0 else some default) fun (r192 : Bool) =>
  Let (!r192) fun (x193 : Bool) =>
  Let (bif x191 then true else x193) fun (x194 : Bool) =>
  if x194 = true then some false
  else
  Let (↑vertices0.length : Int) fun (x195 : Int) =>
  LOOP
  (fun (rec196 : Int → Option Bool) (s197 : Int) =>
  Let (decide (s197 < x195)) fun (x198 : Bool) =>
  if x198 = true then
  Chk ((0 : Int) ≤ s197 ∧ s197 < (↑vertices0.length : Int))
  (Let (ix vertices0 s197) fun (x199 : Vec) =>
  Let (IntKind.i64.wrap (s197 + (1 : Int))) fun (x200 : Int) =>
  Chk (x188 ≠ (0 : Int))
  (Let (x200.tmod x188) fun (x201 : Int) =>
  Let (↑vertices0.length : Int) fun (x202 : Int) =>
  LOOP
  (fun (rec203 : Int → Option Bool) (s204 : Int) =>
  Let (decide (s204 < x202)) fun (x205 : Bool) =>
  if x205 = true then
  Chk ((0 : Int) ≤ s204 ∧ s204 < (↑vertices0.length : Int))
  (Let (ix vertices0 s204) fun (x206 : Vec) =>
  Let (s204 != s197) fun (x207 : Bool) =>
  Let (s204 != x201) fun (x208 : Bool) =>
  Let (bif x207 then x208 else false) fun (x209 : Bool) =>
  Chk ((x209 == true) = true → (0 : Int) ≤ x201 ∧ x201 < (↑vertices0.length : Int))
  (Let (ix vertices0 x201) fun (x210 : Vec) =>
  Rx.Bind (if (x209 == true) = true then vec2_Orientation x199 x210 x206 else some default) fun (r211 : Int) =>
  Let (r211 != (1 : Int)) fun (x212 : Bool) =>
  Let (bif x209 then x212 else false) fun (x213 : Bool) =>
  if x213 = true then some false else Let (IntKind.i64.wrap (s204 + (1 : Int))) fun (x214 : Int) => rec203 x214))
  else Let (IntKind.i64.wrap (s197 + (1 : Int))) fun (x215 : Int) => rec196 x215)
  fuel (0 : Int)))
  else some true)
  fuel (0 : Int)

noncomputable def polygon_ShortestEdge (vertices0 : (List Vec)) : Option Int :=
  Rx.Bind (polygon_IsConvex vertices0) fun (r216 : Bool) =>
  Let (!r216) fun (x217 : Bool) =>
  if x217 = true then some (0 : Int)
  else
  Let (↑vertices0.length : Int) fun (x218 : Int) =>
  LOOP
  (fun (rec219 : Int × Int → Option Int) (s220 : Int × Int) =>
  Let (decide (s220.snd < x218)) fun (x221 : Bool) =>
  if x221 = true then
  Chk ((0 : Int) ≤ s220.snd ∧ s220.snd < (↑vertices0.length : Int))
  (Let (ix vertices0 s220.snd) fun (x222 : Vec) =>
  Let (IntKind.i64.wrap (s220.snd + (1 : Int))) fun (x223 : Int) =>
  Let (↑vertices0.length : Int) fun (x224 : Int) =>
  Chk (x224 ≠ (0 : Int))
  (Let (x223.tmod x224) fun (x225 : Int) =>
  Chk ((0 : Int) ≤ x225 ∧ x225 < (↑vertices0.length : Int))
  (Let (ix vertices0 x225) fun (x226 : Vec) =>
  Rx.Bind (vec2_Sub x226 x222) fun (r227 : Vec) =>
  Rx.Bind (vec2_Length r227) fun (r228 : Int) =>
  Let (min s220.fst r228) fun (x229 : Int) =>
  Let (IntKind.i64.wrap (s220.snd + (1 : Int))) fun (x230 : Int) => rec219 (x229, x230))))
  else some s220.fst)
  fuel ((536870911 : Int), (0 : Int))

noncomputable def fixed_RoundDiv (n0 : Int) (d1 : Int) : Option Int :=
  Let (decide (d1 < (1 : Int))) fun (x231 : Bool) =>
  Let (decide (d1 > (4611686018427387904 : Int))) fun (x232 : Bool) =>
  Let (bif x231 then true else x232) fun (x233 : Bool) =>
  Let (decide (n0 < (-4611686018427387904 : Int))) fun (x234 : Bool) =>
  Let (bif x233 then true else x234) fun (x235 : Bool) =>
  Let (decide (n0 > (4611686018427387904 : Int))) fun (x236 : Bool) =>
  Let (bif x235 then true else x236) fun (x237 : Bool) =>
  if x237 = true then some (0 : Int)
  else
  Chk (d1 ≠ (0 : Int))
  (Let (IntKind.i64.wrap (n0.tdiv d1)) fun (x238 : Int) =>
  Chk (d1 ≠ (0 : Int))
  (Let (n0.tmod d1) fun (x239 : Int) =>
  Join (fun (v240 : Int) => some v240) fun (j241 : Int → Option Int) =>
  Let (IntKind.i64.wrap (d1 - x239)) fun (x242 : Int) =>
  Let (decide (x239 ≥ x242)) fun (x243 : Bool) =>
  if x243 = true then Let (IntKind.i64.wrap (x238 + (1 : Int))) fun (x244 : Int) => j241 x244
  else
  Let (IntKind.i64.wrap ((0 : Int) - x239)) fun (x245 : Int) =>
  Let (IntKind.i64.wrap (d1 + x239)) fun (x246 : Int) =>
  Let (decide (x245 ≥ x246)) fun (x247 : Bool) =>
  if x247 = true then Let (IntKind.i64.wrap (x238 - (1 : Int))) fun (x248 : Int) => j241 x248 else j241 x238))

noncomputable def polygon_fan (vertices0 : (List Vec)) : Option ((List polygon_triangle) × Int) :=
  Chk ((0 : Int) ≤ (0 : Int) ∧ (0 : Int) < (↑vertices0.length : Int))
  (Let (ix vertices0 (0 : Int)) fun (x249 : Vec) =>
  LOOP
  (fun (rec250 : List polygon_triangle × Int × Int → Option (List polygon_triangle × Int))
  (s251 : List polygon_triangle × Int × Int) =>
  Let (IntKind.i64.wrap (s251.snd.snd + (1 : Int))) fun (x252 : Int) =>
  Let (↑vertices0.length : Int) fun (x253 : Int) =>
  Let (decide (x252 < x253)) fun (x254 : Bool) =>
  if x254 = true then
  Chk ((0 : Int) ≤ s251.snd.snd ∧ s251.snd.snd < (↑vertices0.length : Int))
  (Let (ix vertices0 s251.snd.snd) fun (x255 : Vec) =>
  Let (IntKind.i64.wrap (x255.X - x249.X)) fun (x256 : Int) =>
  Chk ((0 : Int) ≤ s251.snd.snd ∧ s251.snd.snd < (↑vertices0.length : Int))
  (Let (ix vertices0 s251.snd.snd) fun (x257 : Vec) =>
  Let (IntKind.i64.wrap (x257.Y - x249.Y)) fun (x258 : Int) =>
  Let (IntKind.i64.wrap (s251.snd.snd + (1 : Int))) fun (x259 : Int) =>
  Chk ((0 : Int) ≤ x259 ∧ x259 < (↑vertices0.length : Int))
  (Let (ix vertices0 x259) fun (x260 : Vec) =>
  Let (IntKind.i64.wrap (x260.X - x249.X)) fun (x261 : Int) =>
  Let (IntKind.i64.wrap (s251.snd.snd + (1 : Int))) fun (x262 : Int) =>
  Chk ((0 : Int) ≤ x262 ∧ x262 < (↑vertices0.length : Int))
  (Let (ix vertices0 x262) fun (x263 : Vec) =>
  Let (IntKind.i64.wrap (x263.Y - x249.Y)) fun (x264 : Int) =>
  Let (IntKind.i64.wrap (x256 * x264)) fun (x265 : Int) =>
  Let (IntKind.i64.wrap (x258 * x261)) fun (x266 : Int) =>
  Let (IntKind.i64.wrap (x265 - x266)) fun (x267 : Int) =>
  Rx.Bind (fixed_RoundDiv x267 (65536 : Int)) fun (r268 : Int) =>
  Chk
  ((List.length s251.fst +
  [{ e := { X := x256, Y := x258 : Vec }, f := { X := x261, Y := x264 : Vec }, cross := r268 : polygon_triangle }].length) *
  (40 : Nat) ≤
  (140737488355328 : Nat))
  (Let
  (s251.fst ++
  [{ e := { X := x256, Y := x258 : Vec }, f := { X := x261, Y := x264 : Vec }, cross := r268 : polygon_triangle }])
  fun (x269 : List polygon_triangle) =>
  Let (IntKind.i64.wrap (s251.snd.fst + r268)) fun (x270 : Int) =>
  Let (IntKind.i64.wrap (s251.snd.snd + (1 : Int))) fun (x271 : Int) => rec250 (x269, x270, x271))))))
  else some (s251.fst, s251.snd.fst))
  fuel ([], (0 : Int), (1 : Int)))

noncomputable def polygon_Area (vertices0 : (List Vec)) : Option Int :=
  Rx.Bind (polygon_IsConvex vertices0) fun (r272 : Bool) =>
  Let (!r272) fun (x273 : Bool) =>
  if x273 = true then some (0 : Int)
  else
  Rx.Bind (polygon_fan vertices0) fun (r274 : List polygon_triangle × Int) =>
  Rx.Bind (fixed_RoundDiv r274.snd (2 : Int)) fun (r275 : Int) => some r275

noncomputable def shape_Validate (s0 : Shape) : Option Int :=
  Let (decide (s0.Kind < (1 : Int))) fun (x276 : Bool) =>
  Let (decide (s0.Kind > (3 : Int))) fun (x277 : Bool) =>
  Let (bif x276 then true else x277) fun (x278 : Bool) =>
  if x278 = true then some (10 : Int)
  else
  Rx.Bind (shape_validCount s0) fun (r279 : Bool) =>
  Let (!r279) fun (x280 : Bool) =>
  if x280 = true then some (11 : Int)
  else
  Rx.Bind (slices_ContainsFunc_153 s0.Vertices fun (a : Tup tb [Ix.tVec]) => shape_Validate_1 a) fun (r281 : Bool) =>
  if r281 = true then some (6 : Int)
  else
  Join
  (fun (v282 : Bool) =>
  if v282 = true then some (6 : Int)
  else
  Let (s0.Kind == (2 : Int)) fun (x283 : Bool) =>
  Chk ((x283 == true) = true → (0 : Int) ≤ (1 : Int) ∧ (1 : Int) < (↑s0.Vertices.length : Int))
  (Let (ix s0.Vertices (1 : Int)) fun (x284 : Vec) =>
  Chk ((x283 == true) = true → (0 : Int) ≤ (0 : Int) ∧ (0 : Int) < (↑s0.Vertices.length : Int))
  (Let (ix s0.Vertices (0 : Int)) fun (x285 : Vec) =>
  Rx.Bind (if (x283 == true) = true then vec2_Sub x284 x285 else some { X := default, Y := default : Vec })
  fun (r286 : Vec) =>
  Rx.Bind (if (x283 == true) = true then vec2_Length r286 else some default) fun (r287 : Int) =>
  Let (decide (r287 < (4096 : Int))) fun (x288 : Bool) =>
  Let (bif x283 then x288 else false) fun (x289 : Bool) =>
  if x289 = true then some (12 : Int)
  else
  Let (s0.Kind == (3 : Int)) fun (x290 : Bool) =>
  Rx.Bind (if (x290 == true) = true then polygon_IsConvex s0.Vertices else some default) fun (r291 : Bool) =>
  Let (!r291) fun (x292 : Bool) =>
  Rx.Bind (if (x290 == true && x292 == false) = true then polygon_ShortestEdge s0.Vertices else some default)
  fun (r293 : Int) =>
  Let (decide (r293 < (4096 : Int))) fun (x294 : Bool) =>
  Let (bif x292 then true else x294) fun (x295 : Bool) =>
  Rx.Bind (if (x290 == true && x295 == false) = true then polygon_Area s0.Vertices else some default) fun (r296 : Int) =>
  Let (decide (r296 < (256 : Int))) fun (x297 : Bool) =>
  Let (bif x295 then true else x297) fun (x298 : Bool) =>
  Let (bif x290 then x298 else false) fun (x299 : Bool) => if x299 = true then some (12 : Int) else some (0 : Int))))
  fun (j300 : Bool → Option Int) =>
  Let (s0.Kind == (3 : Int)) fun (x301 : Bool) =>
  Let (s0.Radius != (0 : Int)) fun (x302 : Bool) =>
  Let (bif x301 then x302 else false) fun (x303 : Bool) =>
  if x303 = true then j300 x303
  else
  Let (s0.Kind != (3 : Int)) fun (x304 : Bool) =>
  Let (decide (s0.Radius < (2048 : Int))) fun (x305 : Bool) =>
  Let (decide (s0.Radius > (524288 : Int))) fun (x306 : Bool) =>
  Let (bif x305 then true else x306) fun (x307 : Bool) =>
  Let (bif x304 then x307 else false) fun (x308 : Bool) => j300 x308

noncomputable def body_ValidateFixture (f0 : Fixture) : Option Int :=
  Rx.Bind (shape_Validate f0.Shape) fun (r309 : Int) =>
  Let (r309 != (0 : Int)) fun (x310 : Bool) =>
  if x310 = true then some r309
  else
  Rx.Bind (body_within f0.Density (0 : Int) (262144 : Int)) fun (r311 : Bool) =>
  Rx.Bind (if (r311 == true) = true then body_within f0.Friction (0 : Int) (131072 : Int) else some default)
  fun (r312 : Bool) =>
  Let (bif r311 then r312 else false) fun (x313 : Bool) =>
  Rx.Bind (if (x313 == true) = true then body_within f0.Restitution (0 : Int) (65536 : Int) else some default)
  fun (r314 : Bool) =>
  Let (bif x313 then r314 else false) fun (x315 : Bool) =>
  Rx.Bind (body_within f0.Category (0 : Int) (65535 : Int)) fun (r316 : Bool) =>
  Rx.Bind (if (r316 == true) = true then body_within f0.Mask (0 : Int) (65535 : Int) else some default)
  fun (r317 : Bool) =>
  Let (bif r316 then r317 else false) fun (x318 : Bool) =>
  Rx.Bind (if (x318 == true) = true then body_within f0.Group (-32 : Int) (32 : Int) else some default)
  fun (r319 : Bool) =>
  Let (bif x318 then r319 else false) fun (x320 : Bool) =>
  Let (!x315) fun (x321 : Bool) =>
  Let (!x320) fun (x322 : Bool) =>
  Let (bif x321 then true else x322) fun (x323 : Bool) => if x323 = true then some (6 : Int) else some (0 : Int)

noncomputable def body_moving (b0 : Body) : Option Bool :=
  Let (!(decide (b0.Velocity.X = (0 : Int)) && decide (b0.Velocity.Y = (0 : Int)))) fun (x324 : Bool) =>
  Let (b0.AngularVelocity != (0 : Int)) fun (x325 : Bool) =>
  Let (bif x324 then true else x325) fun (x326 : Bool) => some x326

noncomputable def body_consistent (b0 : Body) : Option Bool :=
  Let (!(decide (b0.Force.X = (0 : Int)) && decide (b0.Force.Y = (0 : Int)))) fun (x327 : Bool) =>
  Let (b0.Torque != (0 : Int)) fun (x328 : Bool) =>
  Let (bif x327 then true else x328) fun (x329 : Bool) =>
  Let (b0.Kind == (1 : Int)) fun (x330 : Bool) =>
  Rx.Bind (if (x330 == true) = true then body_moving b0 else some default) fun (r331 : Bool) =>
  Let (bif r331 then true else x329) fun (x332 : Bool) =>
  Let (bif x330 then x332 else false) fun (x333 : Bool) =>
  if x333 = true then some false
  else
  Let (b0.Kind != (3 : Int)) fun (x334 : Bool) =>
  Let (bif b0.Asleep then true else b0.Bullet) fun (x335 : Bool) =>
  Let (bif x334 then x335 else false) fun (x336 : Bool) =>
  if x336 = true then some false
  else
  Let (!b0.Asleep) fun (x337 : Bool) =>
  Rx.Bind (if (x337 == false) = true then body_moving b0 else some default) fun (r338 : Bool) =>
  Let (!r338) fun (x339 : Bool) => Let (bif x337 then true else x339) fun (x340 : Bool) => some x340

noncomputable def body_Validate (b0 : Body) : Option Int :=
  Let (b0.Kind != (1 : Int)) fun (x341 : Bool) =>
  Let (b0.Kind != (2 : Int)) fun (x342 : Bool) =>
  Let (bif x341 then x342 else false) fun (x343 : Bool) =>
  Let (b0.Kind != (3 : Int)) fun (x344 : Bool) =>
  Let (bif x343 then x344 else false) fun (x345 : Bool) =>
  if x345 = true then some (10 : Int)
  else
  Rx.Bind (body_inRange b0) fun (r346 : Bool) =>
  Let (!r346) fun (x347 : Bool) =>
  if x347 = true then some (6 : Int)
  else
  Let (↑b0.Fixtures.length : Int) fun (x348 : Int) =>
  Let (decide (x348 > (4 : Int))) fun (x349 : Bool) =>
  if x349 = true then some (11 : Int)
  else
  Let (↑b0.Fixtures.length : Int) fun (x350 : Int) =>
  LOOP
  (fun (rec351 : Int → Option Int) (s352 : Int) =>
  Let (decide (s352 < x350)) fun (x353 : Bool) =>
  if x353 = true then
  Chk ((0 : Int) ≤ s352 ∧ s352 < (↑b0.Fixtures.length : Int))
  (Let (ix b0.Fixtures s352) fun (x354 : Fixture) =>
  Rx.Bind (body_ValidateFixture x354) fun (r355 : Int) =>
  Let (r355 != (0 : Int)) fun (x356 : Bool) =>
  if x356 = true then some (13 : Int) else Let (IntKind.i64.wrap (s352 + (1 : Int))) fun (x357 : Int) => rec351 x357)
  else
  Rx.Bind (body_consistent b0) fun (r358 : Bool) =>
  Let (!r358) fun (x359 : Bool) => if x359 = true then some (14 : Int) else some (0 : Int))
  fuel (0 : Int)

noncomputable def slices_Clone (s0 : (List Body)) : Option (List Body) :=
  Rx.Alike (s0 = []) (some []) (Chk (s0.length * (152 : Nat) ≤ (140737488355328 : Nat)) (some s0))

noncomputable def slices_Clone_78 (s0 : (List Joint)) : Option (List Joint) :=
  Rx.Alike (s0 = []) (some []) (Chk (s0.length * (192 : Nat) ≤ (140737488355328 : Nat)) (some s0))

noncomputable def slices_Clone_79 (s0 : (List Contact)) : Option (List Contact) :=
  Rx.Alike (s0 = []) (some []) (Chk (s0.length * (72 : Nat) ≤ (140737488355328 : Nat)) (some s0))

noncomputable def slices_Clone_80 (s0 : (List PairKey)) : Option (List PairKey) :=
  Rx.Alike (s0 = []) (some []) (Chk (s0.length * (32 : Nat) ≤ (140737488355328 : Nat)) (some s0))

noncomputable def slices_Clone_115 (s0 : (List ContactPoint)) : Option (List ContactPoint) :=
  Rx.Alike (s0 = []) (some []) (Chk (s0.length * (48 : Nat) ≤ (140737488355328 : Nat)) (some s0))

noncomputable def manifold_Clone (m0 : Manifold) : Option Manifold :=
  Rx.Bind (slices_Clone_115 m0.Points) fun (r360 : List ContactPoint) =>
  some { Normal := m0.Normal, Points := r360 : Manifold }

noncomputable def world_Clone (w0 : World_) : Option World_ :=
  Rx.Bind (slices_Clone w0.Bodies) fun (r361 : List Body) =>
  Rx.Bind (slices_Clone_78 w0.Joints) fun (r362 : List Joint) =>
  Rx.Bind (slices_Clone_79 w0.Contacts) fun (r363 : List Contact) =>
  Rx.Bind (slices_Clone_80 w0.Overlaps) fun (r364 : List PairKey) =>
  Let (↑r361.length : Int) fun (x365 : Int) =>
  LOOP
  (fun (rec366 : Int × List Body → Option World_) (s367 : Int × List Body) =>
  Let (decide (s367.fst < x365)) fun (x368 : Bool) =>
  if x368 = true then
  Chk ((0 : Int) ≤ s367.fst ∧ s367.fst < (↑(List.length s367.snd) : Int))
  (Chk ((0 : Int) ≤ s367.fst ∧ s367.fst < (↑(List.length s367.snd) : Int))
  (Let (ix s367.snd s367.fst) fun (x369 : Body) =>
  Rx.Bind (body_Clone x369) fun (r370 : Body) =>
  Chk ((0 : Int) ≤ s367.fst ∧ s367.fst < (↑(List.length s367.snd) : Int))
  (Chk ((0 : Int) ≤ s367.fst ∧ s367.fst < (↑(List.length s367.snd) : Int))
  (Let (List.set s367.snd (Int.toNat s367.fst) r370) fun (x371 : List Body) =>
  Let (IntKind.i64.wrap (s367.fst + (1 : Int))) fun (x372 : Int) => rec366 (x372, x371)))))
  else
  Let (↑r363.length : Int) fun (x373 : Int) =>
  LOOP
  (fun (rec374 : Int × List Contact → Option World_) (s375 : Int × List Contact) =>
  Let (decide (s375.fst < x373)) fun (x376 : Bool) =>
  if x376 = true then
  Chk ((0 : Int) ≤ s375.fst ∧ s375.fst < (↑(List.length s375.snd) : Int))
  (Chk ((0 : Int) ≤ s375.fst ∧ s375.fst < (↑(List.length s375.snd) : Int))
  (Let (ix s375.snd s375.fst) fun (x377 : Contact) =>
  Rx.Bind (manifold_Clone x377.Manifold) fun (r378 : Manifold) =>
  Chk ((0 : Int) ≤ s375.fst ∧ s375.fst < (↑(List.length s375.snd) : Int))
  (Chk ((0 : Int) ≤ s375.fst ∧ s375.fst < (↑(List.length s375.snd) : Int))
  (Let (List.set s375.snd (Int.toNat s375.fst) { Key := (ix s375.snd s375.fst).Key, Manifold := r378 : Contact })
  fun (x379 : List Contact) => Let (IntKind.i64.wrap (s375.fst + (1 : Int))) fun (x380 : Int) => rec374 (x380, x379)))))
  else
  some
  { Settings := w0.Settings, Bodies := s367.snd, Joints := r362, Contacts := s375.snd, Overlaps := r364, NextID := w0.NextID, Frame := w0.Frame : World_ })
  fuel ((0 : Int), r363))
  fuel ((0 : Int), r361)

noncomputable def world_AddBody (w0 : World_) (b1 : Body) : Option (World_ × Int × Int) :=
  Let (↑w0.Bodies.length : Int) fun (x381 : Int) =>
  Let (decide (x381 ≥ (32 : Int))) fun (x382 : Bool) =>
  Let (decide (w0.NextID ≥ (1099511627776 : Int))) fun (x383 : Bool) =>
  Let (bif x382 then true else x383) fun (x384 : Bool) =>
  if x384 = true then
  some
  ({ Settings := { TimeStep := (0 : Int), Gravity := { X := (0 : Int), Y := (0 : Int) : Vec }, Iterations := (0 : Int), SleepSteps := (0 : Int) : Settings }, Bodies := [], Joints := [], Contacts := [], Overlaps := [], NextID := (0 : Int), Frame := (0 : Int) : World_ },
  (0 : Int), (9 : Int))
  else
  Rx.Bind (body_Clone b1) fun (r385 : Body) =>
  Rx.Bind
  (body_Validate
  { ID := w0.NextID, Kind := r385.Kind, Transform := r385.Transform, Velocity := r385.Velocity, AngularVelocity := r385.AngularVelocity, Force := r385.Force, Torque := r385.Torque, LinearDamping := r385.LinearDamping, AngularDamping := r385.AngularDamping, GravityScale := r385.GravityScale, Bullet := r385.Bullet, FixedRotation := r385.FixedRotation, NoSleep := r385.NoSleep, Asleep := r385.Asleep, IdleSteps := r385.IdleSteps, Fixtures := r385.Fixtures : Body })
  fun (r386 : Int) =>
  Let (r386 != (0 : Int)) fun (x387 : Bool) =>
  if x387 = true then
  some
  ({ Settings := { TimeStep := (0 : Int), Gravity := { X := (0 : Int), Y := (0 : Int) : Vec }, Iterations := (0 : Int), SleepSteps := (0 : Int) : Settings }, Bodies := [], Joints := [], Contacts := [], Overlaps := [], NextID := (0 : Int), Frame := (0 : Int) : World_ },
  (0 : Int), (14 : Int))
  else
  Rx.Bind (world_Clone w0) fun (r388 : World_) =>
  Chk
  ((r388.Bodies.length +
  [{ ID := w0.NextID, Kind := r385.Kind, Transform := r385.Transform, Velocity := r385.Velocity, AngularVelocity := r385.AngularVelocity, Force := r385.Force, Torque := r385.Torque, LinearDamping := r385.LinearDamping, AngularDamping := r385.AngularDamping, GravityScale := r385.GravityScale, Bullet := r385.Bullet, FixedRotation := r385.FixedRotation, NoSleep := r385.NoSleep, Asleep := r385.Asleep, IdleSteps := r385.IdleSteps, Fixtures := r385.Fixtures : Body }].length) *
  (152 : Nat) ≤
  (140737488355328 : Nat))
  (Let
  (r388.Bodies ++
  [{ ID := w0.NextID, Kind := r385.Kind, Transform := r385.Transform, Velocity := r385.Velocity, AngularVelocity := r385.AngularVelocity, Force := r385.Force, Torque := r385.Torque, LinearDamping := r385.LinearDamping, AngularDamping := r385.AngularDamping, GravityScale := r385.GravityScale, Bullet := r385.Bullet, FixedRotation := r385.FixedRotation, NoSleep := r385.NoSleep, Asleep := r385.Asleep, IdleSteps := r385.IdleSteps, Fixtures := r385.Fixtures : Body }])
  fun (x389 : List Body) =>
  Let (IntKind.i64.wrap (r388.NextID + (1 : Int))) fun (x390 : Int) =>
  some
  ({ Settings := r388.Settings, Bodies := x389, Joints := r388.Joints, Contacts := r388.Contacts, Overlaps := r388.Overlaps, NextID := x390, Frame := r388.Frame : World_ },
  w0.NextID, (0 : Int)))

noncomputable def world_FindBody_1 (b0 : Body) (p1 : Int) : Option Bool :=
  Let (b0.ID == p1) fun (x391 : Bool) => some x391

noncomputable def slices_IndexFunc (s0 : (List Body)) (f1 : (Body → Option Bool)) : Option Int :=
  Let (↑s0.length : Int) fun (x392 : Int) =>
  LOOP
  (fun (rec393 : Int → Option Int) (s394 : Int) =>
  Let (decide (s394 < x392)) fun (x395 : Bool) =>
  if x395 = true then
  Chk ((0 : Int) ≤ s394 ∧ s394 < (↑s0.length : Int))
  (Let (ix s0 s394) fun (x396 : Body) =>
  Rx.Bind (f1 x396) fun (r397 : Bool) =>
  if r397 = true then some s394 else Let (IntKind.i64.wrap (s394 + (1 : Int))) fun (x398 : Int) => rec393 x398)
  else some (-1 : Int))
  fuel (0 : Int)

noncomputable def world_FindBody (w0 : World_) (id1 : Int) : Option Int :=
  Rx.Bind (slices_IndexFunc w0.Bodies fun (a : Tup tb [Ix.tBody]) => world_FindBody_1 a id1) fun (r399 : Int) => some r399

noncomputable def world_RemoveBody_1 (k0 : PairKey) (p1 : Int) : Option Bool :=
  Let (k0.BodyA == p1) fun (x400 : Bool) =>
  Let (k0.BodyB == p1) fun (x401 : Bool) => Let (bif x400 then true else x401) fun (x402 : Bool) => some x402

noncomputable def joint_Attached (j0 : Joint) (id1 : Int) : Option Bool :=
  Let (id1 != (0 : Int)) fun (x403 : Bool) =>
  Let (j0.BodyA == id1) fun (x404 : Bool) =>
  Let (j0.BodyB == id1) fun (x405 : Bool) =>
  Let (bif x404 then true else x405) fun (x406 : Bool) =>
  Let (bif x403 then x406 else false) fun (x407 : Bool) => some x407

noncomputable def world_other (a0 : Int) (b1 : Int) (id2 : Int) : Option Int :=
  Let (a0 == id2) fun (x408 : Bool) => if x408 = true then some b1 else some a0

noncomputable def world_RemoveBody_2 (j0 : Joint) (p1 : Int) : Option Bool :=
  Rx.Bind (joint_Attached j0 p1) fun (r409 : Bool) => some r409

noncomputable def slices_IndexFunc_69 (s0 : (List Joint)) (f1 : (Joint → Option Bool)) : Option Int :=
  Let (↑s0.length : Int) fun (x410 : Int) =>
  LOOP
  (fun (rec411 : Int → Option Int) (s412 : Int) =>
  Let (decide (s412 < x410)) fun (x413 : Bool) =>
  if x413 = true then
  Chk ((0 : Int) ≤ s412 ∧ s412 < (↑s0.length : Int))
  (Let (ix s0 s412) fun (x414 : Joint) =>
  Rx.Bind (f1 x414) fun (r415 : Bool) =>
  if r415 = true then some s412 else Let (IntKind.i64.wrap (s412 + (1 : Int))) fun (x416 : Int) => rec411 x416)
  else some (-1 : Int))
  fuel (0 : Int)

noncomputable def slices_IndexFunc_100 (s0 : (List Contact)) (f1 : (Contact → Option Bool)) : Option Int :=
  Let (↑s0.length : Int) fun (x417 : Int) =>
  LOOP
  (fun (rec418 : Int → Option Int) (s419 : Int) =>
  Let (decide (s419 < x417)) fun (x420 : Bool) =>
  if x420 = true then
  Chk ((0 : Int) ≤ s419 ∧ s419 < (↑s0.length : Int))
  (Let (ix s0 s419) fun (x421 : Contact) =>
  Rx.Bind (f1 x421) fun (r422 : Bool) =>
  if r422 = true then some s419 else Let (IntKind.i64.wrap (s419 + (1 : Int))) fun (x423 : Int) => rec418 x423)
  else some (-1 : Int))
  fuel (0 : Int)

noncomputable def slices_IndexFunc_101 (s0 : (List PairKey)) (f1 : (PairKey → Option Bool)) : Option Int :=
  Let (↑s0.length : Int) fun (x424 : Int) =>
  LOOP
  (fun (rec425 : Int → Option Int) (s426 : Int) =>
  Let (decide (s426 < x424)) fun (x427 : Bool) =>
  if x427 = true then
  Chk ((0 : Int) ≤ s426 ∧ s426 < (↑s0.length : Int))
  (Let (ix s0 s426) fun (x428 : PairKey) =>
  Rx.Bind (f1 x428) fun (r429 : Bool) =>
  if r429 = true then some s426 else Let (IntKind.i64.wrap (s426 + (1 : Int))) fun (x430 : Int) => rec425 x430)
  else some (-1 : Int))
  fuel (0 : Int)

noncomputable def world_WakeBody (w0 : World_) (id1 : Int) : Option World_ :=
  Rx.Bind (world_Clone w0) fun (r431 : World_) =>
  Join
  (fun (v432 : List Body) =>
  some
  { Settings := r431.Settings, Bodies := v432, Joints := r431.Joints, Contacts := r431.Contacts, Overlaps := r431.Overlaps, NextID := r431.NextID, Frame := r431.Frame : World_ })
  fun (j433 : List Body → Option World_) =>
  Rx.Bind (world_FindBody r431 id1) fun (r434 : Int) =>
  Let (decide (r434 ≥ (0 : Int))) fun (x435 : Bool) =>
  Chk ((x435 == true) = true → (0 : Int) ≤ r434 ∧ r434 < (↑r431.Bodies.length : Int))
  (Chk ((x435 == true) = true → (0 : Int) ≤ r434 ∧ r434 < (↑r431.Bodies.length : Int))
  (Let (ix r431.Bodies r434) fun (x436 : Body) =>
  Let (x436.Kind == (3 : Int)) fun (x437 : Bool) =>
  Let (bif x435 then x437 else false) fun (x438 : Bool) =>
  if x438 = true then
  Chk ((0 : Int) ≤ r434 ∧ r434 < (↑r431.Bodies.length : Int))
  (Chk ((0 : Int) ≤ r434 ∧ r434 < (↑r431.Bodies.length : Int))
  (Let
  (r431.Bodies.set r434.toNat
  { ID := (ix r431.Bodies r434).ID, Kind := (ix r431.Bodies r434).Kind, Transform := (ix r431.Bodies r434).Transform, Velocity := (ix r431.Bodies r434).Velocity, AngularVelocity := (ix r431.Bodies r434).AngularVelocity, Force := (ix r431.Bodies r434).Force, Torque := (ix r431.Bodies r434).Torque, LinearDamping := (ix r431.Bodies r434).LinearDamping, AngularDamping := (ix r431.Bodies r434).AngularDamping, GravityScale := (ix r431.Bodies r434).GravityScale, Bullet := (ix r431.Bodies r434).Bullet, FixedRotation := (ix r431.Bodies r434).FixedRotation, NoSleep := (ix r431.Bodies r434).NoSleep, Asleep := false, IdleSteps := (ix r431.Bodies r434).IdleSteps, Fixtures := (ix r431.Bodies r434).Fixtures : Body })
  fun (x439 : List Body) =>
  Chk ((0 : Int) ≤ r434 ∧ r434 < (↑x439.length : Int))
  (Chk ((0 : Int) ≤ r434 ∧ r434 < (↑x439.length : Int))
  (Let
  (x439.set r434.toNat
  { ID := (ix x439 r434).ID, Kind := (ix x439 r434).Kind, Transform := (ix x439 r434).Transform, Velocity := (ix x439 r434).Velocity, AngularVelocity := (ix x439 r434).AngularVelocity, Force := (ix x439 r434).Force, Torque := (ix x439 r434).Torque, LinearDamping := (ix x439 r434).LinearDamping, AngularDamping := (ix x439 r434).AngularDamping, GravityScale := (ix x439 r434).GravityScale, Bullet := (ix x439 r434).Bullet, FixedRotation := (ix x439 r434).FixedRotation, NoSleep := (ix x439 r434).NoSleep, Asleep := (ix x439 r434).Asleep, IdleSteps := (0 : Int), Fixtures := (ix x439 r434).Fixtures : Body })
  fun (x440 : List Body) => j433 x440))))
  else j433 r431.Bodies))

noncomputable def world_wakeAll (w0 : World_) (ids1 : (List Int)) : Option World_ :=
  Let (↑ids1.length : Int) fun (x441 : Int) =>
  LOOP
  (fun (rec442 : Int × World_ → Option World_) (s443 : Int × World_) =>
  Let (decide (s443.fst < x441)) fun (x444 : Bool) =>
  if x444 = true then
  Join (fun (v445 : World_) => Let (IntKind.i64.wrap (s443.fst + (1 : Int))) fun (x446 : Int) => rec442 (x446, v445))
  fun (j447 : World_ → Option World_) =>
  Chk ((0 : Int) ≤ s443.fst ∧ s443.fst < (↑ids1.length : Int))
  (Let (ix ids1 s443.fst) fun (x448 : Int) =>
  Let (x448 != (0 : Int)) fun (x449 : Bool) =>
  if x449 = true then Rx.Bind (world_WakeBody s443.snd x448) fun (r450 : World_) => j447 r450 else j447 s443.snd)
  else some s443.snd)
  fuel ((0 : Int), w0)

noncomputable def world_RemoveBody (w0 : World_) (id1 : Int) : Option (World_ × Int) :=
  Rx.Bind (world_FindBody w0 id1) fun (r451 : Int) =>
  Let (decide (r451 < (0 : Int))) fun (x452 : Bool) =>
  if x452 = true then
  some
  ({ Settings := { TimeStep := (0 : Int), Gravity := { X := (0 : Int), Y := (0 : Int) : Vec }, Iterations := (0 : Int), SleepSteps := (0 : Int) : Settings }, Bodies := [], Joints := [], Contacts := [], Overlaps := [], NextID := (0 : Int), Frame := (0 : Int) : World_ },
  (8 : Int))
  else
  Rx.Bind (world_Clone w0) fun (r453 : World_) =>
  Let (↑r453.Joints.length : Int) fun (x454 : Int) =>
  LOOP
  (fun (rec455 : List Int × Int → Option (World_ × Int)) (s456 : List Int × Int) =>
  Let (decide (s456.snd < x454)) fun (x457 : Bool) =>
  if x457 = true then
  Join (fun (v458 : List Int) => Let (IntKind.i64.wrap (s456.snd + (1 : Int))) fun (x459 : Int) => rec455 (v458, x459))
  fun (j460 : List Int → Option (World_ × Int)) =>
  Chk ((0 : Int) ≤ s456.snd ∧ s456.snd < (↑r453.Joints.length : Int))
  (Chk ((0 : Int) ≤ s456.snd ∧ s456.snd < (↑r453.Joints.length : Int))
  (Let (ix r453.Joints s456.snd) fun (x461 : Joint) =>
  Rx.Bind (joint_Attached x461 id1) fun (r462 : Bool) =>
  if r462 = true then
  Rx.Bind (world_other x461.BodyA x461.BodyB id1) fun (r463 : Int) =>
  Chk ((List.length s456.fst + [r463].length) * (8 : Nat) ≤ (140737488355328 : Nat))
  (Let (s456.fst ++ [r463]) fun (x464 : List Int) => j460 x464)
  else j460 s456.fst))
  else
  Let (↑r453.Contacts.length : Int) fun (x465 : Int) =>
  LOOP
  (fun (rec466 : List Int × Int → Option (World_ × Int)) (s467 : List Int × Int) =>
  Let (decide (s467.snd < x465)) fun (x468 : Bool) =>
  if x468 = true then
  Join (fun (v469 : List Int) => Let (IntKind.i64.wrap (s467.snd + (1 : Int))) fun (x470 : Int) => rec466 (v469, x470))
  fun (j471 : List Int → Option (World_ × Int)) =>
  Chk ((0 : Int) ≤ s467.snd ∧ s467.snd < (↑r453.Contacts.length : Int))
  (Chk ((0 : Int) ≤ s467.snd ∧ s467.snd < (↑r453.Contacts.length : Int))
  (Let (ix r453.Contacts s467.snd) fun (x472 : Contact) =>
  Rx.Bind (world_RemoveBody_1 x472.Key id1) fun (r473 : Bool) =>
  if r473 = true then
  Rx.Bind (world_other x472.Key.BodyA x472.Key.BodyB id1) fun (r474 : Int) =>
  Chk ((List.length s467.fst + [r474].length) * (8 : Nat) ≤ (140737488355328 : Nat))
  (Let (s467.fst ++ [r474]) fun (x475 : List Int) => j471 x475)
  else j471 s467.fst))
  else
  Let (IntKind.i64.wrap (r451 + (1 : Int))) fun (x476 : Int) =>
  Let (↑r453.Bodies.length : Int) fun (x477 : Int) =>
  Chk ((0 : Int) ≤ r451 ∧ r451 ≤ x476 ∧ x476 ≤ x477 ∧ x477 ≤ (↑r453.Bodies.length : Int))
  (Let (r451 == x476) fun (x478 : Bool) =>
  if x478 = true then
  Rx.Bind (slices_IndexFunc_69 r453.Joints fun (a : Tup tb [Ix.tJoint]) => world_RemoveBody_2 a id1) fun (r479 : Int) =>
  Let (r479 == (-1 : Int)) fun (x480 : Bool) =>
  if x480 = true then none
  else
  Let (IntKind.i64.wrap (r479 + (1 : Int))) fun (x481 : Int) =>
  LOOP
  (fun (rec482 : Int × Int × List Joint → Option (World_ × Int)) (s483 : Int × Int × List Joint) =>
  Let (↑(List.length s483.snd.snd) : Int) fun (x484 : Int) =>
  Let (decide (s483.snd.fst < x484)) fun (x485 : Bool) =>
  if x485 = true then
  Join
  (fun (v486 : Int × List Joint) =>
  Let (IntKind.i64.wrap (s483.snd.fst + (1 : Int))) fun (x487 : Int) => rec482 (v486.fst, x487, v486.snd))
  fun (j488 : Int × List Joint → Option (World_ × Int)) =>
  Chk ((0 : Int) ≤ s483.snd.fst ∧ s483.snd.fst < (↑(List.length s483.snd.snd) : Int))
  (Chk ((0 : Int) ≤ s483.snd.fst ∧ s483.snd.fst < (↑(List.length s483.snd.snd) : Int))
  (Let (ix s483.snd.snd s483.snd.fst) fun (x489 : Joint) =>
  Rx.Bind (world_RemoveBody_2 x489 id1) fun (r490 : Bool) =>
  Let (!r490) fun (x491 : Bool) =>
  if x491 = true then
  Chk ((0 : Int) ≤ s483.fst ∧ s483.fst < (↑(List.length s483.snd.snd) : Int))
  (Chk ((0 : Int) ≤ s483.fst ∧ s483.fst < (↑(List.length s483.snd.snd) : Int))
  (Let (List.set s483.snd.snd (Int.toNat s483.fst) x489) fun (x492 : List Joint) =>
  Let (IntKind.i64.wrap (s483.fst + (1 : Int))) fun (x493 : Int) => j488 (x493, x492)))
  else j488 (s483.fst, s483.snd.snd)))
  else
  Chk
  ((0 : Int) ≤ (some s483.fst).getD (0 : Int) ∧
  (0 : Int) ≤ none.getD (0 : Int) ∧
  Int.toNat s483.fst ≤ List.length s483.snd.snd ∧ List.length s483.snd.snd ≤ List.length s483.snd.snd)
  (Chk
  (Int.toNat s483.fst + (List.length s483.snd.snd - Int.toNat s483.fst) ≤ List.length s483.snd.snd ∧
  (0 : Nat) < List.length s483.snd.snd - Int.toNat s483.fst)
  (Let
  (List.take (Int.toNat s483.fst) s483.snd.snd ++
  List.replicate (List.length s483.snd.snd - Int.toNat s483.fst)
  { ID := (0 : Int), Kind := (0 : Int), BodyA := (0 : Int), BodyB := (0 : Int), AnchorA := { X := (0 : Int), Y := (0 : Int) : Vec }, AnchorB := { X := (0 : Int), Y := (0 : Int) : Vec }, Axis := { X := (0 : Int), Y := (0 : Int) : Vec }, ReferenceAngle := (0 : Int), EnableLimit := false, Lower := (0 : Int), Upper := (0 : Int), EnableMotor := false, MotorSpeed := (0 : Int), MaxForce := (0 : Int), Softness := (0 : Int), BreakForce := (0 : Int), CollideConnected := false, Impulses := ((0 : Int), (0 : Int), (0 : Int), (0 : Int)) : Joint } ++
  List.drop (Int.toNat s483.fst + (List.length s483.snd.snd - Int.toNat s483.fst)) s483.snd.snd)
  fun (x494 : List Joint) =>
  Chk
  ((0 : Int) ≤ none.getD (0 : Int) ∧
  (0 : Int) ≤ (some s483.fst).getD (0 : Int) ∧ (0 : Nat) ≤ Int.toNat s483.fst ∧ Int.toNat s483.fst ≤ x494.length)
  (Chk (Int.toNat s483.fst - (0 : Nat) ≤ x494.length)
  (Let (List.take (Int.toNat s483.fst - (0 : Nat)) x494) fun (x495 : List Joint) => none)))))
  fuel (r479, x481, r453.Joints)
  else
  Let (↑r453.Bodies.length : Int) fun (x496 : Int) =>
  Chk
  ((0 : Int) ≤ none.getD (0 : Int) ∧
  (0 : Int) ≤ (some r451).getD (0 : Int) ∧ (0 : Nat) ≤ r451.toNat ∧ r451.toNat ≤ r453.Bodies.length)
  (Chk
  ((0 : Int) ≤ (some x476).getD (0 : Int) ∧
  (0 : Int) ≤ none.getD (0 : Int) ∧ x476.toNat ≤ r453.Bodies.length ∧ r453.Bodies.length ≤ r453.Bodies.length)
  (Chk (x476.toNat + (r453.Bodies.length - x476.toNat) ≤ r453.Bodies.length)
  (Let (List.take (r453.Bodies.length - x476.toNat) (List.drop x476.toNat r453.Bodies)) fun (x497 : List Body) =>
  Chk
  ((0 : Nat) + (r451.toNat - (0 : Nat) + x497.length) ≤ r453.Bodies.length ∧
  r451.toNat - (0 : Nat) + x497.length ≤ r453.Bodies.length - (0 : Nat) ∧ (0 : Nat) < r453.Bodies.length - (0 : Nat))
  (Let
  (List.take ((0 : Nat) + (r451.toNat - (0 : Nat))) r453.Bodies ++ x497 ++
  List.drop ((0 : Nat) + (r451.toNat - (0 : Nat)) + x497.length) r453.Bodies)
  fun (x498 : List Body) =>
  Chk
  ((0 : Int) ≤ (some (↑(r451.toNat - (0 : Nat) + x497.length) : Int)).getD (0 : Int) ∧
  (0 : Int) ≤ (some x496).getD (0 : Int) ∧
  (↑(r451.toNat - (0 : Nat) + x497.length) : Int).toNat ≤ x496.toNat ∧
  x496.toNat ≤ r453.Bodies.length - (0 : Nat) ∧ r451.toNat - (0 : Nat) + x497.length ≤ r453.Bodies.length - (0 : Nat))
  (Chk
  ((0 : Nat) + (↑(r451.toNat - (0 : Nat) + x497.length) : Int).toNat +
  (x496.toNat - (↑(r451.toNat - (0 : Nat) + x497.length) : Int).toNat) ≤
  x498.length ∧
  (0 : Nat) < r453.Bodies.length - (0 : Nat) - (↑(r451.toNat - (0 : Nat) + x497.length) : Int).toNat)
  (Let
  (List.take ((0 : Nat) + (↑(r451.toNat - (0 : Nat) + x497.length) : Int).toNat) x498 ++
  List.replicate (x496.toNat - (↑(r451.toNat - (0 : Nat) + x497.length) : Int).toNat)
  { ID := (0 : Int), Kind := (0 : Int), Transform := { Position := { X := (0 : Int), Y := (0 : Int) : Vec }, Angle := (0 : Int) : Transform }, Velocity := { X := (0 : Int), Y := (0 : Int) : Vec }, AngularVelocity := (0 : Int), Force := { X := (0 : Int), Y := (0 : Int) : Vec }, Torque := (0 : Int), LinearDamping := (0 : Int), AngularDamping := (0 : Int), GravityScale := (0 : Int), Bullet := false, FixedRotation := false, NoSleep := false, Asleep := false, IdleSteps := (0 : Int), Fixtures := [] : Body } ++
  List.drop
  ((0 : Nat) + (↑(r451.toNat - (0 : Nat) + x497.length) : Int).toNat +
  (x496.toNat - (↑(r451.toNat - (0 : Nat) + x497.length) : Int).toNat))
  x498)
  fun (x499 : List Body) =>
  Chk (r451.toNat - (0 : Nat) + x497.length ≤ x499.length)
  (Let (List.take (r451.toNat - (0 : Nat) + x497.length) x499) fun (x500 : List Body) =>
  Rx.Bind (slices_IndexFunc_69 r453.Joints fun (a : Tup tb [Ix.tJoint]) => world_RemoveBody_2 a id1) fun (r501 : Int) =>
  Let (r501 == (-1 : Int)) fun (x502 : Bool) =>
  if x502 = true then none
  else
  Let (IntKind.i64.wrap (r501 + (1 : Int))) fun (x503 : Int) =>
  LOOP
  (fun (rec504 : Int × Int × List Joint → Option (World_ × Int)) (s505 : Int × Int × List Joint) =>
  Let (↑(List.length s505.snd.snd) : Int) fun (x506 : Int) =>
  Let (decide (s505.snd.fst < x506)) fun (x507 : Bool) =>
  if x507 = true then
  Join
  (fun (v508 : Int × List Joint) =>
  Let (IntKind.i64.wrap (s505.snd.fst + (1 : Int))) fun (x509 : Int) => rec504 (v508.fst, x509, v508.snd))
  fun (j510 : Int × List Joint → Option (World_ × Int)) =>
  Chk ((0 : Int) ≤ s505.snd.fst ∧ s505.snd.fst < (↑(List.length s505.snd.snd) : Int))
  (Chk ((0 : Int) ≤ s505.snd.fst ∧ s505.snd.fst < (↑(List.length s505.snd.snd) : Int))
  (Let (ix s505.snd.snd s505.snd.fst) fun (x511 : Joint) =>
  Rx.Bind (world_RemoveBody_2 x511 id1) fun (r512 : Bool) =>
  Let (!r512) fun (x513 : Bool) =>
  if x513 = true then
  Chk ((0 : Int) ≤ s505.fst ∧ s505.fst < (↑(List.length s505.snd.snd) : Int))
  (Chk ((0 : Int) ≤ s505.fst ∧ s505.fst < (↑(List.length s505.snd.snd) : Int))
  (Let (List.set s505.snd.snd (Int.toNat s505.fst) x511) fun (x514 : List Joint) =>
  Let (IntKind.i64.wrap (s505.fst + (1 : Int))) fun (x515 : Int) => j510 (x515, x514)))
  else j510 (s505.fst, s505.snd.snd)))
  else
  Chk
  ((0 : Int) ≤ (some s505.fst).getD (0 : Int) ∧
  (0 : Int) ≤ none.getD (0 : Int) ∧
  Int.toNat s505.fst ≤ List.length s505.snd.snd ∧ List.length s505.snd.snd ≤ List.length s505.snd.snd)
  (Chk
  (Int.toNat s505.fst + (List.length s505.snd.snd - Int.toNat s505.fst) ≤ List.length s505.snd.snd ∧
  (0 : Nat) < List.length s505.snd.snd - Int.toNat s505.fst)
  (Let
  (List.take (Int.toNat s505.fst) s505.snd.snd ++
  List.replicate (List.length s505.snd.snd - Int.toNat s505.fst)
  { ID := (0 : Int), Kind := (0 : Int), BodyA := (0 : Int), BodyB := (0 : Int), AnchorA := { X := (0 : Int), Y := (0 : Int) : Vec }, AnchorB := { X := (0 : Int), Y := (0 : Int) : Vec }, Axis := { X := (0 : Int), Y := (0 : Int) : Vec }, ReferenceAngle := (0 : Int), EnableLimit := false, Lower := (0 : Int), Upper := (0 : Int), EnableMotor := false, MotorSpeed := (0 : Int), MaxForce := (0 : Int), Softness := (0 : Int), BreakForce := (0 : Int), CollideConnected := false, Impulses := ((0 : Int), (0 : Int), (0 : Int), (0 : Int)) : Joint } ++
  List.drop (Int.toNat s505.fst + (List.length s505.snd.snd - Int.toNat s505.fst)) s505.snd.snd)
  fun (x516 : List Joint) =>
  Chk
  ((0 : Int) ≤ none.getD (0 : Int) ∧
  (0 : Int) ≤ (some s505.fst).getD (0 : Int) ∧ (0 : Nat) ≤ Int.toNat s505.fst ∧ Int.toNat s505.fst ≤ x516.length)
  (Chk (Int.toNat s505.fst - (0 : Nat) ≤ x516.length)
  (Let (List.take (Int.toNat s505.fst - (0 : Nat)) x516) fun (x517 : List Joint) => none)))))
  fuel (r501, x503, r453.Joints))))))))))
  fuel (s456.fst, (0 : Int)))
  fuel ([], (0 : Int))

noncomputable def world_validBodies (w0 : World_) : Option Bool :=
  Let (↑w0.Bodies.length : Int) fun (x518 : Int) =>
  LOOP
  (fun (rec519 : Int × Int → Option Bool) (s520 : Int × Int) =>
  Let (decide (s520.snd < x518)) fun (x521 : Bool) =>
  if x521 = true then
  Chk ((0 : Int) ≤ s520.snd ∧ s520.snd < (↑w0.Bodies.length : Int))
  (Let (ix w0.Bodies s520.snd) fun (x522 : Body) =>
  Rx.Bind (body_Validate x522) fun (r523 : Int) =>
  Let (r523 != (0 : Int)) fun (x524 : Bool) =>
  Let (decide (x522.ID ≥ w0.NextID)) fun (x525 : Bool) =>
  Let (bif x524 then true else x525) fun (x526 : Bool) =>
  Let (decide (x522.ID ≤ s520.fst)) fun (x527 : Bool) =>
  Let (bif x526 then true else x527) fun (x528 : Bool) =>
  if x528 = true then some false
  else Let (IntKind.i64.wrap (s520.snd + (1 : Int))) fun (x529 : Int) => rec519 (x522.ID, x529))
  else some true)
  fuel ((0 : Int), (0 : Int))

noncomputable def joint_limitRange (k0 : Int) : Option (Int × Int) :=
  Let (k0 == (1 : Int)) fun (x530 : Bool) =>
  if x530 = true then some ((0 : Int), (268435456 : Int))
  else
  Let (k0 == (2 : Int)) fun (x531 : Bool) =>
  if x531 = true then some ((-205888 : Int), (205888 : Int)) else some ((-268435456 : Int), (268435456 : Int))

noncomputable def joint_inRange (n0 : Int) (low1 : Int) (high2 : Int) : Option Bool :=
  Let (decide (n0 ≥ low1)) fun (x532 : Bool) =>
  Let (decide (n0 ≤ high2)) fun (x533 : Bool) => Let (bif x532 then x533 else false) fun (x534 : Bool) => some x534

noncomputable def joint_pointInRange (v0 : Vec) (limit1 : Int) : Option Bool :=
  Let (IntKind.i64.wrap ((0 : Int) - limit1)) fun (x535 : Int) =>
  Rx.Bind (joint_inRange v0.X x535 limit1) fun (r536 : Bool) =>
  Let (IntKind.i64.wrap ((0 : Int) - limit1)) fun (x537 : Int) =>
  Rx.Bind (if (r536 == true) = true then joint_inRange v0.Y x537 limit1 else some default) fun (r538 : Bool) =>
  Let (bif r536 then r538 else false) fun (x539 : Bool) => some x539

noncomputable def joint_numbersInRange (j0 : Joint) : Option Bool :=
  Join
  (fun (v540 : Int) =>
  Rx.Bind (joint_limitRange j0.Kind) fun (r541 : Int × Int) =>
  LOOP
  (fun (rec542 : Int → Option Bool) (s543 : Int) =>
  Let (decide (s543 < (4 : Int))) fun (x544 : Bool) =>
  if x544 = true then
  Chk ((0 : Int) ≤ s543 ∧ s543 < (↑(4 : Nat) : Int))
  (Let (ix [j0.Impulses.fst, j0.Impulses.snd.fst, j0.Impulses.snd.snd.fst, j0.Impulses.snd.snd.snd] s543)
  fun (x545 : Int) =>
  Rx.Bind (joint_inRange x545 (-536870911 : Int) (536870911 : Int)) fun (r546 : Bool) =>
  Let (!r546) fun (x547 : Bool) =>
  if x547 = true then some false else Let (IntKind.i64.wrap (s543 + (1 : Int))) fun (x548 : Int) => rec542 x548)
  else
  Rx.Bind (joint_inRange j0.ID (1 : Int) (1099511627776 : Int)) fun (r549 : Bool) =>
  Rx.Bind (if (r549 == true) = true then joint_pointInRange j0.AnchorA v540 else some default) fun (r550 : Bool) =>
  Let (bif r549 then r550 else false) fun (x551 : Bool) =>
  Rx.Bind (if (x551 == true) = true then joint_pointInRange j0.AnchorB (1048576 : Int) else some default)
  fun (r552 : Bool) =>
  Let (bif x551 then r552 else false) fun (x553 : Bool) =>
  Rx.Bind (if (x553 == true) = true then joint_inRange j0.ReferenceAngle (-205888 : Int) (205887 : Int) else some default)
  fun (r554 : Bool) =>
  Let (bif x553 then r554 else false) fun (x555 : Bool) =>
  Rx.Bind (if (x555 == true) = true then joint_inRange j0.Lower r541.fst r541.snd else some default) fun (r556 : Bool) =>
  Let (bif x555 then r556 else false) fun (x557 : Bool) =>
  Rx.Bind (if (x557 == true) = true then joint_inRange j0.Upper r541.fst r541.snd else some default) fun (r558 : Bool) =>
  Let (bif x557 then r558 else false) fun (x559 : Bool) =>
  Let (decide (j0.Lower ≤ j0.Upper)) fun (x560 : Bool) =>
  Let (bif x559 then x560 else false) fun (x561 : Bool) =>
  Rx.Bind (if (x561 == true) = true then joint_inRange j0.MotorSpeed (-16777216 : Int) (16777216 : Int) else some default)
  fun (r562 : Bool) =>
  Let (bif x561 then r562 else false) fun (x563 : Bool) =>
  Rx.Bind (if (x563 == true) = true then joint_inRange j0.MaxForce (0 : Int) (536870911 : Int) else some default)
  fun (r564 : Bool) =>
  Let (bif x563 then r564 else false) fun (x565 : Bool) =>
  Rx.Bind (if (x565 == true) = true then joint_inRange j0.Softness (0 : Int) (536870911 : Int) else some default)
  fun (r566 : Bool) =>
  Let (bif x565 then r566 else false) fun (x567 : Bool) =>
  Rx.Bind (if (x567 == true) = true then joint_inRange j0.BreakForce (0 : Int) (536870911 : Int) else some default)
  fun (r568 : Bool) => Let (bif x567 then r568 else false) fun (x569 : Bool) => some x569)
  fuel (0 : Int))
  fun (j570 : Int → Option Bool) =>
  Let (j0.Kind == (5 : Int)) fun (x571 : Bool) => if x571 = true then j570 (268435456 : Int) else j570 (1048576 : Int)

noncomputable def joint_validBodies (j0 : Joint) : Option Bool :=
  Let (j0.Kind == (5 : Int)) fun (x572 : Bool) =>
  if x572 = true then
  Let (j0.BodyA == (0 : Int)) fun (x573 : Bool) =>
  Rx.Bind (if (x573 == true) = true then joint_inRange j0.BodyB (1 : Int) (1099511627776 : Int) else some default)
  fun (r574 : Bool) => Let (bif x573 then r574 else false) fun (x575 : Bool) => some x575
  else
  Rx.Bind (joint_inRange j0.BodyA (1 : Int) (1099511627776 : Int)) fun (r576 : Bool) =>
  Rx.Bind (if (r576 == true) = true then joint_inRange j0.BodyB (1 : Int) (1099511627776 : Int) else some default)
  fun (r577 : Bool) =>
  Let (bif r576 then r577 else false) fun (x578 : Bool) =>
  Let (j0.BodyA != j0.BodyB) fun (x579 : Bool) => Let (bif x578 then x579 else false) fun (x580 : Bool) => some x580

noncomputable def joint_inconsistent (j0 : Joint) : Option Bool :=
  Let (decide (j0.Axis.X = (0 : Int)) && decide (j0.Axis.Y = (0 : Int))) fun (x581 : Bool) =>
  Join
  (fun (v582 : PUnit) =>
  Let (!x581) fun (x583 : Bool) =>
  Let (bif x583 then true else j0.EnableMotor) fun (x584 : Bool) =>
  Let (bif x584 then true else j0.EnableLimit) fun (x585 : Bool) => some x585)
  fun (j586 : PUnit → Option Bool) =>
  Let (j0.Kind == (3 : Int)) fun (x587 : Bool) =>
  if x587 = true then
  Rx.Bind (vec2_Length j0.Axis) fun (r588 : Int) =>
  Rx.Bind (joint_inRange r588 (65520 : Int) (65552 : Int)) fun (r589 : Bool) => Let (!r589) fun (x590 : Bool) => some x590
  else
  Let (j0.Kind == (1 : Int)) fun (x591 : Bool) =>
  if x591 = true then
  Let (!x581) fun (x592 : Bool) =>
  Let (bif x592 then true else j0.EnableMotor) fun (x593 : Bool) =>
  Let (!j0.EnableLimit) fun (x594 : Bool) => Let (bif x593 then true else x594) fun (x595 : Bool) => some x595
  else
  Let (j0.Kind == (4 : Int)) fun (x596 : Bool) =>
  if x596 = true then j586 ()
  else
  Let (j0.Kind == (5 : Int)) fun (x597 : Bool) =>
  if x597 = true then j586 () else Let (!x581) fun (x598 : Bool) => some x598

noncomputable def joint_Validate (j0 : Joint) : Option Int :=
  Let (decide (j0.Kind < (1 : Int))) fun (x599 : Bool) =>
  Let (decide (j0.Kind > (5 : Int))) fun (x600 : Bool) =>
  Let (bif x599 then true else x600) fun (x601 : Bool) =>
  if x601 = true then some (10 : Int)
  else
  Rx.Bind (joint_numbersInRange j0) fun (r602 : Bool) =>
  Let (!r602) fun (x603 : Bool) =>
  if x603 = true then some (6 : Int)
  else
  Rx.Bind (joint_validBodies j0) fun (r604 : Bool) =>
  Let (!r604) fun (x605 : Bool) =>
  if x605 = true then some (14 : Int)
  else Rx.Bind (joint_inconsistent j0) fun (r606 : Bool) => if r606 = true then some (15 : Int) else some (0 : Int)

noncomputable def world_bodiesExist (w0 : World_) (j1 : Joint) : Option Bool :=
  Rx.Bind (world_FindBody w0 j1.BodyB) fun (r607 : Int) =>
  Let (decide (r607 ≥ (0 : Int))) fun (x608 : Bool) =>
  Let (j1.Kind == (5 : Int)) fun (x609 : Bool) =>
  Rx.Bind (if (x608 == true && x609 == false) = true then world_FindBody w0 j1.BodyA else some default)
  fun (r610 : Int) =>
  Let (decide (r610 ≥ (0 : Int))) fun (x611 : Bool) =>
  Let (bif x609 then true else x611) fun (x612 : Bool) =>
  Let (bif x608 then x612 else false) fun (x613 : Bool) => some x613

noncomputable def world_validJoints (w0 : World_) : Option Bool :=
  Let (↑w0.Joints.length : Int) fun (x614 : Int) =>
  LOOP
  (fun (rec615 : Int × Int → Option Bool) (s616 : Int × Int) =>
  Let (decide (s616.snd < x614)) fun (x617 : Bool) =>
  if x617 = true then
  Chk ((0 : Int) ≤ s616.snd ∧ s616.snd < (↑w0.Joints.length : Int))
  (Let (ix w0.Joints s616.snd) fun (x618 : Joint) =>
  Rx.Bind (joint_Validate x618) fun (r619 : Int) =>
  Let (r619 != (0 : Int)) fun (x620 : Bool) =>
  Let (decide (x618.ID ≥ w0.NextID)) fun (x621 : Bool) =>
  Let (bif x620 then true else x621) fun (x622 : Bool) =>
  Let (decide (x618.ID ≤ s616.fst)) fun (x623 : Bool) =>
  Let (bif x622 then true else x623) fun (x624 : Bool) =>
  Rx.Bind (if (x624 == false) = true then world_bodiesExist w0 x618 else some default) fun (r625 : Bool) =>
  Let (!r625) fun (x626 : Bool) =>
  Let (bif x624 then true else x626) fun (x627 : Bool) =>
  Rx.Bind (if (x627 == false) = true then world_FindBody w0 x618.ID else some default) fun (r628 : Int) =>
  Let (decide (r628 ≥ (0 : Int))) fun (x629 : Bool) =>
  Let (bif x627 then true else x629) fun (x630 : Bool) =>
  if x630 = true then some false
  else Let (IntKind.i64.wrap (s616.snd + (1 : Int))) fun (x631 : Int) => rec615 (x618.ID, x631))
  else some true)
  fuel ((0 : Int), (0 : Int))

noncomputable def slices_IndexFunc_172 (s0 : (List Int)) (f1 : (Int → Option Bool)) : Option Int :=
  Let (↑s0.length : Int) fun (x632 : Int) =>
  LOOP
  (fun (rec633 : Int → Option Int) (s634 : Int) =>
  Let (decide (s634 < x632)) fun (x635 : Bool) =>
  if x635 = true then
  Chk ((0 : Int) ≤ s634 ∧ s634 < (↑s0.length : Int))
  (Let (ix s0 s634) fun (x636 : Int) =>
  Rx.Bind (f1 x636) fun (r637 : Bool) =>
  if r637 = true then some s634 else Let (IntKind.i64.wrap (s634 + (1 : Int))) fun (x638 : Int) => rec633 x638)
  else some (-1 : Int))
  fuel (0 : Int)

noncomputable def slices_ContainsFunc_146 (s0 : (List Int)) (f1 : (Int → Option Bool)) : Option Bool :=
  Rx.Bind (slices_IndexFunc_172 s0 f1) fun (r639 : Int) => Let (decide (r639 ≥ (0 : Int))) fun (x640 : Bool) => some x640

noncomputable def world_saturated_1 (n0 : Int) : Option Bool :=
  Rx.Bind (world_in n0 (-536870911 : Int) (536870911 : Int)) fun (r641 : Bool) =>
  Let (!r641) fun (x642 : Bool) => some x642

noncomputable def world_saturated (values0 : (List Int)) : Option Bool :=
  Rx.Bind (slices_ContainsFunc_146 values0 fun (a : Tup tb [Ix.tint]) => world_saturated_1 a) fun (r643 : Bool) =>
  Let (!r643) fun (x644 : Bool) => some x644

noncomputable def slices_IndexFunc_148 (s0 : (List ContactPoint)) (f1 : (ContactPoint → Option Bool)) : Option Int :=
  Let (↑s0.length : Int) fun (x645 : Int) =>
  LOOP
  (fun (rec646 : Int → Option Int) (s647 : Int) =>
  Let (decide (s647 < x645)) fun (x648 : Bool) =>
  if x648 = true then
  Chk ((0 : Int) ≤ s647 ∧ s647 < (↑s0.length : Int))
  (Let (ix s0 s647) fun (x649 : ContactPoint) =>
  Rx.Bind (f1 x649) fun (r650 : Bool) =>
  if r650 = true then some s647 else Let (IntKind.i64.wrap (s647 + (1 : Int))) fun (x651 : Int) => rec646 x651)
  else some (-1 : Int))
  fuel (0 : Int)

noncomputable def slices_ContainsFunc_119 (s0 : (List ContactPoint)) (f1 : (ContactPoint → Option Bool)) : Option Bool :=
  Rx.Bind (slices_IndexFunc_148 s0 f1) fun (r652 : Int) => Let (decide (r652 ≥ (0 : Int))) fun (x653 : Bool) => some x653

noncomputable def world_validManifold_1 (p0 : ContactPoint) : Option Bool :=
  Let (decide (p0.NormalImpulse < (0 : Int))) fun (x654 : Bool) =>
  Rx.Bind
  (if (x654 == false) = true then
  world_saturated [p0.Point.X, p0.Point.Y, p0.Separation, p0.ID, p0.NormalImpulse, p0.TangentImpulse]
  else some default)
  fun (r655 : Bool) => Let (!r655) fun (x656 : Bool) => Let (bif x654 then true else x656) fun (x657 : Bool) => some x657

noncomputable def world_validManifold (m0 : Manifold) : Option Bool :=
  Let (↑m0.Points.length : Int) fun (x658 : Int) =>
  Let (decide (x658 < (1 : Int))) fun (x659 : Bool) =>
  Let (decide (x658 > (2 : Int))) fun (x660 : Bool) =>
  Let (bif x659 then true else x660) fun (x661 : Bool) =>
  Let (x658 == (2 : Int)) fun (x662 : Bool) =>
  Chk ((x661 == false && x662 == true) = true → (0 : Int) ≤ (0 : Int) ∧ (0 : Int) < (↑m0.Points.length : Int))
  (Let (ix m0.Points (0 : Int)) fun (x663 : ContactPoint) =>
  Chk ((x661 == false && x662 == true) = true → (0 : Int) ≤ (1 : Int) ∧ (1 : Int) < (↑m0.Points.length : Int))
  (Let (ix m0.Points (1 : Int)) fun (x664 : ContactPoint) =>
  Let (x663.ID == x664.ID) fun (x665 : Bool) =>
  Let (bif x662 then x665 else false) fun (x666 : Bool) =>
  Let (bif x661 then true else x666) fun (x667 : Bool) =>
  Rx.Bind (if (x667 == false) = true then world_saturated [m0.Normal.X, m0.Normal.Y] else some default)
  fun (r668 : Bool) =>
  Let (!r668) fun (x669 : Bool) =>
  Let (bif x667 then true else x669) fun (x670 : Bool) =>
  if x670 = true then some false
  else
  Rx.Bind (slices_ContainsFunc_119 m0.Points fun (a : Tup tb [Ix.tContactPoint]) => world_validManifold_1 a)
  fun (r671 : Bool) => Let (!r671) fun (x672 : Bool) => some x672))

noncomputable def broadphase_valid (k0 : PairKey) : Option Bool :=
  Let (decide (k0.BodyA < k0.BodyB)) fun (x673 : Bool) =>
  Let (decide (k0.FixtureA ≥ (0 : Int))) fun (x674 : Bool) =>
  Let (bif x673 then x674 else false) fun (x675 : Bool) =>
  Let (decide (k0.FixtureA < (4 : Int))) fun (x676 : Bool) =>
  Let (bif x675 then x676 else false) fun (x677 : Bool) =>
  Let (decide (k0.FixtureB ≥ (0 : Int))) fun (x678 : Bool) =>
  Let (bif x677 then x678 else false) fun (x679 : Bool) =>
  Let (decide (k0.FixtureB < (4 : Int))) fun (x680 : Bool) =>
  Let (bif x679 then x680 else false) fun (x681 : Bool) => some x681

noncomputable def cmp_isNaN (x0 : Int) : Option Bool :=
  Let (x0 != x0) fun (x682 : Bool) => some x682

noncomputable def cmp_Compare (x0 : Int) (y1 : Int) : Option Int :=
  Rx.Bind (cmp_isNaN x0) fun (r683 : Bool) =>
  Rx.Bind (cmp_isNaN y1) fun (r684 : Bool) =>
  if r683 = true then if r684 = true then some (0 : Int) else some (-1 : Int)
  else
  if r684 = true then some (1 : Int)
  else
  Let (decide (x0 < y1)) fun (x685 : Bool) =>
  if x685 = true then some (-1 : Int)
  else Let (decide (x0 > y1)) fun (x686 : Bool) => if x686 = true then some (1 : Int) else some (0 : Int)

noncomputable def cmp_Or (vals0 : (List Int)) : Option Int :=
  Let (↑vals0.length : Int) fun (x687 : Int) =>
  LOOP
  (fun (rec688 : Int → Option Int) (s689 : Int) =>
  Let (decide (s689 < x687)) fun (x690 : Bool) =>
  if x690 = true then
  Chk ((0 : Int) ≤ s689 ∧ s689 < (↑vals0.length : Int))
  (Let (ix vals0 s689) fun (x691 : Int) =>
  Let (x691 != (0 : Int)) fun (x692 : Bool) =>
  if x692 = true then some x691 else Let (IntKind.i64.wrap (s689 + (1 : Int))) fun (x693 : Int) => rec688 x693)
  else some (0 : Int))
  fuel (0 : Int)

noncomputable def broadphase_compare (a0 : PairKey) (b1 : PairKey) : Option Int :=
  Rx.Bind (cmp_Compare a0.BodyA b1.BodyA) fun (r694 : Int) =>
  Rx.Bind (cmp_Compare a0.FixtureA b1.FixtureA) fun (r695 : Int) =>
  Rx.Bind (cmp_Compare a0.BodyB b1.BodyB) fun (r696 : Int) =>
  Rx.Bind (cmp_Compare a0.FixtureB b1.FixtureB) fun (r697 : Int) =>
  Rx.Bind (cmp_Or [r694, r695, r696, r697]) fun (r698 : Int) => some r698

noncomputable def broadphase_Less (a0 : PairKey) (b1 : PairKey) : Option Bool :=
  Rx.Bind (broadphase_compare a0 b1) fun (r699 : Int) => Let (decide (r699 < (0 : Int))) fun (x700 : Bool) => some x700

noncomputable def broadphase_ValidKeys (keys0 : (List PairKey)) : Option Bool :=
  Let (↑keys0.length : Int) fun (x701 : Int) =>
  LOOP
  (fun (rec702 : Int × PairKey → Option Bool) (s703 : Int × PairKey) =>
  Let (decide (s703.fst < x701)) fun (x704 : Bool) =>
  if x704 = true then
  Chk ((0 : Int) ≤ s703.fst ∧ s703.fst < (↑keys0.length : Int))
  (Let (ix keys0 s703.fst) fun (x705 : PairKey) =>
  Rx.Bind (broadphase_valid x705) fun (r706 : Bool) =>
  Let (!r706) fun (x707 : Bool) =>
  Let (decide (s703.fst > (0 : Int))) fun (x708 : Bool) =>
  Let
  (decide (x705.BodyA = s703.snd.BodyA) &&
  (decide (x705.FixtureA = s703.snd.FixtureA) &&
  (decide (x705.BodyB = s703.snd.BodyB) && decide (x705.FixtureB = s703.snd.FixtureB))))
  fun (x709 : Bool) =>
  Rx.Bind
  (if (x707 == false && x708 == true && x709 == false) = true then broadphase_Less s703.snd x705 else some default)
  fun (r710 : Bool) =>
  Let (!r710) fun (x711 : Bool) =>
  Let (bif x709 then true else x711) fun (x712 : Bool) =>
  Let (bif x708 then x712 else false) fun (x713 : Bool) =>
  Let (bif x707 then true else x713) fun (x714 : Bool) =>
  if x714 = true then some false
  else Let (IntKind.i64.wrap (s703.fst + (1 : Int))) fun (x715 : Int) => rec702 (x715, x705))
  else some true)
  fuel ((0 : Int), { BodyA := (0 : Int), FixtureA := (0 : Int), BodyB := (0 : Int), FixtureB := (0 : Int) : PairKey })

noncomputable def slices_Concat (slices0 : (List (List PairKey))) : Option (List PairKey) :=
  Let (↑slices0.length : Int) fun (x716 : Int) =>
  LOOP
  (fun (rec717 : Int × Int → Option (List PairKey)) (s718 : Int × Int) =>
  Let (decide (s718.snd < x716)) fun (x719 : Bool) =>
  if x719 = true then
  Chk ((0 : Int) ≤ s718.snd ∧ s718.snd < (↑slices0.length : Int))
  (Let (ix slices0 s718.snd) fun (x720 : List PairKey) =>
  Let (↑x720.length : Int) fun (x721 : Int) =>
  Let (IntKind.i64.wrap (s718.fst + x721)) fun (x722 : Int) =>
  Let (decide (x722 < (0 : Int))) fun (x723 : Bool) =>
  if x723 = true then none else Let (IntKind.i64.wrap (s718.snd + (1 : Int))) fun (x724 : Int) => rec717 (x722, x724))
  else
  Let (decide (s718.fst < (0 : Int))) fun (x725 : Bool) =>
  if x725 = true then none
  else
  Join
  (fun (v726 : List PairKey) =>
  Let (↑slices0.length : Int) fun (x727 : Int) =>
  LOOP
  (fun (rec728 : List PairKey × Int → Option (List PairKey)) (s729 : List PairKey × Int) =>
  Let (decide (s729.snd < x727)) fun (x730 : Bool) =>
  if x730 = true then
  Chk ((0 : Int) ≤ s729.snd ∧ s729.snd < (↑slices0.length : Int))
  (Let (ix slices0 s729.snd) fun (x731 : List PairKey) =>
  Chk ((List.length s729.fst + x731.length) * (32 : Nat) ≤ (140737488355328 : Nat))
  (Let (s729.fst ++ x731) fun (x732 : List PairKey) =>
  Let (IntKind.i64.wrap (s729.snd + (1 : Int))) fun (x733 : Int) => rec728 (x732, x733)))
  else some s729.fst)
  fuel (v726, (0 : Int)))
  fun (j734 : List PairKey → Option (List PairKey)) =>
  Let (IntKind.i64.wrap ((0 : Int) - (0 : Int))) fun (x735 : Int) =>
  Let (IntKind.i64.wrap (s718.fst - x735)) fun (x736 : Int) =>
  Let (decide (x736 > (0 : Int))) fun (x737 : Bool) =>
  if x737 = true then
  Chk ((0 : Int) = (0 : Int))
  (Chk ((0 : Int) < x736 ∧ x736.toNat * (32 : Nat) ≤ (140737488355328 : Nat) ∧ x736 ≤ (9223372036854775807 : Int))
  (Let
  (List.replicate x736.toNat
  { BodyA := (0 : Int), FixtureA := (0 : Int), BodyB := (0 : Int), FixtureB := (0 : Int) : PairKey })
  fun (x738 : List PairKey) =>
  Chk
  ((0 : Int) ≤ none.getD (0 : Int) ∧
  (0 : Int) ≤ (some (0 : Int)).getD (0 : Int) ∧ (0 : Nat) ≤ Int.toNat (0 : Int) ∧ Int.toNat (0 : Int) ≤ x738.length)
  (Chk (Int.toNat (0 : Int) - (0 : Nat) ≤ x738.length)
  (Let (List.take (Int.toNat (0 : Int) - (0 : Nat)) x738) fun (x739 : List PairKey) => j734 x739))))
  else j734 [])
  fuel ((0 : Int), (0 : Int))

noncomputable def world_fixturesExist (w0 : World_) (k1 : PairKey) : Option Bool :=
  Rx.Bind (world_FindBody w0 k1.BodyA) fun (r740 : Int) =>
  Rx.Bind (world_FindBody w0 k1.BodyB) fun (r741 : Int) =>
  Let (decide (r740 ≥ (0 : Int))) fun (x742 : Bool) =>
  Let (decide (r741 ≥ (0 : Int))) fun (x743 : Bool) =>
  Let (bif x742 then x743 else false) fun (x744 : Bool) =>
  Chk ((x744 == true) = true → (0 : Int) ≤ r740 ∧ r740 < (↑w0.Bodies.length : Int))
  (Let (ix w0.Bodies r740) fun (x745 : Body) =>
  Let (↑x745.Fixtures.length : Int) fun (x746 : Int) =>
  Let (decide (k1.FixtureA < x746)) fun (x747 : Bool) =>
  Let (bif x744 then x747 else false) fun (x748 : Bool) =>
  Chk ((x748 == true) = true → (0 : Int) ≤ r741 ∧ r741 < (↑w0.Bodies.length : Int))
  (Let (ix w0.Bodies r741) fun (x749 : Body) =>
  Let (↑x749.Fixtures.length : Int) fun (x750 : Int) =>
  Let (decide (k1.FixtureB < x750)) fun (x751 : Bool) =>
  Let (bif x748 then x751 else false) fun (x752 : Bool) => some x752))

noncomputable def world_validContacts_1 (k0 : PairKey) (p1 : World_) : Option Bool :=
  Rx.Bind (world_fixturesExist p1 k0) fun (r753 : Bool) => Let (!r753) fun (x754 : Bool) => some x754

noncomputable def slices_ContainsFunc (s0 : (List PairKey)) (f1 : (PairKey → Option Bool)) : Option Bool :=
  Rx.Bind (slices_IndexFunc_101 s0 f1) fun (r755 : Int) => Let (decide (r755 ≥ (0 : Int))) fun (x756 : Bool) => some x756

noncomputable def world_validContacts (w0 : World_) : Option Bool :=
  Let (↑w0.Contacts.length : Int) fun (x757 : Int) =>
  LOOP
  (fun (rec758 : List PairKey × Int → Option Bool) (s759 : List PairKey × Int) =>
  Let (decide (s759.snd < x757)) fun (x760 : Bool) =>
  if x760 = true then
  Chk ((0 : Int) ≤ s759.snd ∧ s759.snd < (↑w0.Contacts.length : Int))
  (Let (ix w0.Contacts s759.snd) fun (x761 : Contact) =>
  Rx.Bind (world_validManifold x761.Manifold) fun (r762 : Bool) =>
  Let (!r762) fun (x763 : Bool) =>
  if x763 = true then some false
  else
  Chk ((List.length s759.fst + [x761.Key].length) * (32 : Nat) ≤ (140737488355328 : Nat))
  (Let (s759.fst ++ [x761.Key]) fun (x764 : List PairKey) =>
  Let (IntKind.i64.wrap (s759.snd + (1 : Int))) fun (x765 : Int) => rec758 (x764, x765)))
  else
  Rx.Bind (broadphase_ValidKeys s759.fst) fun (r766 : Bool) =>
  Let (!r766) fun (x767 : Bool) =>
  Rx.Bind (if (x767 == false) = true then broadphase_ValidKeys w0.Overlaps else some default) fun (r768 : Bool) =>
  Let (!r768) fun (x769 : Bool) =>
  Let (bif x767 then true else x769) fun (x770 : Bool) =>
  if x770 = true then some false
  else
  Rx.Bind (slices_Concat [s759.fst, w0.Overlaps]) fun (r771 : List PairKey) =>
  Rx.Bind (slices_ContainsFunc r771 fun (a : Tup tb [Ix.tPairKey]) => world_validContacts_1 a w0) fun (r772 : Bool) =>
  Let (!r772) fun (x773 : Bool) => some x773)
  fuel ([], (0 : Int))

noncomputable def world_Validate (w0 : World_) : Option Int :=
  Rx.Bind (world_ValidateSettings w0.Settings) fun (r774 : Int) =>
  Let (r774 != (0 : Int)) fun (x775 : Bool) =>
  if x775 = true then some (17 : Int)
  else
  Let (↑w0.Bodies.length : Int) fun (x776 : Int) =>
  Let (decide (x776 > (32 : Int))) fun (x777 : Bool) =>
  Let (↑w0.Joints.length : Int) fun (x778 : Int) =>
  Let (decide (x778 > (32 : Int))) fun (x779 : Bool) =>
  Let (bif x777 then true else x779) fun (x780 : Bool) =>
  Let (↑w0.Contacts.length : Int) fun (x781 : Int) =>
  Let (decide (x781 > (8192 : Int))) fun (x782 : Bool) =>
  Let (bif x780 then true else x782) fun (x783 : Bool) =>
  Let (↑w0.Overlaps.length : Int) fun (x784 : Int) =>
  Let (decide (x784 > (8192 : Int))) fun (x785 : Bool) =>
  Let (bif x783 then true else x785) fun (x786 : Bool) =>
  if x786 = true then some (11 : Int)
  else
  Rx.Bind (world_in w0.NextID (1 : Int) (1099511627776 : Int)) fun (r787 : Bool) =>
  Let (!r787) fun (x788 : Bool) =>
  Rx.Bind (if (x788 == false) = true then world_in w0.Frame (0 : Int) (1099511627776 : Int) else some default)
  fun (r789 : Bool) =>
  Let (!r789) fun (x790 : Bool) =>
  Let (bif x788 then true else x790) fun (x791 : Bool) =>
  if x791 = true then some (6 : Int)
  else
  Rx.Bind (world_validBodies w0) fun (r792 : Bool) =>
  Let (!r792) fun (x793 : Bool) =>
  if x793 = true then some (14 : Int)
  else
  Rx.Bind (world_validJoints w0) fun (r794 : Bool) =>
  Let (!r794) fun (x795 : Bool) =>
  if x795 = true then some (15 : Int)
  else
  Rx.Bind (world_validContacts w0) fun (r796 : Bool) =>
  Let (!r796) fun (x797 : Bool) => if x797 = true then some (16 : Int) else some (0 : Int)

noncomputable def caromlaw25_example  : Option Bool :=
  Rx.Bind caromlaw25_settings fun (r798 : Settings) =>
  Rx.Bind (world_New r798) fun (r799 : World_ × Int) =>
  Rx.Bind
  (world_AddBody r799.fst
  { ID := (9 : Int), Kind := (1 : Int), Transform := { Position := { X := (0 : Int), Y := (0 : Int) : Vec }, Angle := (0 : Int) : Transform }, Velocity := { X := (0 : Int), Y := (0 : Int) : Vec }, AngularVelocity := (0 : Int), Force := { X := (0 : Int), Y := (0 : Int) : Vec }, Torque := (0 : Int), LinearDamping := (0 : Int), AngularDamping := (0 : Int), GravityScale := (0 : Int), Bullet := false, FixedRotation := false, NoSleep := false, Asleep := false, IdleSteps := (0 : Int), Fixtures := [] : Body })
  fun (r800 : World_ × Int × Int) =>
  Rx.Bind (world_RemoveBody r800.fst (9 : Int)) fun (r801 : World_ × Int) =>
  Let (r799.snd == (0 : Int)) fun (x802 : Bool) =>
  Let (r800.snd.snd == (0 : Int)) fun (x803 : Bool) =>
  Let (bif x802 then x803 else false) fun (x804 : Bool) =>
  Let (r800.snd.fst == (1 : Int)) fun (x805 : Bool) =>
  Let (bif x804 then x805 else false) fun (x806 : Bool) =>
  Let (r800.fst.NextID == (2 : Int)) fun (x807 : Bool) =>
  Let (bif x806 then x807 else false) fun (x808 : Bool) =>
  Rx.Bind (if (x808 == true) = true then world_Validate r800.fst else some default) fun (r809 : Int) =>
  Let (r809 == (0 : Int)) fun (x810 : Bool) =>
  Let (bif x808 then x810 else false) fun (x811 : Bool) =>
  Rx.Bind (if (x811 == true) = true then world_FindBody r800.fst (1 : Int) else some default) fun (r812 : Int) =>
  Let (r812 == (0 : Int)) fun (x813 : Bool) =>
  Let (bif x811 then x813 else false) fun (x814 : Bool) =>
  Let (r801.snd == (8 : Int)) fun (x815 : Bool) =>
  Let (bif x814 then x815 else false) fun (x816 : Bool) =>
  Rx.Bind
  (if (x816 == true) = true then
  world_Validate
  { Settings := { TimeStep := (0 : Int), Gravity := { X := (0 : Int), Y := (0 : Int) : Vec }, Iterations := (0 : Int), SleepSteps := (0 : Int) : Settings }, Bodies := [], Joints := [], Contacts := [], Overlaps := [], NextID := (0 : Int), Frame := (0 : Int) : World_ }
  else some default)
  fun (r817 : Int) =>
  Let (r817 == (17 : Int)) fun (x818 : Bool) => Let (bif x816 then x818 else false) fun (x819 : Bool) => some x819

noncomputable def caromref25_in (n0 : Int) (low1 : Int) (high2 : Int) : Option Bool :=
  Let (decide (n0 ≥ low1)) fun (x820 : Bool) =>
  Let (decide (n0 ≤ high2)) fun (x821 : Bool) => Let (bif x820 then x821 else false) fun (x822 : Bool) => some x822

noncomputable def caromref25_ValidateSettings (r0 : Settings) : Option Int :=
  Rx.Bind (caromref25_in r0.TimeStep (64 : Int) (8192 : Int)) fun (r823 : Bool) =>
  Let (!r823) fun (x824 : Bool) =>
  Rx.Bind (if (x824 == false) = true then caromref25_in r0.Gravity.X (-16777216 : Int) (16777216 : Int) else some default)
  fun (r825 : Bool) =>
  Let (!r825) fun (x826 : Bool) =>
  Let (bif x824 then true else x826) fun (x827 : Bool) =>
  Rx.Bind (if (x827 == false) = true then caromref25_in r0.Gravity.Y (-16777216 : Int) (16777216 : Int) else some default)
  fun (r828 : Bool) =>
  Let (!r828) fun (x829 : Bool) =>
  Let (bif x827 then true else x829) fun (x830 : Bool) =>
  Rx.Bind (if (x830 == false) = true then caromref25_in r0.Iterations (1 : Int) (32 : Int) else some default)
  fun (r831 : Bool) =>
  Let (!r831) fun (x832 : Bool) =>
  Let (bif x830 then true else x832) fun (x833 : Bool) =>
  Rx.Bind (if (x833 == false) = true then caromref25_in r0.SleepSteps (0 : Int) (1048576 : Int) else some default)
  fun (r834 : Bool) =>
  Let (!r834) fun (x835 : Bool) =>
  Let (bif x833 then true else x835) fun (x836 : Bool) => if x836 = true then some (6 : Int) else some (0 : Int)

noncomputable def caromref25_New (r0 : Settings) : Option (World_ × Int) :=
  Rx.Bind (caromref25_ValidateSettings r0) fun (r837 : Int) =>
  Let (r837 != (0 : Int)) fun (x838 : Bool) =>
  if x838 = true then
  some
  ({ Settings := { TimeStep := (0 : Int), Gravity := { X := (0 : Int), Y := (0 : Int) : Vec }, Iterations := (0 : Int), SleepSteps := (0 : Int) : Settings }, Bodies := [], Joints := [], Contacts := [], Overlaps := [], NextID := (0 : Int), Frame := (0 : Int) : World_ },
  r837)
  else
  some
  ({ Settings := r0, Bodies := [], Joints := [], Contacts := [], Overlaps := [], NextID := (1 : Int), Frame := (0 : Int) : World_ },
  (0 : Int))

noncomputable def caromref23_in (x0 : Int) (low1 : Int) (high2 : Int) : Option Bool :=
  Let (decide (x0 ≥ low1)) fun (x839 : Bool) =>
  Let (decide (x0 ≤ high2)) fun (x840 : Bool) => Let (bif x839 then x840 else false) fun (x841 : Bool) => some x841

noncomputable def caromref04_outside (x0 : Int) : Option Bool :=
  Let (decide (x0 < (-268435456 : Int))) fun (x842 : Bool) =>
  Let (decide (x0 > (268435456 : Int))) fun (x843 : Bool) =>
  Let (bif x842 then true else x843) fun (x844 : Bool) => some x844

noncomputable def caromref04_Valid (p0 : Transform) : Option Bool :=
  Rx.Bind (caromref04_outside p0.Position.X) fun (r845 : Bool) =>
  Let (!r845) fun (x846 : Bool) =>
  Rx.Bind (if (x846 == true) = true then caromref04_outside p0.Position.Y else some default) fun (r847 : Bool) =>
  Let (!r847) fun (x848 : Bool) =>
  Let (bif x846 then x848 else false) fun (x849 : Bool) =>
  Let (decide (p0.Angle ≥ (-205888 : Int))) fun (x850 : Bool) =>
  Let (bif x849 then x850 else false) fun (x851 : Bool) =>
  Let (decide (p0.Angle < (205888 : Int))) fun (x852 : Bool) =>
  Let (bif x851 then x852 else false) fun (x853 : Bool) => some x853

noncomputable def caromref23_inRange (b0 : Body) : Option Bool :=
  Rx.Bind (caromref23_in b0.ID (1 : Int) (1099511627776 : Int)) fun (r854 : Bool) =>
  Let (!r854) fun (x855 : Bool) =>
  Rx.Bind (if (x855 == false) = true then caromref04_Valid b0.Transform else some default) fun (r856 : Bool) =>
  Let (!r856) fun (x857 : Bool) =>
  Let (bif x855 then true else x857) fun (x858 : Bool) =>
  Rx.Bind
  (if (x858 == false) = true then caromref23_in b0.Velocity.X (-16777216 : Int) (16777216 : Int) else some default)
  fun (r859 : Bool) =>
  Let (!r859) fun (x860 : Bool) =>
  Let (bif x858 then true else x860) fun (x861 : Bool) =>
  Rx.Bind
  (if (x861 == false) = true then caromref23_in b0.Velocity.Y (-16777216 : Int) (16777216 : Int) else some default)
  fun (r862 : Bool) =>
  Let (!r862) fun (x863 : Bool) =>
  Let (bif x861 then true else x863) fun (x864 : Bool) =>
  Rx.Bind
  (if (x864 == false) = true then caromref23_in b0.AngularVelocity (-4194304 : Int) (4194304 : Int) else some default)
  fun (r865 : Bool) =>
  Let (!r865) fun (x866 : Bool) =>
  Let (bif x864 then true else x866) fun (x867 : Bool) =>
  if x867 = true then some false
  else
  Rx.Bind (caromref23_in b0.Force.X (-536870911 : Int) (536870911 : Int)) fun (r868 : Bool) =>
  Let (!r868) fun (x869 : Bool) =>
  Rx.Bind (if (x869 == false) = true then caromref23_in b0.Force.Y (-536870911 : Int) (536870911 : Int) else some default)
  fun (r870 : Bool) =>
  Let (!r870) fun (x871 : Bool) =>
  Let (bif x869 then true else x871) fun (x872 : Bool) =>
  Rx.Bind (if (x872 == false) = true then caromref23_in b0.Torque (-536870911 : Int) (536870911 : Int) else some default)
  fun (r873 : Bool) =>
  Let (!r873) fun (x874 : Bool) =>
  Let (bif x872 then true else x874) fun (x875 : Bool) =>
  if x875 = true then some false
  else
  Rx.Bind (caromref23_in b0.LinearDamping (0 : Int) (65536 : Int)) fun (r876 : Bool) =>
  Rx.Bind (if (r876 == true) = true then caromref23_in b0.AngularDamping (0 : Int) (65536 : Int) else some default)
  fun (r877 : Bool) =>
  Let (bif r876 then r877 else false) fun (x878 : Bool) =>
  Rx.Bind (if (x878 == true) = true then caromref23_in b0.GravityScale (-262144 : Int) (262144 : Int) else some default)
  fun (r879 : Bool) =>
  Let (bif x878 then r879 else false) fun (x880 : Bool) =>
  Rx.Bind (if (x880 == true) = true then caromref23_in b0.IdleSteps (0 : Int) (1048576 : Int) else some default)
  fun (r881 : Bool) => Let (bif x880 then r881 else false) fun (x882 : Bool) => some x882

noncomputable def caromref12_countMatches (s0 : Shape) : Option Bool :=
  Let (↑s0.Vertices.length : Int) fun (x883 : Int) =>
  Let (s0.Kind == (3 : Int)) fun (x884 : Bool) =>
  if x884 = true then
  Let (decide (x883 ≥ (3 : Int))) fun (x885 : Bool) =>
  Let (decide (x883 ≤ (8 : Int))) fun (x886 : Bool) => Let (bif x885 then x886 else false) fun (x887 : Bool) => some x887
  else Let (x883 == s0.Kind) fun (x888 : Bool) => some x888

noncomputable def caromref12_within (x0 : Int) (m1 : Int) : Option Bool :=
  Let (IntKind.i64.wrap ((0 : Int) - m1)) fun (x889 : Int) =>
  Let (decide (x0 ≥ x889)) fun (x890 : Bool) =>
  Let (decide (x0 ≤ m1)) fun (x891 : Bool) => Let (bif x890 then x891 else false) fun (x892 : Bool) => some x892

noncomputable def caromref01_Saturate (x0 : Int) : Option Int :=
  Let (decide (x0 > (536870911 : Int))) fun (x893 : Bool) =>
  if x893 = true then some (536870911 : Int)
  else
  Let (decide (x0 < (-536870911 : Int))) fun (x894 : Bool) => if x894 = true then some (-536870911 : Int) else some x0

noncomputable def caromref01_Sub (a0 : Int) (b1 : Int) : Option Int :=
  Rx.Bind (caromref01_Saturate a0) fun (r895 : Int) =>
  Rx.Bind (caromref01_Saturate b1) fun (r896 : Int) =>
  Let (IntKind.i64.wrap (r895 - r896)) fun (x897 : Int) =>
  Rx.Bind (caromref01_Saturate x897) fun (r898 : Int) => some r898

noncomputable def caromref03_Sub (a0 : Vec) (b1 : Vec) : Option Vec :=
  Rx.Bind (caromref01_Sub a0.X b1.X) fun (r899 : Int) =>
  Rx.Bind (caromref01_Sub a0.Y b1.Y) fun (r900 : Int) => some { X := r899, Y := r900 : Vec }

noncomputable def caromref03_Saturated (v0 : Vec) : Option Vec :=
  Rx.Bind (caromref01_Saturate v0.X) fun (r901 : Int) =>
  Rx.Bind (caromref01_Saturate v0.Y) fun (r902 : Int) => some { X := r901, Y := r902 : Vec }

noncomputable def caromref01_outOfRange (n0 : Int) : Option Bool :=
  Let (decide (n0 > (4611686018427387904 : Int))) fun (x903 : Bool) =>
  Let (decide (n0 < (-4611686018427387904 : Int))) fun (x904 : Bool) =>
  Let (bif x903 then true else x904) fun (x905 : Bool) => some x905

noncomputable def caromref01_Isqrt (n0 : Int) : Option Int :=
  Let (decide (n0 < (0 : Int))) fun (x906 : Bool) =>
  Rx.Bind (if (x906 == false) = true then caromref01_outOfRange n0 else some default) fun (r907 : Bool) =>
  Let (bif x906 then true else r907) fun (x908 : Bool) =>
  if x908 = true then some (0 : Int)
  else
  LOOP
  (fun (rec909 : Int × Int → Option Int) (s910 : Int × Int) =>
  Let (decide (s910.snd > (0 : Int))) fun (x911 : Bool) =>
  if x911 = true then
  Join (fun (v912 : Int) => Let (IntKind.i64.wrap (Int.tdiv s910.snd (2 : Int))) fun (x913 : Int) => rec909 (v912, x913))
  fun (j914 : Int → Option Int) =>
  Let (IntKind.i64.wrap (s910.fst + s910.snd)) fun (x915 : Int) =>
  Let (IntKind.i64.wrap (s910.fst + s910.snd)) fun (x916 : Int) =>
  Chk (x916 ≠ (0 : Int))
  (Let (IntKind.i64.wrap (n0.tdiv x916)) fun (x917 : Int) =>
  Let (decide (x915 ≤ x917)) fun (x918 : Bool) =>
  if x918 = true then Let (IntKind.i64.wrap (s910.fst + s910.snd)) fun (x919 : Int) => j914 x919 else j914 s910.fst)
  else some s910.fst)
  fuel ((0 : Int), (2147483648 : Int))

noncomputable def caromref03_Length (v0 : Vec) : Option Int :=
  Rx.Bind (caromref03_Saturated v0) fun (r920 : Vec) =>
  Let (IntKind.i64.wrap (r920.X * r920.X)) fun (x921 : Int) =>
  Let (IntKind.i64.wrap (r920.Y * r920.Y)) fun (x922 : Int) =>
  Let (IntKind.i64.wrap (x921 + x922)) fun (x923 : Int) => Rx.Bind (caromref01_Isqrt x923) fun (r924 : Int) => some r924

noncomputable def caromref11_inRange (v0 : Vec) : Option Bool :=
  Let (decide (v0.X ≥ (-1048576 : Int))) fun (x925 : Bool) =>
  Let (decide (v0.X ≤ (1048576 : Int))) fun (x926 : Bool) =>
  Let (bif x925 then x926 else false) fun (x927 : Bool) =>
  Let (decide (v0.Y ≥ (-1048576 : Int))) fun (x928 : Bool) =>
  Let (bif x927 then x928 else false) fun (x929 : Bool) =>
  Let (decide (v0.Y ≤ (1048576 : Int))) fun (x930 : Bool) =>
  Let (bif x929 then x930 else false) fun (x931 : Bool) => some x931

noncomputable def caromref03_Orientation (a0 : Vec) (b1 : Vec) (c2 : Vec) : Option Int :=
  Rx.Bind (caromref03_Saturated a0) fun (r932 : Vec) =>
  Rx.Bind (caromref03_Saturated b1) fun (r933 : Vec) =>
  Rx.Bind (caromref03_Saturated c2) fun (r934 : Vec) =>
  Let (IntKind.i64.wrap (r933.X - r932.X)) fun (x935 : Int) =>
  Let (IntKind.i64.wrap (r934.Y - r932.Y)) fun (x936 : Int) =>
  Let (IntKind.i64.wrap (x935 * x936)) fun (x937 : Int) =>
  Let (IntKind.i64.wrap (r933.Y - r932.Y)) fun (x938 : Int) =>
  Let (IntKind.i64.wrap (r934.X - r932.X)) fun (x939 : Int) =>
  Let (IntKind.i64.wrap (x938 * x939)) fun (x940 : Int) =>
  Let (IntKind.i64.wrap (x937 - x940)) fun (x941 : Int) =>
  Let (decide (x941 > (0 : Int))) fun (x942 : Bool) =>
  if x942 = true then some (1 : Int)
  else Let (decide (x941 < (0 : Int))) fun (x943 : Bool) => if x943 = true then some (-1 : Int) else some (0 : Int)

noncomputable def caromref11_IsConvex (vertices0 : (List Vec)) : Option Bool :=
  Let (↑vertices0.length : Int) fun (x944 : Int) =>
  Let (decide (x944 < (3 : Int))) fun (x945 : Bool) =>
  Let (decide (x944 > (8 : Int))) fun (x946 : Bool) =>
  Let (bif x945 then true else x946) fun (x947 : Bool) =>
  if x947 = true then some false
  else
  LOOP
  (fun (rec948 : Int → Option Bool) (s949 : Int) =>
  Let (decide (s949 < x944)) fun (x950 : Bool) =>
  if x950 = true then
  Chk ((0 : Int) ≤ s949 ∧ s949 < (↑vertices0.length : Int))
  (Let (ix vertices0 s949) fun (x951 : Vec) =>
  Rx.Bind (caromref11_inRange x951) fun (r952 : Bool) =>
  Let (!r952) fun (x953 : Bool) =>
  if x953 = true then some false else Let (IntKind.i64.wrap (s949 + (1 : Int))) fun (x954 : Int) => rec948 x954)
  else
  LOOP
  (fun (rec955 : Int → Option Bool) (s956 : Int) =>
  Let (decide (s956 < x944)) fun (x957 : Bool) =>
  if x957 = true then
  Let (IntKind.i64.wrap (s956 + (1 : Int))) fun (x958 : Int) =>
  Chk (x944 ≠ (0 : Int))
  (Let (x958.tmod x944) fun (x959 : Int) =>
  LOOP
  (fun (rec960 : Int → Option Bool) (s961 : Int) =>
  Let (decide (s961 < x944)) fun (x962 : Bool) =>
  if x962 = true then
  Let (s961 != s956) fun (x963 : Bool) =>
  Let (s961 != x959) fun (x964 : Bool) =>
  Let (bif x963 then x964 else false) fun (x965 : Bool) =>
  Chk ((x965 == true) = true → (0 : Int) ≤ s956 ∧ s956 < (↑vertices0.length : Int))
  (Let (ix vertices0 s956) fun (x966 : Vec) =>
  Chk ((x965 == true) = true → (0 : Int) ≤ x959 ∧ x959 < (↑vertices0.length : Int))
  (Let (ix vertices0 x959) fun (x967 : Vec) =>
  Chk ((x965 == true) = true → (0 : Int) ≤ s961 ∧ s961 < (↑vertices0.length : Int))
  (Let (ix vertices0 s961) fun (x968 : Vec) =>
  Rx.Bind (if (x965 == true) = true then caromref03_Orientation x966 x967 x968 else some default) fun (r969 : Int) =>
  Let (r969 != (1 : Int)) fun (x970 : Bool) =>
  Let (bif x965 then x970 else false) fun (x971 : Bool) =>
  if x971 = true then some false else Let (IntKind.i64.wrap (s961 + (1 : Int))) fun (x972 : Int) => rec960 x972)))
  else Let (IntKind.i64.wrap (s956 + (1 : Int))) fun (x973 : Int) => rec955 x973)
  fuel (0 : Int))
  else some true)
  fuel (0 : Int))
  fuel (0 : Int)

noncomputable def caromref11_ShortestEdge (vertices0 : (List Vec)) : Option Int :=
  Rx.Bind (caromref11_IsConvex vertices0) fun (r974 : Bool) =>
  Let (!r974) fun (x975 : Bool) =>
  if x975 = true then some (0 : Int)
  else
  LOOP
  (fun (rec976 : Int × Int → Option Int) (s977 : Int × Int) =>
  Let (↑vertices0.length : Int) fun (x978 : Int) =>
  Let (decide (s977.snd < x978)) fun (x979 : Bool) =>
  if x979 = true then
  Join (fun (v980 : Int) => Let (IntKind.i64.wrap (s977.snd + (1 : Int))) fun (x981 : Int) => rec976 (v980, x981))
  fun (j982 : Int → Option Int) =>
  Let (IntKind.i64.wrap (s977.snd + (1 : Int))) fun (x983 : Int) =>
  Let (↑vertices0.length : Int) fun (x984 : Int) =>
  Chk (x984 ≠ (0 : Int))
  (Let (x983.tmod x984) fun (x985 : Int) =>
  Chk ((0 : Int) ≤ x985 ∧ x985 < (↑vertices0.length : Int))
  (Let (ix vertices0 x985) fun (x986 : Vec) =>
  Chk ((0 : Int) ≤ s977.snd ∧ s977.snd < (↑vertices0.length : Int))
  (Let (ix vertices0 s977.snd) fun (x987 : Vec) =>
  Rx.Bind (caromref03_Sub x986 x987) fun (r988 : Vec) =>
  Rx.Bind (caromref03_Length r988) fun (r989 : Int) =>
  Let (decide (s977.fst < (0 : Int))) fun (x990 : Bool) =>
  Let (decide (r989 < s977.fst)) fun (x991 : Bool) =>
  Let (bif x990 then true else x991) fun (x992 : Bool) => if x992 = true then j982 r989 else j982 s977.fst)))
  else some s977.fst)
  fuel ((-1 : Int), (0 : Int))

noncomputable def caromref01_RoundDiv (n0 : Int) (d1 : Int) : Option Int :=
  Let (decide (d1 < (1 : Int))) fun (x993 : Bool) =>
  Rx.Bind (if (x993 == false) = true then caromref01_outOfRange d1 else some default) fun (r994 : Bool) =>
  Let (bif x993 then true else r994) fun (x995 : Bool) =>
  Rx.Bind (if (x995 == false) = true then caromref01_outOfRange n0 else some default) fun (r996 : Bool) =>
  Let (bif x995 then true else r996) fun (x997 : Bool) =>
  if x997 = true then some (0 : Int)
  else
  Join
  (fun (v998 : Int) =>
  Chk (d1 ≠ (0 : Int))
  (Let (IntKind.i64.wrap (v998.tdiv d1)) fun (x999 : Int) =>
  Let (IntKind.i64.wrap (x999 * d1)) fun (x1000 : Int) =>
  Let (IntKind.i64.wrap (v998 - x1000)) fun (x1001 : Int) =>
  Join
  (fun (v1002 : Int) =>
  Let (decide (n0 < (0 : Int))) fun (x1003 : Bool) =>
  if x1003 = true then Let (IntKind.i64.wrap ((0 : Int) - v1002)) fun (x1004 : Int) => some x1004 else some v1002)
  fun (j1005 : Int → Option Int) =>
  Let (IntKind.i64.wrap (d1 - x1001)) fun (x1006 : Int) =>
  Let (decide (x1001 ≥ x1006)) fun (x1007 : Bool) =>
  if x1007 = true then Let (IntKind.i64.wrap (x999 + (1 : Int))) fun (x1008 : Int) => j1005 x1008 else j1005 x999))
  fun (j1009 : Int → Option Int) =>
  Let (decide (n0 < (0 : Int))) fun (x1010 : Bool) =>
  if x1010 = true then Let (IntKind.i64.wrap ((0 : Int) - n0)) fun (x1011 : Int) => j1009 x1011 else j1009 n0

noncomputable def caromref11_cross (v0 : (List Vec)) (i1 : Int) : Option Int :=
  Chk ((0 : Int) ≤ i1 ∧ i1 < (↑v0.length : Int))
  (Let (ix v0 i1) fun (x1012 : Vec) =>
  Chk ((0 : Int) ≤ (0 : Int) ∧ (0 : Int) < (↑v0.length : Int))
  (Let (ix v0 (0 : Int)) fun (x1013 : Vec) =>
  Let (IntKind.i64.wrap (x1012.X - x1013.X)) fun (x1014 : Int) =>
  Chk ((0 : Int) ≤ i1 ∧ i1 < (↑v0.length : Int))
  (Let (ix v0 i1) fun (x1015 : Vec) =>
  Chk ((0 : Int) ≤ (0 : Int) ∧ (0 : Int) < (↑v0.length : Int))
  (Let (ix v0 (0 : Int)) fun (x1016 : Vec) =>
  Let (IntKind.i64.wrap (x1015.Y - x1016.Y)) fun (x1017 : Int) =>
  Let (IntKind.i64.wrap (i1 + (1 : Int))) fun (x1018 : Int) =>
  Chk ((0 : Int) ≤ x1018 ∧ x1018 < (↑v0.length : Int))
  (Let (ix v0 x1018) fun (x1019 : Vec) =>
  Chk ((0 : Int) ≤ (0 : Int) ∧ (0 : Int) < (↑v0.length : Int))
  (Let (ix v0 (0 : Int)) fun (x1020 : Vec) =>
  Let (IntKind.i64.wrap (x1019.X - x1020.X)) fun (x1021 : Int) =>
  Let (IntKind.i64.wrap (i1 + (1 : Int))) fun (x1022 : Int) =>
  Chk ((0 : Int) ≤ x1022 ∧ x1022 < (↑v0.length : Int))
  (Let (ix v0 x1022) fun (x1023 : Vec) =>
  Chk ((0 : Int) ≤ (0 : Int) ∧ (0 : Int) < (↑v0.length : Int))
  (Let (ix v0 (0 : Int)) fun (x1024 : Vec) =>
  Let (IntKind.i64.wrap (x1023.Y - x1024.Y)) fun (x1025 : Int) =>
  Let (IntKind.i64.wrap (x1014 * x1025)) fun (x1026 : Int) =>
  Let (IntKind.i64.wrap (x1017 * x1021)) fun (x1027 : Int) =>
  Let (IntKind.i64.wrap (x1026 - x1027)) fun (x1028 : Int) =>
  Rx.Bind (caromref01_RoundDiv x1028 (65536 : Int)) fun (r1029 : Int) => some r1029))))))))

noncomputable def caromref11_Area (vertices0 : (List Vec)) : Option Int :=
  Rx.Bind (caromref11_IsConvex vertices0) fun (r1030 : Bool) =>
  Let (!r1030) fun (x1031 : Bool) =>
  if x1031 = true then some (0 : Int)
  else
  LOOP
  (fun (rec1032 : Int × Int → Option Int) (s1033 : Int × Int) =>
  Let (IntKind.i64.wrap (s1033.snd + (1 : Int))) fun (x1034 : Int) =>
  Let (↑vertices0.length : Int) fun (x1035 : Int) =>
  Let (decide (x1034 < x1035)) fun (x1036 : Bool) =>
  if x1036 = true then
  Rx.Bind (caromref11_cross vertices0 s1033.snd) fun (r1037 : Int) =>
  Let (IntKind.i64.wrap (s1033.fst + r1037)) fun (x1038 : Int) =>
  Let (IntKind.i64.wrap (s1033.snd + (1 : Int))) fun (x1039 : Int) => rec1032 (x1038, x1039)
  else Rx.Bind (caromref01_RoundDiv s1033.fst (2 : Int)) fun (r1040 : Int) => some r1040)
  fuel ((0 : Int), (1 : Int))

noncomputable def caromref12_Validate (s0 : Shape) : Option Int :=
  Let (decide (s0.Kind < (1 : Int))) fun (x1041 : Bool) =>
  Let (decide (s0.Kind > (3 : Int))) fun (x1042 : Bool) =>
  Let (bif x1041 then true else x1042) fun (x1043 : Bool) =>
  if x1043 = true then some (10 : Int)
  else
  Rx.Bind (caromref12_countMatches s0) fun (r1044 : Bool) =>
  Let (!r1044) fun (x1045 : Bool) =>
  if x1045 = true then some (11 : Int)
  else
  LOOP
  (fun (rec1046 : Int → Option Int) (s1047 : Int) =>
  Let (↑s0.Vertices.length : Int) fun (x1048 : Int) =>
  Let (decide (s1047 < x1048)) fun (x1049 : Bool) =>
  if x1049 = true then
  Chk ((0 : Int) ≤ s1047 ∧ s1047 < (↑s0.Vertices.length : Int))
  (Let (ix s0.Vertices s1047) fun (x1050 : Vec) =>
  Rx.Bind (caromref12_within x1050.X (1048576 : Int)) fun (r1051 : Bool) =>
  Let (!r1051) fun (x1052 : Bool) =>
  Chk ((x1052 == false) = true → (0 : Int) ≤ s1047 ∧ s1047 < (↑s0.Vertices.length : Int))
  (Let (ix s0.Vertices s1047) fun (x1053 : Vec) =>
  Rx.Bind (if (x1052 == false) = true then caromref12_within x1053.Y (1048576 : Int) else some default)
  fun (r1054 : Bool) =>
  Let (!r1054) fun (x1055 : Bool) =>
  Let (bif x1052 then true else x1055) fun (x1056 : Bool) =>
  if x1056 = true then some (6 : Int) else Let (IntKind.i64.wrap (s1047 + (1 : Int))) fun (x1057 : Int) => rec1046 x1057))
  else
  Let (s0.Kind == (3 : Int)) fun (x1058 : Bool) =>
  Let (s0.Radius != (0 : Int)) fun (x1059 : Bool) =>
  Let (bif x1058 then x1059 else false) fun (x1060 : Bool) =>
  Let (s0.Kind != (3 : Int)) fun (x1061 : Bool) =>
  Let (decide (s0.Radius < (2048 : Int))) fun (x1062 : Bool) =>
  Let (decide (s0.Radius > (524288 : Int))) fun (x1063 : Bool) =>
  Let (bif x1062 then true else x1063) fun (x1064 : Bool) =>
  Let (bif x1061 then x1064 else false) fun (x1065 : Bool) =>
  Let (bif x1060 then true else x1065) fun (x1066 : Bool) =>
  if x1066 = true then some (6 : Int)
  else
  Let (s0.Kind == (2 : Int)) fun (x1067 : Bool) =>
  Chk ((x1067 == true) = true → (0 : Int) ≤ (1 : Int) ∧ (1 : Int) < (↑s0.Vertices.length : Int))
  (Let (ix s0.Vertices (1 : Int)) fun (x1068 : Vec) =>
  Chk ((x1067 == true) = true → (0 : Int) ≤ (0 : Int) ∧ (0 : Int) < (↑s0.Vertices.length : Int))
  (Let (ix s0.Vertices (0 : Int)) fun (x1069 : Vec) =>
  Rx.Bind (if (x1067 == true) = true then caromref03_Sub x1068 x1069 else some { X := default, Y := default : Vec })
  fun (r1070 : Vec) =>
  Rx.Bind (if (x1067 == true) = true then caromref03_Length r1070 else some default) fun (r1071 : Int) =>
  Let (decide (r1071 < (4096 : Int))) fun (x1072 : Bool) =>
  Let (bif x1067 then x1072 else false) fun (x1073 : Bool) =>
  if x1073 = true then some (12 : Int)
  else
  Let (s0.Kind == (3 : Int)) fun (x1074 : Bool) =>
  Rx.Bind (if (x1074 == true) = true then caromref11_IsConvex s0.Vertices else some default) fun (r1075 : Bool) =>
  Let (!r1075) fun (x1076 : Bool) =>
  Rx.Bind (if (x1074 == true && x1076 == false) = true then caromref11_ShortestEdge s0.Vertices else some default)
  fun (r1077 : Int) =>
  Let (decide (r1077 < (4096 : Int))) fun (x1078 : Bool) =>
  Let (bif x1076 then true else x1078) fun (x1079 : Bool) =>
  Rx.Bind (if (x1074 == true && x1079 == false) = true then caromref11_Area s0.Vertices else some default)
  fun (r1080 : Int) =>
  Let (decide (r1080 < (256 : Int))) fun (x1081 : Bool) =>
  Let (bif x1079 then true else x1081) fun (x1082 : Bool) =>
  Let (bif x1074 then x1082 else false) fun (x1083 : Bool) => if x1083 = true then some (12 : Int) else some (0 : Int))))
  fuel (0 : Int)

noncomputable def caromref23_ValidateFixture (f0 : Fixture) : Option Int :=
  Rx.Bind (caromref12_Validate f0.Shape) fun (r1084 : Int) =>
  Let (r1084 != (0 : Int)) fun (x1085 : Bool) =>
  if x1085 = true then some r1084
  else
  Rx.Bind (caromref23_in f0.Density (0 : Int) (262144 : Int)) fun (r1086 : Bool) =>
  Let (!r1086) fun (x1087 : Bool) =>
  Rx.Bind (if (x1087 == false) = true then caromref23_in f0.Friction (0 : Int) (131072 : Int) else some default)
  fun (r1088 : Bool) =>
  Let (!r1088) fun (x1089 : Bool) =>
  Let (bif x1087 then true else x1089) fun (x1090 : Bool) =>
  Rx.Bind (if (x1090 == false) = true then caromref23_in f0.Restitution (0 : Int) (65536 : Int) else some default)
  fun (r1091 : Bool) =>
  Let (!r1091) fun (x1092 : Bool) =>
  Let (bif x1090 then true else x1092) fun (x1093 : Bool) =>
  Rx.Bind (if (x1093 == false) = true then caromref23_in f0.Category (0 : Int) (65535 : Int) else some default)
  fun (r1094 : Bool) =>
  Let (!r1094) fun (x1095 : Bool) =>
  Let (bif x1093 then true else x1095) fun (x1096 : Bool) =>
  Rx.Bind (if (x1096 == false) = true then caromref23_in f0.Mask (0 : Int) (65535 : Int) else some default)
  fun (r1097 : Bool) =>
  Let (!r1097) fun (x1098 : Bool) =>
  Let (bif x1096 then true else x1098) fun (x1099 : Bool) =>
  Rx.Bind (if (x1099 == false) = true then caromref23_in f0.Group (-32 : Int) (32 : Int) else some default)
  fun (r1100 : Bool) =>
  Let (!r1100) fun (x1101 : Bool) =>
  Let (bif x1099 then true else x1101) fun (x1102 : Bool) => if x1102 = true then some (6 : Int) else some (0 : Int)

noncomputable def caromref23_Validate (b0 : Body) : Option Int :=
  Let (b0.Kind != (1 : Int)) fun (x1103 : Bool) =>
  Let (b0.Kind != (2 : Int)) fun (x1104 : Bool) =>
  Let (bif x1103 then x1104 else false) fun (x1105 : Bool) =>
  Let (b0.Kind != (3 : Int)) fun (x1106 : Bool) =>
  Let (bif x1105 then x1106 else false) fun (x1107 : Bool) =>
  if x1107 = true then some (10 : Int)
  else
  Rx.Bind (caromref23_inRange b0) fun (r1108 : Bool) =>
  Let (!r1108) fun (x1109 : Bool) =>
  if x1109 = true then some (6 : Int)
  else
  Let (↑b0.Fixtures.length : Int) fun (x1110 : Int) =>
  Let (decide (x1110 > (4 : Int))) fun (x1111 : Bool) =>
  if x1111 = true then some (11 : Int)
  else
  LOOP
  (fun (rec1112 : Int → Option Int) (s1113 : Int) =>
  Let (↑b0.Fixtures.length : Int) fun (x1114 : Int) =>
  Let (decide (s1113 < x1114)) fun (x1115 : Bool) =>
  if x1115 = true then
  Chk ((0 : Int) ≤ s1113 ∧ s1113 < (↑b0.Fixtures.length : Int))
  (Let (ix b0.Fixtures s1113) fun (x1116 : Fixture) =>
  Rx.Bind (caromref23_ValidateFixture x1116) fun (r1117 : Int) =>
  Let (r1117 != (0 : Int)) fun (x1118 : Bool) =>
  if x1118 = true then some (13 : Int) else Let (IntKind.i64.wrap (s1113 + (1 : Int))) fun (x1119 : Int) => rec1112 x1119)
  else
  Let (!(decide (b0.Velocity.X = (0 : Int)) && decide (b0.Velocity.Y = (0 : Int)))) fun (x1120 : Bool) =>
  Let (b0.AngularVelocity != (0 : Int)) fun (x1121 : Bool) =>
  Let (bif x1120 then true else x1121) fun (x1122 : Bool) =>
  Let (!(decide (b0.Force.X = (0 : Int)) && decide (b0.Force.Y = (0 : Int)))) fun (x1123 : Bool) =>
  Let (b0.Torque != (0 : Int)) fun (x1124 : Bool) =>
  Let (bif x1123 then true else x1124) fun (x1125 : Bool) =>
  Let (b0.Kind == (1 : Int)) fun (x1126 : Bool) =>
  Let (bif x1122 then true else x1125) fun (x1127 : Bool) =>
  Let (bif x1126 then x1127 else false) fun (x1128 : Bool) =>
  Let (b0.Kind != (3 : Int)) fun (x1129 : Bool) =>
  Let (bif b0.Asleep then true else b0.Bullet) fun (x1130 : Bool) =>
  Let (bif x1129 then x1130 else false) fun (x1131 : Bool) =>
  Let (bif x1128 then true else x1131) fun (x1132 : Bool) =>
  Let (bif b0.Asleep then x1122 else false) fun (x1133 : Bool) =>
  Let (bif x1132 then true else x1133) fun (x1134 : Bool) => if x1134 = true then some (14 : Int) else some (0 : Int))
  fuel (0 : Int)

noncomputable def caromref25_validBodies (w0 : World_) : Option Bool :=
  LOOP
  (fun (rec1135 : Int × Int → Option Bool) (s1136 : Int × Int) =>
  Let (↑w0.Bodies.length : Int) fun (x1137 : Int) =>
  Let (decide (s1136.snd < x1137)) fun (x1138 : Bool) =>
  if x1138 = true then
  Chk ((0 : Int) ≤ s1136.snd ∧ s1136.snd < (↑w0.Bodies.length : Int))
  (Let (ix w0.Bodies s1136.snd) fun (x1139 : Body) =>
  Rx.Bind (caromref23_Validate x1139) fun (r1140 : Int) =>
  Let (r1140 != (0 : Int)) fun (x1141 : Bool) =>
  Let (decide (x1139.ID ≥ w0.NextID)) fun (x1142 : Bool) =>
  Let (bif x1141 then true else x1142) fun (x1143 : Bool) =>
  Let (decide (s1136.snd > (0 : Int))) fun (x1144 : Bool) =>
  Let (decide (x1139.ID ≤ s1136.fst)) fun (x1145 : Bool) =>
  Let (bif x1144 then x1145 else false) fun (x1146 : Bool) =>
  Let (bif x1143 then true else x1146) fun (x1147 : Bool) =>
  if x1147 = true then some false
  else Let (IntKind.i64.wrap (s1136.snd + (1 : Int))) fun (x1148 : Int) => rec1135 (x1139.ID, x1148))
  else some true)
  fuel ((0 : Int), (0 : Int))

noncomputable def caromref24_inRange (x0 : Int) (low1 : Int) (high2 : Int) : Option Bool :=
  Let (decide (x0 ≥ low1)) fun (x1149 : Bool) =>
  Let (decide (x0 ≤ high2)) fun (x1150 : Bool) => Let (bif x1149 then x1150 else false) fun (x1151 : Bool) => some x1151

noncomputable def caromref24_inSquare (v0 : Vec) (m1 : Int) : Option Bool :=
  Let (IntKind.i64.wrap ((0 : Int) - m1)) fun (x1152 : Int) =>
  Rx.Bind (caromref24_inRange v0.X x1152 m1) fun (r1153 : Bool) =>
  Let (IntKind.i64.wrap ((0 : Int) - m1)) fun (x1154 : Int) =>
  Rx.Bind (if (r1153 == true) = true then caromref24_inRange v0.Y x1154 m1 else some default) fun (r1155 : Bool) =>
  Let (bif r1153 then r1155 else false) fun (x1156 : Bool) => some x1156

noncomputable def caromref24_limitsValid (j0 : Joint) : Option Bool :=
  Rx.Bind (caromref24_inRange j0.Lower (-268435456 : Int) (268435456 : Int)) fun (r1157 : Bool) =>
  Let (!r1157) fun (x1158 : Bool) =>
  Rx.Bind
  (if (x1158 == false) = true then caromref24_inRange j0.Upper (-268435456 : Int) (268435456 : Int) else some default)
  fun (r1159 : Bool) =>
  Let (!r1159) fun (x1160 : Bool) =>
  Let (bif x1158 then true else x1160) fun (x1161 : Bool) =>
  Let (decide (j0.Lower > j0.Upper)) fun (x1162 : Bool) =>
  Let (bif x1161 then true else x1162) fun (x1163 : Bool) =>
  if x1163 = true then some false
  else
  Let (j0.Kind == (1 : Int)) fun (x1164 : Bool) =>
  if x1164 = true then Let (decide (j0.Lower ≥ (0 : Int))) fun (x1165 : Bool) => some x1165
  else
  Let (j0.Kind != (2 : Int)) fun (x1166 : Bool) =>
  Let (decide (j0.Lower ≥ (-205888 : Int))) fun (x1167 : Bool) =>
  Let (decide (j0.Upper ≤ (205888 : Int))) fun (x1168 : Bool) =>
  Let (bif x1167 then x1168 else false) fun (x1169 : Bool) =>
  Let (bif x1166 then true else x1169) fun (x1170 : Bool) => some x1170

noncomputable def caromref24_rangesValid (j0 : Joint) : Option Bool :=
  Join
  (fun (v1171 : Int) =>
  LOOP
  (fun (rec1172 : Int → Option Bool) (s1173 : Int) =>
  Let (decide (s1173 < (4 : Int))) fun (x1174 : Bool) =>
  if x1174 = true then
  Chk ((0 : Int) ≤ s1173 ∧ s1173 < (↑(4 : Nat) : Int))
  (Chk
  ((0 : Int) ≤ s1173 ∧
  s1173 < (↑[j0.Impulses.fst, j0.Impulses.snd.fst, j0.Impulses.snd.snd.fst, j0.Impulses.snd.snd.snd].length : Int))
  (Let (ix [j0.Impulses.fst, j0.Impulses.snd.fst, j0.Impulses.snd.snd.fst, j0.Impulses.snd.snd.snd] s1173)
  fun (x1175 : Int) =>
  Rx.Bind (caromref24_inRange x1175 (-536870911 : Int) (536870911 : Int)) fun (r1176 : Bool) =>
  Let (!r1176) fun (x1177 : Bool) =>
  if x1177 = true then some false else Let (IntKind.i64.wrap (s1173 + (1 : Int))) fun (x1178 : Int) => rec1172 x1178))
  else
  Rx.Bind (caromref24_inRange j0.ID (1 : Int) (1099511627776 : Int)) fun (r1179 : Bool) =>
  Let (!r1179) fun (x1180 : Bool) =>
  Rx.Bind (if (x1180 == false) = true then caromref24_inSquare j0.AnchorA v1171 else some default) fun (r1181 : Bool) =>
  Let (!r1181) fun (x1182 : Bool) =>
  Let (bif x1180 then true else x1182) fun (x1183 : Bool) =>
  Rx.Bind (if (x1183 == false) = true then caromref24_inSquare j0.AnchorB (1048576 : Int) else some default)
  fun (r1184 : Bool) =>
  Let (!r1184) fun (x1185 : Bool) =>
  Let (bif x1183 then true else x1185) fun (x1186 : Bool) =>
  Rx.Bind
  (if (x1186 == false) = true then caromref24_inRange j0.ReferenceAngle (-205888 : Int) (205887 : Int) else some default)
  fun (r1187 : Bool) =>
  Let (!r1187) fun (x1188 : Bool) =>
  Let (bif x1186 then true else x1188) fun (x1189 : Bool) =>
  Rx.Bind (if (x1189 == false) = true then caromref24_limitsValid j0 else some default) fun (r1190 : Bool) =>
  Let (!r1190) fun (x1191 : Bool) =>
  Let (bif x1189 then true else x1191) fun (x1192 : Bool) =>
  if x1192 = true then some false
  else
  Rx.Bind (caromref24_inRange j0.MotorSpeed (-16777216 : Int) (16777216 : Int)) fun (r1193 : Bool) =>
  Rx.Bind (if (r1193 == true) = true then caromref24_inRange j0.MaxForce (0 : Int) (536870911 : Int) else some default)
  fun (r1194 : Bool) =>
  Let (bif r1193 then r1194 else false) fun (x1195 : Bool) =>
  Rx.Bind (if (x1195 == true) = true then caromref24_inRange j0.Softness (0 : Int) (536870911 : Int) else some default)
  fun (r1196 : Bool) =>
  Let (bif x1195 then r1196 else false) fun (x1197 : Bool) =>
  Rx.Bind (if (x1197 == true) = true then caromref24_inRange j0.BreakForce (0 : Int) (536870911 : Int) else some default)
  fun (r1198 : Bool) => Let (bif x1197 then r1198 else false) fun (x1199 : Bool) => some x1199)
  fuel (0 : Int))
  fun (j1200 : Int → Option Bool) =>
  Let (j0.Kind == (5 : Int)) fun (x1201 : Bool) => if x1201 = true then j1200 (268435456 : Int) else j1200 (1048576 : Int)

noncomputable def caromref24_Validate (j0 : Joint) : Option Int :=
  Let (decide (j0.Kind < (1 : Int))) fun (x1202 : Bool) =>
  Let (decide (j0.Kind > (5 : Int))) fun (x1203 : Bool) =>
  Let (bif x1202 then true else x1203) fun (x1204 : Bool) =>
  if x1204 = true then some (10 : Int)
  else
  Rx.Bind (caromref24_rangesValid j0) fun (r1205 : Bool) =>
  Let (!r1205) fun (x1206 : Bool) =>
  if x1206 = true then some (6 : Int)
  else
  Rx.Bind (caromref24_inRange j0.BodyB (1 : Int) (1099511627776 : Int)) fun (r1207 : Bool) =>
  Let (!r1207) fun (x1208 : Bool) =>
  Let (j0.Kind == (5 : Int)) fun (x1209 : Bool) =>
  Let (j0.BodyA != (0 : Int)) fun (x1210 : Bool) =>
  Let (bif x1209 then x1210 else false) fun (x1211 : Bool) =>
  Let (bif x1208 then true else x1211) fun (x1212 : Bool) =>
  Let (j0.Kind != (5 : Int)) fun (x1213 : Bool) =>
  Rx.Bind
  (if (x1212 == false && x1213 == true) = true then caromref24_inRange j0.BodyA (1 : Int) (1099511627776 : Int)
  else some default)
  fun (r1214 : Bool) =>
  Let (!r1214) fun (x1215 : Bool) =>
  Let (j0.BodyA == j0.BodyB) fun (x1216 : Bool) =>
  Let (bif x1215 then true else x1216) fun (x1217 : Bool) =>
  Let (bif x1213 then x1217 else false) fun (x1218 : Bool) =>
  Let (bif x1212 then true else x1218) fun (x1219 : Bool) =>
  if x1219 = true then some (14 : Int)
  else
  Let (decide (j0.Axis.X = (0 : Int)) && decide (j0.Axis.Y = (0 : Int))) fun (x1220 : Bool) =>
  Let (j0.Kind == (3 : Int)) fun (x1221 : Bool) =>
  Rx.Bind (if (x1221 == true) = true then caromref03_Length j0.Axis else some default) fun (r1222 : Int) =>
  Rx.Bind (if (x1221 == true) = true then caromref24_inRange r1222 (65520 : Int) (65552 : Int) else some default)
  fun (r1223 : Bool) =>
  Let (!r1223) fun (x1224 : Bool) =>
  Let (bif x1221 then x1224 else false) fun (x1225 : Bool) =>
  Let (j0.Kind != (3 : Int)) fun (x1226 : Bool) =>
  Let (!x1220) fun (x1227 : Bool) =>
  Let (bif x1226 then x1227 else false) fun (x1228 : Bool) =>
  Let (bif x1225 then true else x1228) fun (x1229 : Bool) =>
  if x1229 = true then some (15 : Int)
  else
  Let (j0.Kind == (1 : Int)) fun (x1230 : Bool) =>
  Let (j0.Kind == (4 : Int)) fun (x1231 : Bool) =>
  Let (j0.Kind == (5 : Int)) fun (x1232 : Bool) =>
  Let (bif x1231 then true else x1232) fun (x1233 : Bool) =>
  Let (bif x1230 then true else x1233) fun (x1234 : Bool) =>
  Let (bif x1234 then j0.EnableMotor else false) fun (x1235 : Bool) =>
  Let (bif x1233 then j0.EnableLimit else false) fun (x1236 : Bool) =>
  Let (bif x1235 then true else x1236) fun (x1237 : Bool) =>
  Let (!j0.EnableLimit) fun (x1238 : Bool) =>
  Let (bif x1230 then x1238 else false) fun (x1239 : Bool) =>
  Let (bif x1237 then true else x1239) fun (x1240 : Bool) => if x1240 = true then some (15 : Int) else some (0 : Int)

noncomputable def caromref25_FindBody (w0 : World_) (id1 : Int) : Option Int :=
  LOOP
  (fun (rec1241 : Int → Option Int) (s1242 : Int) =>
  Let (↑w0.Bodies.length : Int) fun (x1243 : Int) =>
  Let (decide (s1242 < x1243)) fun (x1244 : Bool) =>
  if x1244 = true then
  Chk ((0 : Int) ≤ s1242 ∧ s1242 < (↑w0.Bodies.length : Int))
  (Let (ix w0.Bodies s1242) fun (x1245 : Body) =>
  Let (x1245.ID == id1) fun (x1246 : Bool) =>
  if x1246 = true then some s1242 else Let (IntKind.i64.wrap (s1242 + (1 : Int))) fun (x1247 : Int) => rec1241 x1247)
  else some (-1 : Int))
  fuel (0 : Int)

noncomputable def caromref25_connected (w0 : World_) (j1 : Joint) : Option Bool :=
  Let (j1.BodyA == (0 : Int)) fun (x1248 : Bool) =>
  Rx.Bind (if (x1248 == false) = true then caromref25_FindBody w0 j1.BodyA else some default) fun (r1249 : Int) =>
  Let (decide (r1249 ≥ (0 : Int))) fun (x1250 : Bool) =>
  Let (bif x1248 then true else x1250) fun (x1251 : Bool) =>
  Let (j1.BodyB == (0 : Int)) fun (x1252 : Bool) =>
  Rx.Bind (if (x1251 == true && x1252 == false) = true then caromref25_FindBody w0 j1.BodyB else some default)
  fun (r1253 : Int) =>
  Let (decide (r1253 ≥ (0 : Int))) fun (x1254 : Bool) =>
  Let (bif x1252 then true else x1254) fun (x1255 : Bool) =>
  Let (bif x1251 then x1255 else false) fun (x1256 : Bool) => some x1256

noncomputable def caromref25_validJoints (w0 : World_) : Option Bool :=
  LOOP
  (fun (rec1257 : Int × Int → Option Bool) (s1258 : Int × Int) =>
  Let (↑w0.Joints.length : Int) fun (x1259 : Int) =>
  Let (decide (s1258.snd < x1259)) fun (x1260 : Bool) =>
  if x1260 = true then
  Chk ((0 : Int) ≤ s1258.snd ∧ s1258.snd < (↑w0.Joints.length : Int))
  (Let (ix w0.Joints s1258.snd) fun (x1261 : Joint) =>
  Rx.Bind (caromref24_Validate x1261) fun (r1262 : Int) =>
  Let (r1262 != (0 : Int)) fun (x1263 : Bool) =>
  Let (decide (x1261.ID ≥ w0.NextID)) fun (x1264 : Bool) =>
  Let (bif x1263 then true else x1264) fun (x1265 : Bool) =>
  Let (decide (s1258.snd > (0 : Int))) fun (x1266 : Bool) =>
  Let (decide (x1261.ID ≤ s1258.fst)) fun (x1267 : Bool) =>
  Let (bif x1266 then x1267 else false) fun (x1268 : Bool) =>
  Let (bif x1265 then true else x1268) fun (x1269 : Bool) =>
  Rx.Bind (if (x1269 == false) = true then caromref25_connected w0 x1261 else some default) fun (r1270 : Bool) =>
  Let (!r1270) fun (x1271 : Bool) =>
  Let (bif x1269 then true else x1271) fun (x1272 : Bool) =>
  Rx.Bind (if (x1272 == false) = true then caromref25_FindBody w0 x1261.ID else some default) fun (r1273 : Int) =>
  Let (decide (r1273 ≥ (0 : Int))) fun (x1274 : Bool) =>
  Let (bif x1272 then true else x1274) fun (x1275 : Bool) =>
  if x1275 = true then some false
  else Let (IntKind.i64.wrap (s1258.snd + (1 : Int))) fun (x1276 : Int) => rec1257 (x1261.ID, x1276))
  else some true)
  fuel ((0 : Int), (0 : Int))

noncomputable def caromref25_Keys (l0 : (List Contact)) : Option (List PairKey) :=
  LOOP
  (fun (rec1277 : List PairKey × Int → Option (List PairKey)) (s1278 : List PairKey × Int) =>
  Let (↑l0.length : Int) fun (x1279 : Int) =>
  Let (decide (s1278.snd < x1279)) fun (x1280 : Bool) =>
  if x1280 = true then
  Chk ((0 : Int) ≤ s1278.snd ∧ s1278.snd < (↑l0.length : Int))
  (Let (ix l0 s1278.snd) fun (x1281 : Contact) =>
  Chk ((List.length s1278.fst + [x1281.Key].length) * (32 : Nat) ≤ (140737488355328 : Nat))
  (Let (s1278.fst ++ [x1281.Key]) fun (x1282 : List PairKey) =>
  Let (IntKind.i64.wrap (s1278.snd + (1 : Int))) fun (x1283 : Int) => rec1277 (x1282, x1283)))
  else some s1278.fst)
  fuel ([], (0 : Int))

noncomputable def caromref22_Less (a0 : PairKey) (b1 : PairKey) : Option Bool :=
  Let (a0.BodyA != b1.BodyA) fun (x1284 : Bool) =>
  if x1284 = true then Let (decide (a0.BodyA < b1.BodyA)) fun (x1285 : Bool) => some x1285
  else
  Let (a0.FixtureA != b1.FixtureA) fun (x1286 : Bool) =>
  if x1286 = true then Let (decide (a0.FixtureA < b1.FixtureA)) fun (x1287 : Bool) => some x1287
  else
  Let (a0.BodyB != b1.BodyB) fun (x1288 : Bool) =>
  if x1288 = true then Let (decide (a0.BodyB < b1.BodyB)) fun (x1289 : Bool) => some x1289
  else Let (decide (a0.FixtureB < b1.FixtureB)) fun (x1290 : Bool) => some x1290

noncomputable def caromref22_ValidKeys (l0 : (List PairKey)) : Option Bool :=
  LOOP
  (fun (rec1291 : Int → Option Bool) (s1292 : Int) =>
  Let (↑l0.length : Int) fun (x1293 : Int) =>
  Let (decide (s1292 < x1293)) fun (x1294 : Bool) =>
  if x1294 = true then
  Chk ((0 : Int) ≤ s1292 ∧ s1292 < (↑l0.length : Int))
  (Let (ix l0 s1292) fun (x1295 : PairKey) =>
  Let (decide (x1295.BodyA ≥ x1295.BodyB)) fun (x1296 : Bool) =>
  Let (decide (x1295.FixtureA < (0 : Int))) fun (x1297 : Bool) =>
  Let (bif x1296 then true else x1297) fun (x1298 : Bool) =>
  Let (decide (x1295.FixtureA > (3 : Int))) fun (x1299 : Bool) =>
  Let (bif x1298 then true else x1299) fun (x1300 : Bool) =>
  Let (decide (x1295.FixtureB < (0 : Int))) fun (x1301 : Bool) =>
  Let (bif x1300 then true else x1301) fun (x1302 : Bool) =>
  Let (decide (x1295.FixtureB > (3 : Int))) fun (x1303 : Bool) =>
  Let (bif x1302 then true else x1303) fun (x1304 : Bool) =>
  Let (decide (s1292 > (0 : Int))) fun (x1305 : Bool) =>
  Let (IntKind.i64.wrap (s1292 - (1 : Int))) fun (x1306 : Int) =>
  Chk ((x1304 == false && x1305 == true) = true → (0 : Int) ≤ x1306 ∧ x1306 < (↑l0.length : Int))
  (Let (ix l0 x1306) fun (x1307 : PairKey) =>
  Rx.Bind (if (x1304 == false && x1305 == true) = true then caromref22_Less x1307 x1295 else some default)
  fun (r1308 : Bool) =>
  Let (!r1308) fun (x1309 : Bool) =>
  Let (bif x1305 then x1309 else false) fun (x1310 : Bool) =>
  Let (bif x1304 then true else x1310) fun (x1311 : Bool) =>
  if x1311 = true then some false else Let (IntKind.i64.wrap (s1292 + (1 : Int))) fun (x1312 : Int) => rec1291 x1312))
  else some true)
  fuel (0 : Int)

noncomputable def caromref25_exists (w0 : World_) (id1 : Int) (n2 : Int) : Option Bool :=
  Rx.Bind (caromref25_FindBody w0 id1) fun (r1313 : Int) =>
  Let (decide (r1313 ≥ (0 : Int))) fun (x1314 : Bool) =>
  Let (decide (n2 ≥ (0 : Int))) fun (x1315 : Bool) =>
  Let (bif x1314 then x1315 else false) fun (x1316 : Bool) =>
  Chk ((x1316 == true) = true → (0 : Int) ≤ r1313 ∧ r1313 < (↑w0.Bodies.length : Int))
  (Let (ix w0.Bodies r1313) fun (x1317 : Body) =>
  Let (↑x1317.Fixtures.length : Int) fun (x1318 : Int) =>
  Let (decide (n2 < x1318)) fun (x1319 : Bool) => Let (bif x1316 then x1319 else false) fun (x1320 : Bool) => some x1320)

noncomputable def caromref25_resolved (w0 : World_) (l1 : (List PairKey)) : Option Bool :=
  LOOP
  (fun (rec1321 : Int → Option Bool) (s1322 : Int) =>
  Let (↑l1.length : Int) fun (x1323 : Int) =>
  Let (decide (s1322 < x1323)) fun (x1324 : Bool) =>
  if x1324 = true then
  Chk ((0 : Int) ≤ s1322 ∧ s1322 < (↑l1.length : Int))
  (Let (ix l1 s1322) fun (x1325 : PairKey) =>
  Chk ((0 : Int) ≤ s1322 ∧ s1322 < (↑l1.length : Int))
  (Let (ix l1 s1322) fun (x1326 : PairKey) =>
  Rx.Bind (caromref25_exists w0 x1325.BodyA x1326.FixtureA) fun (r1327 : Bool) =>
  Let (!r1327) fun (x1328 : Bool) =>
  Chk ((x1328 == false) = true → (0 : Int) ≤ s1322 ∧ s1322 < (↑l1.length : Int))
  (Let (ix l1 s1322) fun (x1329 : PairKey) =>
  Chk ((x1328 == false) = true → (0 : Int) ≤ s1322 ∧ s1322 < (↑l1.length : Int))
  (Let (ix l1 s1322) fun (x1330 : PairKey) =>
  Rx.Bind (if (x1328 == false) = true then caromref25_exists w0 x1329.BodyB x1330.FixtureB else some default)
  fun (r1331 : Bool) =>
  Let (!r1331) fun (x1332 : Bool) =>
  Let (bif x1328 then true else x1332) fun (x1333 : Bool) =>
  if x1333 = true then some false else Let (IntKind.i64.wrap (s1322 + (1 : Int))) fun (x1334 : Int) => rec1321 x1334))))
  else some true)
  fuel (0 : Int)

noncomputable def caromref25_saturated (v0 : Vec) : Option Bool :=
  Rx.Bind (caromref25_in v0.X (-536870911 : Int) (536870911 : Int)) fun (r1335 : Bool) =>
  Rx.Bind (if (r1335 == true) = true then caromref25_in v0.Y (-536870911 : Int) (536870911 : Int) else some default)
  fun (r1336 : Bool) => Let (bif r1335 then r1336 else false) fun (x1337 : Bool) => some x1337

noncomputable def caromref25_validPoints (m0 : Manifold) : Option Bool :=
  Let (↑m0.Points.length : Int) fun (x1338 : Int) =>
  Let (decide (x1338 < (1 : Int))) fun (x1339 : Bool) =>
  Let (decide (x1338 > (2 : Int))) fun (x1340 : Bool) =>
  Let (bif x1339 then true else x1340) fun (x1341 : Bool) =>
  Let (x1338 == (2 : Int)) fun (x1342 : Bool) =>
  Chk ((x1341 == false && x1342 == true) = true → (0 : Int) ≤ (0 : Int) ∧ (0 : Int) < (↑m0.Points.length : Int))
  (Let (ix m0.Points (0 : Int)) fun (x1343 : ContactPoint) =>
  Chk ((x1341 == false && x1342 == true) = true → (0 : Int) ≤ (1 : Int) ∧ (1 : Int) < (↑m0.Points.length : Int))
  (Let (ix m0.Points (1 : Int)) fun (x1344 : ContactPoint) =>
  Let (x1343.ID == x1344.ID) fun (x1345 : Bool) =>
  Let (bif x1342 then x1345 else false) fun (x1346 : Bool) =>
  Let (bif x1341 then true else x1346) fun (x1347 : Bool) =>
  Rx.Bind (if (x1347 == false) = true then caromref25_saturated m0.Normal else some default) fun (r1348 : Bool) =>
  Let (!r1348) fun (x1349 : Bool) =>
  Let (bif x1347 then true else x1349) fun (x1350 : Bool) =>
  if x1350 = true then some false
  else
  LOOP
  (fun (rec1351 : Int → Option Bool) (s1352 : Int) =>
  Let (decide (s1352 < x1338)) fun (x1353 : Bool) =>
  if x1353 = true then
  Chk ((0 : Int) ≤ s1352 ∧ s1352 < (↑m0.Points.length : Int))
  (Let (ix m0.Points s1352) fun (x1354 : ContactPoint) =>
  Rx.Bind (caromref25_in x1354.NormalImpulse (0 : Int) (536870911 : Int)) fun (r1355 : Bool) =>
  Let (!r1355) fun (x1356 : Bool) =>
  Rx.Bind
  (if (x1356 == false) = true then caromref25_in x1354.TangentImpulse (-536870911 : Int) (536870911 : Int)
  else some default)
  fun (r1357 : Bool) =>
  Let (!r1357) fun (x1358 : Bool) =>
  Let (bif x1356 then true else x1358) fun (x1359 : Bool) =>
  Rx.Bind (if (x1359 == false) = true then caromref25_saturated x1354.Point else some default) fun (r1360 : Bool) =>
  Let (!r1360) fun (x1361 : Bool) =>
  Let (bif x1359 then true else x1361) fun (x1362 : Bool) =>
  Rx.Bind
  (if (x1362 == false) = true then caromref25_saturated { X := x1354.Separation, Y := x1354.ID : Vec } else some default)
  fun (r1363 : Bool) =>
  Let (!r1363) fun (x1364 : Bool) =>
  Let (bif x1362 then true else x1364) fun (x1365 : Bool) =>
  if x1365 = true then some false else Let (IntKind.i64.wrap (s1352 + (1 : Int))) fun (x1366 : Int) => rec1351 x1366)
  else some true)
  fuel (0 : Int)))

noncomputable def caromref25_validContacts (w0 : World_) : Option Bool :=
  Rx.Bind (caromref25_Keys w0.Contacts) fun (r1367 : List PairKey) =>
  Rx.Bind (caromref22_ValidKeys r1367) fun (r1368 : Bool) =>
  Let (!r1368) fun (x1369 : Bool) =>
  Rx.Bind (if (x1369 == false) = true then caromref22_ValidKeys w0.Overlaps else some default) fun (r1370 : Bool) =>
  Let (!r1370) fun (x1371 : Bool) =>
  Let (bif x1369 then true else x1371) fun (x1372 : Bool) =>
  Rx.Bind (if (x1372 == false) = true then caromref25_resolved w0 r1367 else some default) fun (r1373 : Bool) =>
  Let (!r1373) fun (x1374 : Bool) =>
  Let (bif x1372 then true else x1374) fun (x1375 : Bool) =>
  Rx.Bind (if (x1375 == false) = true then caromref25_resolved w0 w0.Overlaps else some default) fun (r1376 : Bool) =>
  Let (!r1376) fun (x1377 : Bool) =>
  Let (bif x1375 then true else x1377) fun (x1378 : Bool) =>
  if x1378 = true then some false
  else
  LOOP
  (fun (rec1379 : Int → Option Bool) (s1380 : Int) =>
  Let (↑w0.Contacts.length : Int) fun (x1381 : Int) =>
  Let (decide (s1380 < x1381)) fun (x1382 : Bool) =>
  if x1382 = true then
  Chk ((0 : Int) ≤ s1380 ∧ s1380 < (↑w0.Contacts.length : Int))
  (Let (ix w0.Contacts s1380) fun (x1383 : Contact) =>
  Rx.Bind (caromref25_validPoints x1383.Manifold) fun (r1384 : Bool) =>
  Let (!r1384) fun (x1385 : Bool) =>
  if x1385 = true then some false else Let (IntKind.i64.wrap (s1380 + (1 : Int))) fun (x1386 : Int) => rec1379 x1386)
  else some true)
  fuel (0 : Int)

noncomputable def caromref25_Validate (w0 : World_) : Option Int :=
  Rx.Bind (caromref25_ValidateSettings w0.Settings) fun (r1387 : Int) =>
  Let (r1387 != (0 : Int)) fun (x1388 : Bool) =>
  if x1388 = true then some (17 : Int)
  else
  Let (↑w0.Bodies.length : Int) fun (x1389 : Int) =>
  Let (decide (x1389 > (32 : Int))) fun (x1390 : Bool) =>
  Let (↑w0.Joints.length : Int) fun (x1391 : Int) =>
  Let (decide (x1391 > (32 : Int))) fun (x1392 : Bool) =>
  Let (bif x1390 then true else x1392) fun (x1393 : Bool) =>
  Let (↑w0.Contacts.length : Int) fun (x1394 : Int) =>
  Let (decide (x1394 > (8192 : Int))) fun (x1395 : Bool) =>
  Let (bif x1393 then true else x1395) fun (x1396 : Bool) =>
  Let (↑w0.Overlaps.length : Int) fun (x1397 : Int) =>
  Let (decide (x1397 > (8192 : Int))) fun (x1398 : Bool) =>
  Let (bif x1396 then true else x1398) fun (x1399 : Bool) =>
  if x1399 = true then some (11 : Int)
  else
  Rx.Bind (caromref25_in w0.NextID (1 : Int) (1099511627776 : Int)) fun (r1400 : Bool) =>
  Let (!r1400) fun (x1401 : Bool) =>
  Rx.Bind (if (x1401 == false) = true then caromref25_in w0.Frame (0 : Int) (1099511627776 : Int) else some default)
  fun (r1402 : Bool) =>
  Let (!r1402) fun (x1403 : Bool) =>
  Let (bif x1401 then true else x1403) fun (x1404 : Bool) =>
  if x1404 = true then some (6 : Int)
  else
  Rx.Bind (caromref25_validBodies w0) fun (r1405 : Bool) =>
  Let (!r1405) fun (x1406 : Bool) =>
  if x1406 = true then some (14 : Int)
  else
  Rx.Bind (caromref25_validJoints w0) fun (r1407 : Bool) =>
  Let (!r1407) fun (x1408 : Bool) =>
  if x1408 = true then some (15 : Int)
  else
  Rx.Bind (caromref25_validContacts w0) fun (r1409 : Bool) =>
  Let (!r1409) fun (x1410 : Bool) => if x1410 = true then some (16 : Int) else some (0 : Int)

noncomputable def caromref22_Keys (a0 : (List PairKey)) (b1 : (List PairKey)) : Option Bool :=
  Let (↑a0.length : Int) fun (x1411 : Int) =>
  Let (↑b1.length : Int) fun (x1412 : Int) =>
  Let (x1411 != x1412) fun (x1413 : Bool) =>
  if x1413 = true then some false
  else
  LOOP
  (fun (rec1414 : Int → Option Bool) (s1415 : Int) =>
  Let (↑a0.length : Int) fun (x1416 : Int) =>
  Let (decide (s1415 < x1416)) fun (x1417 : Bool) =>
  if x1417 = true then
  Chk ((0 : Int) ≤ s1415 ∧ s1415 < (↑a0.length : Int))
  (Let (ix a0 s1415) fun (x1418 : PairKey) =>
  Chk ((0 : Int) ≤ s1415 ∧ s1415 < (↑b1.length : Int))
  (Let (ix b1 s1415) fun (x1419 : PairKey) =>
  Let
  (!(decide (x1418.BodyA = x1419.BodyA) &&
  (decide (x1418.FixtureA = x1419.FixtureA) &&
  (decide (x1418.BodyB = x1419.BodyB) && decide (x1418.FixtureB = x1419.FixtureB)))))
  fun (x1420 : Bool) =>
  if x1420 = true then some false else Let (IntKind.i64.wrap (s1415 + (1 : Int))) fun (x1421 : Int) => rec1414 x1421))
  else some true)
  fuel (0 : Int)

noncomputable def caromref12_EqualVecs (a0 : (List Vec)) (b1 : (List Vec)) : Option Bool :=
  Let (↑a0.length : Int) fun (x1422 : Int) =>
  Let (↑b1.length : Int) fun (x1423 : Int) =>
  Let (x1422 != x1423) fun (x1424 : Bool) =>
  if x1424 = true then some false
  else
  LOOP
  (fun (rec1425 : Int → Option Bool) (s1426 : Int) =>
  Let (↑a0.length : Int) fun (x1427 : Int) =>
  Let (decide (s1426 < x1427)) fun (x1428 : Bool) =>
  if x1428 = true then
  Chk ((0 : Int) ≤ s1426 ∧ s1426 < (↑a0.length : Int))
  (Let (ix a0 s1426) fun (x1429 : Vec) =>
  Chk ((0 : Int) ≤ s1426 ∧ s1426 < (↑b1.length : Int))
  (Let (ix b1 s1426) fun (x1430 : Vec) =>
  Let (!(decide (x1429.X = x1430.X) && decide (x1429.Y = x1430.Y))) fun (x1431 : Bool) =>
  if x1431 = true then some false else Let (IntKind.i64.wrap (s1426 + (1 : Int))) fun (x1432 : Int) => rec1425 x1432))
  else some true)
  fuel (0 : Int)

noncomputable def caromref12_Equal (a0 : Shape) (b1 : Shape) : Option Bool :=
  Let (a0.Kind == b1.Kind) fun (x1433 : Bool) =>
  Let (a0.Radius == b1.Radius) fun (x1434 : Bool) =>
  Let (bif x1433 then x1434 else false) fun (x1435 : Bool) =>
  Rx.Bind (if (x1435 == true) = true then caromref12_EqualVecs a0.Vertices b1.Vertices else some default)
  fun (r1436 : Bool) => Let (bif x1435 then r1436 else false) fun (x1437 : Bool) => some x1437

noncomputable def caromref23_EqualFixture (a0 : Fixture) (b1 : Fixture) : Option Bool :=
  Rx.Bind (caromref12_Equal a0.Shape b1.Shape) fun (r1438 : Bool) =>
  Let (a0.Density == b1.Density) fun (x1439 : Bool) =>
  Let (bif r1438 then x1439 else false) fun (x1440 : Bool) =>
  Let (a0.Friction == b1.Friction) fun (x1441 : Bool) =>
  Let (bif x1440 then x1441 else false) fun (x1442 : Bool) =>
  Let (a0.Restitution == b1.Restitution) fun (x1443 : Bool) =>
  Let (bif x1442 then x1443 else false) fun (x1444 : Bool) =>
  Let (a0.Sensor == b1.Sensor) fun (x1445 : Bool) =>
  Let (bif x1444 then x1445 else false) fun (x1446 : Bool) =>
  Let (a0.Category == b1.Category) fun (x1447 : Bool) =>
  Let (bif x1446 then x1447 else false) fun (x1448 : Bool) =>
  Let (a0.Mask == b1.Mask) fun (x1449 : Bool) =>
  Let (bif x1448 then x1449 else false) fun (x1450 : Bool) =>
  Let (a0.Group == b1.Group) fun (x1451 : Bool) => Let (bif x1450 then x1451 else false) fun (x1452 : Bool) => some x1452

noncomputable def caromref23_Equal (a0 : Body) (b1 : Body) : Option Bool :=
  Let (↑a0.Fixtures.length : Int) fun (x1453 : Int) =>
  Let (↑b1.Fixtures.length : Int) fun (x1454 : Int) =>
  Let (x1453 != x1454) fun (x1455 : Bool) =>
  if x1455 = true then some false
  else
  LOOP
  (fun (rec1456 : Int → Option Bool) (s1457 : Int) =>
  Let (↑a0.Fixtures.length : Int) fun (x1458 : Int) =>
  Let (decide (s1457 < x1458)) fun (x1459 : Bool) =>
  Let (↑b1.Fixtures.length : Int) fun (x1460 : Int) =>
  Let (decide (s1457 < x1460)) fun (x1461 : Bool) =>
  Let (bif x1459 then x1461 else false) fun (x1462 : Bool) =>
  if x1462 = true then
  Chk ((0 : Int) ≤ s1457 ∧ s1457 < (↑a0.Fixtures.length : Int))
  (Let (ix a0.Fixtures s1457) fun (x1463 : Fixture) =>
  Chk ((0 : Int) ≤ s1457 ∧ s1457 < (↑b1.Fixtures.length : Int))
  (Let (ix b1.Fixtures s1457) fun (x1464 : Fixture) =>
  Rx.Bind (caromref23_EqualFixture x1463 x1464) fun (r1465 : Bool) =>
  Let (!r1465) fun (x1466 : Bool) =>
  if x1466 = true then some false else Let (IntKind.i64.wrap (s1457 + (1 : Int))) fun (x1467 : Int) => rec1456 x1467))
  else
  Let (a0.ID != b1.ID) fun (x1468 : Bool) =>
  Let (a0.Kind != b1.Kind) fun (x1469 : Bool) =>
  Let (bif x1468 then true else x1469) fun (x1470 : Bool) =>
  Let
  (!(decide (a0.Transform.Position.X = b1.Transform.Position.X) &&
  decide (a0.Transform.Position.Y = b1.Transform.Position.Y) &&
  decide (a0.Transform.Angle = b1.Transform.Angle)))
  fun (x1471 : Bool) =>
  Let (bif x1470 then true else x1471) fun (x1472 : Bool) =>
  Let (!(decide (a0.Velocity.X = b1.Velocity.X) && decide (a0.Velocity.Y = b1.Velocity.Y))) fun (x1473 : Bool) =>
  Let (bif x1472 then true else x1473) fun (x1474 : Bool) =>
  Let (a0.AngularVelocity != b1.AngularVelocity) fun (x1475 : Bool) =>
  Let (bif x1474 then true else x1475) fun (x1476 : Bool) =>
  Let (!(decide (a0.Force.X = b1.Force.X) && decide (a0.Force.Y = b1.Force.Y))) fun (x1477 : Bool) =>
  Let (bif x1476 then true else x1477) fun (x1478 : Bool) =>
  Let (a0.Torque != b1.Torque) fun (x1479 : Bool) =>
  Let (bif x1478 then true else x1479) fun (x1480 : Bool) =>
  if x1480 = true then some false
  else
  Let (a0.LinearDamping == b1.LinearDamping) fun (x1481 : Bool) =>
  Let (a0.AngularDamping == b1.AngularDamping) fun (x1482 : Bool) =>
  Let (bif x1481 then x1482 else false) fun (x1483 : Bool) =>
  Let (a0.GravityScale == b1.GravityScale) fun (x1484 : Bool) =>
  Let (bif x1483 then x1484 else false) fun (x1485 : Bool) =>
  Let (a0.Bullet == b1.Bullet) fun (x1486 : Bool) =>
  Let (bif x1485 then x1486 else false) fun (x1487 : Bool) =>
  Let (a0.FixedRotation == b1.FixedRotation) fun (x1488 : Bool) =>
  Let (bif x1487 then x1488 else false) fun (x1489 : Bool) =>
  Let (a0.NoSleep == b1.NoSleep) fun (x1490 : Bool) =>
  Let (bif x1489 then x1490 else false) fun (x1491 : Bool) =>
  Let (a0.Asleep == b1.Asleep) fun (x1492 : Bool) =>
  Let (bif x1491 then x1492 else false) fun (x1493 : Bool) =>
  Let (a0.IdleSteps == b1.IdleSteps) fun (x1494 : Bool) =>
  Let (bif x1493 then x1494 else false) fun (x1495 : Bool) => some x1495)
  fuel (0 : Int)

noncomputable def caromref16_Equal (a0 : Manifold) (b1 : Manifold) : Option Bool :=
  Let (!(decide (a0.Normal.X = b1.Normal.X) && decide (a0.Normal.Y = b1.Normal.Y))) fun (x1496 : Bool) =>
  Let (↑a0.Points.length : Int) fun (x1497 : Int) =>
  Let (↑b1.Points.length : Int) fun (x1498 : Int) =>
  Let (x1497 != x1498) fun (x1499 : Bool) =>
  Let (bif x1496 then true else x1499) fun (x1500 : Bool) =>
  if x1500 = true then some false
  else
  LOOP
  (fun (rec1501 : Int → Option Bool) (s1502 : Int) =>
  Let (↑a0.Points.length : Int) fun (x1503 : Int) =>
  Let (decide (s1502 < x1503)) fun (x1504 : Bool) =>
  if x1504 = true then
  Chk ((0 : Int) ≤ s1502 ∧ s1502 < (↑a0.Points.length : Int))
  (Let (ix a0.Points s1502) fun (x1505 : ContactPoint) =>
  Chk ((0 : Int) ≤ s1502 ∧ s1502 < (↑b1.Points.length : Int))
  (Let (ix b1.Points s1502) fun (x1506 : ContactPoint) =>
  Let
  (!(decide (x1505.Point.X = x1506.Point.X) && decide (x1505.Point.Y = x1506.Point.Y) &&
  (decide (x1505.Separation = x1506.Separation) &&
  (decide (x1505.ID = x1506.ID) &&
  (decide (x1505.NormalImpulse = x1506.NormalImpulse) && decide (x1505.TangentImpulse = x1506.TangentImpulse))))))
  fun (x1507 : Bool) =>
  if x1507 = true then some false else Let (IntKind.i64.wrap (s1502 + (1 : Int))) fun (x1508 : Int) => rec1501 x1508))
  else some true)
  fuel (0 : Int)

noncomputable def caromref25_Equal (a0 : World_) (b1 : World_) : Option Bool :=
  Let
  (!(decide (a0.Settings.TimeStep = b1.Settings.TimeStep) &&
  (decide (a0.Settings.Gravity.X = b1.Settings.Gravity.X) && decide (a0.Settings.Gravity.Y = b1.Settings.Gravity.Y) &&
  (decide (a0.Settings.Iterations = b1.Settings.Iterations) &&
  decide (a0.Settings.SleepSteps = b1.Settings.SleepSteps)))))
  fun (x1509 : Bool) =>
  Let (a0.NextID != b1.NextID) fun (x1510 : Bool) =>
  Let (bif x1509 then true else x1510) fun (x1511 : Bool) =>
  Let (a0.Frame != b1.Frame) fun (x1512 : Bool) =>
  Let (bif x1511 then true else x1512) fun (x1513 : Bool) =>
  Let (↑a0.Bodies.length : Int) fun (x1514 : Int) =>
  Let (↑b1.Bodies.length : Int) fun (x1515 : Int) =>
  Let (x1514 != x1515) fun (x1516 : Bool) =>
  Let (bif x1513 then true else x1516) fun (x1517 : Bool) =>
  Let (↑a0.Joints.length : Int) fun (x1518 : Int) =>
  Let (↑b1.Joints.length : Int) fun (x1519 : Int) =>
  Let (x1518 != x1519) fun (x1520 : Bool) =>
  Let (bif x1517 then true else x1520) fun (x1521 : Bool) =>
  Let (↑a0.Contacts.length : Int) fun (x1522 : Int) =>
  Let (↑b1.Contacts.length : Int) fun (x1523 : Int) =>
  Let (x1522 != x1523) fun (x1524 : Bool) =>
  Let (bif x1521 then true else x1524) fun (x1525 : Bool) =>
  Rx.Bind (if (x1525 == false) = true then caromref22_Keys a0.Overlaps b1.Overlaps else some default)
  fun (r1526 : Bool) =>
  Let (!r1526) fun (x1527 : Bool) =>
  Let (bif x1525 then true else x1527) fun (x1528 : Bool) =>
  if x1528 = true then some false
  else
  LOOP
  (fun (rec1529 : Int → Option Bool) (s1530 : Int) =>
  Let (↑a0.Bodies.length : Int) fun (x1531 : Int) =>
  Let (decide (s1530 < x1531)) fun (x1532 : Bool) =>
  if x1532 = true then
  Chk ((0 : Int) ≤ s1530 ∧ s1530 < (↑a0.Bodies.length : Int))
  (Let (ix a0.Bodies s1530) fun (x1533 : Body) =>
  Chk ((0 : Int) ≤ s1530 ∧ s1530 < (↑b1.Bodies.length : Int))
  (Let (ix b1.Bodies s1530) fun (x1534 : Body) =>
  Rx.Bind (caromref23_Equal x1533 x1534) fun (r1535 : Bool) =>
  Let (!r1535) fun (x1536 : Bool) =>
  if x1536 = true then some false else Let (IntKind.i64.wrap (s1530 + (1 : Int))) fun (x1537 : Int) => rec1529 x1537))
  else
  LOOP
  (fun (rec1538 : Int → Option Bool) (s1539 : Int) =>
  Let (↑a0.Joints.length : Int) fun (x1540 : Int) =>
  Let (decide (s1539 < x1540)) fun (x1541 : Bool) =>
  if x1541 = true then
  Chk ((0 : Int) ≤ s1539 ∧ s1539 < (↑a0.Joints.length : Int))
  (Let (ix a0.Joints s1539) fun (x1542 : Joint) =>
  Chk ((0 : Int) ≤ s1539 ∧ s1539 < (↑b1.Joints.length : Int))
  (Let (ix b1.Joints s1539) fun (x1543 : Joint) =>
  Let
  (!(decide (x1542.ID = x1543.ID) &&
  (decide (x1542.Kind = x1543.Kind) &&
  (decide (x1542.BodyA = x1543.BodyA) &&
  (decide (x1542.BodyB = x1543.BodyB) &&
  (decide (x1542.AnchorA.X = x1543.AnchorA.X) && decide (x1542.AnchorA.Y = x1543.AnchorA.Y) &&
  (decide (x1542.AnchorB.X = x1543.AnchorB.X) && decide (x1542.AnchorB.Y = x1543.AnchorB.Y) &&
  (decide (x1542.Axis.X = x1543.Axis.X) && decide (x1542.Axis.Y = x1543.Axis.Y) &&
  (decide (x1542.ReferenceAngle = x1543.ReferenceAngle) &&
  (decide (x1542.EnableLimit = x1543.EnableLimit) &&
  (decide (x1542.Lower = x1543.Lower) &&
  (decide (x1542.Upper = x1543.Upper) &&
  (decide (x1542.EnableMotor = x1543.EnableMotor) &&
  (decide (x1542.MotorSpeed = x1543.MotorSpeed) &&
  (decide (x1542.MaxForce = x1543.MaxForce) &&
  (decide (x1542.Softness = x1543.Softness) &&
  (decide (x1542.BreakForce = x1543.BreakForce) &&
  (decide (x1542.CollideConnected = x1543.CollideConnected) &&
  (decide (x1542.Impulses.fst = x1543.Impulses.fst) &&
  (decide (x1542.Impulses.snd.fst = x1543.Impulses.snd.fst) &&
  (decide (x1542.Impulses.snd.snd.fst = x1543.Impulses.snd.snd.fst) &&
  decide (x1542.Impulses.snd.snd.snd = x1543.Impulses.snd.snd.snd))))))))))))))))))))))
  fun (x1544 : Bool) =>
  if x1544 = true then some false else Let (IntKind.i64.wrap (s1539 + (1 : Int))) fun (x1545 : Int) => rec1538 x1545))
  else
  LOOP
  (fun (rec1546 : Int → Option Bool) (s1547 : Int) =>
  Let (↑a0.Contacts.length : Int) fun (x1548 : Int) =>
  Let (decide (s1547 < x1548)) fun (x1549 : Bool) =>
  if x1549 = true then
  Chk ((0 : Int) ≤ s1547 ∧ s1547 < (↑a0.Contacts.length : Int))
  (Let (ix a0.Contacts s1547) fun (x1550 : Contact) =>
  Chk ((0 : Int) ≤ s1547 ∧ s1547 < (↑b1.Contacts.length : Int))
  (Let (ix b1.Contacts s1547) fun (x1551 : Contact) =>
  Let
  (!(decide (x1550.Key.BodyA = x1551.Key.BodyA) &&
  (decide (x1550.Key.FixtureA = x1551.Key.FixtureA) &&
  (decide (x1550.Key.BodyB = x1551.Key.BodyB) && decide (x1550.Key.FixtureB = x1551.Key.FixtureB)))))
  fun (x1552 : Bool) =>
  Chk ((x1552 == false) = true → (0 : Int) ≤ s1547 ∧ s1547 < (↑a0.Contacts.length : Int))
  (Let (ix a0.Contacts s1547) fun (x1553 : Contact) =>
  Chk ((x1552 == false) = true → (0 : Int) ≤ s1547 ∧ s1547 < (↑b1.Contacts.length : Int))
  (Let (ix b1.Contacts s1547) fun (x1554 : Contact) =>
  Rx.Bind (if (x1552 == false) = true then caromref16_Equal x1553.Manifold x1554.Manifold else some default)
  fun (r1555 : Bool) =>
  Let (!r1555) fun (x1556 : Bool) =>
  Let (bif x1552 then true else x1556) fun (x1557 : Bool) =>
  if x1557 = true then some false else Let (IntKind.i64.wrap (s1547 + (1 : Int))) fun (x1558 : Int) => rec1546 x1558))))
  else some true)
  fuel (0 : Int))
  fuel (0 : Int))
  fuel (0 : Int)

noncomputable def caromlaw25_WorldValidation (w0 : World_) : Option Bool :=
  Rx.Bind (caromref25_Few w0) fun (r1559 : Bool) =>
  Let (!r1559) fun (x1560 : Bool) =>
  if x1560 = true then Rx.Bind caromlaw25_example fun (r1561 : Bool) => some r1561
  else
  Rx.Bind (world_New w0.Settings) fun (r1562 : World_ × Int) =>
  Rx.Bind (caromref25_New w0.Settings) fun (r1563 : World_ × Int) =>
  Rx.Bind (world_Validate w0) fun (r1564 : Int) =>
  Rx.Bind (caromref25_Validate w0) fun (r1565 : Int) =>
  Let (r1564 == r1565) fun (x1566 : Bool) =>
  Rx.Bind (if (x1566 == true) = true then world_ValidateSettings w0.Settings else some default) fun (r1567 : Int) =>
  Rx.Bind (if (x1566 == true) = true then caromref25_ValidateSettings w0.Settings else some default) fun (r1568 : Int) =>
  Let (r1567 == r1568) fun (x1569 : Bool) =>
  Let (bif x1566 then x1569 else false) fun (x1570 : Bool) =>
  Rx.Bind (if (x1570 == true) = true then caromref25_Equal r1562.fst r1563.fst else some default) fun (r1571 : Bool) =>
  Let (bif x1570 then r1571 else false) fun (x1572 : Bool) =>
  Let (r1562.snd == r1563.snd) fun (x1573 : Bool) =>
  Let (bif x1572 then x1573 else false) fun (x1574 : Bool) =>
  Rx.Bind (if (x1574 == true) = true then caromlaw25_example else some default) fun (r1575 : Bool) =>
  Let (bif x1574 then r1575 else false) fun (x1576 : Bool) => some x1576

noncomputable def caromlaw25_positiveIDs (w0 : World_) : Option Bool :=
  LOOP
  (fun (rec1577 : Int → Option Bool) (s1578 : Int) =>
  Let (↑w0.Bodies.length : Int) fun (x1579 : Int) =>
  Let (decide (s1578 < x1579)) fun (x1580 : Bool) =>
  if x1580 = true then
  Chk ((0 : Int) ≤ s1578 ∧ s1578 < (↑w0.Bodies.length : Int))
  (Let (ix w0.Bodies s1578) fun (x1581 : Body) =>
  Let (decide (x1581.ID < (1 : Int))) fun (x1582 : Bool) =>
  if x1582 = true then some false else Let (IntKind.i64.wrap (s1578 + (1 : Int))) fun (x1583 : Int) => rec1577 x1583)
  else some true)
  fuel (0 : Int)

noncomputable def caromref12_Clone (s0 : Shape) : Option Shape :=
  Chk (s0.Vertices.length * (16 : Nat) ≤ (140737488355328 : Nat)) (some s0)

noncomputable def caromref23_Clone (b0 : Body) : Option Body :=
  LOOP
  (fun (rec1584 : List Fixture × Int → Option Body) (s1585 : List Fixture × Int) =>
  Let (↑b0.Fixtures.length : Int) fun (x1586 : Int) =>
  Let (decide (s1585.snd < x1586)) fun (x1587 : Bool) =>
  if x1587 = true then
  Chk ((0 : Int) ≤ s1585.snd ∧ s1585.snd < (↑b0.Fixtures.length : Int))
  (Let (ix b0.Fixtures s1585.snd) fun (x1588 : Fixture) =>
  Rx.Bind (caromref12_Clone x1588.Shape) fun (r1589 : Shape) =>
  Chk
  ((List.length s1585.fst +
  [{ Shape := r1589, Density := x1588.Density, Friction := x1588.Friction, Restitution := x1588.Restitution, Sensor := x1588.Sensor, Category := x1588.Category, Mask := x1588.Mask, Group := x1588.Group : Fixture }].length) *
  (96 : Nat) ≤
  (140737488355328 : Nat))
  (Let
  (s1585.fst ++
  [{ Shape := r1589, Density := x1588.Density, Friction := x1588.Friction, Restitution := x1588.Restitution, Sensor := x1588.Sensor, Category := x1588.Category, Mask := x1588.Mask, Group := x1588.Group : Fixture }])
  fun (x1590 : List Fixture) =>
  Let (IntKind.i64.wrap (s1585.snd + (1 : Int))) fun (x1591 : Int) => rec1584 (x1590, x1591)))
  else
  some
  { ID := b0.ID, Kind := b0.Kind, Transform := b0.Transform, Velocity := b0.Velocity, AngularVelocity := b0.AngularVelocity, Force := b0.Force, Torque := b0.Torque, LinearDamping := b0.LinearDamping, AngularDamping := b0.AngularDamping, GravityScale := b0.GravityScale, Bullet := b0.Bullet, FixedRotation := b0.FixedRotation, NoSleep := b0.NoSleep, Asleep := b0.Asleep, IdleSteps := b0.IdleSteps, Fixtures := s1585.fst : Body })
  fuel ([], (0 : Int))

noncomputable def caromref16_Clone (m0 : Manifold) : Option Manifold :=
  Chk (m0.Points.length * (48 : Nat) ≤ (140737488355328 : Nat)) (some m0)

noncomputable def caromref25_Clone (w0 : World_) : Option World_ :=
  LOOP
  (fun (rec1592 : Int × World_ → Option World_) (s1593 : Int × World_) =>
  Let (↑w0.Bodies.length : Int) fun (x1594 : Int) =>
  Let (decide (s1593.fst < x1594)) fun (x1595 : Bool) =>
  if x1595 = true then
  Chk ((0 : Int) ≤ s1593.fst ∧ s1593.fst < (↑w0.Bodies.length : Int))
  (Let (ix w0.Bodies s1593.fst) fun (x1596 : Body) =>
  Rx.Bind (caromref23_Clone x1596) fun (r1597 : Body) =>
  Chk ((s1593.snd.Bodies.length + [r1597].length) * (152 : Nat) ≤ (140737488355328 : Nat))
  (Let (s1593.snd.Bodies ++ [r1597]) fun (x1598 : List Body) =>
  Let (IntKind.i64.wrap (s1593.fst + (1 : Int))) fun (x1599 : Int) =>
  rec1592
  (x1599,
  { Settings := s1593.snd.Settings, Bodies := x1598, Joints := s1593.snd.Joints, Contacts := s1593.snd.Contacts, Overlaps := s1593.snd.Overlaps, NextID := s1593.snd.NextID, Frame := s1593.snd.Frame : World_ })))
  else
  Chk (w0.Joints.length * (192 : Nat) ≤ (140737488355328 : Nat))
  (LOOP
  (fun (rec1600 : Int × World_ → Option World_) (s1601 : Int × World_) =>
  Let (↑w0.Contacts.length : Int) fun (x1602 : Int) =>
  Let (decide (s1601.fst < x1602)) fun (x1603 : Bool) =>
  if x1603 = true then
  Chk ((0 : Int) ≤ s1601.fst ∧ s1601.fst < (↑w0.Contacts.length : Int))
  (Let (ix w0.Contacts s1601.fst) fun (x1604 : Contact) =>
  Chk ((0 : Int) ≤ s1601.fst ∧ s1601.fst < (↑w0.Contacts.length : Int))
  (Let (ix w0.Contacts s1601.fst) fun (x1605 : Contact) =>
  Rx.Bind (caromref16_Clone x1605.Manifold) fun (r1606 : Manifold) =>
  Chk
  ((s1601.snd.Contacts.length + [{ Key := x1604.Key, Manifold := r1606 : Contact }].length) * (72 : Nat) ≤
  (140737488355328 : Nat))
  (Let (s1601.snd.Contacts ++ [{ Key := x1604.Key, Manifold := r1606 : Contact }]) fun (x1607 : List Contact) =>
  Let (IntKind.i64.wrap (s1601.fst + (1 : Int))) fun (x1608 : Int) =>
  rec1600
  (x1608,
  { Settings := s1601.snd.Settings, Bodies := s1601.snd.Bodies, Joints := s1601.snd.Joints, Contacts := x1607, Overlaps := s1601.snd.Overlaps, NextID := s1601.snd.NextID, Frame := s1601.snd.Frame : World_ }))))
  else
  Chk (w0.Overlaps.length * (32 : Nat) ≤ (140737488355328 : Nat))
  (some
  { Settings := s1601.snd.Settings, Bodies := s1601.snd.Bodies, Joints := s1601.snd.Joints, Contacts := s1601.snd.Contacts, Overlaps := w0.Overlaps, NextID := s1601.snd.NextID, Frame := s1601.snd.Frame : World_ }))
  fuel
  ((0 : Int),
  { Settings := s1593.snd.Settings, Bodies := s1593.snd.Bodies, Joints := w0.Joints, Contacts := s1593.snd.Contacts, Overlaps := s1593.snd.Overlaps, NextID := s1593.snd.NextID, Frame := s1593.snd.Frame : World_ })))
  fuel
  ((0 : Int),
  { Settings := w0.Settings, Bodies := [], Joints := w0.Joints, Contacts := [], Overlaps := w0.Overlaps, NextID := w0.NextID, Frame := w0.Frame : World_ })

noncomputable def caromref24_Attached (j0 : Joint) (id1 : Int) : Option Bool :=
  Let (id1 != (0 : Int)) fun (x1609 : Bool) =>
  Let (j0.BodyA == id1) fun (x1610 : Bool) =>
  Let (j0.BodyB == id1) fun (x1611 : Bool) =>
  Let (bif x1610 then true else x1611) fun (x1612 : Bool) =>
  Let (bif x1609 then x1612 else false) fun (x1613 : Bool) => some x1613

noncomputable def caromref25_other (k0 : PairKey) (id1 : Int) : Option (Int × Bool) :=
  Let (k0.BodyA == id1) fun (x1614 : Bool) =>
  if x1614 = true then some (k0.BodyB, true) else Let (k0.BodyB == id1) fun (x1615 : Bool) => some (k0.BodyA, x1615)

noncomputable def caromref25_WakeBody (w0 : World_) (id1 : Int) : Option World_ :=
  Rx.Bind (caromref25_Clone w0) fun (r1616 : World_) =>
  Rx.Bind (caromref25_FindBody w0 id1) fun (r1617 : Int) =>
  Join
  (fun (v1618 : List Body) =>
  some
  { Settings := r1616.Settings, Bodies := v1618, Joints := r1616.Joints, Contacts := r1616.Contacts, Overlaps := r1616.Overlaps, NextID := r1616.NextID, Frame := r1616.Frame : World_ })
  fun (j1619 : List Body → Option World_) =>
  Let (decide (r1617 ≥ (0 : Int))) fun (x1620 : Bool) =>
  Chk ((x1620 == true) = true → (0 : Int) ≤ r1617 ∧ r1617 < (↑w0.Bodies.length : Int))
  (Let (ix w0.Bodies r1617) fun (x1621 : Body) =>
  Let (x1621.Kind == (3 : Int)) fun (x1622 : Bool) =>
  Let (bif x1620 then x1622 else false) fun (x1623 : Bool) =>
  if x1623 = true then
  Chk ((0 : Int) ≤ r1617 ∧ r1617 < (↑r1616.Bodies.length : Int))
  (Chk ((0 : Int) ≤ r1617 ∧ r1617 < (↑r1616.Bodies.length : Int))
  (Let
  (r1616.Bodies.set r1617.toNat
  { ID := (ix r1616.Bodies r1617).ID, Kind := (ix r1616.Bodies r1617).Kind, Transform := (ix r1616.Bodies r1617).Transform, Velocity := (ix r1616.Bodies r1617).Velocity, AngularVelocity := (ix r1616.Bodies r1617).AngularVelocity, Force := (ix r1616.Bodies r1617).Force, Torque := (ix r1616.Bodies r1617).Torque, LinearDamping := (ix r1616.Bodies r1617).LinearDamping, AngularDamping := (ix r1616.Bodies r1617).AngularDamping, GravityScale := (ix r1616.Bodies r1617).GravityScale, Bullet := (ix r1616.Bodies r1617).Bullet, FixedRotation := (ix r1616.Bodies r1617).FixedRotation, NoSleep := (ix r1616.Bodies r1617).NoSleep, Asleep := false, IdleSteps := (ix r1616.Bodies r1617).IdleSteps, Fixtures := (ix r1616.Bodies r1617).Fixtures : Body })
  fun (x1624 : List Body) =>
  Chk ((0 : Int) ≤ r1617 ∧ r1617 < (↑x1624.length : Int))
  (Chk ((0 : Int) ≤ r1617 ∧ r1617 < (↑x1624.length : Int))
  (Let
  (x1624.set r1617.toNat
  { ID := (ix x1624 r1617).ID, Kind := (ix x1624 r1617).Kind, Transform := (ix x1624 r1617).Transform, Velocity := (ix x1624 r1617).Velocity, AngularVelocity := (ix x1624 r1617).AngularVelocity, Force := (ix x1624 r1617).Force, Torque := (ix x1624 r1617).Torque, LinearDamping := (ix x1624 r1617).LinearDamping, AngularDamping := (ix x1624 r1617).AngularDamping, GravityScale := (ix x1624 r1617).GravityScale, Bullet := (ix x1624 r1617).Bullet, FixedRotation := (ix x1624 r1617).FixedRotation, NoSleep := (ix x1624 r1617).NoSleep, Asleep := (ix x1624 r1617).Asleep, IdleSteps := (0 : Int), Fixtures := (ix x1624 r1617).Fixtures : Body })
  fun (x1625 : List Body) => j1619 x1625))))
  else j1619 r1616.Bodies)

noncomputable def caromref25_RemoveBody (w0 : World_) (id1 : Int) : Option (World_ × Int) :=
  Rx.Bind (caromref25_FindBody w0 id1) fun (r1626 : Int) =>
  Let (decide (r1626 < (0 : Int))) fun (x1627 : Bool) =>
  if x1627 = true then
  some
  ({ Settings := { TimeStep := (0 : Int), Gravity := { X := (0 : Int), Y := (0 : Int) : Vec }, Iterations := (0 : Int), SleepSteps := (0 : Int) : Settings }, Bodies := [], Joints := [], Contacts := [], Overlaps := [], NextID := (0 : Int), Frame := (0 : Int) : World_ },
  (8 : Int))
  else
  Rx.Bind (caromref25_Clone w0) fun (r1628 : World_) =>
  Chk
  ((0 : Int) ≤ none.getD (0 : Int) ∧
  (0 : Int) ≤ (some r1626).getD (0 : Int) ∧ (0 : Nat) ≤ r1626.toNat ∧ r1626.toNat ≤ r1628.Bodies.length)
  (Let (IntKind.i64.wrap (r1626 + (1 : Int))) fun (x1629 : Int) =>
  Chk
  ((0 : Int) ≤ (some x1629).getD (0 : Int) ∧
  (0 : Int) ≤ none.getD (0 : Int) ∧ x1629.toNat ≤ r1628.Bodies.length ∧ r1628.Bodies.length ≤ r1628.Bodies.length)
  (Chk (x1629.toNat + (r1628.Bodies.length - x1629.toNat) ≤ r1628.Bodies.length)
  (Let (List.take (r1628.Bodies.length - x1629.toNat) (List.drop x1629.toNat r1628.Bodies)) fun (x1630 : List Body) =>
  Chk
  ((0 : Nat) + (r1626.toNat - (0 : Nat) + x1630.length) ≤ r1628.Bodies.length ∧
  r1626.toNat - (0 : Nat) + x1630.length ≤ r1628.Bodies.length - (0 : Nat) ∧ (0 : Nat) < r1628.Bodies.length - (0 : Nat))
  (Let
  (List.take ((0 : Nat) + (r1626.toNat - (0 : Nat))) r1628.Bodies ++ x1630 ++
  List.drop ((0 : Nat) + (r1626.toNat - (0 : Nat)) + x1630.length) r1628.Bodies)
  fun (x1631 : List Body) =>
  Chk (r1626.toNat - (0 : Nat) + x1630.length ≤ x1631.length)
  (Let (List.take (r1626.toNat - (0 : Nat) + x1630.length) x1631) fun (x1632 : List Body) =>
  LOOP
  (fun (rec1633 : List Int × Int × World_ → Option (World_ × Int)) (s1634 : List Int × Int × World_) =>
  Let (↑w0.Joints.length : Int) fun (x1635 : Int) =>
  Let (decide (s1634.snd.fst < x1635)) fun (x1636 : Bool) =>
  if x1636 = true then
  Join
  (fun (v1637 : List Int × World_) =>
  Let (IntKind.i64.wrap (s1634.snd.fst + (1 : Int))) fun (x1638 : Int) => rec1633 (v1637.fst, x1638, v1637.snd))
  fun (j1639 : List Int × World_ → Option (World_ × Int)) =>
  Chk ((0 : Int) ≤ s1634.snd.fst ∧ s1634.snd.fst < (↑w0.Joints.length : Int))
  (Let (ix w0.Joints s1634.snd.fst) fun (x1640 : Joint) =>
  Rx.Bind (caromref24_Attached x1640 id1) fun (r1641 : Bool) =>
  if r1641 = true then
  Chk ((List.length s1634.fst + [x1640.BodyA, x1640.BodyB].length) * (8 : Nat) ≤ (140737488355328 : Nat))
  (Let (s1634.fst ++ [x1640.BodyA, x1640.BodyB]) fun (x1642 : List Int) => j1639 (x1642, s1634.snd.snd))
  else
  Chk ((s1634.snd.snd.Joints.length + [x1640].length) * (192 : Nat) ≤ (140737488355328 : Nat))
  (Let (s1634.snd.snd.Joints ++ [x1640]) fun (x1643 : List Joint) =>
  j1639
  (s1634.fst,
  { Settings := s1634.snd.snd.Settings, Bodies := s1634.snd.snd.Bodies, Joints := x1643, Contacts := s1634.snd.snd.Contacts, Overlaps := s1634.snd.snd.Overlaps, NextID := s1634.snd.snd.NextID, Frame := s1634.snd.snd.Frame : World_ })))
  else
  LOOP
  (fun (rec1644 : List Int × Int × World_ → Option (World_ × Int)) (s1645 : List Int × Int × World_) =>
  Let (↑w0.Contacts.length : Int) fun (x1646 : Int) =>
  Let (decide (s1645.snd.fst < x1646)) fun (x1647 : Bool) =>
  if x1647 = true then
  Join
  (fun (v1648 : List Int × World_) =>
  Let (IntKind.i64.wrap (s1645.snd.fst + (1 : Int))) fun (x1649 : Int) => rec1644 (v1648.fst, x1649, v1648.snd))
  fun (j1650 : List Int × World_ → Option (World_ × Int)) =>
  Chk ((0 : Int) ≤ s1645.snd.fst ∧ s1645.snd.fst < (↑w0.Contacts.length : Int))
  (Let (ix w0.Contacts s1645.snd.fst) fun (x1651 : Contact) =>
  Rx.Bind (caromref25_other x1651.Key id1) fun (r1652 : Int × Bool) =>
  if r1652.snd = true then
  Chk ((List.length s1645.fst + [r1652.fst].length) * (8 : Nat) ≤ (140737488355328 : Nat))
  (Let (s1645.fst ++ [r1652.fst]) fun (x1653 : List Int) => j1650 (x1653, s1645.snd.snd))
  else
  Chk ((0 : Int) ≤ s1645.snd.fst ∧ s1645.snd.fst < (↑w0.Contacts.length : Int))
  (Let (ix w0.Contacts s1645.snd.fst) fun (x1654 : Contact) =>
  Chk ((0 : Int) ≤ s1645.snd.fst ∧ s1645.snd.fst < (↑w0.Contacts.length : Int))
  (Let (ix w0.Contacts s1645.snd.fst) fun (x1655 : Contact) =>
  Rx.Bind (caromref16_Clone x1655.Manifold) fun (r1656 : Manifold) =>
  Chk
  ((s1645.snd.snd.Contacts.length + [{ Key := x1654.Key, Manifold := r1656 : Contact }].length) * (72 : Nat) ≤
  (140737488355328 : Nat))
  (Let (s1645.snd.snd.Contacts ++ [{ Key := x1654.Key, Manifold := r1656 : Contact }]) fun (x1657 : List Contact) =>
  j1650
  (s1645.fst,
  { Settings := s1645.snd.snd.Settings, Bodies := s1645.snd.snd.Bodies, Joints := s1645.snd.snd.Joints, Contacts := x1657, Overlaps := s1645.snd.snd.Overlaps, NextID := s1645.snd.snd.NextID, Frame := s1645.snd.snd.Frame : World_ })))))
  else
  LOOP
  (fun (rec1658 : Int × World_ → Option (World_ × Int)) (s1659 : Int × World_) =>
  Let (↑w0.Overlaps.length : Int) fun (x1660 : Int) =>
  Let (decide (s1659.fst < x1660)) fun (x1661 : Bool) =>
  if x1661 = true then
  Join
  (fun (v1662 : World_) => Let (IntKind.i64.wrap (s1659.fst + (1 : Int))) fun (x1663 : Int) => rec1658 (x1663, v1662))
  fun (j1664 : World_ → Option (World_ × Int)) =>
  Chk ((0 : Int) ≤ s1659.fst ∧ s1659.fst < (↑w0.Overlaps.length : Int))
  (Let (ix w0.Overlaps s1659.fst) fun (x1665 : PairKey) =>
  Rx.Bind (caromref25_other x1665 id1) fun (r1666 : Int × Bool) =>
  Let (!r1666.snd) fun (x1667 : Bool) =>
  if x1667 = true then
  Chk ((0 : Int) ≤ s1659.fst ∧ s1659.fst < (↑w0.Overlaps.length : Int))
  (Let (ix w0.Overlaps s1659.fst) fun (x1668 : PairKey) =>
  Chk ((s1659.snd.Overlaps.length + [x1668].length) * (32 : Nat) ≤ (140737488355328 : Nat))
  (Let (s1659.snd.Overlaps ++ [x1668]) fun (x1669 : List PairKey) =>
  j1664
  { Settings := s1659.snd.Settings, Bodies := s1659.snd.Bodies, Joints := s1659.snd.Joints, Contacts := s1659.snd.Contacts, Overlaps := x1669, NextID := s1659.snd.NextID, Frame := s1659.snd.Frame : World_ }))
  else j1664 s1659.snd)
  else
  LOOP
  (fun (rec1670 : Int × World_ → Option (World_ × Int)) (s1671 : Int × World_) =>
  Let (↑(List.length s1645.fst) : Int) fun (x1672 : Int) =>
  Let (decide (s1671.fst < x1672)) fun (x1673 : Bool) =>
  if x1673 = true then
  Join
  (fun (v1674 : World_) => Let (IntKind.i64.wrap (s1671.fst + (1 : Int))) fun (x1675 : Int) => rec1670 (x1675, v1674))
  fun (j1676 : World_ → Option (World_ × Int)) =>
  Chk ((0 : Int) ≤ s1671.fst ∧ s1671.fst < (↑(List.length s1645.fst) : Int))
  (Chk ((0 : Int) ≤ s1671.fst ∧ s1671.fst < (↑(List.length s1645.fst) : Int))
  (Let (ix s1645.fst s1671.fst) fun (x1677 : Int) =>
  Let (x1677 != id1) fun (x1678 : Bool) =>
  if x1678 = true then
  Chk ((0 : Int) ≤ s1671.fst ∧ s1671.fst < (↑(List.length s1645.fst) : Int))
  (Let (ix s1645.fst s1671.fst) fun (x1679 : Int) =>
  Rx.Bind (caromref25_WakeBody s1671.snd x1679) fun (r1680 : World_) => none)
  else j1676 s1671.snd))
  else some (s1671.snd, (0 : Int)))
  fuel ((0 : Int), s1659.snd))
  fuel ((0 : Int), s1645.snd.snd))
  fuel (s1634.fst, (0 : Int), s1634.snd.snd))
  fuel
  ([], (0 : Int),
  { Settings := r1628.Settings, Bodies := x1632, Joints := [], Contacts := [], Overlaps := [], NextID := r1628.NextID, Frame := r1628.Frame : World_ }))))))

noncomputable def caromlaw25_WorldRemoveBody (w0 : World_) (id1 : Int) : Option Bool :=
  Rx.Bind (caromref25_Few w0) fun (r1681 : Bool) =>
  Let (!r1681) fun (x1682 : Bool) =>
  Rx.Bind (if (x1682 == false) = true then caromlaw25_positiveIDs w0 else some default) fun (r1683 : Bool) =>
  Let (!r1683) fun (x1684 : Bool) =>
  Let (bif x1682 then true else x1684) fun (x1685 : Bool) =>
  if x1685 = true then Rx.Bind caromlaw25_example fun (r1686 : Bool) => some r1686
  else
  Rx.Bind (world_RemoveBody w0 id1) fun (r1687 : World_ × Int) =>
  Rx.Bind (caromref25_RemoveBody w0 id1) fun (r1688 : World_ × Int) =>
  Rx.Bind (caromref25_Equal r1687.fst r1688.fst) fun (r1689 : Bool) =>
  Let (r1687.snd == r1688.snd) fun (x1690 : Bool) =>
  Let (bif r1689 then x1690 else false) fun (x1691 : Bool) =>
  Rx.Bind
  (if (x1691 == true) = true then world_WakeBody w0 id1
  else
  some
  { Settings := { TimeStep := default, Gravity := { X := default, Y := default : Vec }, Iterations := default, SleepSteps := default : Settings }, Bodies := default, Joints := default, Contacts := default, Overlaps := default, NextID := default, Frame := default : World_ })
  fun (r1692 : World_) =>
  Rx.Bind
  (if (x1691 == true) = true then caromref25_WakeBody w0 id1
  else
  some
  { Settings := { TimeStep := default, Gravity := { X := default, Y := default : Vec }, Iterations := default, SleepSteps := default : Settings }, Bodies := default, Joints := default, Contacts := default, Overlaps := default, NextID := default, Frame := default : World_ })
  fun (r1693 : World_) =>
  Rx.Bind (if (x1691 == true) = true then caromref25_Equal r1692 r1693 else some default) fun (r1694 : Bool) =>
  Let (bif x1691 then r1694 else false) fun (x1695 : Bool) =>
  Rx.Bind (if (x1695 == true) = true then caromlaw25_example else some default) fun (r1696 : Bool) =>
  Let (bif x1695 then r1696 else false) fun (x1697 : Bool) => some x1697

noncomputable def caromref25_AddBody (w0 : World_) (b1 : Body) : Option (World_ × Int × Int) :=
  Let (↑w0.Bodies.length : Int) fun (x1698 : Int) =>
  Let (decide (x1698 ≥ (32 : Int))) fun (x1699 : Bool) =>
  Let (decide (w0.NextID ≥ (1099511627776 : Int))) fun (x1700 : Bool) =>
  Let (bif x1699 then true else x1700) fun (x1701 : Bool) =>
  if x1701 = true then
  some
  ({ Settings := { TimeStep := (0 : Int), Gravity := { X := (0 : Int), Y := (0 : Int) : Vec }, Iterations := (0 : Int), SleepSteps := (0 : Int) : Settings }, Bodies := [], Joints := [], Contacts := [], Overlaps := [], NextID := (0 : Int), Frame := (0 : Int) : World_ },
  (0 : Int), (9 : Int))
  else
  Rx.Bind
  (caromref23_Validate
  { ID := w0.NextID, Kind := b1.Kind, Transform := b1.Transform, Velocity := b1.Velocity, AngularVelocity := b1.AngularVelocity, Force := b1.Force, Torque := b1.Torque, LinearDamping := b1.LinearDamping, AngularDamping := b1.AngularDamping, GravityScale := b1.GravityScale, Bullet := b1.Bullet, FixedRotation := b1.FixedRotation, NoSleep := b1.NoSleep, Asleep := b1.Asleep, IdleSteps := b1.IdleSteps, Fixtures := b1.Fixtures : Body })
  fun (r1702 : Int) =>
  Let (r1702 != (0 : Int)) fun (x1703 : Bool) =>
  if x1703 = true then
  some
  ({ Settings := { TimeStep := (0 : Int), Gravity := { X := (0 : Int), Y := (0 : Int) : Vec }, Iterations := (0 : Int), SleepSteps := (0 : Int) : Settings }, Bodies := [], Joints := [], Contacts := [], Overlaps := [], NextID := (0 : Int), Frame := (0 : Int) : World_ },
  (0 : Int), (14 : Int))
  else
  Rx.Bind (caromref25_Clone w0) fun (r1704 : World_) =>
  Rx.Bind
  (caromref23_Clone
  { ID := w0.NextID, Kind := b1.Kind, Transform := b1.Transform, Velocity := b1.Velocity, AngularVelocity := b1.AngularVelocity, Force := b1.Force, Torque := b1.Torque, LinearDamping := b1.LinearDamping, AngularDamping := b1.AngularDamping, GravityScale := b1.GravityScale, Bullet := b1.Bullet, FixedRotation := b1.FixedRotation, NoSleep := b1.NoSleep, Asleep := b1.Asleep, IdleSteps := b1.IdleSteps, Fixtures := b1.Fixtures : Body })
  fun (r1705 : Body) =>
  Chk ((r1704.Bodies.length + [r1705].length) * (152 : Nat) ≤ (140737488355328 : Nat))
  (Let (r1704.Bodies ++ [r1705]) fun (x1706 : List Body) =>
  Let (IntKind.i64.wrap (w0.NextID + (1 : Int))) fun (x1707 : Int) =>
  some
  ({ Settings := r1704.Settings, Bodies := x1706, Joints := r1704.Joints, Contacts := r1704.Contacts, Overlaps := r1704.Overlaps, NextID := x1707, Frame := r1704.Frame : World_ },
  w0.NextID, (0 : Int)))

noncomputable def world_FindJoint_1 (j0 : Joint) (p1 : Int) : Option Bool :=
  Let (j0.ID == p1) fun (x1708 : Bool) => some x1708

noncomputable def world_FindJoint (w0 : World_) (id1 : Int) : Option Int :=
  Rx.Bind (slices_IndexFunc_69 w0.Joints fun (a : Tup tb [Ix.tJoint]) => world_FindJoint_1 a id1) fun (r1709 : Int) =>
  some r1709

noncomputable def caromref25_FindJoint (w0 : World_) (id1 : Int) : Option Int :=
  LOOP
  (fun (rec1710 : Int → Option Int) (s1711 : Int) =>
  Let (↑w0.Joints.length : Int) fun (x1712 : Int) =>
  Let (decide (s1711 < x1712)) fun (x1713 : Bool) =>
  if x1713 = true then
  Chk ((0 : Int) ≤ s1711 ∧ s1711 < (↑w0.Joints.length : Int))
  (Let (ix w0.Joints s1711) fun (x1714 : Joint) =>
  Let (x1714.ID == id1) fun (x1715 : Bool) =>
  if x1715 = true then some s1711 else Let (IntKind.i64.wrap (s1711 + (1 : Int))) fun (x1716 : Int) => rec1710 x1716)
  else some (-1 : Int))
  fuel (0 : Int)

noncomputable def caromlaw25_WorldAddBody (w0 : World_) (b1 : Body) (id2 : Int) : Option Bool :=
  Rx.Bind (caromref25_Few w0) fun (r1717 : Bool) =>
  Let (!r1717) fun (x1718 : Bool) =>
  Rx.Bind (if (x1718 == false) = true then caromref22_Few [b1] (1 : Int) else some default) fun (r1719 : Bool) =>
  Let (!r1719) fun (x1720 : Bool) =>
  Let (bif x1718 then true else x1720) fun (x1721 : Bool) =>
  if x1721 = true then Rx.Bind caromlaw25_example fun (r1722 : Bool) => some r1722
  else
  Rx.Bind (world_AddBody w0 b1) fun (r1723 : World_ × Int × Int) =>
  Rx.Bind (caromref25_AddBody w0 b1) fun (r1724 : World_ × Int × Int) =>
  Rx.Bind (caromref25_Equal r1723.fst r1724.fst) fun (r1725 : Bool) =>
  Let (r1723.snd.fst == r1724.snd.fst) fun (x1726 : Bool) =>
  Let (bif r1725 then x1726 else false) fun (x1727 : Bool) =>
  Let (r1723.snd.snd == r1724.snd.snd) fun (x1728 : Bool) =>
  Let (bif x1727 then x1728 else false) fun (x1729 : Bool) =>
  Rx.Bind (if (x1729 == true) = true then world_FindBody w0 id2 else some default) fun (r1730 : Int) =>
  Rx.Bind (if (x1729 == true) = true then caromref25_FindBody w0 id2 else some default) fun (r1731 : Int) =>
  Let (r1730 == r1731) fun (x1732 : Bool) =>
  Let (bif x1729 then x1732 else false) fun (x1733 : Bool) =>
  Rx.Bind (if (x1733 == true) = true then world_FindJoint w0 id2 else some default) fun (r1734 : Int) =>
  Rx.Bind (if (x1733 == true) = true then caromref25_FindJoint w0 id2 else some default) fun (r1735 : Int) =>
  Let (r1734 == r1735) fun (x1736 : Bool) =>
  Let (bif x1733 then x1736 else false) fun (x1737 : Bool) =>
  Rx.Bind (if (x1737 == true) = true then caromlaw25_example else some default) fun (r1738 : Bool) =>
  Let (bif x1737 then r1738 else false) fun (x1739 : Bool) => some x1739

noncomputable def joint_ResetImpulses (j0 : Joint) : Option Joint :=
  Let
  (decide (j0.Impulses.fst = (0 : Int)) &&
  (decide (j0.Impulses.snd.fst = (0 : Int)) &&
  (decide (j0.Impulses.snd.snd.fst = (0 : Int)) && decide (j0.Impulses.snd.snd.snd = (0 : Int)))))
  fun (x1740 : Bool) =>
  if x1740 = true then some j0
  else
  some
  { ID := j0.ID, Kind := j0.Kind, BodyA := j0.BodyA, BodyB := j0.BodyB, AnchorA := j0.AnchorA, AnchorB := j0.AnchorB, Axis := j0.Axis, ReferenceAngle := j0.ReferenceAngle, EnableLimit := j0.EnableLimit, Lower := j0.Lower, Upper := j0.Upper, EnableMotor := j0.EnableMotor, MotorSpeed := j0.MotorSpeed, MaxForce := j0.MaxForce, Softness := j0.Softness, BreakForce := j0.BreakForce, CollideConnected := j0.CollideConnected, Impulses := ((0 : Int), (0 : Int), (0 : Int), (0 : Int)) : Joint }

noncomputable def world_AddJoint (w0 : World_) (j1 : Joint) : Option (World_ × Int × Int) :=
  Let (↑w0.Joints.length : Int) fun (x1741 : Int) =>
  Let (decide (x1741 ≥ (32 : Int))) fun (x1742 : Bool) =>
  Let (decide (w0.NextID ≥ (1099511627776 : Int))) fun (x1743 : Bool) =>
  Let (bif x1742 then true else x1743) fun (x1744 : Bool) =>
  if x1744 = true then
  some
  ({ Settings := { TimeStep := (0 : Int), Gravity := { X := (0 : Int), Y := (0 : Int) : Vec }, Iterations := (0 : Int), SleepSteps := (0 : Int) : Settings }, Bodies := [], Joints := [], Contacts := [], Overlaps := [], NextID := (0 : Int), Frame := (0 : Int) : World_ },
  (0 : Int), (9 : Int))
  else
  Rx.Bind (joint_ResetImpulses j1) fun (r1745 : Joint) =>
  Rx.Bind
  (joint_Validate
  { ID := w0.NextID, Kind := r1745.Kind, BodyA := r1745.BodyA, BodyB := r1745.BodyB, AnchorA := r1745.AnchorA, AnchorB := r1745.AnchorB, Axis := r1745.Axis, ReferenceAngle := r1745.ReferenceAngle, EnableLimit := r1745.EnableLimit, Lower := r1745.Lower, Upper := r1745.Upper, EnableMotor := r1745.EnableMotor, MotorSpeed := r1745.MotorSpeed, MaxForce := r1745.MaxForce, Softness := r1745.Softness, BreakForce := r1745.BreakForce, CollideConnected := r1745.CollideConnected, Impulses := r1745.Impulses : Joint })
  fun (r1746 : Int) =>
  Let (r1746 != (0 : Int)) fun (x1747 : Bool) =>
  Rx.Bind
  (if (x1747 == false) = true then
  world_bodiesExist w0
  { ID := w0.NextID, Kind := r1745.Kind, BodyA := r1745.BodyA, BodyB := r1745.BodyB, AnchorA := r1745.AnchorA, AnchorB := r1745.AnchorB, Axis := r1745.Axis, ReferenceAngle := r1745.ReferenceAngle, EnableLimit := r1745.EnableLimit, Lower := r1745.Lower, Upper := r1745.Upper, EnableMotor := r1745.EnableMotor, MotorSpeed := r1745.MotorSpeed, MaxForce := r1745.MaxForce, Softness := r1745.Softness, BreakForce := r1745.BreakForce, CollideConnected := r1745.CollideConnected, Impulses := r1745.Impulses : Joint }
  else some default)
  fun (r1748 : Bool) =>
  Let (!r1748) fun (x1749 : Bool) =>
  Let (bif x1747 then true else x1749) fun (x1750 : Bool) =>
  if x1750 = true then
  some
  ({ Settings := { TimeStep := (0 : Int), Gravity := { X := (0 : Int), Y := (0 : Int) : Vec }, Iterations := (0 : Int), SleepSteps := (0 : Int) : Settings }, Bodies := [], Joints := [], Contacts := [], Overlaps := [], NextID := (0 : Int), Frame := (0 : Int) : World_ },
  (0 : Int), (15 : Int))
  else
  Rx.Bind (world_Clone w0) fun (r1751 : World_) =>
  Chk
  ((r1751.Joints.length +
  [{ ID := w0.NextID, Kind := r1745.Kind, BodyA := r1745.BodyA, BodyB := r1745.BodyB, AnchorA := r1745.AnchorA, AnchorB := r1745.AnchorB, Axis := r1745.Axis, ReferenceAngle := r1745.ReferenceAngle, EnableLimit := r1745.EnableLimit, Lower := r1745.Lower, Upper := r1745.Upper, EnableMotor := r1745.EnableMotor, MotorSpeed := r1745.MotorSpeed, MaxForce := r1745.MaxForce, Softness := r1745.Softness, BreakForce := r1745.BreakForce, CollideConnected := r1745.CollideConnected, Impulses := r1745.Impulses : Joint }].length) *
  (192 : Nat) ≤
  (140737488355328 : Nat))
  (Let
  (r1751.Joints ++
  [{ ID := w0.NextID, Kind := r1745.Kind, BodyA := r1745.BodyA, BodyB := r1745.BodyB, AnchorA := r1745.AnchorA, AnchorB := r1745.AnchorB, Axis := r1745.Axis, ReferenceAngle := r1745.ReferenceAngle, EnableLimit := r1745.EnableLimit, Lower := r1745.Lower, Upper := r1745.Upper, EnableMotor := r1745.EnableMotor, MotorSpeed := r1745.MotorSpeed, MaxForce := r1745.MaxForce, Softness := r1745.Softness, BreakForce := r1745.BreakForce, CollideConnected := r1745.CollideConnected, Impulses := r1745.Impulses : Joint }])
  fun (x1752 : List Joint) =>
  Let (IntKind.i64.wrap (r1751.NextID + (1 : Int))) fun (x1753 : Int) =>
  Rx.Bind
  (world_wakeAll
  { Settings := r1751.Settings, Bodies := r1751.Bodies, Joints := x1752, Contacts := r1751.Contacts, Overlaps := r1751.Overlaps, NextID := x1753, Frame := r1751.Frame : World_ }
  [r1745.BodyA, r1745.BodyB])
  fun (r1754 : World_) => some (r1754, w0.NextID, (0 : Int)))

noncomputable def caromref25_AddJoint (w0 : World_) (j1 : Joint) : Option (World_ × Int × Int) :=
  Let (↑w0.Joints.length : Int) fun (x1755 : Int) =>
  Let (decide (x1755 ≥ (32 : Int))) fun (x1756 : Bool) =>
  Let (decide (w0.NextID ≥ (1099511627776 : Int))) fun (x1757 : Bool) =>
  Let (bif x1756 then true else x1757) fun (x1758 : Bool) =>
  if x1758 = true then
  some
  ({ Settings := { TimeStep := (0 : Int), Gravity := { X := (0 : Int), Y := (0 : Int) : Vec }, Iterations := (0 : Int), SleepSteps := (0 : Int) : Settings }, Bodies := [], Joints := [], Contacts := [], Overlaps := [], NextID := (0 : Int), Frame := (0 : Int) : World_ },
  (0 : Int), (9 : Int))
  else
  Rx.Bind
  (caromref24_Validate
  { ID := w0.NextID, Kind := j1.Kind, BodyA := j1.BodyA, BodyB := j1.BodyB, AnchorA := j1.AnchorA, AnchorB := j1.AnchorB, Axis := j1.Axis, ReferenceAngle := j1.ReferenceAngle, EnableLimit := j1.EnableLimit, Lower := j1.Lower, Upper := j1.Upper, EnableMotor := j1.EnableMotor, MotorSpeed := j1.MotorSpeed, MaxForce := j1.MaxForce, Softness := j1.Softness, BreakForce := j1.BreakForce, CollideConnected := j1.CollideConnected, Impulses := ((0 : Int), (0 : Int), (0 : Int), (0 : Int)) : Joint })
  fun (r1759 : Int) =>
  Let (r1759 != (0 : Int)) fun (x1760 : Bool) =>
  Rx.Bind
  (if (x1760 == false) = true then
  caromref25_connected w0
  { ID := w0.NextID, Kind := j1.Kind, BodyA := j1.BodyA, BodyB := j1.BodyB, AnchorA := j1.AnchorA, AnchorB := j1.AnchorB, Axis := j1.Axis, ReferenceAngle := j1.ReferenceAngle, EnableLimit := j1.EnableLimit, Lower := j1.Lower, Upper := j1.Upper, EnableMotor := j1.EnableMotor, MotorSpeed := j1.MotorSpeed, MaxForce := j1.MaxForce, Softness := j1.Softness, BreakForce := j1.BreakForce, CollideConnected := j1.CollideConnected, Impulses := ((0 : Int), (0 : Int), (0 : Int), (0 : Int)) : Joint }
  else some default)
  fun (r1761 : Bool) =>
  Let (!r1761) fun (x1762 : Bool) =>
  Let (bif x1760 then true else x1762) fun (x1763 : Bool) =>
  if x1763 = true then
  some
  ({ Settings := { TimeStep := (0 : Int), Gravity := { X := (0 : Int), Y := (0 : Int) : Vec }, Iterations := (0 : Int), SleepSteps := (0 : Int) : Settings }, Bodies := [], Joints := [], Contacts := [], Overlaps := [], NextID := (0 : Int), Frame := (0 : Int) : World_ },
  (0 : Int), (15 : Int))
  else
  Rx.Bind (caromref25_Clone w0) fun (r1764 : World_) =>
  Chk
  ((r1764.Joints.length +
  [{ ID := w0.NextID, Kind := j1.Kind, BodyA := j1.BodyA, BodyB := j1.BodyB, AnchorA := j1.AnchorA, AnchorB := j1.AnchorB, Axis := j1.Axis, ReferenceAngle := j1.ReferenceAngle, EnableLimit := j1.EnableLimit, Lower := j1.Lower, Upper := j1.Upper, EnableMotor := j1.EnableMotor, MotorSpeed := j1.MotorSpeed, MaxForce := j1.MaxForce, Softness := j1.Softness, BreakForce := j1.BreakForce, CollideConnected := j1.CollideConnected, Impulses := ((0 : Int), (0 : Int), (0 : Int), (0 : Int)) : Joint }].length) *
  (192 : Nat) ≤
  (140737488355328 : Nat))
  (Let
  (r1764.Joints ++
  [{ ID := w0.NextID, Kind := j1.Kind, BodyA := j1.BodyA, BodyB := j1.BodyB, AnchorA := j1.AnchorA, AnchorB := j1.AnchorB, Axis := j1.Axis, ReferenceAngle := j1.ReferenceAngle, EnableLimit := j1.EnableLimit, Lower := j1.Lower, Upper := j1.Upper, EnableMotor := j1.EnableMotor, MotorSpeed := j1.MotorSpeed, MaxForce := j1.MaxForce, Softness := j1.Softness, BreakForce := j1.BreakForce, CollideConnected := j1.CollideConnected, Impulses := ((0 : Int), (0 : Int), (0 : Int), (0 : Int)) : Joint }])
  fun (x1765 : List Joint) =>
  Let (IntKind.i64.wrap (w0.NextID + (1 : Int))) fun (x1766 : Int) =>
  Rx.Bind
  (caromref25_WakeBody
  { Settings := r1764.Settings, Bodies := r1764.Bodies, Joints := x1765, Contacts := r1764.Contacts, Overlaps := r1764.Overlaps, NextID := x1766, Frame := r1764.Frame : World_ }
  j1.BodyA)
  fun (r1767 : World_) =>
  Rx.Bind (caromref25_WakeBody r1767 j1.BodyB) fun (r1768 : World_) => some (r1768, w0.NextID, (0 : Int)))

noncomputable def world_RemoveJoint (w0 : World_) (id1 : Int) : Option (World_ × Int) :=
  Rx.Bind (world_FindJoint w0 id1) fun (r1769 : Int) =>
  Let (decide (r1769 < (0 : Int))) fun (x1770 : Bool) =>
  if x1770 = true then
  some
  ({ Settings := { TimeStep := (0 : Int), Gravity := { X := (0 : Int), Y := (0 : Int) : Vec }, Iterations := (0 : Int), SleepSteps := (0 : Int) : Settings }, Bodies := [], Joints := [], Contacts := [], Overlaps := [], NextID := (0 : Int), Frame := (0 : Int) : World_ },
  (8 : Int))
  else
  Rx.Bind (world_Clone w0) fun (r1771 : World_) =>
  Chk ((0 : Int) ≤ r1769 ∧ r1769 < (↑r1771.Joints.length : Int))
  (Chk ((0 : Int) ≤ r1769 ∧ r1769 < (↑r1771.Joints.length : Int))
  (Let (ix r1771.Joints r1769) fun (x1772 : Joint) =>
  Let (IntKind.i64.wrap (r1769 + (1 : Int))) fun (x1773 : Int) =>
  Let (↑r1771.Joints.length : Int) fun (x1774 : Int) =>
  Chk ((0 : Int) ≤ r1769 ∧ r1769 ≤ x1773 ∧ x1773 ≤ x1774 ∧ x1774 ≤ (↑r1771.Joints.length : Int))
  (Let (r1769 == x1773) fun (x1775 : Bool) =>
  if x1775 = true then
  Rx.Bind (world_wakeAll r1771 [x1772.BodyA, x1772.BodyB]) fun (r1776 : World_) => some (r1776, (0 : Int))
  else
  Let (↑r1771.Joints.length : Int) fun (x1777 : Int) =>
  Chk
  ((0 : Int) ≤ none.getD (0 : Int) ∧
  (0 : Int) ≤ (some r1769).getD (0 : Int) ∧ (0 : Nat) ≤ r1769.toNat ∧ r1769.toNat ≤ r1771.Joints.length)
  (Chk
  ((0 : Int) ≤ (some x1773).getD (0 : Int) ∧
  (0 : Int) ≤ none.getD (0 : Int) ∧ x1773.toNat ≤ r1771.Joints.length ∧ r1771.Joints.length ≤ r1771.Joints.length)
  (Chk (x1773.toNat + (r1771.Joints.length - x1773.toNat) ≤ r1771.Joints.length)
  (Let (List.take (r1771.Joints.length - x1773.toNat) (List.drop x1773.toNat r1771.Joints)) fun (x1778 : List Joint) =>
  Chk
  ((0 : Nat) + (r1769.toNat - (0 : Nat) + x1778.length) ≤ r1771.Joints.length ∧
  r1769.toNat - (0 : Nat) + x1778.length ≤ r1771.Joints.length - (0 : Nat) ∧ (0 : Nat) < r1771.Joints.length - (0 : Nat))
  (Let
  (List.take ((0 : Nat) + (r1769.toNat - (0 : Nat))) r1771.Joints ++ x1778 ++
  List.drop ((0 : Nat) + (r1769.toNat - (0 : Nat)) + x1778.length) r1771.Joints)
  fun (x1779 : List Joint) =>
  Chk
  ((0 : Int) ≤ (some (↑(r1769.toNat - (0 : Nat) + x1778.length) : Int)).getD (0 : Int) ∧
  (0 : Int) ≤ (some x1777).getD (0 : Int) ∧
  (↑(r1769.toNat - (0 : Nat) + x1778.length) : Int).toNat ≤ x1777.toNat ∧
  x1777.toNat ≤ r1771.Joints.length - (0 : Nat) ∧
  r1769.toNat - (0 : Nat) + x1778.length ≤ r1771.Joints.length - (0 : Nat))
  (Chk
  ((0 : Nat) + (↑(r1769.toNat - (0 : Nat) + x1778.length) : Int).toNat +
  (x1777.toNat - (↑(r1769.toNat - (0 : Nat) + x1778.length) : Int).toNat) ≤
  x1779.length ∧
  (0 : Nat) < r1771.Joints.length - (0 : Nat) - (↑(r1769.toNat - (0 : Nat) + x1778.length) : Int).toNat)
  (Let
  (List.take ((0 : Nat) + (↑(r1769.toNat - (0 : Nat) + x1778.length) : Int).toNat) x1779 ++
  List.replicate (x1777.toNat - (↑(r1769.toNat - (0 : Nat) + x1778.length) : Int).toNat)
  { ID := (0 : Int), Kind := (0 : Int), BodyA := (0 : Int), BodyB := (0 : Int), AnchorA := { X := (0 : Int), Y := (0 : Int) : Vec }, AnchorB := { X := (0 : Int), Y := (0 : Int) : Vec }, Axis := { X := (0 : Int), Y := (0 : Int) : Vec }, ReferenceAngle := (0 : Int), EnableLimit := false, Lower := (0 : Int), Upper := (0 : Int), EnableMotor := false, MotorSpeed := (0 : Int), MaxForce := (0 : Int), Softness := (0 : Int), BreakForce := (0 : Int), CollideConnected := false, Impulses := ((0 : Int), (0 : Int), (0 : Int), (0 : Int)) : Joint } ++
  List.drop
  ((0 : Nat) + (↑(r1769.toNat - (0 : Nat) + x1778.length) : Int).toNat +
  (x1777.toNat - (↑(r1769.toNat - (0 : Nat) + x1778.length) : Int).toNat))
  x1779)
  fun (x1780 : List Joint) =>
  Chk (r1769.toNat - (0 : Nat) + x1778.length ≤ x1780.length)
  (Let (List.take (r1769.toNat - (0 : Nat) + x1778.length) x1780) fun (x1781 : List Joint) =>
  Rx.Bind
  (world_wakeAll
  { Settings := r1771.Settings, Bodies := r1771.Bodies, Joints := x1781, Contacts := r1771.Contacts, Overlaps := r1771.Overlaps, NextID := r1771.NextID, Frame := r1771.Frame : World_ }
  [x1772.BodyA, x1772.BodyB])
  fun (r1782 : World_) => some (r1782, (0 : Int))))))))))))

noncomputable def caromref25_RemoveJoint (w0 : World_) (id1 : Int) : Option (World_ × Int) :=
  Rx.Bind (caromref25_FindJoint w0 id1) fun (r1783 : Int) =>
  Let (decide (r1783 < (0 : Int))) fun (x1784 : Bool) =>
  if x1784 = true then
  some
  ({ Settings := { TimeStep := (0 : Int), Gravity := { X := (0 : Int), Y := (0 : Int) : Vec }, Iterations := (0 : Int), SleepSteps := (0 : Int) : Settings }, Bodies := [], Joints := [], Contacts := [], Overlaps := [], NextID := (0 : Int), Frame := (0 : Int) : World_ },
  (8 : Int))
  else
  Rx.Bind (caromref25_Clone w0) fun (r1785 : World_) =>
  Chk
  ((0 : Int) ≤ none.getD (0 : Int) ∧
  (0 : Int) ≤ (some r1783).getD (0 : Int) ∧ (0 : Nat) ≤ r1783.toNat ∧ r1783.toNat ≤ r1785.Joints.length)
  (Let (IntKind.i64.wrap (r1783 + (1 : Int))) fun (x1786 : Int) =>
  Chk
  ((0 : Int) ≤ (some x1786).getD (0 : Int) ∧
  (0 : Int) ≤ none.getD (0 : Int) ∧ x1786.toNat ≤ r1785.Joints.length ∧ r1785.Joints.length ≤ r1785.Joints.length)
  (Chk (x1786.toNat + (r1785.Joints.length - x1786.toNat) ≤ r1785.Joints.length)
  (Let (List.take (r1785.Joints.length - x1786.toNat) (List.drop x1786.toNat r1785.Joints)) fun (x1787 : List Joint) =>
  Chk
  ((0 : Nat) + (r1783.toNat - (0 : Nat) + x1787.length) ≤ r1785.Joints.length ∧
  r1783.toNat - (0 : Nat) + x1787.length ≤ r1785.Joints.length - (0 : Nat) ∧ (0 : Nat) < r1785.Joints.length - (0 : Nat))
  (Let
  (List.take ((0 : Nat) + (r1783.toNat - (0 : Nat))) r1785.Joints ++ x1787 ++
  List.drop ((0 : Nat) + (r1783.toNat - (0 : Nat)) + x1787.length) r1785.Joints)
  fun (x1788 : List Joint) =>
  Chk (r1783.toNat - (0 : Nat) + x1787.length ≤ x1788.length)
  (Let (List.take (r1783.toNat - (0 : Nat) + x1787.length) x1788) fun (x1789 : List Joint) =>
  Chk ((0 : Int) ≤ r1783 ∧ r1783 < (↑w0.Joints.length : Int))
  (Let (ix w0.Joints r1783) fun (x1790 : Joint) =>
  Rx.Bind
  (caromref25_WakeBody
  { Settings := r1785.Settings, Bodies := r1785.Bodies, Joints := x1789, Contacts := r1785.Contacts, Overlaps := r1785.Overlaps, NextID := r1785.NextID, Frame := r1785.Frame : World_ }
  x1790.BodyA)
  fun (r1791 : World_) =>
  Chk ((0 : Int) ≤ r1783 ∧ r1783 < (↑w0.Joints.length : Int))
  (Let (ix w0.Joints r1783) fun (x1792 : Joint) =>
  Rx.Bind (caromref25_WakeBody r1791 x1792.BodyB) fun (r1793 : World_) => some (r1793, (0 : Int)))))))))

noncomputable def caromlaw25_WorldJoints (w0 : World_) (j1 : Joint) (id2 : Int) : Option Bool :=
  Rx.Bind (caromref25_Few w0) fun (r1794 : Bool) =>
  Let (!r1794) fun (x1795 : Bool) =>
  Rx.Bind (if (x1795 == false) = true then caromlaw25_positiveIDs w0 else some default) fun (r1796 : Bool) =>
  Let (!r1796) fun (x1797 : Bool) =>
  Let (bif x1795 then true else x1797) fun (x1798 : Bool) =>
  if x1798 = true then Rx.Bind caromlaw25_example fun (r1799 : Bool) => some r1799
  else
  Rx.Bind (world_AddJoint w0 j1) fun (r1800 : World_ × Int × Int) =>
  Rx.Bind (caromref25_AddJoint w0 j1) fun (r1801 : World_ × Int × Int) =>
  Rx.Bind (caromref25_Equal r1800.fst r1801.fst) fun (r1802 : Bool) =>
  Let (!r1802) fun (x1803 : Bool) =>
  Let (r1800.snd.fst != r1801.snd.fst) fun (x1804 : Bool) =>
  Let (bif x1803 then true else x1804) fun (x1805 : Bool) =>
  Let (r1800.snd.snd != r1801.snd.snd) fun (x1806 : Bool) =>
  Let (bif x1805 then true else x1806) fun (x1807 : Bool) =>
  if x1807 = true then some false
  else
  Rx.Bind (world_RemoveJoint w0 id2) fun (r1808 : World_ × Int) =>
  Rx.Bind (caromref25_RemoveJoint w0 id2) fun (r1809 : World_ × Int) =>
  Rx.Bind (caromref25_Equal r1808.fst r1809.fst) fun (r1810 : Bool) =>
  Let (r1808.snd == r1809.snd) fun (x1811 : Bool) =>
  Let (bif r1810 then x1811 else false) fun (x1812 : Bool) =>
  Rx.Bind (if (x1812 == true) = true then caromlaw25_example else some default) fun (r1813 : Bool) =>
  Let (bif x1812 then r1813 else false) fun (x1814 : Bool) => some x1814

noncomputable def slices_Equal_116 (s10 : (List ContactPoint)) (s21 : (List ContactPoint)) : Option Bool :=
  Let (↑s10.length : Int) fun (x1815 : Int) =>
  Let (↑s21.length : Int) fun (x1816 : Int) =>
  Let (x1815 != x1816) fun (x1817 : Bool) =>
  if x1817 = true then some false
  else
  Let (↑s10.length : Int) fun (x1818 : Int) =>
  LOOP
  (fun (rec1819 : Int → Option Bool) (s1820 : Int) =>
  Let (decide (s1820 < x1818)) fun (x1821 : Bool) =>
  if x1821 = true then
  Chk ((0 : Int) ≤ s1820 ∧ s1820 < (↑s10.length : Int))
  (Let (ix s10 s1820) fun (x1822 : ContactPoint) =>
  Chk ((0 : Int) ≤ s1820 ∧ s1820 < (↑s21.length : Int))
  (Let (ix s21 s1820) fun (x1823 : ContactPoint) =>
  Let
  (!(decide (x1822.Point.X = x1823.Point.X) && decide (x1822.Point.Y = x1823.Point.Y) &&
  (decide (x1822.Separation = x1823.Separation) &&
  (decide (x1822.ID = x1823.ID) &&
  (decide (x1822.NormalImpulse = x1823.NormalImpulse) && decide (x1822.TangentImpulse = x1823.TangentImpulse))))))
  fun (x1824 : Bool) =>
  if x1824 = true then some false else Let (IntKind.i64.wrap (s1820 + (1 : Int))) fun (x1825 : Int) => rec1819 x1825))
  else some true)
  fuel (0 : Int)

noncomputable def manifold_Equal (a0 : Manifold) (b1 : Manifold) : Option Bool :=
  Let (decide (a0.Normal.X = b1.Normal.X) && decide (a0.Normal.Y = b1.Normal.Y)) fun (x1826 : Bool) =>
  Rx.Bind (if (x1826 == true) = true then slices_Equal_116 a0.Points b1.Points else some default) fun (r1827 : Bool) =>
  Let (bif x1826 then r1827 else false) fun (x1828 : Bool) => some x1828

noncomputable def world_Equal_1 (x0 : Contact) (y1 : Contact) : Option Bool :=
  Let
  (decide (x0.Key.BodyA = y1.Key.BodyA) &&
  (decide (x0.Key.FixtureA = y1.Key.FixtureA) &&
  (decide (x0.Key.BodyB = y1.Key.BodyB) && decide (x0.Key.FixtureB = y1.Key.FixtureB))))
  fun (x1829 : Bool) =>
  Rx.Bind (if (x1829 == true) = true then manifold_Equal x0.Manifold y1.Manifold else some default) fun (r1830 : Bool) =>
  Let (bif x1829 then r1830 else false) fun (x1831 : Bool) => some x1831

noncomputable def slices_EqualFunc (s10 : (List Body)) (s21 : (List Body)) (eq2 : ((Body × Body) → Option Bool)) : Option Bool :=
  Let (↑s10.length : Int) fun (x1832 : Int) =>
  Let (↑s21.length : Int) fun (x1833 : Int) =>
  Let (x1832 != x1833) fun (x1834 : Bool) =>
  if x1834 = true then some false
  else
  Let (↑s10.length : Int) fun (x1835 : Int) =>
  LOOP
  (fun (rec1836 : Int → Option Bool) (s1837 : Int) =>
  Let (decide (s1837 < x1835)) fun (x1838 : Bool) =>
  if x1838 = true then
  Chk ((0 : Int) ≤ s1837 ∧ s1837 < (↑s10.length : Int))
  (Let (ix s10 s1837) fun (x1839 : Body) =>
  Chk ((0 : Int) ≤ s1837 ∧ s1837 < (↑s21.length : Int))
  (Let (ix s21 s1837) fun (x1840 : Body) =>
  Rx.Bind (eq2 (x1839, x1840)) fun (r1841 : Bool) =>
  Let (!r1841) fun (x1842 : Bool) =>
  if x1842 = true then some false else Let (IntKind.i64.wrap (s1837 + (1 : Int))) fun (x1843 : Int) => rec1836 x1843))
  else some true)
  fuel (0 : Int)

noncomputable def slices_Equal_171 (s10 : (List Vec)) (s21 : (List Vec)) : Option Bool :=
  Let (↑s10.length : Int) fun (x1844 : Int) =>
  Let (↑s21.length : Int) fun (x1845 : Int) =>
  Let (x1844 != x1845) fun (x1846 : Bool) =>
  if x1846 = true then some false
  else
  Let (↑s10.length : Int) fun (x1847 : Int) =>
  LOOP
  (fun (rec1848 : Int → Option Bool) (s1849 : Int) =>
  Let (decide (s1849 < x1847)) fun (x1850 : Bool) =>
  if x1850 = true then
  Chk ((0 : Int) ≤ s1849 ∧ s1849 < (↑s10.length : Int))
  (Let (ix s10 s1849) fun (x1851 : Vec) =>
  Chk ((0 : Int) ≤ s1849 ∧ s1849 < (↑s21.length : Int))
  (Let (ix s21 s1849) fun (x1852 : Vec) =>
  Let (!(decide (x1851.X = x1852.X) && decide (x1851.Y = x1852.Y))) fun (x1853 : Bool) =>
  if x1853 = true then some false else Let (IntKind.i64.wrap (s1849 + (1 : Int))) fun (x1854 : Int) => rec1848 x1854))
  else some true)
  fuel (0 : Int)

noncomputable def shape_Equal (a0 : Shape) (b1 : Shape) : Option Bool :=
  Let (a0.Kind == b1.Kind) fun (x1855 : Bool) =>
  Let (a0.Radius == b1.Radius) fun (x1856 : Bool) =>
  Let (bif x1855 then x1856 else false) fun (x1857 : Bool) =>
  Rx.Bind (if (x1857 == true) = true then slices_Equal_171 a0.Vertices b1.Vertices else some default)
  fun (r1858 : Bool) => Let (bif x1857 then r1858 else false) fun (x1859 : Bool) => some x1859

noncomputable def body_equalFixtures (a0 : Fixture) (b1 : Fixture) : Option Bool :=
  Let (a0.Density == b1.Density) fun (x1860 : Bool) =>
  Let (a0.Friction == b1.Friction) fun (x1861 : Bool) =>
  Let (bif x1860 then x1861 else false) fun (x1862 : Bool) =>
  Let (a0.Restitution == b1.Restitution) fun (x1863 : Bool) =>
  Let (bif x1862 then x1863 else false) fun (x1864 : Bool) =>
  Let (a0.Sensor == b1.Sensor) fun (x1865 : Bool) =>
  Let (a0.Category == b1.Category) fun (x1866 : Bool) =>
  Let (bif x1865 then x1866 else false) fun (x1867 : Bool) =>
  Let (a0.Mask == b1.Mask) fun (x1868 : Bool) =>
  Let (bif x1867 then x1868 else false) fun (x1869 : Bool) =>
  Let (a0.Group == b1.Group) fun (x1870 : Bool) =>
  Let (bif x1869 then x1870 else false) fun (x1871 : Bool) =>
  Rx.Bind (shape_Equal a0.Shape b1.Shape) fun (r1872 : Bool) =>
  Let (bif r1872 then x1864 else false) fun (x1873 : Bool) =>
  Let (bif x1873 then x1871 else false) fun (x1874 : Bool) => some x1874

noncomputable def body_Equal (a0 : Body) (b1 : Body) : Option Bool :=
  Let (↑a0.Fixtures.length : Int) fun (x1875 : Int) =>
  Let (↑b1.Fixtures.length : Int) fun (x1876 : Int) =>
  Let (x1875 != x1876) fun (x1877 : Bool) =>
  if x1877 = true then some false
  else
  Let (↑a0.Fixtures.length : Int) fun (x1878 : Int) =>
  LOOP
  (fun (rec1879 : Int → Option Bool) (s1880 : Int) =>
  Let (decide (s1880 < x1878)) fun (x1881 : Bool) =>
  if x1881 = true then
  Chk ((0 : Int) ≤ s1880 ∧ s1880 < (↑a0.Fixtures.length : Int))
  (Let (ix a0.Fixtures s1880) fun (x1882 : Fixture) =>
  Chk ((0 : Int) ≤ s1880 ∧ s1880 < (↑b1.Fixtures.length : Int))
  (Let (ix b1.Fixtures s1880) fun (x1883 : Fixture) =>
  Rx.Bind (body_equalFixtures x1882 x1883) fun (r1884 : Bool) =>
  Let (!r1884) fun (x1885 : Bool) =>
  if x1885 = true then some false else Let (IntKind.i64.wrap (s1880 + (1 : Int))) fun (x1886 : Int) => rec1879 x1886))
  else
  Let (a0.ID == b1.ID) fun (x1887 : Bool) =>
  Let (a0.Kind == b1.Kind) fun (x1888 : Bool) =>
  Let (bif x1887 then x1888 else false) fun (x1889 : Bool) =>
  Let
  (decide (a0.Transform.Position.X = b1.Transform.Position.X) &&
  decide (a0.Transform.Position.Y = b1.Transform.Position.Y) &&
  decide (a0.Transform.Angle = b1.Transform.Angle))
  fun (x1890 : Bool) =>
  Let (bif x1889 then x1890 else false) fun (x1891 : Bool) =>
  Let (decide (a0.Velocity.X = b1.Velocity.X) && decide (a0.Velocity.Y = b1.Velocity.Y)) fun (x1892 : Bool) =>
  Let (a0.AngularVelocity == b1.AngularVelocity) fun (x1893 : Bool) =>
  Let (bif x1892 then x1893 else false) fun (x1894 : Bool) =>
  Let (decide (a0.Force.X = b1.Force.X) && decide (a0.Force.Y = b1.Force.Y)) fun (x1895 : Bool) =>
  Let (a0.Torque == b1.Torque) fun (x1896 : Bool) =>
  Let (bif x1895 then x1896 else false) fun (x1897 : Bool) =>
  Let (a0.LinearDamping == b1.LinearDamping) fun (x1898 : Bool) =>
  Let (a0.AngularDamping == b1.AngularDamping) fun (x1899 : Bool) =>
  Let (bif x1898 then x1899 else false) fun (x1900 : Bool) =>
  Let (a0.GravityScale == b1.GravityScale) fun (x1901 : Bool) =>
  Let (bif x1900 then x1901 else false) fun (x1902 : Bool) =>
  Let (a0.Bullet == b1.Bullet) fun (x1903 : Bool) =>
  Let (a0.FixedRotation == b1.FixedRotation) fun (x1904 : Bool) =>
  Let (bif x1903 then x1904 else false) fun (x1905 : Bool) =>
  Let (a0.NoSleep == b1.NoSleep) fun (x1906 : Bool) =>
  Let (bif x1905 then x1906 else false) fun (x1907 : Bool) =>
  Let (a0.Asleep == b1.Asleep) fun (x1908 : Bool) =>
  Let (a0.IdleSteps == b1.IdleSteps) fun (x1909 : Bool) =>
  Let (bif x1908 then x1909 else false) fun (x1910 : Bool) =>
  Let (bif x1891 then x1894 else false) fun (x1911 : Bool) =>
  Let (bif x1911 then x1897 else false) fun (x1912 : Bool) =>
  Let (bif x1912 then x1902 else false) fun (x1913 : Bool) =>
  Let (bif x1913 then x1907 else false) fun (x1914 : Bool) =>
  Let (bif x1914 then x1910 else false) fun (x1915 : Bool) => some x1915)
  fuel (0 : Int)

noncomputable def slices_Equal (s10 : (List Joint)) (s21 : (List Joint)) : Option Bool :=
  Let (↑s10.length : Int) fun (x1916 : Int) =>
  Let (↑s21.length : Int) fun (x1917 : Int) =>
  Let (x1916 != x1917) fun (x1918 : Bool) =>
  if x1918 = true then some false
  else
  Let (↑s10.length : Int) fun (x1919 : Int) =>
  LOOP
  (fun (rec1920 : Int → Option Bool) (s1921 : Int) =>
  Let (decide (s1921 < x1919)) fun (x1922 : Bool) =>
  if x1922 = true then
  Chk ((0 : Int) ≤ s1921 ∧ s1921 < (↑s10.length : Int))
  (Let (ix s10 s1921) fun (x1923 : Joint) =>
  Chk ((0 : Int) ≤ s1921 ∧ s1921 < (↑s21.length : Int))
  (Let (ix s21 s1921) fun (x1924 : Joint) =>
  Let
  (!(decide (x1923.ID = x1924.ID) &&
  (decide (x1923.Kind = x1924.Kind) &&
  (decide (x1923.BodyA = x1924.BodyA) &&
  (decide (x1923.BodyB = x1924.BodyB) &&
  (decide (x1923.AnchorA.X = x1924.AnchorA.X) && decide (x1923.AnchorA.Y = x1924.AnchorA.Y) &&
  (decide (x1923.AnchorB.X = x1924.AnchorB.X) && decide (x1923.AnchorB.Y = x1924.AnchorB.Y) &&
  (decide (x1923.Axis.X = x1924.Axis.X) && decide (x1923.Axis.Y = x1924.Axis.Y) &&
  (decide (x1923.ReferenceAngle = x1924.ReferenceAngle) &&
  (decide (x1923.EnableLimit = x1924.EnableLimit) &&
  (decide (x1923.Lower = x1924.Lower) &&
  (decide (x1923.Upper = x1924.Upper) &&
  (decide (x1923.EnableMotor = x1924.EnableMotor) &&
  (decide (x1923.MotorSpeed = x1924.MotorSpeed) &&
  (decide (x1923.MaxForce = x1924.MaxForce) &&
  (decide (x1923.Softness = x1924.Softness) &&
  (decide (x1923.BreakForce = x1924.BreakForce) &&
  (decide (x1923.CollideConnected = x1924.CollideConnected) &&
  (decide (x1923.Impulses.fst = x1924.Impulses.fst) &&
  (decide (x1923.Impulses.snd.fst = x1924.Impulses.snd.fst) &&
  (decide (x1923.Impulses.snd.snd.fst = x1924.Impulses.snd.snd.fst) &&
  decide (x1923.Impulses.snd.snd.snd = x1924.Impulses.snd.snd.snd))))))))))))))))))))))
  fun (x1925 : Bool) =>
  if x1925 = true then some false else Let (IntKind.i64.wrap (s1921 + (1 : Int))) fun (x1926 : Int) => rec1920 x1926))
  else some true)
  fuel (0 : Int)

noncomputable def slices_EqualFunc_87 (s10 : (List Contact)) (s21 : (List Contact)) (eq2 : ((Contact × Contact) → Option Bool)) : Option Bool :=
  Let (↑s10.length : Int) fun (x1927 : Int) =>
  Let (↑s21.length : Int) fun (x1928 : Int) =>
  Let (x1927 != x1928) fun (x1929 : Bool) =>
  if x1929 = true then some false
  else
  Let (↑s10.length : Int) fun (x1930 : Int) =>
  LOOP
  (fun (rec1931 : Int → Option Bool) (s1932 : Int) =>
  Let (decide (s1932 < x1930)) fun (x1933 : Bool) =>
  if x1933 = true then
  Chk ((0 : Int) ≤ s1932 ∧ s1932 < (↑s10.length : Int))
  (Let (ix s10 s1932) fun (x1934 : Contact) =>
  Chk ((0 : Int) ≤ s1932 ∧ s1932 < (↑s21.length : Int))
  (Let (ix s21 s1932) fun (x1935 : Contact) =>
  Rx.Bind (eq2 (x1934, x1935)) fun (r1936 : Bool) =>
  Let (!r1936) fun (x1937 : Bool) =>
  if x1937 = true then some false else Let (IntKind.i64.wrap (s1932 + (1 : Int))) fun (x1938 : Int) => rec1931 x1938))
  else some true)
  fuel (0 : Int)

noncomputable def slices_Equal_88 (s10 : (List PairKey)) (s21 : (List PairKey)) : Option Bool :=
  Let (↑s10.length : Int) fun (x1939 : Int) =>
  Let (↑s21.length : Int) fun (x1940 : Int) =>
  Let (x1939 != x1940) fun (x1941 : Bool) =>
  if x1941 = true then some false
  else
  Let (↑s10.length : Int) fun (x1942 : Int) =>
  LOOP
  (fun (rec1943 : Int → Option Bool) (s1944 : Int) =>
  Let (decide (s1944 < x1942)) fun (x1945 : Bool) =>
  if x1945 = true then
  Chk ((0 : Int) ≤ s1944 ∧ s1944 < (↑s10.length : Int))
  (Let (ix s10 s1944) fun (x1946 : PairKey) =>
  Chk ((0 : Int) ≤ s1944 ∧ s1944 < (↑s21.length : Int))
  (Let (ix s21 s1944) fun (x1947 : PairKey) =>
  Let
  (!(decide (x1946.BodyA = x1947.BodyA) &&
  (decide (x1946.FixtureA = x1947.FixtureA) &&
  (decide (x1946.BodyB = x1947.BodyB) && decide (x1946.FixtureB = x1947.FixtureB)))))
  fun (x1948 : Bool) =>
  if x1948 = true then some false else Let (IntKind.i64.wrap (s1944 + (1 : Int))) fun (x1949 : Int) => rec1943 x1949))
  else some true)
  fuel (0 : Int)

noncomputable def world_Equal (a0 : World_) (b1 : World_) : Option Bool :=
  Let
  (decide (a0.Settings.TimeStep = b1.Settings.TimeStep) &&
  (decide (a0.Settings.Gravity.X = b1.Settings.Gravity.X) && decide (a0.Settings.Gravity.Y = b1.Settings.Gravity.Y) &&
  (decide (a0.Settings.Iterations = b1.Settings.Iterations) && decide (a0.Settings.SleepSteps = b1.Settings.SleepSteps))))
  fun (x1950 : Bool) =>
  Let (a0.NextID == b1.NextID) fun (x1951 : Bool) =>
  Let (bif x1950 then x1951 else false) fun (x1952 : Bool) =>
  Let (a0.Frame == b1.Frame) fun (x1953 : Bool) =>
  Let (bif x1952 then x1953 else false) fun (x1954 : Bool) =>
  Rx.Bind
  (if (x1954 == true) = true then
  slices_EqualFunc a0.Bodies b1.Bodies fun (a : Tup tb [Ix.tBody, Ix.tBody]) => body_Equal a.fst a.snd
  else some default)
  fun (r1955 : Bool) =>
  Let (bif x1954 then r1955 else false) fun (x1956 : Bool) =>
  Rx.Bind (if (x1956 == true) = true then slices_Equal a0.Joints b1.Joints else some default) fun (r1957 : Bool) =>
  Let (bif x1956 then r1957 else false) fun (x1958 : Bool) =>
  Rx.Bind
  (if (x1958 == true) = true then
  slices_EqualFunc_87 a0.Contacts b1.Contacts fun (a : Tup tb [Ix.tContact, Ix.tContact]) => world_Equal_1 a.fst a.snd
  else some default)
  fun (r1959 : Bool) =>
  Let (bif x1958 then r1959 else false) fun (x1960 : Bool) =>
  Rx.Bind (if (x1960 == true) = true then slices_Equal_88 a0.Overlaps b1.Overlaps else some default) fun (r1961 : Bool) =>
  Let (bif x1960 then r1961 else false) fun (x1962 : Bool) => some x1962

noncomputable def caromlaw25_modify (w0 : World_) : Option Unit :=
  none

noncomputable def caromlaw25_WorldCloneEqual (a0 : World_) (b1 : World_) (id2 : Int) : Option Bool :=
  Rx.Bind (caromref25_Few a0) fun (r1963 : Bool) =>
  Let (!r1963) fun (x1964 : Bool) =>
  Rx.Bind (if (x1964 == false) = true then caromref25_Few b1 else some default) fun (r1965 : Bool) =>
  Let (!r1965) fun (x1966 : Bool) =>
  Let (bif x1964 then true else x1966) fun (x1967 : Bool) =>
  if x1967 = true then Rx.Bind caromlaw25_example fun (r1968 : Bool) => some r1968
  else
  Rx.Bind (caromref25_Clone a0) fun (r1969 : World_) =>
  Rx.Bind (world_Clone a0) fun (r1970 : World_) =>
  Rx.Bind (world_Equal a0 b1) fun (r1971 : Bool) =>
  Rx.Bind (caromref25_Equal a0 b1) fun (r1972 : Bool) =>
  Let (r1971 != r1972) fun (x1973 : Bool) =>
  Rx.Bind (if (x1973 == false) = true then caromref25_Equal r1970 a0 else some default) fun (r1974 : Bool) =>
  Let (!r1974) fun (x1975 : Bool) =>
  Let (bif x1973 then true else x1975) fun (x1976 : Bool) =>
  Rx.Bind (if (x1976 == false) = true then world_Equal a0 r1970 else some default) fun (r1977 : Bool) =>
  Let (!r1977) fun (x1978 : Bool) =>
  Let (bif x1976 then true else x1978) fun (x1979 : Bool) =>
  if x1979 = true then some false
  else
  Rx.Bind (world_RemoveBody a0 id2) fun (r1980 : World_ × Int) =>
  Rx.Bind (world_WakeBody a0 id2) fun (r1981 : World_) =>
  Rx.Bind (caromlaw25_modify r1970) fun (r1982 : PUnit) =>
  Rx.Bind (caromlaw25_modify r1980.fst) fun (r1983 : PUnit) =>
  Rx.Bind (caromlaw25_modify r1981) fun (r1984 : PUnit) =>
  Rx.Bind (caromref25_Equal a0 r1969) fun (r1985 : Bool) =>
  Rx.Bind (if (r1985 == true) = true then caromlaw25_example else some default) fun (r1986 : Bool) =>
  Let (bif r1985 then r1986 else false) fun (x1987 : Bool) => some x1987

noncomputable def caromlaw25_WorldStaysValid (w0 : World_) (b1 : Body) (j2 : Joint) (id3 : Int) : Option Bool :=
  Rx.Bind (caromref25_Few w0) fun (r1988 : Bool) =>
  Let (!r1988) fun (x1989 : Bool) =>
  Rx.Bind (if (x1989 == false) = true then caromref22_Few [b1] (1 : Int) else some default) fun (r1990 : Bool) =>
  Let (!r1990) fun (x1991 : Bool) =>
  Let (bif x1989 then true else x1991) fun (x1992 : Bool) =>
  Rx.Bind (if (x1992 == false) = true then world_Validate w0 else some default) fun (r1993 : Int) =>
  Let (r1993 != (0 : Int)) fun (x1994 : Bool) =>
  Let (bif x1992 then true else x1994) fun (x1995 : Bool) =>
  if x1995 = true then Rx.Bind caromlaw25_example fun (r1996 : Bool) => some r1996
  else
  Rx.Bind (world_AddBody w0 b1) fun (r1997 : World_ × Int × Int) =>
  Join
  (fun (v1998 : PUnit) =>
  Rx.Bind (world_AddJoint w0 j2) fun (r1999 : World_ × Int × Int) =>
  Join
  (fun (v2000 : PUnit) =>
  Rx.Bind (world_RemoveBody w0 id3) fun (r2001 : World_ × Int) =>
  Let (r2001.snd == (0 : Int)) fun (x2002 : Bool) =>
  Rx.Bind (if (x2002 == true) = true then world_Validate r2001.fst else some default) fun (r2003 : Int) =>
  Let (r2003 != (0 : Int)) fun (x2004 : Bool) =>
  Rx.Bind (if (x2002 == true && x2004 == false) = true then world_FindBody r2001.fst id3 else some default)
  fun (r2005 : Int) =>
  Let (r2005 != (-1 : Int)) fun (x2006 : Bool) =>
  Let (bif x2004 then true else x2006) fun (x2007 : Bool) =>
  Let (↑r2001.fst.Bodies.length : Int) fun (x2008 : Int) =>
  Let (↑w0.Bodies.length : Int) fun (x2009 : Int) =>
  Let (IntKind.i64.wrap (x2009 - (1 : Int))) fun (x2010 : Int) =>
  Let (x2008 != x2010) fun (x2011 : Bool) =>
  Let (bif x2007 then true else x2011) fun (x2012 : Bool) =>
  Let (bif x2002 then x2012 else false) fun (x2013 : Bool) =>
  if x2013 = true then some false
  else
  Let (r2001.snd == (0 : Int)) fun (x2014 : Bool) =>
  Rx.Bind (world_FindBody w0 id3) fun (r2015 : Int) =>
  Let (decide (r2015 ≥ (0 : Int))) fun (x2016 : Bool) =>
  Let (x2014 == x2016) fun (x2017 : Bool) =>
  Rx.Bind (if (x2017 == true) = true then caromlaw25_example else some default) fun (r2018 : Bool) =>
  Let (bif x2017 then r2018 else false) fun (x2019 : Bool) => some x2019)
  fun (j2020 : PUnit → Option Bool) =>
  Let (r1999.snd.snd == (0 : Int)) fun (x2021 : Bool) =>
  if x2021 = true then
  Rx.Bind (world_RemoveJoint r1999.fst r1999.snd.fst) fun (r2022 : World_ × Int) =>
  Rx.Bind (world_Validate r1999.fst) fun (r2023 : Int) =>
  Let (r2023 != (0 : Int)) fun (x2024 : Bool) =>
  Let (r1999.snd.fst != w0.NextID) fun (x2025 : Bool) =>
  Let (bif x2024 then true else x2025) fun (x2026 : Bool) =>
  Rx.Bind (if (x2026 == false) = true then world_FindJoint r1999.fst r1999.snd.fst else some default) fun (r2027 : Int) =>
  Let (↑w0.Joints.length : Int) fun (x2028 : Int) =>
  Let (r2027 != x2028) fun (x2029 : Bool) =>
  Let (bif x2026 then true else x2029) fun (x2030 : Bool) =>
  Let (r2022.snd != (0 : Int)) fun (x2031 : Bool) =>
  Let (bif x2030 then true else x2031) fun (x2032 : Bool) =>
  Rx.Bind (if (x2032 == false) = true then world_Validate r2022.fst else some default) fun (r2033 : Int) =>
  Let (r2033 != (0 : Int)) fun (x2034 : Bool) =>
  Let (bif x2032 then true else x2034) fun (x2035 : Bool) =>
  Let (↑r2022.fst.Joints.length : Int) fun (x2036 : Int) =>
  Let (↑w0.Joints.length : Int) fun (x2037 : Int) =>
  Let (x2036 != x2037) fun (x2038 : Bool) =>
  Let (bif x2035 then true else x2038) fun (x2039 : Bool) => if x2039 = true then some false else j2020 ()
  else j2020 ())
  fun (j2040 : PUnit → Option Bool) =>
  Let (r1997.snd.snd == (0 : Int)) fun (x2041 : Bool) =>
  if x2041 = true then
  Rx.Bind (world_RemoveBody r1997.fst r1997.snd.fst) fun (r2042 : World_ × Int) =>
  Rx.Bind (world_Validate r1997.fst) fun (r2043 : Int) =>
  Let (r2043 != (0 : Int)) fun (x2044 : Bool) =>
  Let (r1997.snd.fst != w0.NextID) fun (x2045 : Bool) =>
  Let (bif x2044 then true else x2045) fun (x2046 : Bool) =>
  Let (IntKind.i64.wrap (r1997.snd.fst + (1 : Int))) fun (x2047 : Int) =>
  Let (r1997.fst.NextID != x2047) fun (x2048 : Bool) =>
  Let (bif x2046 then true else x2048) fun (x2049 : Bool) =>
  Rx.Bind (if (x2049 == false) = true then world_FindBody w0 r1997.snd.fst else some default) fun (r2050 : Int) =>
  Let (r2050 != (-1 : Int)) fun (x2051 : Bool) =>
  Let (bif x2049 then true else x2051) fun (x2052 : Bool) =>
  Rx.Bind (if (x2052 == false) = true then world_FindBody r1997.fst r1997.snd.fst else some default) fun (r2053 : Int) =>
  Let (↑w0.Bodies.length : Int) fun (x2054 : Int) =>
  Let (r2053 != x2054) fun (x2055 : Bool) =>
  Let (bif x2052 then true else x2055) fun (x2056 : Bool) =>
  Let (r2042.snd != (0 : Int)) fun (x2057 : Bool) =>
  Let (bif x2056 then true else x2057) fun (x2058 : Bool) =>
  Let (IntKind.i64.wrap (r1997.snd.fst + (1 : Int))) fun (x2059 : Int) =>
  Let (r2042.fst.NextID != x2059) fun (x2060 : Bool) =>
  Let (bif x2058 then true else x2060) fun (x2061 : Bool) =>
  Rx.Bind
  (if (x2061 == false) = true then
  world_Equal
  { Settings := r2042.fst.Settings, Bodies := r2042.fst.Bodies, Joints := r2042.fst.Joints, Contacts := r2042.fst.Contacts, Overlaps := r2042.fst.Overlaps, NextID := w0.NextID, Frame := r2042.fst.Frame : World_ }
  w0
  else some default)
  fun (r2062 : Bool) =>
  Let (!r2062) fun (x2063 : Bool) =>
  Let (bif x2061 then true else x2063) fun (x2064 : Bool) => if x2064 = true then some false else j2040 ()
  else j2040 ()

end GoForm
