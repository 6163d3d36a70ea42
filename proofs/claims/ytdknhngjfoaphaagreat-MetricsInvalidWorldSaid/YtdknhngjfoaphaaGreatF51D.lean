/- The functions' plain forms. Printed by go3.py. No conditions. -/
import Derived.Test.YtdknhngjfoaphaaGreatF51T
set_option linter.all false
set_option maxRecDepth 100000
open Go Go.Rx Go.Proofs Go.RowKit
namespace GoForm

noncomputable def caromref27_FewPoints (l0 : (List Contact)) : Option Bool :=
  LOOP
  (fun (rec1 : Int → Option Bool) (s2 : Int) =>
  Let (↑l0.length : Int) fun (x3 : Int) =>
  Let (decide (s2 < x3)) fun (x4 : Bool) =>
  if x4 = true then
  Chk ((0 : Int) ≤ s2 ∧ s2 < (↑l0.length : Int))
  (Let (ix l0 s2) fun (x5 : Contact) =>
  Let (↑x5.Manifold.Points.length : Int) fun (x6 : Int) =>
  Let (decide (x6 > (6 : Int))) fun (x7 : Bool) =>
  if x7 = true then some false else Let (IntKind.i64.wrap (s2 + (1 : Int))) fun (x8 : Int) => rec1 x8)
  else Let (↑l0.length : Int) fun (x9 : Int) => Let (decide (x9 ≤ (40 : Int))) fun (x10 : Bool) => some x10)
  fuel (0 : Int)

noncomputable def caromref27_IsSmall (w0 : World_) : Option Bool :=
  Let (↑w0.Bodies.length : Int) fun (x11 : Int) =>
  Let (decide (x11 > (8 : Int))) fun (x12 : Bool) =>
  Let (↑w0.Joints.length : Int) fun (x13 : Int) =>
  Let (decide (x13 > (8 : Int))) fun (x14 : Bool) =>
  Let (bif x12 then true else x14) fun (x15 : Bool) =>
  Let (↑w0.Contacts.length : Int) fun (x16 : Int) =>
  Let (decide (x16 > (20 : Int))) fun (x17 : Bool) =>
  Let (bif x15 then true else x17) fun (x18 : Bool) =>
  Let (↑w0.Overlaps.length : Int) fun (x19 : Int) =>
  Let (decide (x19 > (20 : Int))) fun (x20 : Bool) =>
  Let (bif x18 then true else x20) fun (x21 : Bool) =>
  Let (decide (w0.Settings.Iterations > (16 : Int))) fun (x22 : Bool) =>
  Let (bif x21 then true else x22) fun (x23 : Bool) =>
  if x23 = true then some false
  else
  LOOP
  (fun (rec24 : Int → Option Bool) (s25 : Int) =>
  Let (↑w0.Bodies.length : Int) fun (x26 : Int) =>
  Let (decide (s25 < x26)) fun (x27 : Bool) =>
  if x27 = true then
  Chk ((0 : Int) ≤ s25 ∧ s25 < (↑w0.Bodies.length : Int))
  (Let (ix w0.Bodies s25) fun (x28 : Body) =>
  Let (↑x28.Fixtures.length : Int) fun (x29 : Int) =>
  Let (decide (x29 > (4 : Int))) fun (x30 : Bool) =>
  if x30 = true then some false
  else
  LOOP
  (fun (rec31 : Int → Option Bool) (s32 : Int) =>
  Chk ((0 : Int) ≤ s25 ∧ s25 < (↑w0.Bodies.length : Int))
  (Let (ix w0.Bodies s25) fun (x33 : Body) =>
  Let (↑x33.Fixtures.length : Int) fun (x34 : Int) =>
  Let (decide (s32 < x34)) fun (x35 : Bool) =>
  if x35 = true then
  Chk ((0 : Int) ≤ s25 ∧ s25 < (↑w0.Bodies.length : Int))
  (Let (ix w0.Bodies s25) fun (x36 : Body) =>
  Chk ((0 : Int) ≤ s32 ∧ s32 < (↑x36.Fixtures.length : Int))
  (Let (ix x36.Fixtures s32) fun (x37 : Fixture) =>
  Let (↑x37.Shape.Vertices.length : Int) fun (x38 : Int) =>
  Let (decide (x38 > (10 : Int))) fun (x39 : Bool) =>
  if x39 = true then some false else Let (IntKind.i64.wrap (s32 + (1 : Int))) fun (x40 : Int) => rec31 x40))
  else Let (IntKind.i64.wrap (s25 + (1 : Int))) fun (x41 : Int) => rec24 x41))
  fuel (0 : Int))
  else Rx.Bind (caromref27_FewPoints w0.Contacts) fun (r42 : Bool) => some r42)
  fuel (0 : Int)

noncomputable def world_in (x0 : Int) (low1 : Int) (high2 : Int) : Option Bool :=
  Let (decide (x0 ≥ low1)) fun (x43 : Bool) =>
  Let (decide (x0 ≤ high2)) fun (x44 : Bool) => Let (bif x43 then x44 else false) fun (x45 : Bool) => some x45

noncomputable def world_ValidateSettings (s0 : Settings) : Option Int :=
  Rx.Bind (world_in s0.Gravity.X (-16777216 : Int) (16777216 : Int)) fun (r46 : Bool) =>
  Rx.Bind (if (r46 == true) = true then world_in s0.Gravity.Y (-16777216 : Int) (16777216 : Int) else some default)
  fun (r47 : Bool) =>
  Let (bif r46 then r47 else false) fun (x48 : Bool) =>
  Rx.Bind (world_in s0.TimeStep (64 : Int) (8192 : Int)) fun (r49 : Bool) =>
  Let (!r49) fun (x50 : Bool) =>
  Let (!x48) fun (x51 : Bool) =>
  Let (bif x50 then true else x51) fun (x52 : Bool) =>
  Rx.Bind (if (x52 == false) = true then world_in s0.Iterations (1 : Int) (32 : Int) else some default)
  fun (r53 : Bool) =>
  Let (!r53) fun (x54 : Bool) =>
  Let (bif x52 then true else x54) fun (x55 : Bool) =>
  Rx.Bind (if (x55 == false) = true then world_in s0.SleepSteps (0 : Int) (1048576 : Int) else some default)
  fun (r56 : Bool) =>
  Let (!r56) fun (x57 : Bool) =>
  Let (bif x55 then true else x57) fun (x58 : Bool) => if x58 = true then some (6 : Int) else some (0 : Int)

noncomputable def body_within (x0 : Int) (low1 : Int) (high2 : Int) : Option Bool :=
  Let (decide (low1 ≤ x0)) fun (x59 : Bool) =>
  Let (decide (x0 ≤ high2)) fun (x60 : Bool) => Let (bif x59 then x60 else false) fun (x61 : Bool) => some x61

noncomputable def body_bounded (v0 : Vec) (limit1 : Int) : Option Bool :=
  Let (IntKind.i64.wrap ((0 : Int) - limit1)) fun (x62 : Int) =>
  Rx.Bind (body_within v0.X x62 limit1) fun (r63 : Bool) =>
  Let (IntKind.i64.wrap ((0 : Int) - limit1)) fun (x64 : Int) =>
  Rx.Bind (if (r63 == true) = true then body_within v0.Y x64 limit1 else some default) fun (r65 : Bool) =>
  Let (bif r63 then r65 else false) fun (x66 : Bool) => some x66

noncomputable def transform_inWorld (x0 : Int) : Option Bool :=
  Let (decide (x0 ≥ (-268435456 : Int))) fun (x67 : Bool) =>
  Let (decide (x0 ≤ (268435456 : Int))) fun (x68 : Bool) => Let (bif x67 then x68 else false) fun (x69 : Bool) => some x69

noncomputable def transform_Valid (t0 : Transform) : Option Bool :=
  Rx.Bind (transform_inWorld t0.Position.X) fun (r70 : Bool) =>
  Rx.Bind (if (r70 == true) = true then transform_inWorld t0.Position.Y else some default) fun (r71 : Bool) =>
  Let (bif r70 then r71 else false) fun (x72 : Bool) =>
  Let (decide (t0.Angle ≥ (-205888 : Int))) fun (x73 : Bool) =>
  Let (bif x72 then x73 else false) fun (x74 : Bool) =>
  Let (decide (t0.Angle < (205888 : Int))) fun (x75 : Bool) =>
  Let (bif x74 then x75 else false) fun (x76 : Bool) => some x76

noncomputable def body_inRange (b0 : Body) : Option Bool :=
  Rx.Bind (body_bounded b0.Velocity (16777216 : Int)) fun (r77 : Bool) =>
  Rx.Bind (if (r77 == true) = true then body_within b0.AngularVelocity (-4194304 : Int) (4194304 : Int) else some default)
  fun (r78 : Bool) =>
  Let (bif r77 then r78 else false) fun (x79 : Bool) =>
  Rx.Bind (body_bounded b0.Force (536870911 : Int)) fun (r80 : Bool) =>
  Rx.Bind (if (r80 == true) = true then body_within b0.Torque (-536870911 : Int) (536870911 : Int) else some default)
  fun (r81 : Bool) =>
  Let (bif r80 then r81 else false) fun (x82 : Bool) =>
  Rx.Bind (body_within b0.LinearDamping (0 : Int) (65536 : Int)) fun (r83 : Bool) =>
  Rx.Bind (if (r83 == true) = true then body_within b0.AngularDamping (0 : Int) (65536 : Int) else some default)
  fun (r84 : Bool) =>
  Let (bif r83 then r84 else false) fun (x85 : Bool) =>
  Rx.Bind (body_within b0.GravityScale (-262144 : Int) (262144 : Int)) fun (r86 : Bool) =>
  Rx.Bind (body_within b0.ID (1 : Int) (1099511627776 : Int)) fun (r87 : Bool) =>
  Rx.Bind (if (r87 == true) = true then transform_Valid b0.Transform else some default) fun (r88 : Bool) =>
  Let (bif r87 then r88 else false) fun (x89 : Bool) =>
  Let (bif x89 then x79 else false) fun (x90 : Bool) =>
  Let (bif x90 then x82 else false) fun (x91 : Bool) =>
  Let (bif x91 then x85 else false) fun (x92 : Bool) =>
  Let (bif x92 then r86 else false) fun (x93 : Bool) =>
  Rx.Bind (if (x93 == true) = true then body_within b0.IdleSteps (0 : Int) (1048576 : Int) else some default)
  fun (r94 : Bool) => Let (bif x93 then r94 else false) fun (x95 : Bool) => some x95

noncomputable def shape_validCount (s0 : Shape) : Option Bool :=
  Let (↑s0.Vertices.length : Int) fun (x96 : Int) =>
  Let (s0.Kind == (1 : Int)) fun (x97 : Bool) =>
  if x97 = true then Let (x96 == (1 : Int)) fun (x98 : Bool) => some x98
  else
  Let (s0.Kind == (2 : Int)) fun (x99 : Bool) =>
  if x99 = true then Let (x96 == (2 : Int)) fun (x100 : Bool) => some x100
  else
  Let (decide (x96 ≥ (3 : Int))) fun (x101 : Bool) =>
  Let (decide (x96 ≤ (8 : Int))) fun (x102 : Bool) => Let (bif x101 then x102 else false) fun (x103 : Bool) => some x103

noncomputable def slices_IndexFunc_216 (s0 : (List Vec)) (f1 : (Vec → Option Bool)) : Option Int :=
  Let (↑s0.length : Int) fun (x104 : Int) =>
  LOOP
  (fun (rec105 : Int → Option Int) (s106 : Int) =>
  Let (decide (s106 < x104)) fun (x107 : Bool) =>
  if x107 = true then
  Chk ((0 : Int) ≤ s106 ∧ s106 < (↑s0.length : Int))
  (Let (ix s0 s106) fun (x108 : Vec) =>
  Rx.Bind (f1 x108) fun (r109 : Bool) =>
  if r109 = true then some s106 else Let (IntKind.i64.wrap (s106 + (1 : Int))) fun (x110 : Int) => rec105 x110)
  else some (-1 : Int))
  fuel (0 : Int)

noncomputable def slices_ContainsFunc_188 (s0 : (List Vec)) (f1 : (Vec → Option Bool)) : Option Bool :=
  Rx.Bind (slices_IndexFunc_216 s0 f1) fun (r111 : Int) => Let (decide (r111 ≥ (0 : Int))) fun (x112 : Bool) => some x112

noncomputable def shape_outOfRange (n0 : Int) : Option Bool :=
  Let (decide (n0 < (-1048576 : Int))) fun (x113 : Bool) =>
  Let (decide (n0 > (1048576 : Int))) fun (x114 : Bool) =>
  Let (bif x113 then true else x114) fun (x115 : Bool) => some x115

noncomputable def shape_Validate_1 (v0 : Vec) : Option Bool :=
  Rx.Bind (shape_outOfRange v0.X) fun (r116 : Bool) =>
  Rx.Bind (if (r116 == false) = true then shape_outOfRange v0.Y else some default) fun (r117 : Bool) =>
  Let (bif r116 then true else r117) fun (x118 : Bool) => some x118

noncomputable def fixed_Saturate (x0 : Int) : Option Int :=
  Let (max x0 (-536870911 : Int)) fun (x119 : Int) => Let (min x119 (536870911 : Int)) fun (x120 : Int) => some x120

noncomputable def fixed_Sub (a0 : Int) (b1 : Int) : Option Int :=
  Rx.Bind (fixed_Saturate a0) fun (r121 : Int) =>
  Rx.Bind (fixed_Saturate b1) fun (r122 : Int) =>
  Let (IntKind.i64.wrap (r121 - r122)) fun (x123 : Int) => Rx.Bind (fixed_Saturate x123) fun (r124 : Int) => some r124

noncomputable def vec2_Sub (a0 : Vec) (b1 : Vec) : Option Vec :=
  Rx.Bind (fixed_Sub a0.X b1.X) fun (r125 : Int) =>
  Rx.Bind (fixed_Sub a0.Y b1.Y) fun (r126 : Int) => some { X := r125, Y := r126 : Vec }

noncomputable def vec2_saturate (v0 : Vec) : Option Vec :=
  Rx.Bind (fixed_Saturate v0.X) fun (r127 : Int) =>
  Rx.Bind (fixed_Saturate v0.Y) fun (r128 : Int) => some { X := r127, Y := r128 : Vec }

noncomputable def vec2_DistanceSquared (a0 : Vec) (b1 : Vec) : Option Int :=
  Rx.Bind (vec2_saturate a0) fun (r129 : Vec) =>
  Rx.Bind (vec2_saturate b1) fun (r130 : Vec) =>
  Let (IntKind.i64.wrap (r130.X - r129.X)) fun (x131 : Int) =>
  Let (IntKind.i64.wrap (r130.Y - r129.Y)) fun (x132 : Int) =>
  Let (IntKind.i64.wrap (x131 * x131)) fun (x133 : Int) =>
  Let (IntKind.i64.wrap (x132 * x132)) fun (x134 : Int) =>
  Let (IntKind.i64.wrap (x133 + x134)) fun (x135 : Int) => some x135

noncomputable def fixed_Isqrt (n0 : Int) : Option Int :=
  Let (decide (n0 < (0 : Int))) fun (x136 : Bool) =>
  Let (decide (n0 > (4611686018427387904 : Int))) fun (x137 : Bool) =>
  Let (bif x136 then true else x137) fun (x138 : Bool) =>
  if x138 = true then some (0 : Int)
  else
  LOOP
  (fun (rec139 : Int × Int → Option Int) (s140 : Int × Int) =>
  Let (decide (s140.snd > (0 : Int))) fun (x141 : Bool) =>
  if x141 = true then
  Join (fun (v142 : Int) => Let (bShr IntKind.i64 s140.snd (1 : Int)) fun (x143 : Int) => rec139 (v142, x143))
  fun (j144 : Int → Option Int) =>
  Let (bOr IntKind.i64 s140.fst s140.snd) fun (x145 : Int) =>
  Let (IntKind.u64.wrap x145) fun (x146 : Int) =>
  Let (IntKind.u64.wrap x145) fun (x147 : Int) =>
  Let (IntKind.u64.wrap (x146 * x147)) fun (x148 : Int) =>
  Let (IntKind.u64.wrap n0) fun (x149 : Int) =>
  Let (decide (x148 ≤ x149)) fun (x150 : Bool) => if x150 = true then j144 x145 else j144 s140.fst
  else some s140.fst)
  fuel ((0 : Int), (2147483648 : Int))

noncomputable def vec2_Length (v0 : Vec) : Option Int :=
  Rx.Bind (vec2_DistanceSquared { X := (0 : Int), Y := (0 : Int) : Vec } v0) fun (r151 : Int) =>
  Rx.Bind (fixed_Isqrt r151) fun (r152 : Int) => some r152

noncomputable def polygon_inReach (v0 : Vec) : Option Bool :=
  Let (decide (v0.X ≥ (-1048576 : Int))) fun (x153 : Bool) =>
  Let (decide (v0.X ≤ (1048576 : Int))) fun (x154 : Bool) =>
  Let (bif x153 then x154 else false) fun (x155 : Bool) =>
  Let (decide (v0.Y ≥ (-1048576 : Int))) fun (x156 : Bool) =>
  Let (bif x155 then x156 else false) fun (x157 : Bool) =>
  Let (decide (v0.Y ≤ (1048576 : Int))) fun (x158 : Bool) =>
  Let (bif x157 then x158 else false) fun (x159 : Bool) => some x159

noncomputable def polygon_allInReach (points0 : (List Vec)) : Option Bool :=
  Let (↑points0.length : Int) fun (x160 : Int) =>
  LOOP
  (fun (rec161 : Int → Option Bool) (s162 : Int) =>
  Let (decide (s162 < x160)) fun (x163 : Bool) =>
  if x163 = true then
  Chk ((0 : Int) ≤ s162 ∧ s162 < (↑points0.length : Int))
  (Let (ix points0 s162) fun (x164 : Vec) =>
  Rx.Bind (polygon_inReach x164) fun (r165 : Bool) =>
  Let (!r165) fun (x166 : Bool) =>
  if x166 = true then some false else Let (IntKind.i64.wrap (s162 + (1 : Int))) fun (x167 : Int) => rec161 x167)
  else some true)
  fuel (0 : Int)

noncomputable def vec2_Orientation (a0 : Vec) (b1 : Vec) (c2 : Vec) : Option Int :=
  Rx.Bind (vec2_saturate a0) fun (r168 : Vec) =>
  Rx.Bind (vec2_saturate b1) fun (r169 : Vec) =>
  Rx.Bind (vec2_saturate c2) fun (r170 : Vec) =>
  Let (IntKind.i64.wrap (r169.X - r168.X)) fun (x171 : Int) =>
  Let (IntKind.i64.wrap (r170.Y - r168.Y)) fun (x172 : Int) =>
  Let (IntKind.i64.wrap (x171 * x172)) fun (x173 : Int) =>
  Let (IntKind.i64.wrap (r169.Y - r168.Y)) fun (x174 : Int) =>
  Let (IntKind.i64.wrap (r170.X - r168.X)) fun (x175 : Int) =>
  Let (IntKind.i64.wrap (x174 * x175)) fun (x176 : Int) =>
  Let (IntKind.i64.wrap (x173 - x176)) fun (x177 : Int) =>
  Let (max (-1 : Int) x177) fun (x178 : Int) => Let (min (1 : Int) x178) fun (x179 : Int) => some x179

noncomputable def polygon_IsConvex (vertices0 : (List Vec)) : Option Bool :=
  Let (↑vertices0.length : Int) fun (x180 : Int) =>
  Let (decide (x180 < (3 : Int))) fun (x181 : Bool) =>
  Let (decide (x180 > (8 : Int))) fun (x182 : Bool) =>
  Let (bif x181 then true else x182) fun (x183 : Bool) =>
  Rx.Bind (if (x183 == false) = true then polygon_allInReach vertices0 else some default) fun (r184 : Bool) =>
  Let (!r184) fun (x185 : Bool) =>
  Let (bif x183 then true else x185) fun (x186 : Bool) =>
  if x186 = true then some false
  else
  Let (↑vertices0.length : Int) fun (x187 : Int) =>
  LOOP
  (fun (rec188 : Int → Option Bool) (s189 : Int) =>
  Let (decide (s189 < x187)) fun (x190 : Bool) =>
  if x190 = true then
  Chk ((0 : Int) ≤ s189 ∧ s189 < (↑vertices0.length : Int))
  (Let (ix vertices0 s189) fun (x191 : Vec) =>
  Let (IntKind.i64.wrap (s189 + (1 : Int))) fun (x192 : Int) =>
  Chk (x180 ≠ (0 : Int))
  (Let (x192.tmod x180) fun (x193 : Int) =>
  Let (↑vertices0.length : Int) fun (x194 : Int) =>
  LOOP
  (fun (rec195 : Int → Option Bool) (s196 : Int) =>
  Let (decide (s196 < x194)) fun (x197 : Bool) =>
  if x197 = true then
  Chk ((0 : Int) ≤ s196 ∧ s196 < (↑vertices0.length : Int))
  (Let (ix vertices0 s196) fun (x198 : Vec) =>
  Let (s196 != s189) fun (x199 : Bool) =>
  Let (s196 != x193) fun (x200 : Bool) =>
  Let (bif x199 then x200 else false) fun (x201 : Bool) =>
  Chk ((x201 == true) = true → (0 : Int) ≤ x193 ∧ x193 < (↑vertices0.length : Int))
  (Let (ix vertices0 x193) fun (x202 : Vec) =>
  Rx.Bind (if (x201 == true) = true then vec2_Orientation x191 x202 x198 else some default) fun (r203 : Int) =>
  Let (r203 != (1 : Int)) fun (x204 : Bool) =>
  Let (bif x201 then x204 else false) fun (x205 : Bool) =>
  if x205 = true then some false else Let (IntKind.i64.wrap (s196 + (1 : Int))) fun (x206 : Int) => rec195 x206))
  else Let (IntKind.i64.wrap (s189 + (1 : Int))) fun (x207 : Int) => rec188 x207)
  fuel (0 : Int)))
  else some true)
  fuel (0 : Int)

noncomputable def polygon_ShortestEdge (vertices0 : (List Vec)) : Option Int :=
  Rx.Bind (polygon_IsConvex vertices0) fun (r208 : Bool) =>
  Let (!r208) fun (x209 : Bool) =>
  if x209 = true then some (0 : Int)
  else
  Let (↑vertices0.length : Int) fun (x210 : Int) =>
  LOOP
  (fun (rec211 : Int × Int → Option Int) (s212 : Int × Int) =>
  Let (decide (s212.snd < x210)) fun (x213 : Bool) =>
  if x213 = true then
  Chk ((0 : Int) ≤ s212.snd ∧ s212.snd < (↑vertices0.length : Int))
  (Let (ix vertices0 s212.snd) fun (x214 : Vec) =>
  Let (IntKind.i64.wrap (s212.snd + (1 : Int))) fun (x215 : Int) =>
  Let (↑vertices0.length : Int) fun (x216 : Int) =>
  Chk (x216 ≠ (0 : Int))
  (Let (x215.tmod x216) fun (x217 : Int) =>
  Chk ((0 : Int) ≤ x217 ∧ x217 < (↑vertices0.length : Int))
  (Let (ix vertices0 x217) fun (x218 : Vec) =>
  Rx.Bind (vec2_Sub x218 x214) fun (r219 : Vec) =>
  Rx.Bind (vec2_Length r219) fun (r220 : Int) =>
  Let (min s212.fst r220) fun (x221 : Int) =>
  Let (IntKind.i64.wrap (s212.snd + (1 : Int))) fun (x222 : Int) => rec211 (x221, x222))))
  else some s212.fst)
  fuel ((536870911 : Int), (0 : Int))

noncomputable def fixed_RoundDiv (n0 : Int) (d1 : Int) : Option Int :=
  Let (decide (d1 < (1 : Int))) fun (x223 : Bool) =>
  Let (decide (d1 > (4611686018427387904 : Int))) fun (x224 : Bool) =>
  Let (bif x223 then true else x224) fun (x225 : Bool) =>
  Let (decide (n0 < (-4611686018427387904 : Int))) fun (x226 : Bool) =>
  Let (bif x225 then true else x226) fun (x227 : Bool) =>
  Let (decide (n0 > (4611686018427387904 : Int))) fun (x228 : Bool) =>
  Let (bif x227 then true else x228) fun (x229 : Bool) =>
  if x229 = true then some (0 : Int)
  else
  Chk (d1 ≠ (0 : Int))
  (Let (IntKind.i64.wrap (n0.tdiv d1)) fun (x230 : Int) =>
  Chk (d1 ≠ (0 : Int))
  (Let (n0.tmod d1) fun (x231 : Int) =>
  Join (fun (v232 : Int) => some v232) fun (j233 : Int → Option Int) =>
  Let (IntKind.i64.wrap (d1 - x231)) fun (x234 : Int) =>
  Let (decide (x231 ≥ x234)) fun (x235 : Bool) =>
  if x235 = true then Let (IntKind.i64.wrap (x230 + (1 : Int))) fun (x236 : Int) => j233 x236
  else
  Let (IntKind.i64.wrap ((0 : Int) - x231)) fun (x237 : Int) =>
  Let (IntKind.i64.wrap (d1 + x231)) fun (x238 : Int) =>
  Let (decide (x237 ≥ x238)) fun (x239 : Bool) =>
  if x239 = true then Let (IntKind.i64.wrap (x230 - (1 : Int))) fun (x240 : Int) => j233 x240 else j233 x230))

noncomputable def polygon_fan (vertices0 : (List Vec)) : Option ((List polygon_triangle) × Int) :=
  Chk ((0 : Int) ≤ (0 : Int) ∧ (0 : Int) < (↑vertices0.length : Int))
  (Let (ix vertices0 (0 : Int)) fun (x241 : Vec) =>
  LOOP
  (fun (rec242 : List polygon_triangle × Int × Int → Option (List polygon_triangle × Int))
  (s243 : List polygon_triangle × Int × Int) =>
  Let (IntKind.i64.wrap (s243.snd.snd + (1 : Int))) fun (x244 : Int) =>
  Let (↑vertices0.length : Int) fun (x245 : Int) =>
  Let (decide (x244 < x245)) fun (x246 : Bool) =>
  if x246 = true then
  Chk ((0 : Int) ≤ s243.snd.snd ∧ s243.snd.snd < (↑vertices0.length : Int))
  (Let (ix vertices0 s243.snd.snd) fun (x247 : Vec) =>
  Let (IntKind.i64.wrap (x247.X - x241.X)) fun (x248 : Int) =>
  Chk ((0 : Int) ≤ s243.snd.snd ∧ s243.snd.snd < (↑vertices0.length : Int))
  (Let (ix vertices0 s243.snd.snd) fun (x249 : Vec) =>
  Let (IntKind.i64.wrap (x249.Y - x241.Y)) fun (x250 : Int) =>
  Let (IntKind.i64.wrap (s243.snd.snd + (1 : Int))) fun (x251 : Int) =>
  Chk ((0 : Int) ≤ x251 ∧ x251 < (↑vertices0.length : Int))
  (Let (ix vertices0 x251) fun (x252 : Vec) =>
  Let (IntKind.i64.wrap (x252.X - x241.X)) fun (x253 : Int) =>
  Let (IntKind.i64.wrap (s243.snd.snd + (1 : Int))) fun (x254 : Int) =>
  Chk ((0 : Int) ≤ x254 ∧ x254 < (↑vertices0.length : Int))
  (Let (ix vertices0 x254) fun (x255 : Vec) =>
  Let (IntKind.i64.wrap (x255.Y - x241.Y)) fun (x256 : Int) =>
  Let (IntKind.i64.wrap (x248 * x256)) fun (x257 : Int) =>
  Let (IntKind.i64.wrap (x250 * x253)) fun (x258 : Int) =>
  Let (IntKind.i64.wrap (x257 - x258)) fun (x259 : Int) =>
  Rx.Bind (fixed_RoundDiv x259 (65536 : Int)) fun (r260 : Int) =>
  Chk
  ((List.length s243.fst +
  [{ e := { X := x248, Y := x250 : Vec }, f := { X := x253, Y := x256 : Vec }, cross := r260 : polygon_triangle }].length) *
  (40 : Nat) ≤
  (140737488355328 : Nat))
  (Let
  (s243.fst ++
  [{ e := { X := x248, Y := x250 : Vec }, f := { X := x253, Y := x256 : Vec }, cross := r260 : polygon_triangle }])
  fun (x261 : List polygon_triangle) =>
  Let (IntKind.i64.wrap (s243.snd.fst + r260)) fun (x262 : Int) =>
  Let (IntKind.i64.wrap (s243.snd.snd + (1 : Int))) fun (x263 : Int) => rec242 (x261, x262, x263))))))
  else some (s243.fst, s243.snd.fst))
  fuel ([], (0 : Int), (1 : Int)))

noncomputable def polygon_Area (vertices0 : (List Vec)) : Option Int :=
  Rx.Bind (polygon_IsConvex vertices0) fun (r264 : Bool) =>
  Let (!r264) fun (x265 : Bool) =>
  if x265 = true then some (0 : Int)
  else
  Rx.Bind (polygon_fan vertices0) fun (r266 : List polygon_triangle × Int) =>
  Rx.Bind (fixed_RoundDiv r266.snd (2 : Int)) fun (r267 : Int) => some r267

noncomputable def shape_Validate (s0 : Shape) : Option Int :=
  Let (decide (s0.Kind < (1 : Int))) fun (x268 : Bool) =>
  Let (decide (s0.Kind > (3 : Int))) fun (x269 : Bool) =>
  Let (bif x268 then true else x269) fun (x270 : Bool) =>
  if x270 = true then some (10 : Int)
  else
  Rx.Bind (shape_validCount s0) fun (r271 : Bool) =>
  Let (!r271) fun (x272 : Bool) =>
  if x272 = true then some (11 : Int)
  else
  Rx.Bind (slices_ContainsFunc_188 s0.Vertices fun (a : Tup tb [Ix.tVec]) => shape_Validate_1 a) fun (r273 : Bool) =>
  if r273 = true then some (6 : Int)
  else
  Join
  (fun (v274 : Bool) =>
  if v274 = true then some (6 : Int)
  else
  Let (s0.Kind == (2 : Int)) fun (x275 : Bool) =>
  Chk ((x275 == true) = true → (0 : Int) ≤ (1 : Int) ∧ (1 : Int) < (↑s0.Vertices.length : Int))
  (Let (ix s0.Vertices (1 : Int)) fun (x276 : Vec) =>
  Chk ((x275 == true) = true → (0 : Int) ≤ (0 : Int) ∧ (0 : Int) < (↑s0.Vertices.length : Int))
  (Let (ix s0.Vertices (0 : Int)) fun (x277 : Vec) =>
  Rx.Bind (if (x275 == true) = true then vec2_Sub x276 x277 else some { X := default, Y := default : Vec })
  fun (r278 : Vec) =>
  Rx.Bind (if (x275 == true) = true then vec2_Length r278 else some default) fun (r279 : Int) =>
  Let (decide (r279 < (4096 : Int))) fun (x280 : Bool) =>
  Let (bif x275 then x280 else false) fun (x281 : Bool) =>
  if x281 = true then some (12 : Int)
  else
  Let (s0.Kind == (3 : Int)) fun (x282 : Bool) =>
  Rx.Bind (if (x282 == true) = true then polygon_IsConvex s0.Vertices else some default) fun (r283 : Bool) =>
  Let (!r283) fun (x284 : Bool) =>
  Rx.Bind (if (x282 == true && x284 == false) = true then polygon_ShortestEdge s0.Vertices else some default)
  fun (r285 : Int) =>
  Let (decide (r285 < (4096 : Int))) fun (x286 : Bool) =>
  Let (bif x284 then true else x286) fun (x287 : Bool) =>
  Rx.Bind (if (x282 == true && x287 == false) = true then polygon_Area s0.Vertices else some default) fun (r288 : Int) =>
  Let (decide (r288 < (256 : Int))) fun (x289 : Bool) =>
  Let (bif x287 then true else x289) fun (x290 : Bool) =>
  Let (bif x282 then x290 else false) fun (x291 : Bool) => if x291 = true then some (12 : Int) else some (0 : Int))))
  fun (j292 : Bool → Option Int) =>
  Let (s0.Kind == (3 : Int)) fun (x293 : Bool) =>
  Let (s0.Radius != (0 : Int)) fun (x294 : Bool) =>
  Let (bif x293 then x294 else false) fun (x295 : Bool) =>
  if x295 = true then j292 x295
  else
  Let (s0.Kind != (3 : Int)) fun (x296 : Bool) =>
  Let (decide (s0.Radius < (2048 : Int))) fun (x297 : Bool) =>
  Let (decide (s0.Radius > (524288 : Int))) fun (x298 : Bool) =>
  Let (bif x297 then true else x298) fun (x299 : Bool) =>
  Let (bif x296 then x299 else false) fun (x300 : Bool) => j292 x300

noncomputable def body_ValidateFixture (f0 : Fixture) : Option Int :=
  Rx.Bind (shape_Validate f0.Shape) fun (r301 : Int) =>
  Let (r301 != (0 : Int)) fun (x302 : Bool) =>
  if x302 = true then some r301
  else
  Rx.Bind (body_within f0.Density (0 : Int) (262144 : Int)) fun (r303 : Bool) =>
  Rx.Bind (if (r303 == true) = true then body_within f0.Friction (0 : Int) (131072 : Int) else some default)
  fun (r304 : Bool) =>
  Let (bif r303 then r304 else false) fun (x305 : Bool) =>
  Rx.Bind (if (x305 == true) = true then body_within f0.Restitution (0 : Int) (65536 : Int) else some default)
  fun (r306 : Bool) =>
  Let (bif x305 then r306 else false) fun (x307 : Bool) =>
  Rx.Bind (body_within f0.Category (0 : Int) (65535 : Int)) fun (r308 : Bool) =>
  Rx.Bind (if (r308 == true) = true then body_within f0.Mask (0 : Int) (65535 : Int) else some default)
  fun (r309 : Bool) =>
  Let (bif r308 then r309 else false) fun (x310 : Bool) =>
  Rx.Bind (if (x310 == true) = true then body_within f0.Group (-32 : Int) (32 : Int) else some default)
  fun (r311 : Bool) =>
  Let (bif x310 then r311 else false) fun (x312 : Bool) =>
  Let (!x307) fun (x313 : Bool) =>
  Let (!x312) fun (x314 : Bool) =>
  Let (bif x313 then true else x314) fun (x315 : Bool) => if x315 = true then some (6 : Int) else some (0 : Int)

noncomputable def body_moving (b0 : Body) : Option Bool :=
  Let (!(decide (b0.Velocity.X = (0 : Int)) && decide (b0.Velocity.Y = (0 : Int)))) fun (x316 : Bool) =>
  Let (b0.AngularVelocity != (0 : Int)) fun (x317 : Bool) =>
  Let (bif x316 then true else x317) fun (x318 : Bool) => some x318

noncomputable def body_consistent (b0 : Body) : Option Bool :=
  Let (!(decide (b0.Force.X = (0 : Int)) && decide (b0.Force.Y = (0 : Int)))) fun (x319 : Bool) =>
  Let (b0.Torque != (0 : Int)) fun (x320 : Bool) =>
  Let (bif x319 then true else x320) fun (x321 : Bool) =>
  Let (b0.Kind == (1 : Int)) fun (x322 : Bool) =>
  Rx.Bind (if (x322 == true) = true then body_moving b0 else some default) fun (r323 : Bool) =>
  Let (bif r323 then true else x321) fun (x324 : Bool) =>
  Let (bif x322 then x324 else false) fun (x325 : Bool) =>
  if x325 = true then some false
  else
  Let (b0.Kind != (3 : Int)) fun (x326 : Bool) =>
  Let (bif b0.Asleep then true else b0.Bullet) fun (x327 : Bool) =>
  Let (bif x326 then x327 else false) fun (x328 : Bool) =>
  if x328 = true then some false
  else
  Let (!b0.Asleep) fun (x329 : Bool) =>
  Rx.Bind (if (x329 == false) = true then body_moving b0 else some default) fun (r330 : Bool) =>
  Let (!r330) fun (x331 : Bool) => Let (bif x329 then true else x331) fun (x332 : Bool) => some x332

noncomputable def body_Validate (b0 : Body) : Option Int :=
  Let (b0.Kind != (1 : Int)) fun (x333 : Bool) =>
  Let (b0.Kind != (2 : Int)) fun (x334 : Bool) =>
  Let (bif x333 then x334 else false) fun (x335 : Bool) =>
  Let (b0.Kind != (3 : Int)) fun (x336 : Bool) =>
  Let (bif x335 then x336 else false) fun (x337 : Bool) =>
  if x337 = true then some (10 : Int)
  else
  Rx.Bind (body_inRange b0) fun (r338 : Bool) =>
  Let (!r338) fun (x339 : Bool) =>
  if x339 = true then some (6 : Int)
  else
  Let (↑b0.Fixtures.length : Int) fun (x340 : Int) =>
  Let (decide (x340 > (4 : Int))) fun (x341 : Bool) =>
  if x341 = true then some (11 : Int)
  else
  Let (↑b0.Fixtures.length : Int) fun (x342 : Int) =>
  LOOP
  (fun (rec343 : Int → Option Int) (s344 : Int) =>
  Let (decide (s344 < x342)) fun (x345 : Bool) =>
  if x345 = true then
  Chk ((0 : Int) ≤ s344 ∧ s344 < (↑b0.Fixtures.length : Int))
  (Let (ix b0.Fixtures s344) fun (x346 : Fixture) =>
  Rx.Bind (body_ValidateFixture x346) fun (r347 : Int) =>
  Let (r347 != (0 : Int)) fun (x348 : Bool) =>
  if x348 = true then some (13 : Int) else Let (IntKind.i64.wrap (s344 + (1 : Int))) fun (x349 : Int) => rec343 x349)
  else
  Rx.Bind (body_consistent b0) fun (r350 : Bool) =>
  Let (!r350) fun (x351 : Bool) => if x351 = true then some (14 : Int) else some (0 : Int))
  fuel (0 : Int)

noncomputable def world_validBodies (w0 : World_) : Option Bool :=
  Let (↑w0.Bodies.length : Int) fun (x352 : Int) =>
  LOOP
  (fun (rec353 : Int × Int → Option Bool) (s354 : Int × Int) =>
  Let (decide (s354.snd < x352)) fun (x355 : Bool) =>
  if x355 = true then
  Chk ((0 : Int) ≤ s354.snd ∧ s354.snd < (↑w0.Bodies.length : Int))
  (Let (ix w0.Bodies s354.snd) fun (x356 : Body) =>
  Rx.Bind (body_Validate x356) fun (r357 : Int) =>
  Let (r357 != (0 : Int)) fun (x358 : Bool) =>
  Let (decide (x356.ID ≥ w0.NextID)) fun (x359 : Bool) =>
  Let (bif x358 then true else x359) fun (x360 : Bool) =>
  Let (decide (x356.ID ≤ s354.fst)) fun (x361 : Bool) =>
  Let (bif x360 then true else x361) fun (x362 : Bool) =>
  if x362 = true then some false
  else Let (IntKind.i64.wrap (s354.snd + (1 : Int))) fun (x363 : Int) => rec353 (x356.ID, x363))
  else some true)
  fuel ((0 : Int), (0 : Int))

noncomputable def joint_limitRange (k0 : Int) : Option (Int × Int) :=
  Let (k0 == (1 : Int)) fun (x364 : Bool) =>
  if x364 = true then some ((0 : Int), (268435456 : Int))
  else
  Let (k0 == (2 : Int)) fun (x365 : Bool) =>
  if x365 = true then some ((-205888 : Int), (205888 : Int)) else some ((-268435456 : Int), (268435456 : Int))

noncomputable def joint_inRange (n0 : Int) (low1 : Int) (high2 : Int) : Option Bool :=
  Let (decide (n0 ≥ low1)) fun (x366 : Bool) =>
  Let (decide (n0 ≤ high2)) fun (x367 : Bool) => Let (bif x366 then x367 else false) fun (x368 : Bool) => some x368

noncomputable def joint_pointInRange (v0 : Vec) (limit1 : Int) : Option Bool :=
  Let (IntKind.i64.wrap ((0 : Int) - limit1)) fun (x369 : Int) =>
  Rx.Bind (joint_inRange v0.X x369 limit1) fun (r370 : Bool) =>
  Let (IntKind.i64.wrap ((0 : Int) - limit1)) fun (x371 : Int) =>
  Rx.Bind (if (r370 == true) = true then joint_inRange v0.Y x371 limit1 else some default) fun (r372 : Bool) =>
  Let (bif r370 then r372 else false) fun (x373 : Bool) => some x373

noncomputable def joint_numbersInRange (j0 : Joint) : Option Bool :=
  Join
  (fun (v374 : Int) =>
  Rx.Bind (joint_limitRange j0.Kind) fun (r375 : Int × Int) =>
  LOOP
  (fun (rec376 : Int → Option Bool) (s377 : Int) =>
  Let (decide (s377 < (4 : Int))) fun (x378 : Bool) =>
  if x378 = true then
  Chk ((0 : Int) ≤ s377 ∧ s377 < (↑(4 : Nat) : Int))
  (Let (ix [j0.Impulses.fst, j0.Impulses.snd.fst, j0.Impulses.snd.snd.fst, j0.Impulses.snd.snd.snd] s377)
  fun (x379 : Int) =>
  Rx.Bind (joint_inRange x379 (-536870911 : Int) (536870911 : Int)) fun (r380 : Bool) =>
  Let (!r380) fun (x381 : Bool) =>
  if x381 = true then some false else Let (IntKind.i64.wrap (s377 + (1 : Int))) fun (x382 : Int) => rec376 x382)
  else
  Rx.Bind (joint_inRange j0.ID (1 : Int) (1099511627776 : Int)) fun (r383 : Bool) =>
  Rx.Bind (if (r383 == true) = true then joint_pointInRange j0.AnchorA v374 else some default) fun (r384 : Bool) =>
  Let (bif r383 then r384 else false) fun (x385 : Bool) =>
  Rx.Bind (if (x385 == true) = true then joint_pointInRange j0.AnchorB (1048576 : Int) else some default)
  fun (r386 : Bool) =>
  Let (bif x385 then r386 else false) fun (x387 : Bool) =>
  Rx.Bind (if (x387 == true) = true then joint_inRange j0.ReferenceAngle (-205888 : Int) (205887 : Int) else some default)
  fun (r388 : Bool) =>
  Let (bif x387 then r388 else false) fun (x389 : Bool) =>
  Rx.Bind (if (x389 == true) = true then joint_inRange j0.Lower r375.fst r375.snd else some default) fun (r390 : Bool) =>
  Let (bif x389 then r390 else false) fun (x391 : Bool) =>
  Rx.Bind (if (x391 == true) = true then joint_inRange j0.Upper r375.fst r375.snd else some default) fun (r392 : Bool) =>
  Let (bif x391 then r392 else false) fun (x393 : Bool) =>
  Let (decide (j0.Lower ≤ j0.Upper)) fun (x394 : Bool) =>
  Let (bif x393 then x394 else false) fun (x395 : Bool) =>
  Rx.Bind (if (x395 == true) = true then joint_inRange j0.MotorSpeed (-16777216 : Int) (16777216 : Int) else some default)
  fun (r396 : Bool) =>
  Let (bif x395 then r396 else false) fun (x397 : Bool) =>
  Rx.Bind (if (x397 == true) = true then joint_inRange j0.MaxForce (0 : Int) (536870911 : Int) else some default)
  fun (r398 : Bool) =>
  Let (bif x397 then r398 else false) fun (x399 : Bool) =>
  Rx.Bind (if (x399 == true) = true then joint_inRange j0.Softness (0 : Int) (536870911 : Int) else some default)
  fun (r400 : Bool) =>
  Let (bif x399 then r400 else false) fun (x401 : Bool) =>
  Rx.Bind (if (x401 == true) = true then joint_inRange j0.BreakForce (0 : Int) (536870911 : Int) else some default)
  fun (r402 : Bool) => Let (bif x401 then r402 else false) fun (x403 : Bool) => some x403)
  fuel (0 : Int))
  fun (j404 : Int → Option Bool) =>
  Let (j0.Kind == (5 : Int)) fun (x405 : Bool) => if x405 = true then j404 (268435456 : Int) else j404 (1048576 : Int)

noncomputable def joint_validBodies (j0 : Joint) : Option Bool :=
  Let (j0.Kind == (5 : Int)) fun (x406 : Bool) =>
  if x406 = true then
  Let (j0.BodyA == (0 : Int)) fun (x407 : Bool) =>
  Rx.Bind (if (x407 == true) = true then joint_inRange j0.BodyB (1 : Int) (1099511627776 : Int) else some default)
  fun (r408 : Bool) => Let (bif x407 then r408 else false) fun (x409 : Bool) => some x409
  else
  Rx.Bind (joint_inRange j0.BodyA (1 : Int) (1099511627776 : Int)) fun (r410 : Bool) =>
  Rx.Bind (if (r410 == true) = true then joint_inRange j0.BodyB (1 : Int) (1099511627776 : Int) else some default)
  fun (r411 : Bool) =>
  Let (bif r410 then r411 else false) fun (x412 : Bool) =>
  Let (j0.BodyA != j0.BodyB) fun (x413 : Bool) => Let (bif x412 then x413 else false) fun (x414 : Bool) => some x414

noncomputable def joint_inconsistent (j0 : Joint) : Option Bool :=
  Let (decide (j0.Axis.X = (0 : Int)) && decide (j0.Axis.Y = (0 : Int))) fun (x415 : Bool) =>
  Join
  (fun (v416 : PUnit) =>
  Let (!x415) fun (x417 : Bool) =>
  Let (bif x417 then true else j0.EnableMotor) fun (x418 : Bool) =>
  Let (bif x418 then true else j0.EnableLimit) fun (x419 : Bool) => some x419)
  fun (j420 : PUnit → Option Bool) =>
  Let (j0.Kind == (3 : Int)) fun (x421 : Bool) =>
  if x421 = true then
  Rx.Bind (vec2_Length j0.Axis) fun (r422 : Int) =>
  Rx.Bind (joint_inRange r422 (65520 : Int) (65552 : Int)) fun (r423 : Bool) => Let (!r423) fun (x424 : Bool) => some x424
  else
  Let (j0.Kind == (1 : Int)) fun (x425 : Bool) =>
  if x425 = true then
  Let (!x415) fun (x426 : Bool) =>
  Let (bif x426 then true else j0.EnableMotor) fun (x427 : Bool) =>
  Let (!j0.EnableLimit) fun (x428 : Bool) => Let (bif x427 then true else x428) fun (x429 : Bool) => some x429
  else
  Let (j0.Kind == (4 : Int)) fun (x430 : Bool) =>
  if x430 = true then j420 ()
  else
  Let (j0.Kind == (5 : Int)) fun (x431 : Bool) =>
  if x431 = true then j420 () else Let (!x415) fun (x432 : Bool) => some x432

noncomputable def joint_Validate (j0 : Joint) : Option Int :=
  Let (decide (j0.Kind < (1 : Int))) fun (x433 : Bool) =>
  Let (decide (j0.Kind > (5 : Int))) fun (x434 : Bool) =>
  Let (bif x433 then true else x434) fun (x435 : Bool) =>
  if x435 = true then some (10 : Int)
  else
  Rx.Bind (joint_numbersInRange j0) fun (r436 : Bool) =>
  Let (!r436) fun (x437 : Bool) =>
  if x437 = true then some (6 : Int)
  else
  Rx.Bind (joint_validBodies j0) fun (r438 : Bool) =>
  Let (!r438) fun (x439 : Bool) =>
  if x439 = true then some (14 : Int)
  else Rx.Bind (joint_inconsistent j0) fun (r440 : Bool) => if r440 = true then some (15 : Int) else some (0 : Int)

noncomputable def world_FindBody_1 (b0 : Body) (p1 : Int) : Option Bool :=
  Let (b0.ID == p1) fun (x441 : Bool) => some x441

noncomputable def slices_IndexFunc (s0 : (List Body)) (f1 : (Body → Option Bool)) : Option Int :=
  Let (↑s0.length : Int) fun (x442 : Int) =>
  LOOP
  (fun (rec443 : Int → Option Int) (s444 : Int) =>
  Let (decide (s444 < x442)) fun (x445 : Bool) =>
  if x445 = true then
  Chk ((0 : Int) ≤ s444 ∧ s444 < (↑s0.length : Int))
  (Let (ix s0 s444) fun (x446 : Body) =>
  Rx.Bind (f1 x446) fun (r447 : Bool) =>
  if r447 = true then some s444 else Let (IntKind.i64.wrap (s444 + (1 : Int))) fun (x448 : Int) => rec443 x448)
  else some (-1 : Int))
  fuel (0 : Int)

noncomputable def world_FindBody (w0 : World_) (id1 : Int) : Option Int :=
  Rx.Bind (slices_IndexFunc w0.Bodies fun (a : Tup tb [Ix.tBody]) => world_FindBody_1 a id1) fun (r449 : Int) => some r449

noncomputable def world_bodiesExist (w0 : World_) (j1 : Joint) : Option Bool :=
  Rx.Bind (world_FindBody w0 j1.BodyB) fun (r450 : Int) =>
  Let (decide (r450 ≥ (0 : Int))) fun (x451 : Bool) =>
  Let (j1.Kind == (5 : Int)) fun (x452 : Bool) =>
  Rx.Bind (if (x451 == true && x452 == false) = true then world_FindBody w0 j1.BodyA else some default)
  fun (r453 : Int) =>
  Let (decide (r453 ≥ (0 : Int))) fun (x454 : Bool) =>
  Let (bif x452 then true else x454) fun (x455 : Bool) =>
  Let (bif x451 then x455 else false) fun (x456 : Bool) => some x456

noncomputable def world_validJoints (w0 : World_) : Option Bool :=
  Let (↑w0.Joints.length : Int) fun (x457 : Int) =>
  LOOP
  (fun (rec458 : Int × Int → Option Bool) (s459 : Int × Int) =>
  Let (decide (s459.snd < x457)) fun (x460 : Bool) =>
  if x460 = true then
  Chk ((0 : Int) ≤ s459.snd ∧ s459.snd < (↑w0.Joints.length : Int))
  (Let (ix w0.Joints s459.snd) fun (x461 : Joint) =>
  Rx.Bind (joint_Validate x461) fun (r462 : Int) =>
  Let (r462 != (0 : Int)) fun (x463 : Bool) =>
  Let (decide (x461.ID ≥ w0.NextID)) fun (x464 : Bool) =>
  Let (bif x463 then true else x464) fun (x465 : Bool) =>
  Let (decide (x461.ID ≤ s459.fst)) fun (x466 : Bool) =>
  Let (bif x465 then true else x466) fun (x467 : Bool) =>
  Rx.Bind (if (x467 == false) = true then world_bodiesExist w0 x461 else some default) fun (r468 : Bool) =>
  Let (!r468) fun (x469 : Bool) =>
  Let (bif x467 then true else x469) fun (x470 : Bool) =>
  Rx.Bind (if (x470 == false) = true then world_FindBody w0 x461.ID else some default) fun (r471 : Int) =>
  Let (decide (r471 ≥ (0 : Int))) fun (x472 : Bool) =>
  Let (bif x470 then true else x472) fun (x473 : Bool) =>
  if x473 = true then some false
  else Let (IntKind.i64.wrap (s459.snd + (1 : Int))) fun (x474 : Int) => rec458 (x461.ID, x474))
  else some true)
  fuel ((0 : Int), (0 : Int))

noncomputable def slices_IndexFunc_194 (s0 : (List Int)) (f1 : (Int → Option Bool)) : Option Int :=
  Let (↑s0.length : Int) fun (x475 : Int) =>
  LOOP
  (fun (rec476 : Int → Option Int) (s477 : Int) =>
  Let (decide (s477 < x475)) fun (x478 : Bool) =>
  if x478 = true then
  Chk ((0 : Int) ≤ s477 ∧ s477 < (↑s0.length : Int))
  (Let (ix s0 s477) fun (x479 : Int) =>
  Rx.Bind (f1 x479) fun (r480 : Bool) =>
  if r480 = true then some s477 else Let (IntKind.i64.wrap (s477 + (1 : Int))) fun (x481 : Int) => rec476 x481)
  else some (-1 : Int))
  fuel (0 : Int)

noncomputable def slices_ContainsFunc_158 (s0 : (List Int)) (f1 : (Int → Option Bool)) : Option Bool :=
  Rx.Bind (slices_IndexFunc_194 s0 f1) fun (r482 : Int) => Let (decide (r482 ≥ (0 : Int))) fun (x483 : Bool) => some x483

noncomputable def world_saturated_1 (n0 : Int) : Option Bool :=
  Rx.Bind (world_in n0 (-536870911 : Int) (536870911 : Int)) fun (r484 : Bool) =>
  Let (!r484) fun (x485 : Bool) => some x485

noncomputable def world_saturated (values0 : (List Int)) : Option Bool :=
  Rx.Bind (slices_ContainsFunc_158 values0 fun (a : Tup tb [Ix.tint]) => world_saturated_1 a) fun (r486 : Bool) =>
  Let (!r486) fun (x487 : Bool) => some x487

noncomputable def slices_IndexFunc_160 (s0 : (List ContactPoint)) (f1 : (ContactPoint → Option Bool)) : Option Int :=
  Let (↑s0.length : Int) fun (x488 : Int) =>
  LOOP
  (fun (rec489 : Int → Option Int) (s490 : Int) =>
  Let (decide (s490 < x488)) fun (x491 : Bool) =>
  if x491 = true then
  Chk ((0 : Int) ≤ s490 ∧ s490 < (↑s0.length : Int))
  (Let (ix s0 s490) fun (x492 : ContactPoint) =>
  Rx.Bind (f1 x492) fun (r493 : Bool) =>
  if r493 = true then some s490 else Let (IntKind.i64.wrap (s490 + (1 : Int))) fun (x494 : Int) => rec489 x494)
  else some (-1 : Int))
  fuel (0 : Int)

noncomputable def slices_ContainsFunc_120 (s0 : (List ContactPoint)) (f1 : (ContactPoint → Option Bool)) : Option Bool :=
  Rx.Bind (slices_IndexFunc_160 s0 f1) fun (r495 : Int) => Let (decide (r495 ≥ (0 : Int))) fun (x496 : Bool) => some x496

noncomputable def world_validManifold_1 (p0 : ContactPoint) : Option Bool :=
  Let (decide (p0.NormalImpulse < (0 : Int))) fun (x497 : Bool) =>
  Rx.Bind
  (if (x497 == false) = true then
  world_saturated [p0.Point.X, p0.Point.Y, p0.Separation, p0.ID, p0.NormalImpulse, p0.TangentImpulse]
  else some default)
  fun (r498 : Bool) => Let (!r498) fun (x499 : Bool) => Let (bif x497 then true else x499) fun (x500 : Bool) => some x500

noncomputable def world_validManifold (m0 : Manifold) : Option Bool :=
  Let (↑m0.Points.length : Int) fun (x501 : Int) =>
  Let (decide (x501 < (1 : Int))) fun (x502 : Bool) =>
  Let (decide (x501 > (2 : Int))) fun (x503 : Bool) =>
  Let (bif x502 then true else x503) fun (x504 : Bool) =>
  Let (x501 == (2 : Int)) fun (x505 : Bool) =>
  Chk ((x504 == false && x505 == true) = true → (0 : Int) ≤ (0 : Int) ∧ (0 : Int) < (↑m0.Points.length : Int))
  (Let (ix m0.Points (0 : Int)) fun (x506 : ContactPoint) =>
  Chk ((x504 == false && x505 == true) = true → (0 : Int) ≤ (1 : Int) ∧ (1 : Int) < (↑m0.Points.length : Int))
  (Let (ix m0.Points (1 : Int)) fun (x507 : ContactPoint) =>
  Let (x506.ID == x507.ID) fun (x508 : Bool) =>
  Let (bif x505 then x508 else false) fun (x509 : Bool) =>
  Let (bif x504 then true else x509) fun (x510 : Bool) =>
  Rx.Bind (if (x510 == false) = true then world_saturated [m0.Normal.X, m0.Normal.Y] else some default)
  fun (r511 : Bool) =>
  Let (!r511) fun (x512 : Bool) =>
  Let (bif x510 then true else x512) fun (x513 : Bool) =>
  if x513 = true then some false
  else
  Rx.Bind (slices_ContainsFunc_120 m0.Points fun (a : Tup tb [Ix.tContactPoint]) => world_validManifold_1 a)
  fun (r514 : Bool) => Let (!r514) fun (x515 : Bool) => some x515))

noncomputable def broadphase_valid (k0 : PairKey) : Option Bool :=
  Let (decide (k0.BodyA < k0.BodyB)) fun (x516 : Bool) =>
  Let (decide (k0.FixtureA ≥ (0 : Int))) fun (x517 : Bool) =>
  Let (bif x516 then x517 else false) fun (x518 : Bool) =>
  Let (decide (k0.FixtureA < (4 : Int))) fun (x519 : Bool) =>
  Let (bif x518 then x519 else false) fun (x520 : Bool) =>
  Let (decide (k0.FixtureB ≥ (0 : Int))) fun (x521 : Bool) =>
  Let (bif x520 then x521 else false) fun (x522 : Bool) =>
  Let (decide (k0.FixtureB < (4 : Int))) fun (x523 : Bool) =>
  Let (bif x522 then x523 else false) fun (x524 : Bool) => some x524

noncomputable def cmp_isNaN (x0 : Int) : Option Bool :=
  Let (x0 != x0) fun (x525 : Bool) => some x525

noncomputable def cmp_Compare (x0 : Int) (y1 : Int) : Option Int :=
  Rx.Bind (cmp_isNaN x0) fun (r526 : Bool) =>
  Rx.Bind (cmp_isNaN y1) fun (r527 : Bool) =>
  if r526 = true then if r527 = true then some (0 : Int) else some (-1 : Int)
  else
  if r527 = true then some (1 : Int)
  else
  Let (decide (x0 < y1)) fun (x528 : Bool) =>
  if x528 = true then some (-1 : Int)
  else Let (decide (x0 > y1)) fun (x529 : Bool) => if x529 = true then some (1 : Int) else some (0 : Int)

noncomputable def cmp_Or (vals0 : (List Int)) : Option Int :=
  Let (↑vals0.length : Int) fun (x530 : Int) =>
  LOOP
  (fun (rec531 : Int → Option Int) (s532 : Int) =>
  Let (decide (s532 < x530)) fun (x533 : Bool) =>
  if x533 = true then
  Chk ((0 : Int) ≤ s532 ∧ s532 < (↑vals0.length : Int))
  (Let (ix vals0 s532) fun (x534 : Int) =>
  Let (x534 != (0 : Int)) fun (x535 : Bool) =>
  if x535 = true then some x534 else Let (IntKind.i64.wrap (s532 + (1 : Int))) fun (x536 : Int) => rec531 x536)
  else some (0 : Int))
  fuel (0 : Int)

noncomputable def broadphase_compare (a0 : PairKey) (b1 : PairKey) : Option Int :=
  Rx.Bind (cmp_Compare a0.BodyA b1.BodyA) fun (r537 : Int) =>
  Rx.Bind (cmp_Compare a0.FixtureA b1.FixtureA) fun (r538 : Int) =>
  Rx.Bind (cmp_Compare a0.BodyB b1.BodyB) fun (r539 : Int) =>
  Rx.Bind (cmp_Compare a0.FixtureB b1.FixtureB) fun (r540 : Int) =>
  Rx.Bind (cmp_Or [r537, r538, r539, r540]) fun (r541 : Int) => some r541

noncomputable def broadphase_Less (a0 : PairKey) (b1 : PairKey) : Option Bool :=
  Rx.Bind (broadphase_compare a0 b1) fun (r542 : Int) => Let (decide (r542 < (0 : Int))) fun (x543 : Bool) => some x543

noncomputable def broadphase_ValidKeys (keys0 : (List PairKey)) : Option Bool :=
  Let (↑keys0.length : Int) fun (x544 : Int) =>
  LOOP
  (fun (rec545 : Int × PairKey → Option Bool) (s546 : Int × PairKey) =>
  Let (decide (s546.fst < x544)) fun (x547 : Bool) =>
  if x547 = true then
  Chk ((0 : Int) ≤ s546.fst ∧ s546.fst < (↑keys0.length : Int))
  (Let (ix keys0 s546.fst) fun (x548 : PairKey) =>
  Rx.Bind (broadphase_valid x548) fun (r549 : Bool) =>
  Let (!r549) fun (x550 : Bool) =>
  Let (decide (s546.fst > (0 : Int))) fun (x551 : Bool) =>
  Let
  (decide (x548.BodyA = s546.snd.BodyA) &&
  (decide (x548.FixtureA = s546.snd.FixtureA) &&
  (decide (x548.BodyB = s546.snd.BodyB) && decide (x548.FixtureB = s546.snd.FixtureB))))
  fun (x552 : Bool) =>
  Rx.Bind
  (if (x550 == false && x551 == true && x552 == false) = true then broadphase_Less s546.snd x548 else some default)
  fun (r553 : Bool) =>
  Let (!r553) fun (x554 : Bool) =>
  Let (bif x552 then true else x554) fun (x555 : Bool) =>
  Let (bif x551 then x555 else false) fun (x556 : Bool) =>
  Let (bif x550 then true else x556) fun (x557 : Bool) =>
  if x557 = true then some false
  else Let (IntKind.i64.wrap (s546.fst + (1 : Int))) fun (x558 : Int) => rec545 (x558, x548))
  else some true)
  fuel ((0 : Int), { BodyA := (0 : Int), FixtureA := (0 : Int), BodyB := (0 : Int), FixtureB := (0 : Int) : PairKey })

noncomputable def slices_Concat (slices0 : (List (List PairKey))) : Option (List PairKey) :=
  Let (↑slices0.length : Int) fun (x559 : Int) =>
  LOOP
  (fun (rec560 : Int × Int → Option (List PairKey)) (s561 : Int × Int) =>
  Let (decide (s561.snd < x559)) fun (x562 : Bool) =>
  if x562 = true then
  Chk ((0 : Int) ≤ s561.snd ∧ s561.snd < (↑slices0.length : Int))
  (Let (ix slices0 s561.snd) fun (x563 : List PairKey) =>
  Let (↑x563.length : Int) fun (x564 : Int) =>
  Let (IntKind.i64.wrap (s561.fst + x564)) fun (x565 : Int) =>
  Let (decide (x565 < (0 : Int))) fun (x566 : Bool) =>
  if x566 = true then none else Let (IntKind.i64.wrap (s561.snd + (1 : Int))) fun (x567 : Int) => rec560 (x565, x567))
  else
  Let (decide (s561.fst < (0 : Int))) fun (x568 : Bool) =>
  if x568 = true then none
  else
  Join
  (fun (v569 : List PairKey) =>
  Let (↑slices0.length : Int) fun (x570 : Int) =>
  LOOP
  (fun (rec571 : List PairKey × Int → Option (List PairKey)) (s572 : List PairKey × Int) =>
  Let (decide (s572.snd < x570)) fun (x573 : Bool) =>
  if x573 = true then
  Chk ((0 : Int) ≤ s572.snd ∧ s572.snd < (↑slices0.length : Int))
  (Let (ix slices0 s572.snd) fun (x574 : List PairKey) =>
  Chk ((List.length s572.fst + x574.length) * (32 : Nat) ≤ (140737488355328 : Nat))
  (Let (s572.fst ++ x574) fun (x575 : List PairKey) =>
  Let (IntKind.i64.wrap (s572.snd + (1 : Int))) fun (x576 : Int) => rec571 (x575, x576)))
  else some s572.fst)
  fuel (v569, (0 : Int)))
  fun (j577 : List PairKey → Option (List PairKey)) =>
  Let (IntKind.i64.wrap ((0 : Int) - (0 : Int))) fun (x578 : Int) =>
  Let (IntKind.i64.wrap (s561.fst - x578)) fun (x579 : Int) =>
  Let (decide (x579 > (0 : Int))) fun (x580 : Bool) =>
  if x580 = true then
  Chk ((0 : Int) = (0 : Int))
  (Chk ((0 : Int) < x579 ∧ x579.toNat * (32 : Nat) ≤ (140737488355328 : Nat) ∧ x579 ≤ (9223372036854775807 : Int))
  (Let
  (List.replicate x579.toNat
  { BodyA := (0 : Int), FixtureA := (0 : Int), BodyB := (0 : Int), FixtureB := (0 : Int) : PairKey })
  fun (x581 : List PairKey) =>
  Chk
  ((0 : Int) ≤ none.getD (0 : Int) ∧
  (0 : Int) ≤ (some (0 : Int)).getD (0 : Int) ∧ (0 : Nat) ≤ Int.toNat (0 : Int) ∧ Int.toNat (0 : Int) ≤ x581.length)
  (Chk (Int.toNat (0 : Int) - (0 : Nat) ≤ x581.length)
  (Let (List.take (Int.toNat (0 : Int) - (0 : Nat)) x581) fun (x582 : List PairKey) => j577 x582))))
  else j577 [])
  fuel ((0 : Int), (0 : Int))

noncomputable def world_fixturesExist (w0 : World_) (k1 : PairKey) : Option Bool :=
  Rx.Bind (world_FindBody w0 k1.BodyA) fun (r583 : Int) =>
  Rx.Bind (world_FindBody w0 k1.BodyB) fun (r584 : Int) =>
  Let (decide (r583 ≥ (0 : Int))) fun (x585 : Bool) =>
  Let (decide (r584 ≥ (0 : Int))) fun (x586 : Bool) =>
  Let (bif x585 then x586 else false) fun (x587 : Bool) =>
  Chk ((x587 == true) = true → (0 : Int) ≤ r583 ∧ r583 < (↑w0.Bodies.length : Int))
  (Let (ix w0.Bodies r583) fun (x588 : Body) =>
  Let (↑x588.Fixtures.length : Int) fun (x589 : Int) =>
  Let (decide (k1.FixtureA < x589)) fun (x590 : Bool) =>
  Let (bif x587 then x590 else false) fun (x591 : Bool) =>
  Chk ((x591 == true) = true → (0 : Int) ≤ r584 ∧ r584 < (↑w0.Bodies.length : Int))
  (Let (ix w0.Bodies r584) fun (x592 : Body) =>
  Let (↑x592.Fixtures.length : Int) fun (x593 : Int) =>
  Let (decide (k1.FixtureB < x593)) fun (x594 : Bool) =>
  Let (bif x591 then x594 else false) fun (x595 : Bool) => some x595))

noncomputable def world_validContacts_1 (k0 : PairKey) (p1 : World_) : Option Bool :=
  Rx.Bind (world_fixturesExist p1 k0) fun (r596 : Bool) => Let (!r596) fun (x597 : Bool) => some x597

noncomputable def slices_IndexFunc_124 (s0 : (List PairKey)) (f1 : (PairKey → Option Bool)) : Option Int :=
  Let (↑s0.length : Int) fun (x598 : Int) =>
  LOOP
  (fun (rec599 : Int → Option Int) (s600 : Int) =>
  Let (decide (s600 < x598)) fun (x601 : Bool) =>
  if x601 = true then
  Chk ((0 : Int) ≤ s600 ∧ s600 < (↑s0.length : Int))
  (Let (ix s0 s600) fun (x602 : PairKey) =>
  Rx.Bind (f1 x602) fun (r603 : Bool) =>
  if r603 = true then some s600 else Let (IntKind.i64.wrap (s600 + (1 : Int))) fun (x604 : Int) => rec599 x604)
  else some (-1 : Int))
  fuel (0 : Int)

noncomputable def slices_ContainsFunc (s0 : (List PairKey)) (f1 : (PairKey → Option Bool)) : Option Bool :=
  Rx.Bind (slices_IndexFunc_124 s0 f1) fun (r605 : Int) => Let (decide (r605 ≥ (0 : Int))) fun (x606 : Bool) => some x606

noncomputable def world_validContacts (w0 : World_) : Option Bool :=
  Let (↑w0.Contacts.length : Int) fun (x607 : Int) =>
  LOOP
  (fun (rec608 : List PairKey × Int → Option Bool) (s609 : List PairKey × Int) =>
  Let (decide (s609.snd < x607)) fun (x610 : Bool) =>
  if x610 = true then
  Chk ((0 : Int) ≤ s609.snd ∧ s609.snd < (↑w0.Contacts.length : Int))
  (Let (ix w0.Contacts s609.snd) fun (x611 : Contact) =>
  Rx.Bind (world_validManifold x611.Manifold) fun (r612 : Bool) =>
  Let (!r612) fun (x613 : Bool) =>
  if x613 = true then some false
  else
  Chk ((List.length s609.fst + [x611.Key].length) * (32 : Nat) ≤ (140737488355328 : Nat))
  (Let (s609.fst ++ [x611.Key]) fun (x614 : List PairKey) =>
  Let (IntKind.i64.wrap (s609.snd + (1 : Int))) fun (x615 : Int) => rec608 (x614, x615)))
  else
  Rx.Bind (broadphase_ValidKeys s609.fst) fun (r616 : Bool) =>
  Let (!r616) fun (x617 : Bool) =>
  Rx.Bind (if (x617 == false) = true then broadphase_ValidKeys w0.Overlaps else some default) fun (r618 : Bool) =>
  Let (!r618) fun (x619 : Bool) =>
  Let (bif x617 then true else x619) fun (x620 : Bool) =>
  if x620 = true then some false
  else
  Rx.Bind (slices_Concat [s609.fst, w0.Overlaps]) fun (r621 : List PairKey) =>
  Rx.Bind (slices_ContainsFunc r621 fun (a : Tup tb [Ix.tPairKey]) => world_validContacts_1 a w0) fun (r622 : Bool) =>
  Let (!r622) fun (x623 : Bool) => some x623)
  fuel ([], (0 : Int))

noncomputable def world_Validate (w0 : World_) : Option Int :=
  Rx.Bind (world_ValidateSettings w0.Settings) fun (r624 : Int) =>
  Let (r624 != (0 : Int)) fun (x625 : Bool) =>
  if x625 = true then some (17 : Int)
  else
  Let (↑w0.Bodies.length : Int) fun (x626 : Int) =>
  Let (decide (x626 > (32 : Int))) fun (x627 : Bool) =>
  Let (↑w0.Joints.length : Int) fun (x628 : Int) =>
  Let (decide (x628 > (32 : Int))) fun (x629 : Bool) =>
  Let (bif x627 then true else x629) fun (x630 : Bool) =>
  Let (↑w0.Contacts.length : Int) fun (x631 : Int) =>
  Let (decide (x631 > (8192 : Int))) fun (x632 : Bool) =>
  Let (bif x630 then true else x632) fun (x633 : Bool) =>
  Let (↑w0.Overlaps.length : Int) fun (x634 : Int) =>
  Let (decide (x634 > (8192 : Int))) fun (x635 : Bool) =>
  Let (bif x633 then true else x635) fun (x636 : Bool) =>
  if x636 = true then some (11 : Int)
  else
  Rx.Bind (world_in w0.NextID (1 : Int) (1099511627776 : Int)) fun (r637 : Bool) =>
  Let (!r637) fun (x638 : Bool) =>
  Rx.Bind (if (x638 == false) = true then world_in w0.Frame (0 : Int) (1099511627776 : Int) else some default)
  fun (r639 : Bool) =>
  Let (!r639) fun (x640 : Bool) =>
  Let (bif x638 then true else x640) fun (x641 : Bool) =>
  if x641 = true then some (6 : Int)
  else
  Rx.Bind (world_validBodies w0) fun (r642 : Bool) =>
  Let (!r642) fun (x643 : Bool) =>
  if x643 = true then some (14 : Int)
  else
  Rx.Bind (world_validJoints w0) fun (r644 : Bool) =>
  Let (!r644) fun (x645 : Bool) =>
  if x645 = true then some (15 : Int)
  else
  Rx.Bind (world_validContacts w0) fun (r646 : Bool) =>
  Let (!r646) fun (x647 : Bool) => if x647 = true then some (16 : Int) else some (0 : Int)

noncomputable def metrics_dynamicBodies (w0 : World_) : Option (List Body) :=
  Rx.Bind (world_Validate w0) fun (r648 : Int) =>
  Let (r648 != (0 : Int)) fun (x649 : Bool) =>
  if x649 = true then some []
  else
  Let (↑w0.Bodies.length : Int) fun (x650 : Int) =>
  LOOP
  (fun (rec651 : List Body × Int → Option (List Body)) (s652 : List Body × Int) =>
  Let (decide (s652.snd < x650)) fun (x653 : Bool) =>
  if x653 = true then
  Join (fun (v654 : List Body) => Let (IntKind.i64.wrap (s652.snd + (1 : Int))) fun (x655 : Int) => rec651 (v654, x655))
  fun (j656 : List Body → Option (List Body)) =>
  Chk ((0 : Int) ≤ s652.snd ∧ s652.snd < (↑w0.Bodies.length : Int))
  (Let (ix w0.Bodies s652.snd) fun (x657 : Body) =>
  Let (x657.Kind == (3 : Int)) fun (x658 : Bool) =>
  if x658 = true then
  Chk ((List.length s652.fst + [x657].length) * (152 : Nat) ≤ (140737488355328 : Nat))
  (Let (s652.fst ++ [x657]) fun (x659 : List Body) => j656 x659)
  else j656 s652.fst)
  else some s652.fst)
  fuel ([], (0 : Int))

noncomputable def metrics_FastestBody (w0 : World_) : Option (Int × Int) :=
  Rx.Bind (metrics_dynamicBodies w0) fun (r660 : List Body) =>
  Let (↑r660.length : Int) fun (x661 : Int) =>
  LOOP
  (fun (rec662 : Int × Int × Int → Option (Int × Int)) (s663 : Int × Int × Int) =>
  Let (decide (s663.snd.snd < x661)) fun (x664 : Bool) =>
  if x664 = true then
  Join
  (fun (v665 : Int × Int) =>
  Let (IntKind.i64.wrap (s663.snd.snd + (1 : Int))) fun (x666 : Int) => rec662 (v665.fst, v665.snd, x666))
  fun (j667 : Int × Int → Option (Int × Int)) =>
  Chk ((0 : Int) ≤ s663.snd.snd ∧ s663.snd.snd < (↑r660.length : Int))
  (Chk ((0 : Int) ≤ s663.snd.snd ∧ s663.snd.snd < (↑r660.length : Int))
  (Let (ix r660 s663.snd.snd) fun (x668 : Body) =>
  Rx.Bind (vec2_Length x668.Velocity) fun (r669 : Int) =>
  Let (decide (r669 > s663.snd.fst)) fun (x670 : Bool) =>
  if x670 = true then j667 (x668.ID, r669) else j667 (s663.fst, s663.snd.fst)))
  else Let (max s663.snd.fst (0 : Int)) fun (x671 : Int) => some (s663.fst, x671))
  fuel ((0 : Int), (-1 : Int), (0 : Int))

noncomputable def fixed_Mul (a0 : Int) (b1 : Int) : Option Int :=
  Rx.Bind (fixed_Saturate a0) fun (r672 : Int) =>
  Rx.Bind (fixed_Saturate b1) fun (r673 : Int) =>
  Let (IntKind.i64.wrap (r672 * r673)) fun (x674 : Int) =>
  Rx.Bind (fixed_RoundDiv x674 (65536 : Int)) fun (r675 : Int) =>
  Rx.Bind (fixed_Saturate r675) fun (r676 : Int) => some r676

noncomputable def massdata_ofCircle (s0 : Shape) (density1 : Int) : Option MassData :=
  Rx.Bind (fixed_Mul s0.Radius s0.Radius) fun (r677 : Int) =>
  Rx.Bind (fixed_Mul (205888 : Int) r677) fun (r678 : Int) =>
  Rx.Bind (fixed_Mul r678 density1) fun (r679 : Int) =>
  Chk ((0 : Int) ≤ (0 : Int) ∧ (0 : Int) < (↑s0.Vertices.length : Int))
  (Let (ix s0.Vertices (0 : Int)) fun (x680 : Vec) =>
  Rx.Bind (fixed_RoundDiv r677 (2 : Int)) fun (r681 : Int) =>
  Rx.Bind (fixed_Mul r679 r681) fun (r682 : Int) => some { Mass := r679, Center := x680, Inertia := r682 : MassData })

noncomputable def fixed_Add (a0 : Int) (b1 : Int) : Option Int :=
  Rx.Bind (fixed_Saturate a0) fun (r683 : Int) =>
  Rx.Bind (fixed_Saturate b1) fun (r684 : Int) =>
  Let (IntKind.i64.wrap (r683 + r684)) fun (x685 : Int) => Rx.Bind (fixed_Saturate x685) fun (r686 : Int) => some r686

noncomputable def fixed_Lerp (a0 : Int) (b1 : Int) (t2 : Int) : Option Int :=
  Rx.Bind (fixed_Sub b1 a0) fun (r687 : Int) =>
  Rx.Bind (fixed_Mul r687 t2) fun (r688 : Int) => Rx.Bind (fixed_Add a0 r688) fun (r689 : Int) => some r689

noncomputable def vec2_Lerp (a0 : Vec) (b1 : Vec) (t2 : Int) : Option Vec :=
  Rx.Bind (fixed_Lerp a0.X b1.X t2) fun (r690 : Int) =>
  Rx.Bind (fixed_Lerp a0.Y b1.Y t2) fun (r691 : Int) => some { X := r690, Y := r691 : Vec }

noncomputable def massdata_ofCapsule (s0 : Shape) (density1 : Int) : Option MassData :=
  Rx.Bind (fixed_Mul s0.Radius s0.Radius) fun (r692 : Int) =>
  Chk ((0 : Int) ≤ (1 : Int) ∧ (1 : Int) < (↑s0.Vertices.length : Int))
  (Let (ix s0.Vertices (1 : Int)) fun (x693 : Vec) =>
  Chk ((0 : Int) ≤ (0 : Int) ∧ (0 : Int) < (↑s0.Vertices.length : Int))
  (Let (ix s0.Vertices (0 : Int)) fun (x694 : Vec) =>
  Rx.Bind (vec2_Sub x693 x694) fun (r695 : Vec) =>
  Rx.Bind (vec2_Length r695) fun (r696 : Int) =>
  Rx.Bind (fixed_Mul (205888 : Int) r692) fun (r697 : Int) =>
  Rx.Bind (fixed_Add s0.Radius s0.Radius) fun (r698 : Int) =>
  Rx.Bind (fixed_Mul r698 r696) fun (r699 : Int) =>
  Rx.Bind (fixed_Add r697 r699) fun (r700 : Int) =>
  Rx.Bind (fixed_Mul r700 density1) fun (r701 : Int) =>
  Rx.Bind (fixed_RoundDiv r692 (2 : Int)) fun (r702 : Int) =>
  Rx.Bind (fixed_Mul r696 r696) fun (r703 : Int) =>
  Rx.Bind (fixed_RoundDiv r703 (12 : Int)) fun (r704 : Int) =>
  Rx.Bind (fixed_Add r702 r704) fun (r705 : Int) =>
  Chk ((0 : Int) ≤ (0 : Int) ∧ (0 : Int) < (↑s0.Vertices.length : Int))
  (Let (ix s0.Vertices (0 : Int)) fun (x706 : Vec) =>
  Chk ((0 : Int) ≤ (1 : Int) ∧ (1 : Int) < (↑s0.Vertices.length : Int))
  (Let (ix s0.Vertices (1 : Int)) fun (x707 : Vec) =>
  Rx.Bind (vec2_Lerp x706 x707 (32768 : Int)) fun (r708 : Vec) =>
  Rx.Bind (fixed_Mul r701 r705) fun (r709 : Int) => some { Mass := r701, Center := r708, Inertia := r709 : MassData }))))

noncomputable def polygon_Centroid (vertices0 : (List Vec)) : Option Vec :=
  Rx.Bind (polygon_IsConvex vertices0) fun (r710 : Bool) =>
  Let (!r710) fun (x711 : Bool) =>
  if x711 = true then some { X := (0 : Int), Y := (0 : Int) : Vec }
  else
  Rx.Bind (polygon_fan vertices0) fun (r712 : List polygon_triangle × Int) =>
  Let (r712.snd == (0 : Int)) fun (x713 : Bool) =>
  if x713 = true then
  Chk ((0 : Int) ≤ (0 : Int) ∧ (0 : Int) < (↑vertices0.length : Int))
  (Let (ix vertices0 (0 : Int)) fun (x714 : Vec) => some x714)
  else
  Let (↑(List.length r712.fst) : Int) fun (x715 : Int) =>
  LOOP
  (fun (rec716 : Int × Int × Int → Option Vec) (s717 : Int × Int × Int) =>
  Let (decide (s717.snd.snd < x715)) fun (x718 : Bool) =>
  if x718 = true then
  Chk ((0 : Int) ≤ s717.snd.snd ∧ s717.snd.snd < (↑(List.length r712.fst) : Int))
  (Let (ix r712.fst s717.snd.snd) fun (x719 : polygon_triangle) =>
  Let (IntKind.i64.wrap (x719.e.X + x719.f.X)) fun (x720 : Int) =>
  Let (IntKind.i64.wrap (x720 * x719.cross)) fun (x721 : Int) =>
  Let (IntKind.i64.wrap (s717.fst + x721)) fun (x722 : Int) =>
  Let (IntKind.i64.wrap (x719.e.Y + x719.f.Y)) fun (x723 : Int) =>
  Let (IntKind.i64.wrap (x723 * x719.cross)) fun (x724 : Int) =>
  Let (IntKind.i64.wrap (s717.snd.fst + x724)) fun (x725 : Int) =>
  Let (IntKind.i64.wrap (s717.snd.snd + (1 : Int))) fun (x726 : Int) => rec716 (x722, x725, x726))
  else
  Chk ((0 : Int) ≤ (0 : Int) ∧ (0 : Int) < (↑vertices0.length : Int))
  (Let (ix vertices0 (0 : Int)) fun (x727 : Vec) =>
  Let (IntKind.i64.wrap ((3 : Int) * r712.snd)) fun (x728 : Int) =>
  Rx.Bind (fixed_RoundDiv s717.fst x728) fun (r729 : Int) =>
  Let (IntKind.i64.wrap (x727.X + r729)) fun (x730 : Int) =>
  Chk ((0 : Int) ≤ (0 : Int) ∧ (0 : Int) < (↑vertices0.length : Int))
  (Let (ix vertices0 (0 : Int)) fun (x731 : Vec) =>
  Let (IntKind.i64.wrap ((3 : Int) * r712.snd)) fun (x732 : Int) =>
  Rx.Bind (fixed_RoundDiv s717.snd.fst x732) fun (r733 : Int) =>
  Let (IntKind.i64.wrap (x731.Y + r733)) fun (x734 : Int) => some { X := x730, Y := x734 : Vec })))
  fuel ((0 : Int), (0 : Int), (0 : Int))

noncomputable def vec2_product (n0 : Int) : Option Int :=
  Rx.Bind (fixed_RoundDiv n0 (65536 : Int)) fun (r735 : Int) =>
  Rx.Bind (fixed_Saturate r735) fun (r736 : Int) => some r736

noncomputable def vec2_Cross (a0 : Vec) (b1 : Vec) : Option Int :=
  Rx.Bind (vec2_saturate a0) fun (r737 : Vec) =>
  Rx.Bind (vec2_saturate b1) fun (r738 : Vec) =>
  Let (IntKind.i64.wrap (r737.X * r738.Y)) fun (x739 : Int) =>
  Let (IntKind.i64.wrap (r737.Y * r738.X)) fun (x740 : Int) =>
  Let (IntKind.i64.wrap (x739 - x740)) fun (x741 : Int) => Rx.Bind (vec2_product x741) fun (r742 : Int) => some r742

noncomputable def vec2_Dot (a0 : Vec) (b1 : Vec) : Option Int :=
  Rx.Bind (vec2_saturate a0) fun (r743 : Vec) =>
  Rx.Bind (vec2_saturate b1) fun (r744 : Vec) =>
  Let (IntKind.i64.wrap (r743.X * r744.X)) fun (x745 : Int) =>
  Let (IntKind.i64.wrap (r743.Y * r744.Y)) fun (x746 : Int) =>
  Let (IntKind.i64.wrap (x745 + x746)) fun (x747 : Int) => Rx.Bind (vec2_product x747) fun (r748 : Int) => some r748

noncomputable def massdata_ofPolygon (s0 : Shape) (density1 : Int) : Option MassData :=
  Rx.Bind (polygon_Area s0.Vertices) fun (r749 : Int) =>
  Rx.Bind (fixed_Mul r749 density1) fun (r750 : Int) =>
  Rx.Bind (polygon_Centroid s0.Vertices) fun (r751 : Vec) =>
  Let (↑s0.Vertices.length : Int) fun (x752 : Int) =>
  Let (IntKind.i64.wrap (x752 - (1 : Int))) fun (x753 : Int) =>
  Chk ((0 : Int) ≤ x753 ∧ x753 < (↑s0.Vertices.length : Int))
  (Let (ix s0.Vertices x753) fun (x754 : Vec) =>
  Rx.Bind (vec2_Sub x754 r751) fun (r755 : Vec) =>
  Let (↑s0.Vertices.length : Int) fun (x756 : Int) =>
  LOOP
  (fun (rec757 : Int × Int × Int × Vec → Option MassData) (s758 : Int × Int × Int × Vec) =>
  Let (decide (s758.snd.snd.fst < x756)) fun (x759 : Bool) =>
  if x759 = true then
  Chk ((0 : Int) ≤ s758.snd.snd.fst ∧ s758.snd.snd.fst < (↑s0.Vertices.length : Int))
  (Let (ix s0.Vertices s758.snd.snd.fst) fun (x760 : Vec) =>
  Rx.Bind (vec2_Sub x760 r751) fun (r761 : Vec) =>
  Rx.Bind (vec2_Cross s758.snd.snd.snd r761) fun (r762 : Int) =>
  Rx.Bind (vec2_Dot s758.snd.snd.snd s758.snd.snd.snd) fun (r763 : Int) =>
  Rx.Bind (vec2_Dot s758.snd.snd.snd r761) fun (r764 : Int) =>
  Let (IntKind.i64.wrap (r763 + r764)) fun (x765 : Int) =>
  Rx.Bind (vec2_Dot r761 r761) fun (r766 : Int) =>
  Let (IntKind.i64.wrap (x765 + r766)) fun (x767 : Int) =>
  Let (IntKind.i64.wrap (r762 * x767)) fun (x768 : Int) =>
  Let (IntKind.i64.wrap (s758.fst + x768)) fun (x769 : Int) =>
  Let (IntKind.i64.wrap (s758.snd.fst + r762)) fun (x770 : Int) =>
  Let (IntKind.i64.wrap (s758.snd.snd.fst + (1 : Int))) fun (x771 : Int) => rec757 (x769, x770, x771, r761))
  else
  Let (decide (s758.snd.fst < (1 : Int))) fun (x772 : Bool) =>
  if x772 = true then some { Mass := r750, Center := r751, Inertia := (0 : Int) : MassData }
  else
  Rx.Bind (fixed_RoundDiv s758.fst s758.snd.fst) fun (r773 : Int) =>
  Rx.Bind (fixed_RoundDiv r773 (6 : Int)) fun (r774 : Int) =>
  Rx.Bind (fixed_Mul r750 r774) fun (r775 : Int) => some { Mass := r750, Center := r751, Inertia := r775 : MassData })
  fuel ((0 : Int), (0 : Int), (0 : Int), r755))

noncomputable def massdata_OfShape (s0 : Shape) (density1 : Int) : Option MassData :=
  Rx.Bind (shape_Validate s0) fun (r776 : Int) =>
  Let (r776 != (0 : Int)) fun (x777 : Bool) =>
  Let (decide (density1 < (0 : Int))) fun (x778 : Bool) =>
  Let (bif x777 then true else x778) fun (x779 : Bool) =>
  Let (decide (density1 > (262144 : Int))) fun (x780 : Bool) =>
  Let (bif x779 then true else x780) fun (x781 : Bool) =>
  if x781 = true then
  some { Mass := (0 : Int), Center := { X := (0 : Int), Y := (0 : Int) : Vec }, Inertia := (0 : Int) : MassData }
  else
  Let (s0.Kind == (1 : Int)) fun (x782 : Bool) =>
  if x782 = true then Rx.Bind (massdata_ofCircle s0 density1) fun (r783 : MassData) => some r783
  else
  Let (s0.Kind == (2 : Int)) fun (x784 : Bool) =>
  if x784 = true then Rx.Bind (massdata_ofCapsule s0 density1) fun (r785 : MassData) => some r785
  else Rx.Bind (massdata_ofPolygon s0 density1) fun (r786 : MassData) => some r786

noncomputable def slices_IndexFunc_199 (s0 : (List MassData)) (f1 : (MassData → Option Bool)) : Option Int :=
  Let (↑s0.length : Int) fun (x787 : Int) =>
  LOOP
  (fun (rec788 : Int → Option Int) (s789 : Int) =>
  Let (decide (s789 < x787)) fun (x790 : Bool) =>
  if x790 = true then
  Chk ((0 : Int) ≤ s789 ∧ s789 < (↑s0.length : Int))
  (Let (ix s0 s789) fun (x791 : MassData) =>
  Rx.Bind (f1 x791) fun (r792 : Bool) =>
  if r792 = true then some s789 else Let (IntKind.i64.wrap (s789 + (1 : Int))) fun (x793 : Int) => rec788 x793)
  else some (-1 : Int))
  fuel (0 : Int)

noncomputable def slices_ContainsFunc_165 (s0 : (List MassData)) (f1 : (MassData → Option Bool)) : Option Bool :=
  Rx.Bind (slices_IndexFunc_199 s0 f1) fun (r794 : Int) => Let (decide (r794 ≥ (0 : Int))) fun (x795 : Bool) => some x795

noncomputable def massdata_Combine_1 (p0 : MassData) : Option Bool :=
  Let (decide (p0.Mass < (0 : Int))) fun (x796 : Bool) => some x796

noncomputable def massdata_Combine (parts0 : (List MassData)) : Option MassData :=
  Let (↑parts0.length : Int) fun (x797 : Int) =>
  Let (decide (x797 > (8 : Int))) fun (x798 : Bool) =>
  Rx.Bind
  (if (x798 == false) = true then slices_ContainsFunc_165 parts0 fun (a : Tup tb [Ix.tMassData]) => massdata_Combine_1 a
  else some default)
  fun (r799 : Bool) =>
  Let (bif x798 then true else r799) fun (x800 : Bool) =>
  if x800 = true then
  some { Mass := (0 : Int), Center := { X := (0 : Int), Y := (0 : Int) : Vec }, Inertia := (0 : Int) : MassData }
  else
  Let (↑parts0.length : Int) fun (x801 : Int) =>
  LOOP
  (fun (rec802 : Int × Int × Int × Int × MassData → Option MassData) (s803 : Int × Int × Int × Int × MassData) =>
  Let (decide (s803.snd.snd.snd.fst < x801)) fun (x804 : Bool) =>
  if x804 = true then
  Chk ((0 : Int) ≤ s803.snd.snd.snd.fst ∧ s803.snd.snd.snd.fst < (↑parts0.length : Int))
  (Let (ix parts0 s803.snd.snd.snd.fst) fun (x805 : MassData) =>
  Rx.Bind (fixed_Saturate x805.Mass) fun (r806 : Int) =>
  Rx.Bind (fixed_Add s803.snd.snd.snd.snd.Mass r806) fun (r807 : Int) =>
  Let (IntKind.i64.wrap (s803.fst + r806)) fun (x808 : Int) =>
  Rx.Bind (fixed_Saturate x805.Center.X) fun (r809 : Int) =>
  Let (IntKind.i64.wrap (r806 * r809)) fun (x810 : Int) =>
  Let (IntKind.i64.wrap (s803.snd.fst + x810)) fun (x811 : Int) =>
  Rx.Bind (fixed_Saturate x805.Center.Y) fun (r812 : Int) =>
  Let (IntKind.i64.wrap (r806 * r812)) fun (x813 : Int) =>
  Let (IntKind.i64.wrap (s803.snd.snd.fst + x813)) fun (x814 : Int) =>
  Let (IntKind.i64.wrap (s803.snd.snd.snd.fst + (1 : Int))) fun (x815 : Int) =>
  rec802
  (x808, x811, x814, x815,
  { Mass := r807, Center := s803.snd.snd.snd.snd.Center, Inertia := s803.snd.snd.snd.snd.Inertia : MassData }))
  else
  Join
  (fun (v816 : MassData) =>
  Let (↑parts0.length : Int) fun (x817 : Int) =>
  LOOP
  (fun (rec818 : Int × MassData → Option MassData) (s819 : Int × MassData) =>
  Let (decide (s819.fst < x817)) fun (x820 : Bool) =>
  if x820 = true then
  Chk ((0 : Int) ≤ s819.fst ∧ s819.fst < (↑parts0.length : Int))
  (Let (ix parts0 s819.fst) fun (x821 : MassData) =>
  Rx.Bind (vec2_Sub x821.Center s819.snd.Center) fun (r822 : Vec) =>
  Rx.Bind (fixed_Add s819.snd.Inertia x821.Inertia) fun (r823 : Int) =>
  Rx.Bind (vec2_Dot r822 r822) fun (r824 : Int) =>
  Rx.Bind (fixed_Mul x821.Mass r824) fun (r825 : Int) =>
  Rx.Bind (fixed_Add r823 r825) fun (r826 : Int) =>
  Let (IntKind.i64.wrap (s819.fst + (1 : Int))) fun (x827 : Int) =>
  rec818 (x827, { Mass := s819.snd.Mass, Center := s819.snd.Center, Inertia := r826 : MassData }))
  else some s819.snd)
  fuel ((0 : Int), v816))
  fun (j828 : MassData → Option MassData) =>
  Let (decide (s803.fst > (0 : Int))) fun (x829 : Bool) =>
  if x829 = true then
  Rx.Bind (fixed_RoundDiv s803.snd.fst s803.fst) fun (r830 : Int) =>
  Rx.Bind (fixed_RoundDiv s803.snd.snd.fst s803.fst) fun (r831 : Int) =>
  j828
  { Mass := s803.snd.snd.snd.snd.Mass, Center := { X := r830, Y := r831 : Vec }, Inertia := s803.snd.snd.snd.snd.Inertia : MassData }
  else j828 s803.snd.snd.snd.snd)
  fuel
  ((0 : Int), (0 : Int), (0 : Int), (0 : Int),
  { Mass := (0 : Int), Center := { X := (0 : Int), Y := (0 : Int) : Vec }, Inertia := (0 : Int) : MassData })

noncomputable def massdata_OfFixtures (fixtures0 : (List Fixture)) : Option MassData :=
  Let (↑fixtures0.length : Int) fun (x832 : Int) =>
  Let (decide (x832 > (4 : Int))) fun (x833 : Bool) =>
  if x833 = true then
  some { Mass := (0 : Int), Center := { X := (0 : Int), Y := (0 : Int) : Vec }, Inertia := (0 : Int) : MassData }
  else
  Let (↑fixtures0.length : Int) fun (x834 : Int) =>
  LOOP
  (fun (rec835 : List MassData × Int → Option MassData) (s836 : List MassData × Int) =>
  Let (decide (s836.snd < x834)) fun (x837 : Bool) =>
  if x837 = true then
  Join
  (fun (v838 : List MassData) => Let (IntKind.i64.wrap (s836.snd + (1 : Int))) fun (x839 : Int) => rec835 (v838, x839))
  fun (j840 : List MassData → Option MassData) =>
  Chk ((0 : Int) ≤ s836.snd ∧ s836.snd < (↑fixtures0.length : Int))
  (Let (ix fixtures0 s836.snd) fun (x841 : Fixture) =>
  Let (!x841.Sensor) fun (x842 : Bool) =>
  if x842 = true then
  Rx.Bind (massdata_OfShape x841.Shape x841.Density) fun (r843 : MassData) =>
  Chk ((List.length s836.fst + [r843].length) * (32 : Nat) ≤ (140737488355328 : Nat))
  (Let (s836.fst ++ [r843]) fun (x844 : List MassData) => j840 x844)
  else j840 s836.fst)
  else Rx.Bind (massdata_Combine s836.fst) fun (r845 : MassData) => some r845)
  fuel ([], (0 : Int))

noncomputable def body_MassData (b0 : Body) : Option MassData :=
  Rx.Bind (massdata_OfFixtures b0.Fixtures) fun (r846 : MassData) => some r846

noncomputable def vec2_Scale (v0 : Vec) (k1 : Int) : Option Vec :=
  Rx.Bind (fixed_Mul v0.X k1) fun (r847 : Int) =>
  Rx.Bind (fixed_Mul v0.Y k1) fun (r848 : Int) => some { X := r847, Y := r848 : Vec }

noncomputable def vec2_Add (a0 : Vec) (b1 : Vec) : Option Vec :=
  Rx.Bind (fixed_Add a0.X b1.X) fun (r849 : Int) =>
  Rx.Bind (fixed_Add a0.Y b1.Y) fun (r850 : Int) => some { X := r849, Y := r850 : Vec }

noncomputable def metrics_Momentum (w0 : World_) : Option Vec :=
  Rx.Bind (metrics_dynamicBodies w0) fun (r851 : List Body) =>
  Let (↑r851.length : Int) fun (x852 : Int) =>
  LOOP
  (fun (rec853 : Int × Vec → Option Vec) (s854 : Int × Vec) =>
  Let (decide (s854.fst < x852)) fun (x855 : Bool) =>
  if x855 = true then
  Chk ((0 : Int) ≤ s854.fst ∧ s854.fst < (↑r851.length : Int))
  (Chk ((0 : Int) ≤ s854.fst ∧ s854.fst < (↑r851.length : Int))
  (Let (ix r851 s854.fst) fun (x856 : Body) =>
  Rx.Bind (body_MassData x856) fun (r857 : MassData) =>
  Rx.Bind (vec2_Scale x856.Velocity r857.Mass) fun (r858 : Vec) =>
  Rx.Bind (vec2_Add s854.snd r858) fun (r859 : Vec) =>
  Let (IntKind.i64.wrap (s854.fst + (1 : Int))) fun (x860 : Int) => rec853 (x860, r859)))
  else some s854.snd)
  fuel ((0 : Int), { X := (0 : Int), Y := (0 : Int) : Vec })

noncomputable def metrics_KineticEnergy (w0 : World_) : Option Int :=
  Rx.Bind (metrics_dynamicBodies w0) fun (r861 : List Body) =>
  Let (↑r861.length : Int) fun (x862 : Int) =>
  LOOP
  (fun (rec863 : Int × Int → Option Int) (s864 : Int × Int) =>
  Let (decide (s864.snd < x862)) fun (x865 : Bool) =>
  if x865 = true then
  Chk ((0 : Int) ≤ s864.snd ∧ s864.snd < (↑r861.length : Int))
  (Chk ((0 : Int) ≤ s864.snd ∧ s864.snd < (↑r861.length : Int))
  (Let (ix r861 s864.snd) fun (x866 : Body) =>
  Rx.Bind (body_MassData x866) fun (r867 : MassData) =>
  Rx.Bind (vec2_Dot x866.Velocity x866.Velocity) fun (r868 : Int) =>
  Rx.Bind (fixed_Mul r867.Mass r868) fun (r869 : Int) =>
  Rx.Bind (fixed_RoundDiv r869 (2 : Int)) fun (r870 : Int) =>
  Rx.Bind (fixed_Add s864.fst r870) fun (r871 : Int) =>
  Rx.Bind (fixed_Mul x866.AngularVelocity x866.AngularVelocity) fun (r872 : Int) =>
  Rx.Bind (fixed_Mul r867.Inertia r872) fun (r873 : Int) =>
  Rx.Bind (fixed_RoundDiv r873 (2 : Int)) fun (r874 : Int) =>
  Rx.Bind (fixed_Add r871 r874) fun (r875 : Int) =>
  Let (IntKind.i64.wrap (s864.snd + (1 : Int))) fun (x876 : Int) => rec863 (r875, x876)))
  else some s864.fst)
  fuel ((0 : Int), (0 : Int))

noncomputable def metrics_SleepingBodies (w0 : World_) : Option Int :=
  Rx.Bind (metrics_dynamicBodies w0) fun (r877 : List Body) =>
  Let (↑r877.length : Int) fun (x878 : Int) =>
  LOOP
  (fun (rec879 : Int × Int → Option Int) (s880 : Int × Int) =>
  Let (decide (s880.snd < x878)) fun (x881 : Bool) =>
  if x881 = true then
  Join (fun (v882 : Int) => Let (IntKind.i64.wrap (s880.snd + (1 : Int))) fun (x883 : Int) => rec879 (v882, x883))
  fun (j884 : Int → Option Int) =>
  Chk ((0 : Int) ≤ s880.snd ∧ s880.snd < (↑r877.length : Int))
  (Chk ((0 : Int) ≤ s880.snd ∧ s880.snd < (↑r877.length : Int))
  (Let (ix r877 s880.snd) fun (x885 : Body) =>
  if x885.Asleep = true then Let (IntKind.i64.wrap (s880.fst + (1 : Int))) fun (x886 : Int) => j884 x886
  else j884 s880.fst))
  else some s880.fst)
  fuel ((0 : Int), (0 : Int))

noncomputable def caromlaw51_example  : Option Bool :=
  Rx.Bind
  (metrics_FastestBody
  { Settings := { TimeStep := (8192 : Int), Gravity := { X := (0 : Int), Y := (0 : Int) : Vec }, Iterations := (1 : Int), SleepSteps := (0 : Int) : Settings }, Bodies := [{ ID := (1 : Int), Kind := (3 : Int), Transform := { Position := { X := (0 : Int), Y := (0 : Int) : Vec }, Angle := (0 : Int) : Transform }, Velocity := { X := (65536 : Int), Y := (0 : Int) : Vec }, AngularVelocity := (0 : Int), Force := { X := (0 : Int), Y := (0 : Int) : Vec }, Torque := (0 : Int), LinearDamping := (0 : Int), AngularDamping := (0 : Int), GravityScale := (0 : Int), Bullet := false, FixedRotation := false, NoSleep := false, Asleep := false, IdleSteps := (0 : Int), Fixtures := [{ Shape := { Kind := (3 : Int), Radius := (0 : Int), Vertices := [{ X := (-65536 : Int), Y := (0 : Int) : Vec }, { X := (65536 : Int), Y := (0 : Int) : Vec }, { X := (65536 : Int), Y := (65536 : Int) : Vec }, { X := (-65536 : Int), Y := (65536 : Int) : Vec }] : Shape }, Density := (65536 : Int), Friction := (0 : Int), Restitution := (0 : Int), Sensor := false, Category := (0 : Int), Mask := (0 : Int), Group := (0 : Int) : Fixture }] : Body }], Joints := [], Contacts := [], Overlaps := [], NextID := (2 : Int), Frame := (0 : Int) : World_ })
  fun (r887 : Int × Int) =>
  Rx.Bind
  (metrics_Momentum
  { Settings := { TimeStep := (8192 : Int), Gravity := { X := (0 : Int), Y := (0 : Int) : Vec }, Iterations := (1 : Int), SleepSteps := (0 : Int) : Settings }, Bodies := [{ ID := (1 : Int), Kind := (3 : Int), Transform := { Position := { X := (0 : Int), Y := (0 : Int) : Vec }, Angle := (0 : Int) : Transform }, Velocity := { X := (65536 : Int), Y := (0 : Int) : Vec }, AngularVelocity := (0 : Int), Force := { X := (0 : Int), Y := (0 : Int) : Vec }, Torque := (0 : Int), LinearDamping := (0 : Int), AngularDamping := (0 : Int), GravityScale := (0 : Int), Bullet := false, FixedRotation := false, NoSleep := false, Asleep := false, IdleSteps := (0 : Int), Fixtures := [{ Shape := { Kind := (3 : Int), Radius := (0 : Int), Vertices := [{ X := (-65536 : Int), Y := (0 : Int) : Vec }, { X := (65536 : Int), Y := (0 : Int) : Vec }, { X := (65536 : Int), Y := (65536 : Int) : Vec }, { X := (-65536 : Int), Y := (65536 : Int) : Vec }] : Shape }, Density := (65536 : Int), Friction := (0 : Int), Restitution := (0 : Int), Sensor := false, Category := (0 : Int), Mask := (0 : Int), Group := (0 : Int) : Fixture }] : Body }], Joints := [], Contacts := [], Overlaps := [], NextID := (2 : Int), Frame := (0 : Int) : World_ })
  fun (r888 : Vec) =>
  Let (decide (r888.X = (131072 : Int)) && decide (r888.Y = (0 : Int))) fun (x889 : Bool) =>
  Rx.Bind
  (if (x889 == true) = true then
  metrics_KineticEnergy
  { Settings := { TimeStep := (8192 : Int), Gravity := { X := (0 : Int), Y := (0 : Int) : Vec }, Iterations := (1 : Int), SleepSteps := (0 : Int) : Settings }, Bodies := [{ ID := (1 : Int), Kind := (3 : Int), Transform := { Position := { X := (0 : Int), Y := (0 : Int) : Vec }, Angle := (0 : Int) : Transform }, Velocity := { X := (65536 : Int), Y := (0 : Int) : Vec }, AngularVelocity := (0 : Int), Force := { X := (0 : Int), Y := (0 : Int) : Vec }, Torque := (0 : Int), LinearDamping := (0 : Int), AngularDamping := (0 : Int), GravityScale := (0 : Int), Bullet := false, FixedRotation := false, NoSleep := false, Asleep := false, IdleSteps := (0 : Int), Fixtures := [{ Shape := { Kind := (3 : Int), Radius := (0 : Int), Vertices := [{ X := (-65536 : Int), Y := (0 : Int) : Vec }, { X := (65536 : Int), Y := (0 : Int) : Vec }, { X := (65536 : Int), Y := (65536 : Int) : Vec }, { X := (-65536 : Int), Y := (65536 : Int) : Vec }] : Shape }, Density := (65536 : Int), Friction := (0 : Int), Restitution := (0 : Int), Sensor := false, Category := (0 : Int), Mask := (0 : Int), Group := (0 : Int) : Fixture }] : Body }], Joints := [], Contacts := [], Overlaps := [], NextID := (2 : Int), Frame := (0 : Int) : World_ }
  else some default)
  fun (r890 : Int) =>
  Let (r890 == (65536 : Int)) fun (x891 : Bool) =>
  Let (bif x889 then x891 else false) fun (x892 : Bool) =>
  Let (r887.fst == (1 : Int)) fun (x893 : Bool) =>
  Let (bif x892 then x893 else false) fun (x894 : Bool) =>
  Let (r887.snd == (65536 : Int)) fun (x895 : Bool) =>
  Let (bif x894 then x895 else false) fun (x896 : Bool) =>
  Rx.Bind
  (if (x896 == true) = true then
  metrics_SleepingBodies
  { Settings := { TimeStep := (8192 : Int), Gravity := { X := (0 : Int), Y := (0 : Int) : Vec }, Iterations := (1 : Int), SleepSteps := (0 : Int) : Settings }, Bodies := [{ ID := (1 : Int), Kind := (3 : Int), Transform := { Position := { X := (0 : Int), Y := (0 : Int) : Vec }, Angle := (0 : Int) : Transform }, Velocity := { X := (65536 : Int), Y := (0 : Int) : Vec }, AngularVelocity := (0 : Int), Force := { X := (0 : Int), Y := (0 : Int) : Vec }, Torque := (0 : Int), LinearDamping := (0 : Int), AngularDamping := (0 : Int), GravityScale := (0 : Int), Bullet := false, FixedRotation := false, NoSleep := false, Asleep := false, IdleSteps := (0 : Int), Fixtures := [{ Shape := { Kind := (3 : Int), Radius := (0 : Int), Vertices := [{ X := (-65536 : Int), Y := (0 : Int) : Vec }, { X := (65536 : Int), Y := (0 : Int) : Vec }, { X := (65536 : Int), Y := (65536 : Int) : Vec }, { X := (-65536 : Int), Y := (65536 : Int) : Vec }] : Shape }, Density := (65536 : Int), Friction := (0 : Int), Restitution := (0 : Int), Sensor := false, Category := (0 : Int), Mask := (0 : Int), Group := (0 : Int) : Fixture }] : Body }], Joints := [], Contacts := [], Overlaps := [], NextID := (2 : Int), Frame := (0 : Int) : World_ }
  else some default)
  fun (r897 : Int) =>
  Let (r897 == (0 : Int)) fun (x898 : Bool) => Let (bif x896 then x898 else false) fun (x899 : Bool) => some x899

noncomputable def angle_Normalize (a0 : Int) : Option Int :=
  Let (a0.tmod (411776 : Int)) fun (x963 : Int) =>
  Let (decide (x963 ≥ (205888 : Int))) fun (x964 : Bool) =>
  if x964 = true then Let (IntKind.i64.wrap (x963 - (411776 : Int))) fun (x965 : Int) => some x965
  else
  Let (decide (x963 < (-205888 : Int))) fun (x966 : Bool) =>
  if x966 = true then Let (IntKind.i64.wrap (x963 + (411776 : Int))) fun (x967 : Int) => some x967 else some x963

noncomputable def angle_abs (x0 : Int) : Option Int :=
  Let (decide (x0 < (0 : Int))) fun (x968 : Bool) =>
  if x968 = true then Let (IntKind.i64.wrap ((0 : Int) - x0)) fun (x969 : Int) => some x969 else some x0

noncomputable def fixed_Clamp (x0 : Int) (low1 : Int) (high2 : Int) : Option Int :=
  Let (decide (low1 > high2)) fun (x970 : Bool) =>
  Let (decide (x0 < low1)) fun (x971 : Bool) =>
  Let (bif x970 then true else x971) fun (x972 : Bool) =>
  if x972 = true then some low1
  else Let (decide (x0 > high2)) fun (x973 : Bool) => if x973 = true then some high2 else some x0

noncomputable def fixed_Div (a0 : Int) (b1 : Int) : Option Int :=
  Rx.Bind (fixed_Saturate a0) fun (r974 : Int) =>
  Let (IntKind.i64.wrap (r974 * (65536 : Int))) fun (x975 : Int) =>
  Rx.Bind (fixed_Saturate b1) fun (r976 : Int) =>
  Join
  (fun (v977 : Int × Int) =>
  Rx.Bind (fixed_RoundDiv v977.fst v977.snd) fun (r978 : Int) =>
  Rx.Bind (fixed_Saturate r978) fun (r979 : Int) => some r979)
  fun (j980 : Int × Int → Option Int) =>
  Let (r976 == (0 : Int)) fun (x981 : Bool) =>
  if x981 = true then
  Rx.Bind (fixed_Clamp x975 (-1 : Int) (1 : Int)) fun (r982 : Int) =>
  Let (IntKind.i64.wrap (r982 * (536870911 : Int))) fun (x983 : Int) => some x983
  else
  Let (decide (r976 < (0 : Int))) fun (x984 : Bool) =>
  if x984 = true then
  Let (IntKind.i64.wrap ((0 : Int) - x975)) fun (x985 : Int) =>
  Let (IntKind.i64.wrap ((0 : Int) - r976)) fun (x986 : Int) => j980 (x985, x986)
  else j980 (x975, r976)

noncomputable def angle_Sin (a0 : Int) : Option Int :=
  Rx.Bind (angle_Normalize a0) fun (r987 : Int) =>
  Rx.Bind (angle_abs r987) fun (r988 : Int) =>
  Join
  (fun (v989 : Int) =>
  Rx.Bind (fixed_Div v989 (102944 : Int)) fun (r990 : Int) =>
  Rx.Bind (fixed_Mul r990 r990) fun (r991 : Int) =>
  Rx.Bind (fixed_Mul r991 (4569 : Int)) fun (r992 : Int) =>
  Rx.Bind (fixed_Sub (41906 : Int) r992) fun (r993 : Int) =>
  Rx.Bind (fixed_Mul r991 r993) fun (r994 : Int) =>
  Rx.Bind (fixed_Sub (102873 : Int) r994) fun (r995 : Int) =>
  Rx.Bind (fixed_Mul r990 r995) fun (r996 : Int) =>
  Let (decide (r987 < (0 : Int))) fun (x997 : Bool) =>
  if x997 = true then Let (IntKind.i64.wrap ((0 : Int) - r996)) fun (x998 : Int) => some x998 else some r996)
  fun (j999 : Int → Option Int) =>
  Let (decide (r988 > (102944 : Int))) fun (x1000 : Bool) =>
  if x1000 = true then Let (IntKind.i64.wrap ((205888 : Int) - r988)) fun (x1001 : Int) => j999 x1001 else j999 r988

noncomputable def angle_Cos (a0 : Int) : Option Int :=
  Rx.Bind (angle_Normalize a0) fun (r1002 : Int) =>
  Rx.Bind (angle_abs r1002) fun (r1003 : Int) =>
  Let (IntKind.i64.wrap ((102944 : Int) - r1003)) fun (x1004 : Int) =>
  Rx.Bind (angle_Sin x1004) fun (r1005 : Int) => some r1005

noncomputable def angle_Rot (a0 : Int) : Option Rot :=
  Rx.Bind (angle_Cos a0) fun (r1006 : Int) =>
  Rx.Bind (angle_Sin a0) fun (r1007 : Int) =>
  Let (IntKind.i64.wrap (r1006 * r1006)) fun (x1008 : Int) =>
  Let (IntKind.i64.wrap (r1007 * r1007)) fun (x1009 : Int) =>
  Let (IntKind.i64.wrap (x1008 + x1009)) fun (x1010 : Int) =>
  Rx.Bind (fixed_Isqrt x1010) fun (r1011 : Int) =>
  Rx.Bind (fixed_Div r1006 r1011) fun (r1012 : Int) =>
  Rx.Bind (fixed_Div r1007 r1011) fun (r1013 : Int) => some { Cos := r1012, Sin := r1013 : Rot }

noncomputable def vec2_Rotate (r0 : Rot) (v1 : Vec) : Option Vec :=
  Rx.Bind (fixed_Saturate r0.Cos) fun (r1014 : Int) =>
  Rx.Bind (fixed_Saturate r0.Sin) fun (r1015 : Int) =>
  Rx.Bind (vec2_saturate v1) fun (r1016 : Vec) =>
  Let (IntKind.i64.wrap (r1014 * r1016.X)) fun (x1017 : Int) =>
  Let (IntKind.i64.wrap (r1015 * r1016.Y)) fun (x1018 : Int) =>
  Let (IntKind.i64.wrap (x1017 - x1018)) fun (x1019 : Int) =>
  Rx.Bind (vec2_product x1019) fun (r1020 : Int) =>
  Let (IntKind.i64.wrap (r1015 * r1016.X)) fun (x1021 : Int) =>
  Let (IntKind.i64.wrap (r1014 * r1016.Y)) fun (x1022 : Int) =>
  Let (IntKind.i64.wrap (x1021 + x1022)) fun (x1023 : Int) =>
  Rx.Bind (vec2_product x1023) fun (r1024 : Int) => some { X := r1020, Y := r1024 : Vec }

noncomputable def transform_Apply (t0 : Transform) (v1 : Vec) : Option Vec :=
  Rx.Bind (angle_Rot t0.Angle) fun (r1025 : Rot) =>
  Rx.Bind (vec2_Rotate r1025 v1) fun (r1026 : Vec) => Rx.Bind (vec2_Add r1026 t0.Position) fun (r1027 : Vec) => some r1027

noncomputable def body_WorldCenter (b0 : Body) : Option Vec :=
  Rx.Bind (body_MassData b0) fun (r1028 : MassData) =>
  Rx.Bind (transform_Apply b0.Transform r1028.Center) fun (r1029 : Vec) => some r1029

noncomputable def fixed_Ratio (n0 : Int) (d1 : Int) : Option Int :=
  Let (decide (d1 < (1 : Int))) fun (x1030 : Bool) =>
  Let (decide (d1 > (4611686018427387904 : Int))) fun (x1031 : Bool) =>
  Let (bif x1030 then true else x1031) fun (x1032 : Bool) =>
  Let (decide (n0 < (1 : Int))) fun (x1033 : Bool) =>
  Let (bif x1032 then true else x1033) fun (x1034 : Bool) =>
  if x1034 = true then some (0 : Int)
  else
  Let (decide (n0 ≥ d1)) fun (x1035 : Bool) =>
  if x1035 = true then some (65536 : Int)
  else
  Let (decide (d1 < (70368744177664 : Int))) fun (x1036 : Bool) =>
  if x1036 = true then
  Let (IntKind.i64.wrap (n0 * (65536 : Int))) fun (x1037 : Int) =>
  Rx.Bind (fixed_RoundDiv x1037 d1) fun (r1038 : Int) => some r1038
  else
  Rx.Bind (fixed_RoundDiv d1 (65536 : Int)) fun (r1039 : Int) =>
  Rx.Bind (fixed_RoundDiv n0 r1039) fun (r1040 : Int) => Let (min r1040 (65536 : Int)) fun (x1041 : Int) => some x1041

noncomputable def metrics_CenterOfMass (w0 : World_) : Option (Vec × Bool) :=
  Rx.Bind (metrics_dynamicBodies w0) fun (r1042 : List Body) =>
  Let (↑r1042.length : Int) fun (x1043 : Int) =>
  LOOP
  (fun (rec1044 : Int × Int × Vec → Option (Vec × Bool)) (s1045 : Int × Int × Vec) =>
  Let (decide (s1045.snd.fst < x1043)) fun (x1046 : Bool) =>
  if x1046 = true then
  Join
  (fun (v1047 : Int × Vec) =>
  Let (IntKind.i64.wrap (s1045.snd.fst + (1 : Int))) fun (x1048 : Int) => rec1044 (v1047.fst, x1048, v1047.snd))
  fun (j1049 : Int × Vec → Option (Vec × Bool)) =>
  Chk ((0 : Int) ≤ s1045.snd.fst ∧ s1045.snd.fst < (↑r1042.length : Int))
  (Chk ((0 : Int) ≤ s1045.snd.fst ∧ s1045.snd.fst < (↑r1042.length : Int))
  (Let (ix r1042 s1045.snd.fst) fun (x1050 : Body) =>
  Rx.Bind (body_MassData x1050) fun (r1051 : MassData) =>
  Let (decide (r1051.Mass < (1 : Int))) fun (x1052 : Bool) =>
  if x1052 = true then j1049 (s1045.fst, s1045.snd.snd)
  else
  Let (s1045.fst == (0 : Int)) fun (x1053 : Bool) =>
  if x1053 = true then Rx.Bind (body_WorldCenter x1050) fun (r1054 : Vec) => j1049 (r1051.Mass, r1054)
  else
  Rx.Bind (fixed_Add s1045.fst r1051.Mass) fun (r1055 : Int) =>
  Rx.Bind (body_WorldCenter x1050) fun (r1056 : Vec) =>
  Rx.Bind (fixed_Ratio r1051.Mass r1055) fun (r1057 : Int) =>
  Rx.Bind (vec2_Lerp s1045.snd.snd r1056 r1057) fun (r1058 : Vec) => j1049 (r1055, r1058)))
  else Let (decide (s1045.fst > (0 : Int))) fun (x1059 : Bool) => some (s1045.snd.snd, x1059))
  fuel ((0 : Int), (0 : Int), { X := (0 : Int), Y := (0 : Int) : Vec })

noncomputable def caromref23_in (x0 : Int) (low1 : Int) (high2 : Int) : Option Bool :=
  Let (decide (x0 ≥ low1)) fun (x1077 : Bool) =>
  Let (decide (x0 ≤ high2)) fun (x1078 : Bool) => Let (bif x1077 then x1078 else false) fun (x1079 : Bool) => some x1079

noncomputable def caromref04_outside (x0 : Int) : Option Bool :=
  Let (decide (x0 < (-268435456 : Int))) fun (x1080 : Bool) =>
  Let (decide (x0 > (268435456 : Int))) fun (x1081 : Bool) =>
  Let (bif x1080 then true else x1081) fun (x1082 : Bool) => some x1082

noncomputable def caromref04_Valid (p0 : Transform) : Option Bool :=
  Rx.Bind (caromref04_outside p0.Position.X) fun (r1083 : Bool) =>
  Let (!r1083) fun (x1084 : Bool) =>
  Rx.Bind (if (x1084 == true) = true then caromref04_outside p0.Position.Y else some default) fun (r1085 : Bool) =>
  Let (!r1085) fun (x1086 : Bool) =>
  Let (bif x1084 then x1086 else false) fun (x1087 : Bool) =>
  Let (decide (p0.Angle ≥ (-205888 : Int))) fun (x1088 : Bool) =>
  Let (bif x1087 then x1088 else false) fun (x1089 : Bool) =>
  Let (decide (p0.Angle < (205888 : Int))) fun (x1090 : Bool) =>
  Let (bif x1089 then x1090 else false) fun (x1091 : Bool) => some x1091

noncomputable def caromref23_inRange (b0 : Body) : Option Bool :=
  Rx.Bind (caromref23_in b0.ID (1 : Int) (1099511627776 : Int)) fun (r1092 : Bool) =>
  Let (!r1092) fun (x1093 : Bool) =>
  Rx.Bind (if (x1093 == false) = true then caromref04_Valid b0.Transform else some default) fun (r1094 : Bool) =>
  Let (!r1094) fun (x1095 : Bool) =>
  Let (bif x1093 then true else x1095) fun (x1096 : Bool) =>
  Rx.Bind
  (if (x1096 == false) = true then caromref23_in b0.Velocity.X (-16777216 : Int) (16777216 : Int) else some default)
  fun (r1097 : Bool) =>
  Let (!r1097) fun (x1098 : Bool) =>
  Let (bif x1096 then true else x1098) fun (x1099 : Bool) =>
  Rx.Bind
  (if (x1099 == false) = true then caromref23_in b0.Velocity.Y (-16777216 : Int) (16777216 : Int) else some default)
  fun (r1100 : Bool) =>
  Let (!r1100) fun (x1101 : Bool) =>
  Let (bif x1099 then true else x1101) fun (x1102 : Bool) =>
  Rx.Bind
  (if (x1102 == false) = true then caromref23_in b0.AngularVelocity (-4194304 : Int) (4194304 : Int) else some default)
  fun (r1103 : Bool) =>
  Let (!r1103) fun (x1104 : Bool) =>
  Let (bif x1102 then true else x1104) fun (x1105 : Bool) =>
  if x1105 = true then some false
  else
  Rx.Bind (caromref23_in b0.Force.X (-536870911 : Int) (536870911 : Int)) fun (r1106 : Bool) =>
  Let (!r1106) fun (x1107 : Bool) =>
  Rx.Bind
  (if (x1107 == false) = true then caromref23_in b0.Force.Y (-536870911 : Int) (536870911 : Int) else some default)
  fun (r1108 : Bool) =>
  Let (!r1108) fun (x1109 : Bool) =>
  Let (bif x1107 then true else x1109) fun (x1110 : Bool) =>
  Rx.Bind (if (x1110 == false) = true then caromref23_in b0.Torque (-536870911 : Int) (536870911 : Int) else some default)
  fun (r1111 : Bool) =>
  Let (!r1111) fun (x1112 : Bool) =>
  Let (bif x1110 then true else x1112) fun (x1113 : Bool) =>
  if x1113 = true then some false
  else
  Rx.Bind (caromref23_in b0.LinearDamping (0 : Int) (65536 : Int)) fun (r1114 : Bool) =>
  Rx.Bind (if (r1114 == true) = true then caromref23_in b0.AngularDamping (0 : Int) (65536 : Int) else some default)
  fun (r1115 : Bool) =>
  Let (bif r1114 then r1115 else false) fun (x1116 : Bool) =>
  Rx.Bind (if (x1116 == true) = true then caromref23_in b0.GravityScale (-262144 : Int) (262144 : Int) else some default)
  fun (r1117 : Bool) =>
  Let (bif x1116 then r1117 else false) fun (x1118 : Bool) =>
  Rx.Bind (if (x1118 == true) = true then caromref23_in b0.IdleSteps (0 : Int) (1048576 : Int) else some default)
  fun (r1119 : Bool) => Let (bif x1118 then r1119 else false) fun (x1120 : Bool) => some x1120

noncomputable def caromref12_countMatches (s0 : Shape) : Option Bool :=
  Let (↑s0.Vertices.length : Int) fun (x1121 : Int) =>
  Let (s0.Kind == (3 : Int)) fun (x1122 : Bool) =>
  if x1122 = true then
  Let (decide (x1121 ≥ (3 : Int))) fun (x1123 : Bool) =>
  Let (decide (x1121 ≤ (8 : Int))) fun (x1124 : Bool) =>
  Let (bif x1123 then x1124 else false) fun (x1125 : Bool) => some x1125
  else Let (x1121 == s0.Kind) fun (x1126 : Bool) => some x1126

noncomputable def caromref12_within (x0 : Int) (m1 : Int) : Option Bool :=
  Let (IntKind.i64.wrap ((0 : Int) - m1)) fun (x1127 : Int) =>
  Let (decide (x0 ≥ x1127)) fun (x1128 : Bool) =>
  Let (decide (x0 ≤ m1)) fun (x1129 : Bool) => Let (bif x1128 then x1129 else false) fun (x1130 : Bool) => some x1130

noncomputable def caromref01_Saturate (x0 : Int) : Option Int :=
  Let (decide (x0 > (536870911 : Int))) fun (x1131 : Bool) =>
  if x1131 = true then some (536870911 : Int)
  else
  Let (decide (x0 < (-536870911 : Int))) fun (x1132 : Bool) => if x1132 = true then some (-536870911 : Int) else some x0

noncomputable def caromref01_Sub (a0 : Int) (b1 : Int) : Option Int :=
  Rx.Bind (caromref01_Saturate a0) fun (r1133 : Int) =>
  Rx.Bind (caromref01_Saturate b1) fun (r1134 : Int) =>
  Let (IntKind.i64.wrap (r1133 - r1134)) fun (x1135 : Int) =>
  Rx.Bind (caromref01_Saturate x1135) fun (r1136 : Int) => some r1136

noncomputable def caromref03_Sub (a0 : Vec) (b1 : Vec) : Option Vec :=
  Rx.Bind (caromref01_Sub a0.X b1.X) fun (r1137 : Int) =>
  Rx.Bind (caromref01_Sub a0.Y b1.Y) fun (r1138 : Int) => some { X := r1137, Y := r1138 : Vec }

noncomputable def caromref03_Saturated (v0 : Vec) : Option Vec :=
  Rx.Bind (caromref01_Saturate v0.X) fun (r1139 : Int) =>
  Rx.Bind (caromref01_Saturate v0.Y) fun (r1140 : Int) => some { X := r1139, Y := r1140 : Vec }

noncomputable def caromref01_outOfRange (n0 : Int) : Option Bool :=
  Let (decide (n0 > (4611686018427387904 : Int))) fun (x1141 : Bool) =>
  Let (decide (n0 < (-4611686018427387904 : Int))) fun (x1142 : Bool) =>
  Let (bif x1141 then true else x1142) fun (x1143 : Bool) => some x1143

noncomputable def caromref01_Isqrt (n0 : Int) : Option Int :=
  Let (decide (n0 < (0 : Int))) fun (x1144 : Bool) =>
  Rx.Bind (if (x1144 == false) = true then caromref01_outOfRange n0 else some default) fun (r1145 : Bool) =>
  Let (bif x1144 then true else r1145) fun (x1146 : Bool) =>
  if x1146 = true then some (0 : Int)
  else
  LOOP
  (fun (rec1147 : Int × Int → Option Int) (s1148 : Int × Int) =>
  Let (decide (s1148.snd > (0 : Int))) fun (x1149 : Bool) =>
  if x1149 = true then
  Join
  (fun (v1150 : Int) => Let (IntKind.i64.wrap (Int.tdiv s1148.snd (2 : Int))) fun (x1151 : Int) => rec1147 (v1150, x1151))
  fun (j1152 : Int → Option Int) =>
  Let (IntKind.i64.wrap (s1148.fst + s1148.snd)) fun (x1153 : Int) =>
  Let (IntKind.i64.wrap (s1148.fst + s1148.snd)) fun (x1154 : Int) =>
  Chk (x1154 ≠ (0 : Int))
  (Let (IntKind.i64.wrap (n0.tdiv x1154)) fun (x1155 : Int) =>
  Let (decide (x1153 ≤ x1155)) fun (x1156 : Bool) =>
  if x1156 = true then Let (IntKind.i64.wrap (s1148.fst + s1148.snd)) fun (x1157 : Int) => j1152 x1157
  else j1152 s1148.fst)
  else some s1148.fst)
  fuel ((0 : Int), (2147483648 : Int))

noncomputable def caromref03_Length (v0 : Vec) : Option Int :=
  Rx.Bind (caromref03_Saturated v0) fun (r1158 : Vec) =>
  Let (IntKind.i64.wrap (r1158.X * r1158.X)) fun (x1159 : Int) =>
  Let (IntKind.i64.wrap (r1158.Y * r1158.Y)) fun (x1160 : Int) =>
  Let (IntKind.i64.wrap (x1159 + x1160)) fun (x1161 : Int) =>
  Rx.Bind (caromref01_Isqrt x1161) fun (r1162 : Int) => some r1162

noncomputable def caromref11_inRange (v0 : Vec) : Option Bool :=
  Let (decide (v0.X ≥ (-1048576 : Int))) fun (x1163 : Bool) =>
  Let (decide (v0.X ≤ (1048576 : Int))) fun (x1164 : Bool) =>
  Let (bif x1163 then x1164 else false) fun (x1165 : Bool) =>
  Let (decide (v0.Y ≥ (-1048576 : Int))) fun (x1166 : Bool) =>
  Let (bif x1165 then x1166 else false) fun (x1167 : Bool) =>
  Let (decide (v0.Y ≤ (1048576 : Int))) fun (x1168 : Bool) =>
  Let (bif x1167 then x1168 else false) fun (x1169 : Bool) => some x1169

noncomputable def caromref03_Orientation (a0 : Vec) (b1 : Vec) (c2 : Vec) : Option Int :=
  Rx.Bind (caromref03_Saturated a0) fun (r1170 : Vec) =>
  Rx.Bind (caromref03_Saturated b1) fun (r1171 : Vec) =>
  Rx.Bind (caromref03_Saturated c2) fun (r1172 : Vec) =>
  Let (IntKind.i64.wrap (r1171.X - r1170.X)) fun (x1173 : Int) =>
  Let (IntKind.i64.wrap (r1172.Y - r1170.Y)) fun (x1174 : Int) =>
  Let (IntKind.i64.wrap (x1173 * x1174)) fun (x1175 : Int) =>
  Let (IntKind.i64.wrap (r1171.Y - r1170.Y)) fun (x1176 : Int) =>
  Let (IntKind.i64.wrap (r1172.X - r1170.X)) fun (x1177 : Int) =>
  Let (IntKind.i64.wrap (x1176 * x1177)) fun (x1178 : Int) =>
  Let (IntKind.i64.wrap (x1175 - x1178)) fun (x1179 : Int) =>
  Let (decide (x1179 > (0 : Int))) fun (x1180 : Bool) =>
  if x1180 = true then some (1 : Int)
  else Let (decide (x1179 < (0 : Int))) fun (x1181 : Bool) => if x1181 = true then some (-1 : Int) else some (0 : Int)

noncomputable def caromref11_IsConvex (vertices0 : (List Vec)) : Option Bool :=
  Let (↑vertices0.length : Int) fun (x1182 : Int) =>
  Let (decide (x1182 < (3 : Int))) fun (x1183 : Bool) =>
  Let (decide (x1182 > (8 : Int))) fun (x1184 : Bool) =>
  Let (bif x1183 then true else x1184) fun (x1185 : Bool) =>
  if x1185 = true then some false
  else
  LOOP
  (fun (rec1186 : Int → Option Bool) (s1187 : Int) =>
  Let (decide (s1187 < x1182)) fun (x1188 : Bool) =>
  if x1188 = true then
  Chk ((0 : Int) ≤ s1187 ∧ s1187 < (↑vertices0.length : Int))
  (Let (ix vertices0 s1187) fun (x1189 : Vec) =>
  Rx.Bind (caromref11_inRange x1189) fun (r1190 : Bool) =>
  Let (!r1190) fun (x1191 : Bool) =>
  if x1191 = true then some false else Let (IntKind.i64.wrap (s1187 + (1 : Int))) fun (x1192 : Int) => rec1186 x1192)
  else
  LOOP
  (fun (rec1193 : Int → Option Bool) (s1194 : Int) =>
  Let (decide (s1194 < x1182)) fun (x1195 : Bool) =>
  if x1195 = true then
  Let (IntKind.i64.wrap (s1194 + (1 : Int))) fun (x1196 : Int) =>
  Chk (x1182 ≠ (0 : Int))
  (Let (x1196.tmod x1182) fun (x1197 : Int) =>
  LOOP
  (fun (rec1198 : Int → Option Bool) (s1199 : Int) =>
  Let (decide (s1199 < x1182)) fun (x1200 : Bool) =>
  if x1200 = true then
  Let (s1199 != s1194) fun (x1201 : Bool) =>
  Let (s1199 != x1197) fun (x1202 : Bool) =>
  Let (bif x1201 then x1202 else false) fun (x1203 : Bool) =>
  Chk ((x1203 == true) = true → (0 : Int) ≤ s1194 ∧ s1194 < (↑vertices0.length : Int))
  (Let (ix vertices0 s1194) fun (x1204 : Vec) =>
  Chk ((x1203 == true) = true → (0 : Int) ≤ x1197 ∧ x1197 < (↑vertices0.length : Int))
  (Let (ix vertices0 x1197) fun (x1205 : Vec) =>
  Chk ((x1203 == true) = true → (0 : Int) ≤ s1199 ∧ s1199 < (↑vertices0.length : Int))
  (Let (ix vertices0 s1199) fun (x1206 : Vec) =>
  Rx.Bind (if (x1203 == true) = true then caromref03_Orientation x1204 x1205 x1206 else some default) fun (r1207 : Int) =>
  Let (r1207 != (1 : Int)) fun (x1208 : Bool) =>
  Let (bif x1203 then x1208 else false) fun (x1209 : Bool) =>
  if x1209 = true then some false else Let (IntKind.i64.wrap (s1199 + (1 : Int))) fun (x1210 : Int) => rec1198 x1210)))
  else Let (IntKind.i64.wrap (s1194 + (1 : Int))) fun (x1211 : Int) => rec1193 x1211)
  fuel (0 : Int))
  else some true)
  fuel (0 : Int))
  fuel (0 : Int)

noncomputable def caromref11_ShortestEdge (vertices0 : (List Vec)) : Option Int :=
  Rx.Bind (caromref11_IsConvex vertices0) fun (r1212 : Bool) =>
  Let (!r1212) fun (x1213 : Bool) =>
  if x1213 = true then some (0 : Int)
  else
  LOOP
  (fun (rec1214 : Int × Int → Option Int) (s1215 : Int × Int) =>
  Let (↑vertices0.length : Int) fun (x1216 : Int) =>
  Let (decide (s1215.snd < x1216)) fun (x1217 : Bool) =>
  if x1217 = true then
  Join (fun (v1218 : Int) => Let (IntKind.i64.wrap (s1215.snd + (1 : Int))) fun (x1219 : Int) => rec1214 (v1218, x1219))
  fun (j1220 : Int → Option Int) =>
  Let (IntKind.i64.wrap (s1215.snd + (1 : Int))) fun (x1221 : Int) =>
  Let (↑vertices0.length : Int) fun (x1222 : Int) =>
  Chk (x1222 ≠ (0 : Int))
  (Let (x1221.tmod x1222) fun (x1223 : Int) =>
  Chk ((0 : Int) ≤ x1223 ∧ x1223 < (↑vertices0.length : Int))
  (Let (ix vertices0 x1223) fun (x1224 : Vec) =>
  Chk ((0 : Int) ≤ s1215.snd ∧ s1215.snd < (↑vertices0.length : Int))
  (Let (ix vertices0 s1215.snd) fun (x1225 : Vec) =>
  Rx.Bind (caromref03_Sub x1224 x1225) fun (r1226 : Vec) =>
  Rx.Bind (caromref03_Length r1226) fun (r1227 : Int) =>
  Let (decide (s1215.fst < (0 : Int))) fun (x1228 : Bool) =>
  Let (decide (r1227 < s1215.fst)) fun (x1229 : Bool) =>
  Let (bif x1228 then true else x1229) fun (x1230 : Bool) => if x1230 = true then j1220 r1227 else j1220 s1215.fst)))
  else some s1215.fst)
  fuel ((-1 : Int), (0 : Int))

noncomputable def caromref01_RoundDiv (n0 : Int) (d1 : Int) : Option Int :=
  Let (decide (d1 < (1 : Int))) fun (x1231 : Bool) =>
  Rx.Bind (if (x1231 == false) = true then caromref01_outOfRange d1 else some default) fun (r1232 : Bool) =>
  Let (bif x1231 then true else r1232) fun (x1233 : Bool) =>
  Rx.Bind (if (x1233 == false) = true then caromref01_outOfRange n0 else some default) fun (r1234 : Bool) =>
  Let (bif x1233 then true else r1234) fun (x1235 : Bool) =>
  if x1235 = true then some (0 : Int)
  else
  Join
  (fun (v1236 : Int) =>
  Chk (d1 ≠ (0 : Int))
  (Let (IntKind.i64.wrap (v1236.tdiv d1)) fun (x1237 : Int) =>
  Let (IntKind.i64.wrap (x1237 * d1)) fun (x1238 : Int) =>
  Let (IntKind.i64.wrap (v1236 - x1238)) fun (x1239 : Int) =>
  Join
  (fun (v1240 : Int) =>
  Let (decide (n0 < (0 : Int))) fun (x1241 : Bool) =>
  if x1241 = true then Let (IntKind.i64.wrap ((0 : Int) - v1240)) fun (x1242 : Int) => some x1242 else some v1240)
  fun (j1243 : Int → Option Int) =>
  Let (IntKind.i64.wrap (d1 - x1239)) fun (x1244 : Int) =>
  Let (decide (x1239 ≥ x1244)) fun (x1245 : Bool) =>
  if x1245 = true then Let (IntKind.i64.wrap (x1237 + (1 : Int))) fun (x1246 : Int) => j1243 x1246 else j1243 x1237))
  fun (j1247 : Int → Option Int) =>
  Let (decide (n0 < (0 : Int))) fun (x1248 : Bool) =>
  if x1248 = true then Let (IntKind.i64.wrap ((0 : Int) - n0)) fun (x1249 : Int) => j1247 x1249 else j1247 n0

noncomputable def caromref11_cross (v0 : (List Vec)) (i1 : Int) : Option Int :=
  Chk ((0 : Int) ≤ i1 ∧ i1 < (↑v0.length : Int))
  (Let (ix v0 i1) fun (x1250 : Vec) =>
  Chk ((0 : Int) ≤ (0 : Int) ∧ (0 : Int) < (↑v0.length : Int))
  (Let (ix v0 (0 : Int)) fun (x1251 : Vec) =>
  Let (IntKind.i64.wrap (x1250.X - x1251.X)) fun (x1252 : Int) =>
  Chk ((0 : Int) ≤ i1 ∧ i1 < (↑v0.length : Int))
  (Let (ix v0 i1) fun (x1253 : Vec) =>
  Chk ((0 : Int) ≤ (0 : Int) ∧ (0 : Int) < (↑v0.length : Int))
  (Let (ix v0 (0 : Int)) fun (x1254 : Vec) =>
  Let (IntKind.i64.wrap (x1253.Y - x1254.Y)) fun (x1255 : Int) =>
  Let (IntKind.i64.wrap (i1 + (1 : Int))) fun (x1256 : Int) =>
  Chk ((0 : Int) ≤ x1256 ∧ x1256 < (↑v0.length : Int))
  (Let (ix v0 x1256) fun (x1257 : Vec) =>
  Chk ((0 : Int) ≤ (0 : Int) ∧ (0 : Int) < (↑v0.length : Int))
  (Let (ix v0 (0 : Int)) fun (x1258 : Vec) =>
  Let (IntKind.i64.wrap (x1257.X - x1258.X)) fun (x1259 : Int) =>
  Let (IntKind.i64.wrap (i1 + (1 : Int))) fun (x1260 : Int) =>
  Chk ((0 : Int) ≤ x1260 ∧ x1260 < (↑v0.length : Int))
  (Let (ix v0 x1260) fun (x1261 : Vec) =>
  Chk ((0 : Int) ≤ (0 : Int) ∧ (0 : Int) < (↑v0.length : Int))
  (Let (ix v0 (0 : Int)) fun (x1262 : Vec) =>
  Let (IntKind.i64.wrap (x1261.Y - x1262.Y)) fun (x1263 : Int) =>
  Let (IntKind.i64.wrap (x1252 * x1263)) fun (x1264 : Int) =>
  Let (IntKind.i64.wrap (x1255 * x1259)) fun (x1265 : Int) =>
  Let (IntKind.i64.wrap (x1264 - x1265)) fun (x1266 : Int) =>
  Rx.Bind (caromref01_RoundDiv x1266 (65536 : Int)) fun (r1267 : Int) => some r1267))))))))

noncomputable def caromref11_Area (vertices0 : (List Vec)) : Option Int :=
  Rx.Bind (caromref11_IsConvex vertices0) fun (r1268 : Bool) =>
  Let (!r1268) fun (x1269 : Bool) =>
  if x1269 = true then some (0 : Int)
  else
  LOOP
  (fun (rec1270 : Int × Int → Option Int) (s1271 : Int × Int) =>
  Let (IntKind.i64.wrap (s1271.snd + (1 : Int))) fun (x1272 : Int) =>
  Let (↑vertices0.length : Int) fun (x1273 : Int) =>
  Let (decide (x1272 < x1273)) fun (x1274 : Bool) =>
  if x1274 = true then
  Rx.Bind (caromref11_cross vertices0 s1271.snd) fun (r1275 : Int) =>
  Let (IntKind.i64.wrap (s1271.fst + r1275)) fun (x1276 : Int) =>
  Let (IntKind.i64.wrap (s1271.snd + (1 : Int))) fun (x1277 : Int) => rec1270 (x1276, x1277)
  else Rx.Bind (caromref01_RoundDiv s1271.fst (2 : Int)) fun (r1278 : Int) => some r1278)
  fuel ((0 : Int), (1 : Int))

noncomputable def caromref12_Validate (s0 : Shape) : Option Int :=
  Let (decide (s0.Kind < (1 : Int))) fun (x1279 : Bool) =>
  Let (decide (s0.Kind > (3 : Int))) fun (x1280 : Bool) =>
  Let (bif x1279 then true else x1280) fun (x1281 : Bool) =>
  if x1281 = true then some (10 : Int)
  else
  Rx.Bind (caromref12_countMatches s0) fun (r1282 : Bool) =>
  Let (!r1282) fun (x1283 : Bool) =>
  if x1283 = true then some (11 : Int)
  else
  LOOP
  (fun (rec1284 : Int → Option Int) (s1285 : Int) =>
  Let (↑s0.Vertices.length : Int) fun (x1286 : Int) =>
  Let (decide (s1285 < x1286)) fun (x1287 : Bool) =>
  if x1287 = true then
  Chk ((0 : Int) ≤ s1285 ∧ s1285 < (↑s0.Vertices.length : Int))
  (Let (ix s0.Vertices s1285) fun (x1288 : Vec) =>
  Rx.Bind (caromref12_within x1288.X (1048576 : Int)) fun (r1289 : Bool) =>
  Let (!r1289) fun (x1290 : Bool) =>
  Chk ((x1290 == false) = true → (0 : Int) ≤ s1285 ∧ s1285 < (↑s0.Vertices.length : Int))
  (Let (ix s0.Vertices s1285) fun (x1291 : Vec) =>
  Rx.Bind (if (x1290 == false) = true then caromref12_within x1291.Y (1048576 : Int) else some default)
  fun (r1292 : Bool) =>
  Let (!r1292) fun (x1293 : Bool) =>
  Let (bif x1290 then true else x1293) fun (x1294 : Bool) =>
  if x1294 = true then some (6 : Int) else Let (IntKind.i64.wrap (s1285 + (1 : Int))) fun (x1295 : Int) => rec1284 x1295))
  else
  Let (s0.Kind == (3 : Int)) fun (x1296 : Bool) =>
  Let (s0.Radius != (0 : Int)) fun (x1297 : Bool) =>
  Let (bif x1296 then x1297 else false) fun (x1298 : Bool) =>
  Let (s0.Kind != (3 : Int)) fun (x1299 : Bool) =>
  Let (decide (s0.Radius < (2048 : Int))) fun (x1300 : Bool) =>
  Let (decide (s0.Radius > (524288 : Int))) fun (x1301 : Bool) =>
  Let (bif x1300 then true else x1301) fun (x1302 : Bool) =>
  Let (bif x1299 then x1302 else false) fun (x1303 : Bool) =>
  Let (bif x1298 then true else x1303) fun (x1304 : Bool) =>
  if x1304 = true then some (6 : Int)
  else
  Let (s0.Kind == (2 : Int)) fun (x1305 : Bool) =>
  Chk ((x1305 == true) = true → (0 : Int) ≤ (1 : Int) ∧ (1 : Int) < (↑s0.Vertices.length : Int))
  (Let (ix s0.Vertices (1 : Int)) fun (x1306 : Vec) =>
  Chk ((x1305 == true) = true → (0 : Int) ≤ (0 : Int) ∧ (0 : Int) < (↑s0.Vertices.length : Int))
  (Let (ix s0.Vertices (0 : Int)) fun (x1307 : Vec) =>
  Rx.Bind (if (x1305 == true) = true then caromref03_Sub x1306 x1307 else some { X := default, Y := default : Vec })
  fun (r1308 : Vec) =>
  Rx.Bind (if (x1305 == true) = true then caromref03_Length r1308 else some default) fun (r1309 : Int) =>
  Let (decide (r1309 < (4096 : Int))) fun (x1310 : Bool) =>
  Let (bif x1305 then x1310 else false) fun (x1311 : Bool) =>
  if x1311 = true then some (12 : Int)
  else
  Let (s0.Kind == (3 : Int)) fun (x1312 : Bool) =>
  Rx.Bind (if (x1312 == true) = true then caromref11_IsConvex s0.Vertices else some default) fun (r1313 : Bool) =>
  Let (!r1313) fun (x1314 : Bool) =>
  Rx.Bind (if (x1312 == true && x1314 == false) = true then caromref11_ShortestEdge s0.Vertices else some default)
  fun (r1315 : Int) =>
  Let (decide (r1315 < (4096 : Int))) fun (x1316 : Bool) =>
  Let (bif x1314 then true else x1316) fun (x1317 : Bool) =>
  Rx.Bind (if (x1312 == true && x1317 == false) = true then caromref11_Area s0.Vertices else some default)
  fun (r1318 : Int) =>
  Let (decide (r1318 < (256 : Int))) fun (x1319 : Bool) =>
  Let (bif x1317 then true else x1319) fun (x1320 : Bool) =>
  Let (bif x1312 then x1320 else false) fun (x1321 : Bool) => if x1321 = true then some (12 : Int) else some (0 : Int))))
  fuel (0 : Int)

noncomputable def caromref23_ValidateFixture (f0 : Fixture) : Option Int :=
  Rx.Bind (caromref12_Validate f0.Shape) fun (r1322 : Int) =>
  Let (r1322 != (0 : Int)) fun (x1323 : Bool) =>
  if x1323 = true then some r1322
  else
  Rx.Bind (caromref23_in f0.Density (0 : Int) (262144 : Int)) fun (r1324 : Bool) =>
  Let (!r1324) fun (x1325 : Bool) =>
  Rx.Bind (if (x1325 == false) = true then caromref23_in f0.Friction (0 : Int) (131072 : Int) else some default)
  fun (r1326 : Bool) =>
  Let (!r1326) fun (x1327 : Bool) =>
  Let (bif x1325 then true else x1327) fun (x1328 : Bool) =>
  Rx.Bind (if (x1328 == false) = true then caromref23_in f0.Restitution (0 : Int) (65536 : Int) else some default)
  fun (r1329 : Bool) =>
  Let (!r1329) fun (x1330 : Bool) =>
  Let (bif x1328 then true else x1330) fun (x1331 : Bool) =>
  Rx.Bind (if (x1331 == false) = true then caromref23_in f0.Category (0 : Int) (65535 : Int) else some default)
  fun (r1332 : Bool) =>
  Let (!r1332) fun (x1333 : Bool) =>
  Let (bif x1331 then true else x1333) fun (x1334 : Bool) =>
  Rx.Bind (if (x1334 == false) = true then caromref23_in f0.Mask (0 : Int) (65535 : Int) else some default)
  fun (r1335 : Bool) =>
  Let (!r1335) fun (x1336 : Bool) =>
  Let (bif x1334 then true else x1336) fun (x1337 : Bool) =>
  Rx.Bind (if (x1337 == false) = true then caromref23_in f0.Group (-32 : Int) (32 : Int) else some default)
  fun (r1338 : Bool) =>
  Let (!r1338) fun (x1339 : Bool) =>
  Let (bif x1337 then true else x1339) fun (x1340 : Bool) => if x1340 = true then some (6 : Int) else some (0 : Int)

noncomputable def caromref23_Validate (b0 : Body) : Option Int :=
  Let (b0.Kind != (1 : Int)) fun (x1341 : Bool) =>
  Let (b0.Kind != (2 : Int)) fun (x1342 : Bool) =>
  Let (bif x1341 then x1342 else false) fun (x1343 : Bool) =>
  Let (b0.Kind != (3 : Int)) fun (x1344 : Bool) =>
  Let (bif x1343 then x1344 else false) fun (x1345 : Bool) =>
  if x1345 = true then some (10 : Int)
  else
  Rx.Bind (caromref23_inRange b0) fun (r1346 : Bool) =>
  Let (!r1346) fun (x1347 : Bool) =>
  if x1347 = true then some (6 : Int)
  else
  Let (↑b0.Fixtures.length : Int) fun (x1348 : Int) =>
  Let (decide (x1348 > (4 : Int))) fun (x1349 : Bool) =>
  if x1349 = true then some (11 : Int)
  else
  LOOP
  (fun (rec1350 : Int → Option Int) (s1351 : Int) =>
  Let (↑b0.Fixtures.length : Int) fun (x1352 : Int) =>
  Let (decide (s1351 < x1352)) fun (x1353 : Bool) =>
  if x1353 = true then
  Chk ((0 : Int) ≤ s1351 ∧ s1351 < (↑b0.Fixtures.length : Int))
  (Let (ix b0.Fixtures s1351) fun (x1354 : Fixture) =>
  Rx.Bind (caromref23_ValidateFixture x1354) fun (r1355 : Int) =>
  Let (r1355 != (0 : Int)) fun (x1356 : Bool) =>
  if x1356 = true then some (13 : Int) else Let (IntKind.i64.wrap (s1351 + (1 : Int))) fun (x1357 : Int) => rec1350 x1357)
  else
  Let (!(decide (b0.Velocity.X = (0 : Int)) && decide (b0.Velocity.Y = (0 : Int)))) fun (x1358 : Bool) =>
  Let (b0.AngularVelocity != (0 : Int)) fun (x1359 : Bool) =>
  Let (bif x1358 then true else x1359) fun (x1360 : Bool) =>
  Let (!(decide (b0.Force.X = (0 : Int)) && decide (b0.Force.Y = (0 : Int)))) fun (x1361 : Bool) =>
  Let (b0.Torque != (0 : Int)) fun (x1362 : Bool) =>
  Let (bif x1361 then true else x1362) fun (x1363 : Bool) =>
  Let (b0.Kind == (1 : Int)) fun (x1364 : Bool) =>
  Let (bif x1360 then true else x1363) fun (x1365 : Bool) =>
  Let (bif x1364 then x1365 else false) fun (x1366 : Bool) =>
  Let (b0.Kind != (3 : Int)) fun (x1367 : Bool) =>
  Let (bif b0.Asleep then true else b0.Bullet) fun (x1368 : Bool) =>
  Let (bif x1367 then x1368 else false) fun (x1369 : Bool) =>
  Let (bif x1366 then true else x1369) fun (x1370 : Bool) =>
  Let (bif b0.Asleep then x1360 else false) fun (x1371 : Bool) =>
  Let (bif x1370 then true else x1371) fun (x1372 : Bool) => if x1372 = true then some (14 : Int) else some (0 : Int))
  fuel (0 : Int)

noncomputable def shape_Vertices (s0 : Shape) (p1 : Transform) : Option (List Vec) :=
  Rx.Bind (shape_Validate s0) fun (r2049 : Int) =>
  Let (r2049 != (0 : Int)) fun (x2050 : Bool) =>
  if x2050 = true then some []
  else
  Let (↑s0.Vertices.length : Int) fun (x2051 : Int) =>
  LOOP
  (fun (rec2052 : List Vec × Int → Option (List Vec)) (s2053 : List Vec × Int) =>
  Let (decide (s2053.snd < x2051)) fun (x2054 : Bool) =>
  if x2054 = true then
  Chk ((0 : Int) ≤ s2053.snd ∧ s2053.snd < (↑s0.Vertices.length : Int))
  (Let (ix s0.Vertices s2053.snd) fun (x2055 : Vec) =>
  Rx.Bind (transform_Apply p1 x2055) fun (r2056 : Vec) =>
  Chk ((List.length s2053.fst + [r2056].length) * (16 : Nat) ≤ (140737488355328 : Nat))
  (Let (s2053.fst ++ [r2056]) fun (x2057 : List Vec) =>
  Let (IntKind.i64.wrap (s2053.snd + (1 : Int))) fun (x2058 : Int) => rec2052 (x2057, x2058)))
  else some s2053.fst)
  fuel ([], (0 : Int))

noncomputable def aabb_saturate (v0 : Vec) : Option Vec :=
  Rx.Bind (fixed_Saturate v0.X) fun (r2059 : Int) =>
  Rx.Bind (fixed_Saturate v0.Y) fun (r2060 : Int) => some { X := r2059, Y := r2060 : Vec }

noncomputable def aabb_lower (a0 : Vec) (b1 : Vec) : Option Vec :=
  Let (min a0.X b1.X) fun (x2061 : Int) => Let (min a0.Y b1.Y) fun (x2062 : Int) => some { X := x2061, Y := x2062 : Vec }

noncomputable def aabb_upper (a0 : Vec) (b1 : Vec) : Option Vec :=
  Let (max a0.X b1.X) fun (x2063 : Int) => Let (max a0.Y b1.Y) fun (x2064 : Int) => some { X := x2063, Y := x2064 : Vec }

noncomputable def aabb_FromPoints (points0 : (List Vec)) : Option (AABB × Bool) :=
  Let (↑points0.length : Int) fun (x2065 : Int) =>
  Let (x2065 == (0 : Int)) fun (x2066 : Bool) =>
  if x2066 = true then
  some
  ({ Min := { X := (0 : Int), Y := (0 : Int) : Vec }, Max := { X := (0 : Int), Y := (0 : Int) : Vec } : AABB }, false)
  else
  Chk ((0 : Int) ≤ (0 : Int) ∧ (0 : Int) < (↑points0.length : Int))
  (Let (ix points0 (0 : Int)) fun (x2067 : Vec) =>
  Rx.Bind (aabb_saturate x2067) fun (r2068 : Vec) =>
  Chk ((0 : Int) ≤ (1 : Int) ∧ (1 : Int) ≤ (↑points0.length : Int))
  (Let (List.drop (1 : Nat) points0) fun (x2069 : List Vec) =>
  Let (↑x2069.length : Int) fun (x2070 : Int) =>
  LOOP
  (fun (rec2071 : Int × AABB → Option (AABB × Bool)) (s2072 : Int × AABB) =>
  Let (decide (s2072.fst < x2070)) fun (x2073 : Bool) =>
  if x2073 = true then
  Chk ((0 : Int) ≤ s2072.fst ∧ s2072.fst < (↑x2069.length : Int))
  (Let (ix x2069 s2072.fst) fun (x2074 : Vec) =>
  Rx.Bind (aabb_saturate x2074) fun (r2075 : Vec) =>
  Rx.Bind (aabb_lower s2072.snd.Min r2075) fun (r2076 : Vec) =>
  Rx.Bind (aabb_upper s2072.snd.Max r2075) fun (r2077 : Vec) =>
  Let (IntKind.i64.wrap (s2072.fst + (1 : Int))) fun (x2078 : Int) =>
  rec2071 (x2078, { Min := r2076, Max := r2077 : AABB }))
  else some (s2072.snd, true))
  fuel ((0 : Int), { Min := r2068, Max := r2068 : AABB })))

noncomputable def shape_Bounds (s0 : Shape) (p1 : Transform) : Option AABB :=
  Rx.Bind (shape_Vertices s0 p1) fun (r2079 : List Vec) =>
  Rx.Bind (aabb_FromPoints r2079) fun (r2080 : AABB × Bool) =>
  Let (!r2080.snd) fun (x2081 : Bool) =>
  if x2081 = true then
  some { Min := { X := (0 : Int), Y := (0 : Int) : Vec }, Max := { X := (0 : Int), Y := (0 : Int) : Vec } : AABB }
  else
  Rx.Bind (vec2_Sub r2080.fst.Min { X := s0.Radius, Y := s0.Radius : Vec }) fun (r2082 : Vec) =>
  Rx.Bind (vec2_Add r2080.fst.Max { X := s0.Radius, Y := s0.Radius : Vec }) fun (r2083 : Vec) =>
  some { Min := r2082, Max := r2083 : AABB }

noncomputable def aabb_saturated (v0 : Vec) : Option Bool :=
  Rx.Bind (fixed_Saturate v0.X) fun (r2084 : Int) =>
  Let (r2084 == v0.X) fun (x2085 : Bool) =>
  Rx.Bind (if (x2085 == true) = true then fixed_Saturate v0.Y else some default) fun (r2086 : Int) =>
  Let (r2086 == v0.Y) fun (x2087 : Bool) => Let (bif x2085 then x2087 else false) fun (x2088 : Bool) => some x2088

noncomputable def aabb_Valid (b0 : AABB) : Option Bool :=
  Let (decide (b0.Min.X ≤ b0.Max.X)) fun (x2089 : Bool) =>
  Let (decide (b0.Min.Y ≤ b0.Max.Y)) fun (x2090 : Bool) =>
  Let (bif x2089 then x2090 else false) fun (x2091 : Bool) =>
  Rx.Bind (if (x2091 == true) = true then aabb_saturated b0.Min else some default) fun (r2092 : Bool) =>
  Let (bif x2091 then r2092 else false) fun (x2093 : Bool) =>
  Rx.Bind (if (x2093 == true) = true then aabb_saturated b0.Max else some default) fun (r2094 : Bool) =>
  Let (bif x2093 then r2094 else false) fun (x2095 : Bool) => some x2095

noncomputable def aabb_Union (a0 : AABB) (b1 : AABB) : Option AABB :=
  Rx.Bind (aabb_Valid a0) fun (r2096 : Bool) =>
  Rx.Bind (if (r2096 == true) = true then aabb_Valid b1 else some default) fun (r2097 : Bool) =>
  Let (bif r2096 then r2097 else false) fun (x2098 : Bool) =>
  if x2098 = true then
  Rx.Bind (aabb_lower a0.Min b1.Min) fun (r2099 : Vec) =>
  Rx.Bind (aabb_upper a0.Max b1.Max) fun (r2100 : Vec) => some { Min := r2099, Max := r2100 : AABB }
  else
  Rx.Bind (aabb_Valid a0) fun (r2101 : Bool) =>
  if r2101 = true then some a0
  else
  Rx.Bind (aabb_Valid b1) fun (r2102 : Bool) =>
  if r2102 = true then some b1
  else some { Min := { X := (0 : Int), Y := (0 : Int) : Vec }, Max := { X := (0 : Int), Y := (0 : Int) : Vec } : AABB }

noncomputable def body_Bounds (b0 : Body) : Option (AABB × Bool) :=
  Let (↑b0.Fixtures.length : Int) fun (x2103 : Int) =>
  LOOP
  (fun (rec2104 : Int × AABB → Option (AABB × Bool)) (s2105 : Int × AABB) =>
  Let (decide (s2105.fst < x2103)) fun (x2106 : Bool) =>
  if x2106 = true then
  Join (fun (v2107 : AABB) => Let (IntKind.i64.wrap (s2105.fst + (1 : Int))) fun (x2108 : Int) => rec2104 (x2108, v2107))
  fun (j2109 : AABB → Option (AABB × Bool)) =>
  Chk ((0 : Int) ≤ s2105.fst ∧ s2105.fst < (↑b0.Fixtures.length : Int))
  (Let (ix b0.Fixtures s2105.fst) fun (x2110 : Fixture) =>
  Rx.Bind (shape_Bounds x2110.Shape b0.Transform) fun (r2111 : AABB) =>
  Let (s2105.fst == (0 : Int)) fun (x2112 : Bool) =>
  if x2112 = true then j2109 r2111 else Rx.Bind (aabb_Union s2105.snd r2111) fun (r2113 : AABB) => j2109 r2113)
  else
  Let (↑b0.Fixtures.length : Int) fun (x2114 : Int) =>
  Let (decide (x2114 > (0 : Int))) fun (x2115 : Bool) => some (s2105.snd, x2115))
  fuel
  ((0 : Int), { Min := { X := (0 : Int), Y := (0 : Int) : Vec }, Max := { X := (0 : Int), Y := (0 : Int) : Vec } : AABB })

noncomputable def metrics_Bounds (w0 : World_) : Option (AABB × Bool) :=
  Rx.Bind (world_Validate w0) fun (r2116 : Int) =>
  Let (r2116 != (0 : Int)) fun (x2117 : Bool) =>
  if x2117 = true then
  some
  ({ Min := { X := (0 : Int), Y := (0 : Int) : Vec }, Max := { X := (0 : Int), Y := (0 : Int) : Vec } : AABB }, false)
  else
  Let (↑w0.Bodies.length : Int) fun (x2118 : Int) =>
  LOOP
  (fun (rec2119 : Bool × Int × AABB → Option (AABB × Bool)) (s2120 : Bool × Int × AABB) =>
  Let (decide (s2120.snd.fst < x2118)) fun (x2121 : Bool) =>
  if x2121 = true then
  Join
  (fun (v2122 : Bool × AABB) =>
  Let (IntKind.i64.wrap (s2120.snd.fst + (1 : Int))) fun (x2123 : Int) => rec2119 (v2122.fst, x2123, v2122.snd))
  fun (j2124 : Bool × AABB → Option (AABB × Bool)) =>
  Chk ((0 : Int) ≤ s2120.snd.fst ∧ s2120.snd.fst < (↑w0.Bodies.length : Int))
  (Let (ix w0.Bodies s2120.snd.fst) fun (x2125 : Body) =>
  Rx.Bind (body_Bounds x2125) fun (r2126 : AABB × Bool) =>
  Let (!r2126.snd) fun (x2127 : Bool) =>
  if x2127 = true then j2124 (s2120.fst, s2120.snd.snd)
  else
  Let (!s2120.fst) fun (x2128 : Bool) =>
  if x2128 = true then j2124 (true, r2126.fst)
  else Rx.Bind (aabb_Union s2120.snd.snd r2126.fst) fun (r2129 : AABB) => j2124 (s2120.fst, r2129))
  else some (s2120.snd.snd, s2120.fst))
  fuel
  (false, (0 : Int),
  { Min := { X := (0 : Int), Y := (0 : Int) : Vec }, Max := { X := (0 : Int), Y := (0 : Int) : Vec } : AABB })

noncomputable def metrics_contactPoints (w0 : World_) : Option (List ContactPoint) :=
  Rx.Bind (world_Validate w0) fun (r2223 : Int) =>
  Let (r2223 != (0 : Int)) fun (x2224 : Bool) =>
  if x2224 = true then some []
  else
  Let (↑w0.Contacts.length : Int) fun (x2225 : Int) =>
  LOOP
  (fun (rec2226 : List ContactPoint × Int → Option (List ContactPoint)) (s2227 : List ContactPoint × Int) =>
  Let (decide (s2227.snd < x2225)) fun (x2228 : Bool) =>
  if x2228 = true then
  Chk ((0 : Int) ≤ s2227.snd ∧ s2227.snd < (↑w0.Contacts.length : Int))
  (Let (ix w0.Contacts s2227.snd) fun (x2229 : Contact) =>
  Chk ((List.length s2227.fst + x2229.Manifold.Points.length) * (48 : Nat) ≤ (140737488355328 : Nat))
  (Let (s2227.fst ++ x2229.Manifold.Points) fun (x2230 : List ContactPoint) =>
  Let (IntKind.i64.wrap (s2227.snd + (1 : Int))) fun (x2231 : Int) => rec2226 (x2230, x2231)))
  else some s2227.fst)
  fuel ([], (0 : Int))

noncomputable def metrics_MaxPenetration (w0 : World_) : Option Int :=
  Rx.Bind (metrics_contactPoints w0) fun (r2232 : List ContactPoint) =>
  Let (↑r2232.length : Int) fun (x2233 : Int) =>
  LOOP
  (fun (rec2234 : Int × Int → Option Int) (s2235 : Int × Int) =>
  Let (decide (s2235.snd < x2233)) fun (x2236 : Bool) =>
  if x2236 = true then
  Chk ((0 : Int) ≤ s2235.snd ∧ s2235.snd < (↑r2232.length : Int))
  (Chk ((0 : Int) ≤ s2235.snd ∧ s2235.snd < (↑r2232.length : Int))
  (Let (ix r2232 s2235.snd) fun (x2237 : ContactPoint) =>
  Let (IntKind.i64.wrap ((0 : Int) - x2237.Separation)) fun (x2238 : Int) =>
  Let (max s2235.fst x2238) fun (x2239 : Int) =>
  Let (IntKind.i64.wrap (s2235.snd + (1 : Int))) fun (x2240 : Int) => rec2234 (x2239, x2240)))
  else some s2235.fst)
  fuel ((0 : Int), (0 : Int))

noncomputable def metrics_TotalNormalImpulse (w0 : World_) : Option Int :=
  Rx.Bind (metrics_contactPoints w0) fun (r2259 : List ContactPoint) =>
  Let (↑r2259.length : Int) fun (x2260 : Int) =>
  LOOP
  (fun (rec2261 : Int × Int → Option Int) (s2262 : Int × Int) =>
  Let (decide (s2262.snd < x2260)) fun (x2263 : Bool) =>
  if x2263 = true then
  Chk ((0 : Int) ≤ s2262.snd ∧ s2262.snd < (↑r2259.length : Int))
  (Chk ((0 : Int) ≤ s2262.snd ∧ s2262.snd < (↑r2259.length : Int))
  (Let (ix r2259 s2262.snd) fun (x2264 : ContactPoint) =>
  Rx.Bind (fixed_Add s2262.fst x2264.NormalImpulse) fun (r2265 : Int) =>
  Let (IntKind.i64.wrap (s2262.snd + (1 : Int))) fun (x2266 : Int) => rec2261 (r2265, x2266)))
  else some s2262.fst)
  fuel ((0 : Int), (0 : Int))

noncomputable def caromlaw51_MetricsInvalidWorld (w0 : World_) : Option Bool :=
  Rx.Bind (caromref27_IsSmall w0) fun (r2313 : Bool) =>
  Let (!r2313) fun (x2314 : Bool) =>
  if x2314 = true then Rx.Bind caromlaw51_example fun (r2315 : Bool) => some r2315
  else
  Rx.Bind (metrics_FastestBody w0) fun (r2316 : Int × Int) =>
  Rx.Bind (metrics_CenterOfMass w0) fun (r2317 : Vec × Bool) =>
  Rx.Bind (metrics_Bounds w0) fun (r2318 : AABB × Bool) =>
  Rx.Bind (metrics_KineticEnergy w0) fun (r2319 : Int) =>
  Let (decide (r2319 < (0 : Int))) fun (x2320 : Bool) =>
  Rx.Bind (if (x2320 == false) = true then metrics_MaxPenetration w0 else some default) fun (r2321 : Int) =>
  Let (decide (r2321 < (0 : Int))) fun (x2322 : Bool) =>
  Let (bif x2320 then true else x2322) fun (x2323 : Bool) =>
  Rx.Bind (if (x2323 == false) = true then metrics_TotalNormalImpulse w0 else some default) fun (r2324 : Int) =>
  Let (decide (r2324 < (0 : Int))) fun (x2325 : Bool) =>
  Let (bif x2323 then true else x2325) fun (x2326 : Bool) =>
  Let (decide (r2316.snd < (0 : Int))) fun (x2327 : Bool) =>
  Let (bif x2326 then true else x2327) fun (x2328 : Bool) =>
  Rx.Bind (if (x2328 == false) = true then metrics_SleepingBodies w0 else some default) fun (r2329 : Int) =>
  Let (decide (r2329 < (0 : Int))) fun (x2330 : Bool) =>
  Let (bif x2328 then true else x2330) fun (x2331 : Bool) =>
  Rx.Bind (if (x2331 == false) = true then metrics_SleepingBodies w0 else some default) fun (r2332 : Int) =>
  Let (↑w0.Bodies.length : Int) fun (x2333 : Int) =>
  Let (decide (r2332 > x2333)) fun (x2334 : Bool) =>
  Let (bif x2331 then true else x2334) fun (x2335 : Bool) =>
  Rx.Bind (if (x2335 == false && r2318.snd == true) = true then aabb_Valid r2318.fst else some default)
  fun (r2336 : Bool) =>
  Let (!r2336) fun (x2337 : Bool) =>
  Let (bif r2318.snd then x2337 else false) fun (x2338 : Bool) =>
  Let (bif x2335 then true else x2338) fun (x2339 : Bool) =>
  if x2339 = true then some false
  else
  Rx.Bind (world_Validate w0) fun (r2340 : Int) =>
  Let (r2340 == (0 : Int)) fun (x2341 : Bool) =>
  if x2341 = true then Rx.Bind caromlaw51_example fun (r2342 : Bool) => some r2342
  else
  Rx.Bind (metrics_Momentum w0) fun (r2343 : Vec) =>
  Let (decide (r2343.X = (0 : Int)) && decide (r2343.Y = (0 : Int))) fun (x2344 : Bool) =>
  Rx.Bind (if (x2344 == true) = true then metrics_KineticEnergy w0 else some default) fun (r2345 : Int) =>
  Let (r2345 == (0 : Int)) fun (x2346 : Bool) =>
  Let (bif x2344 then x2346 else false) fun (x2347 : Bool) =>
  Let (decide (r2317.fst.X = (0 : Int)) && decide (r2317.fst.Y = (0 : Int))) fun (x2348 : Bool) =>
  Let (bif x2347 then x2348 else false) fun (x2349 : Bool) =>
  Let (!r2317.snd) fun (x2350 : Bool) =>
  Let (bif x2349 then x2350 else false) fun (x2351 : Bool) =>
  Rx.Bind (if (x2351 == true) = true then metrics_MaxPenetration w0 else some default) fun (r2352 : Int) =>
  Let (r2352 == (0 : Int)) fun (x2353 : Bool) =>
  Let (bif x2351 then x2353 else false) fun (x2354 : Bool) =>
  Rx.Bind (if (x2354 == true) = true then metrics_TotalNormalImpulse w0 else some default) fun (r2355 : Int) =>
  Let (r2355 == (0 : Int)) fun (x2356 : Bool) =>
  Let (bif x2354 then x2356 else false) fun (x2357 : Bool) =>
  Let (r2316.fst == (0 : Int)) fun (x2358 : Bool) =>
  Let (bif x2357 then x2358 else false) fun (x2359 : Bool) =>
  Let (r2316.snd == (0 : Int)) fun (x2360 : Bool) =>
  Let (bif x2359 then x2360 else false) fun (x2361 : Bool) =>
  Rx.Bind (if (x2361 == true) = true then metrics_SleepingBodies w0 else some default) fun (r2362 : Int) =>
  Let (r2362 == (0 : Int)) fun (x2363 : Bool) =>
  Let (bif x2361 then x2363 else false) fun (x2364 : Bool) =>
  Let
  (decide (r2318.fst.Min.X = (0 : Int)) && decide (r2318.fst.Min.Y = (0 : Int)) &&
  (decide (r2318.fst.Max.X = (0 : Int)) && decide (r2318.fst.Max.Y = (0 : Int))))
  fun (x2365 : Bool) =>
  Let (bif x2364 then x2365 else false) fun (x2366 : Bool) =>
  Let (!r2318.snd) fun (x2367 : Bool) =>
  Let (bif x2366 then x2367 else false) fun (x2368 : Bool) =>
  Rx.Bind (if (x2368 == true) = true then caromlaw51_example else some default) fun (r2369 : Bool) =>
  Let (bif x2368 then r2369 else false) fun (x2370 : Bool) => some x2370

end GoForm
